/- Part 2 of what the proofs of this seat share: the executor, data in memory, walks.
-/
import Derived.Test.YtjaibbcbjfapaaaGreatDoorK1
import Derived.Lib.UnsafeStr
import Derived.Test.YtjaibbcbjfapaaaGreatDoorProg
import Derived.KernelRfl
import Derived.Lib.Builder
import Derived.Lib.Bytealg
import Derived.Laws.Pointers
import Derived.Laws.StructEq
set_option linter.all false
set_option maxHeartbeats 4000000
set_option maxRecDepth 100000
namespace Go.V
open Go
def bT:=@List.getD_eq_getElem?_getD
def bB:=@List.length_map
def bK:=@List.getElem_mem
def cn:=@List.length_append
def dy:=@List.getElem?_eq_getElem
def eh:=@Int.eq_ofNat_of_zero_le
def eN:=@List.perm_append_comm
def dW:=@List.append_assoc
def fD:=@List.take_of_length_le
def dK:=@List.append_nil
def im:=@List.eq_nil_of_length_eq_zero
def dn:=@Nat.zero_add
def fR:=@List.map_congr_left
def fS:=@List.flatMap_append
def fs:=@List.nil_sublist
def fT:=@List.length_take
def gh:=@List.getElem_map
def lO:=@List.getElem?_append_right
def mL:=@List.sublist_append_right
def hj:=@List.length_nil
def iA:=@List.flatMap_cons
def iB:=@List.getElem?_set
def hI:=@List.nil_append
def mc:=@List.drop_eq_nil_of_le
def hr:=@List.sum_cons
def gM:=@Nat.mul_one
def hs:=@List.map_nil
def px:=@List.take_append_drop
def sr:=@List.getElem?_append_left
def ss:=@decide_eq_false_iff_not
def ti:=@List.getElem_cons_zero
def rf:=@List.take_succ_cons
def oA:=@List.ext_getElem
def tj:=@List.getElem?_eq_none
def py:=@List.length_drop
def pz:=@List.cons_append
def tk:=@Bool.or_eq_false_iff
def kx:=@Nat.add_mul
def wj:=@List.sublist_cons_self
def rh:=@List.map_toArray
def Bo:=@List.take_append_of_le_length
def nY:=@Bool.true_and
def qi:=@List.take_zero
def st:=@List.take_left'
def nt:=@Nat.one_mul
def Gy:=@List.set_eq_take_append_cons_drop
def xJ:=@Array.length_toList
def zd:=@List.length_replicate
def ze:=@List.eq_nil_or_concat
def tl:=@List.drop_zero
def zf:=@Int.toNat_of_nonneg
def zg:=@List.filter_sublist
def ri:=@List.map_set
def uG:=@List.take_left
def Dv:=@World.putObj_heap_same
def Bp:=@List.map_replicate
def xK:=@Bool.false_and
def Bq:=@List.ext_getElem?
def Dw:=@List.length_take_le
def Gz:=@List.getElem_cons_succ
def Kf:=@Int.fdiv_eq_ediv_of_nonneg
def xL:=@ByteArray.ext
def zh:=@List.take_take
def GA:=@List.drop_eq_nil_iff
def Ou:=@Array.eq_empty_of_size_eq_zero
def zi:=@Bool.not_true
def Dx:=@List.take_length
def zj:=@Nat.zero_mul
def Ov:=@List.drop_length_add_append
def Kg:=@List.length_filter_le
def Vu:=@Std.Legacy.Range.forIn_eq_forIn_range'
def Dy:=@List.drop_take
def Dz:=@List.drop_drop
def GB:=@List.drop_left'
def Ow:=@ByteArray.data_extract
def Kh:=@BitVec.toNat_and
def GC:=@List.set_set
def Vv:=@Lib.run_firstCells_string
def Ox:=@List.getElem_cons
def Ki:=@List.map_drop
def Kj:=@List.map_take
def Oy:=@List.getElem_set
variable{o:Obj}{I I1 I':aH}{K:List aA->Prop}{f x s y:Operand}{vs xs b8:List Value}{ps:Array Nat}{fi body:Code}{g m t u e c' b uH it T c size j i bi:Nat}{cap cs:Array Value}{M1 Mr:List aA}{mM:TypeDesc}{cS me aB:dH}{qj p v:Value}{aR:Addr}{P:Program}{k:IntKind}{other:Prop}{a sa:Option Addr}{α:Type}{w:World}{ay:List Int}
def DA(P:Program)(l:Nat)(args:List Value)(I:aH)(M:List aA)(post:Value->aH->List aA->Prop):Prop:=
 ∀ w,eJ I M w->∃ f tmps assign body,(Instr.yield l args.toArray).run P w=.ok (.round l f tmps assign body) w /\ RoundIn Fence.wide 0 P l f tmps assign body w λe w'=>∃ v I' M',e=.returned v/\post v I' M'/\eJ I' M' w'/\Kept I M w I' M' w'
inductive Br(P:Program)(l:Nat)(args:List Value)(I:aH)(M:List aA)(K:Value->aH->List aA->Prop):Prop
 |mk(eA Mr:List aA)(post:Value->aH->List aA->Prop)(bc:M.Perm (eA++Mr))(av:DA P l args I eA post)(k:∀ v I' M',(∀ b o,I b=some o->I' b=some o)->post v I' M'->K v I' (M'++Mr))
def bC.yield{X:cN}{o:Oper}{F:Fr}{C:de}{M:List aA}{K:fz}{args:Array Operand}{fb:Array TypeId}{l:Nat}(aD:o.op=.call { callee:=.value f,args,argTypes:=fb })(ai:∀ d,o.dst=some d->d<X.n)(aE:bG F f=.val (.func (.yield l) #[] #[]))(ij:mC F args.toList=some vs)
  (h:Br X.P l vs I M λv I' M'=>K (put o.dst (.val v) F) C I' M'):bC X o F C I M K:=by
 refine⟨λa w Q ⟨β,aM⟩=>?_⟩;obtain⟨eA,Mr,post,bc,av,ae⟩:=h;obtain⟨fn,tmps,assign,body,aG,af⟩:=av w (aM.holds.part bc);have aK:=tb aM.an ij;have eu:args.map a.eval=vs.toArray:=by apply lH;simpa using aK
 have ba:=df aM.an aE;obtain⟨dst,op,ty,pos,after,guard⟩:=o;simp only at aD;subst aD;refine⟨λ_ _=>trivial,?_⟩;rw[JK _ _ _ am];have e':(execOp a.eval ⟨dst,.call { callee:=.value f,args,argTypes:=fb },ty,pos,after,guard⟩).run X.P w=.ok (.round l fn tmps assign body) w:=by simp only[execOp,resolve,ba,Deferred.ofValue,cp,db,bY,eu,invoke];simpa using aG
 rw[e',Oper.uponIn_round];refine⟨(λh=>ci),?_⟩;have fB:RoundIn (g2 X) (0-1) X.P l fn tmps assign body w _:=af;refine fB.mono ?_;rintro e w'⟨v,I',M',rfl,aI,q1,dj⟩;exact⟨_,_,_,_,⟨β,(aM.after bc q1 dj).put (x:=.val v) ai rfl⟩,ae v I' M' dj.le aI⟩
def Vw(A:(Nat->aH->List aA->Prop)->Prop)(P:Program)(g:Nat)(cap:List Value)(I:aH)(n:Nat)(Q:Nat->List Value->aH->Prop):Prop:=
 ∀ (l:Nat) (R:Nat->aH->List aA->Prop) (k7:aH->List aA->Prop),A R -> (∀ k (ae:k<n) vs I' M',(∀ b o,I b=some o->I' b=some o)->Q k vs I'->R k I' M'->DA P l vs I' M' λv zk ky=>(v=.bool true/\R (k+1) zk ky)\/(v=.bool false/\k7 zk ky)) -> ∀ dA M0,(∀ b o,I b=some o->dA b=some o)->R 0 dA M0->vV P g (.func (.yield l) #[] #[]::cap) dA M0 λ_ I' M'=>R n I' M'\/k7 I' M'
def tm(R:Nat->aH->List aA->Prop):Prop:=∀ k I I' M,(∀ b o,I b=some o->I' b=some o)->R k I M->R k I' M
def tm.cons(x:aA)(S:Nat->aH->List aA->Prop)(h:tm S):tm λk I M=>∃ dv,M=x::dv/\S k I dv:=by rintro k I I' M bE⟨dv,e,cy⟩;exact⟨dv,e,h k I I' dv bE cy⟩
abbrev Vx:=Vw tm
def Iter(P:Program)(g:Nat)(cap:List Value)(I:aH)(uI:List (List Value)):Prop:=
 ∀ (l:Nat) (R:Nat->aH->List aA->Prop) (k7:aH->List aA->Prop),(∀ k (ae:k<uI.length) I' M',(∀ b o,I b=some o->I' b=some o)->R k I' M'->DA P l uI[k] I' M' λv zk ky=>(v=.bool true/\R (k+1) zk ky)\/(v=.bool false/\k7 zk ky)) -> ∀ dA M0,(∀ b o,I b=some o->dA b=some o)->R 0 dA M0->vV P g (.func (.yield l) #[] #[]::cap) dA M0 λ_ I' M'=>R uI.length I' M'\/k7 I' M'
def DB:List Nat->List Value->Fr->Fr
 |t::ps,v::vs,F=>DB ps vs (gS F t (.val v))| _,_,F=>F
def Vy(foot:List Nat)(N:aH->List aA->Prop)(k7:sj->aH->List aA->Prop):jC:=λex F C I M=>match ex with
 | .normal=>v5 foot I M N| ex=>v5 foot I M (k7 ex)
def DC:sj->Option Code
 | .normal=>none| .exit id=>some (.exit id)| .goto l=>some (.goto l)| .ret=>some .ret
section
variable{X:cN}{β:Nat->Nat}{a:Act}{w:World}{F:Fr}{C:de}{I:aH}{M:List aA}
def Vz:∀ (ps:List Nat) (vs:List Value) (F:Fr) (tmps:Array Value),(∀ t∈ps,t<tmps.size)->(∀ t,e9 β (F t) (tmps.getD t undef)) ->
  let r:=(ps.zip vs).foldl (λ(tmps:Array Value) (p:Nat×Value)=>tmps.setIfInBounds p.1 p.2) tmps
  r.size=tmps.size/\∀ t,e9 β (DB ps vs F t) (r.getD t undef)
 |[],vs,F,tmps,_,h=>⟨rfl,h⟩| t::ps,[],F,tmps,_,h=>⟨rfl,h⟩
 |t::ps,v::vs,F,tmps,aI,h=>by
  have aa:∀ s,e9 β (gS F t (.val v) s) ((tmps.setIfInBounds t v).getD s undef):=λs=>by have:=NV (β:=β) (F:=F) (a:=⟨tmps,[]⟩) h (d:=t) (x:=.val v) (v:=v) (aI t am) rfl s;exact this
  have aQ:=Vz ps vs (gS F t (.val v)) (tmps.setIfInBounds t v) (λs av=>by simpa using aI s (by simp[av])) aa;simp only[List.zip_cons_cons,kt,DB];exact⟨by simpa using aQ.1,aQ.2⟩
def cM.VA(h:cM X β a w F C I M):cM X β { a with defers:=xu w.heap.size::a.defers } (w.alloc (.deferred (some []))) F C I M where
 size:=h.size
 defers:=by
  obtain⟨bb,aa,ad,aj⟩:=h.defers;refine⟨w.heap.size::bb,WP,?_,?_⟩;·rw[lG];refine⟨λhm=>?_,ad⟩;have:=(l4.1 (aj _ hm).bl).1;omega
  ·intro r af;rcases er.1 af with rfl | af
   ·exact⟨NT w _,h.sz,h.holds.se,h.holds.qZ⟩
   ·exact(aj r af).alloc _
 holds:=h.holds.alloc _
 an:=h.an
 cm s cs av:=(h.cm s cs av).alloc _
 inj:=h.inj
 h5:=h.h5
 hE:=h.hE
 own:=h.own
 dI:=NX h.dI h.sz _
 out:=h.out
 sz:=by have:=h.sz;simp;omega
 fA:=h.fA
def cM.GD{n:Nat}{o':Obj}(h:cM X β a w F C I (⟨n,o⟩::M)):cM X β a (w.putObj n o') F C I M:=by
 have gd:(⟨n,o⟩:aA)∈(⟨n,o⟩:aA)::M:=by simp
 have b':=h.holds.cu;simp only[b0,lG]at b';exact {
  size:=h.size
  defers:=h.defers.mono λr af=>by have bz:n≠r:=af.e3 _ gd;refine { af with bl:=?_,e3:=λx ab=>af.e3 x f9 };rw[nh (r9 bz)];exact af.bl
  holds:={
   i:=λb o iQ=>by rw[nh (λe=>jp)];exact h.holds.i b o iQ
   m:=λx ab=>by rw[nh (λe=>b'.1 (c3.2 ⟨x,ab,e⟩))];exact h.holds.m x f9
   d:=λx ab=>h.holds.d x f9
   cu:=b'.2 }
  an:=h.an
  cm:=λs cs av=>by have ag:=h.cm s cs av;have bz:n≠β s:=ag.e3 _ gd;obtain⟨T,a6⟩:=ag.bl;refine { ag with bl:=⟨T,?_⟩,e3:=λx ab=>ag.e3 x f9 };rw[nh (r9 bz)];exact a6
  inj:=h.inj
  h5:=h.h5
  hE:=h.hE
  own:=λx ab=>h.own x f9
  dI:=λb ag aE=>by
   rw[nh (λe=>by
    rcases h.own _ gd with aa | aa;·simp only at aa;exact aE (e ▸ aa)
    ·simp only at aa;omega)]
   exact h.dI b ag aE
  out:=h.out.trans (JQ _ _ _)
  sz:=by have:=h.sz;simpa using this
  fA:=h.fA }
def cY.GF{K:jC}{n:Nat}{Q:Nat->List Value->aH->Prop}{A:(Nat->aH->List aA->Prop)->Prop}(dD:∀ x S,A S->A λk I M=>∃ dv,M=x::dv/\S k I dv)(aL:cU X.P X.E)(iS:X.ro=none)(bf:(codeOk X.n fi&&(codeOk X.n body&&ps.toList.all (λt=>Nat.blt t X.n)))=true)(Oz:bG F f=.val (.func (.func g) #[] cap))(GG:hS X.foot I M I1 M1)(uJ:Vw A X.P g cap.toList I1 n Q)(cQ:∀ k vs I,k<n->Q k vs I->vs.length=ps.size)(R:Nat->aH->List aA->Prop)(k7:sj->aH->List aA->Prop)(uK:A R)(start:R 0 I1 M1)(round:∀ k (ae:k<n) vs I' M',(∀ b o,I1 b=some o->I' b=some o)->Q k vs I'->R k I' M'->∀ l B ax iC,V ⟨X.P,X.E,X.gC,X.n,B,ax,I',M'.map (·.num),some l⟩ fi (DB ps.toList vs F) (λ_=>none) I' M' (uC (λF C I M=>V ⟨X.P,X.E,X.gC,X.n,B,iC,I',M'.map (·.num),some l⟩ body F C I M (Vy (M'.map (·.num)) (R (k+1)) k7)) (λ_ _ _ _ _=>False)))(done:∀ I' M',(∀ b o,I1 b=some o->I' b=some o)->R n I' M'->K .normal F C I' M')(stop:∀ ex I' M',(∀ b o,I1 b=some o->I' b=some o)->k7 ex I' M'->ex≠.normal/\K ex F C I' M') :
  cY X (.rangeFunc f ps fi body) F C I M K:=by
 refine⟨λa w ⟨β,h9⟩=>?_⟩;have aM:=h9.hT GG;simp only[cC]at bf;obtain⟨xM,iX,zl⟩:=bf;refine wpIn_rangeFunc λfn _=>?_;let gE (s:LoopState) (q':Option Code):Loop:={ state:=s,pending:=q',fn:=fn,tmps:=a.tmps,params:=ps,assign:=fi,body:=body,defers:=w.heap.size }
 let l:=w.heap.size+1
 let nZ:World:=(w.alloc (.deferred (some []))).alloc (.loop (gE .ready none))
 have xN:=aM.VA.nX (.loop (gE .ready none));have az:(w.alloc (.deferred (some []))).heap.size=l:=by simp[l]
 rw[az]at xN;let xO (k:Nat) (I':aH) (M':List aA):Prop:=∃ dv,M'=⟨l,.loop (gE .ready none)⟩::dv/\R k I' dv
 let VB (I':aH) (M':List aA):Prop:=∃ ex c dv,DC ex=some c/\M'=⟨l,.loop (gE .done (some c))⟩::dv/\k7 ex I' dv
 have aG:∀ k (ae:k<n) vs I' M',(∀ b o,I1 b=some o->I' b=some o)->Q k vs I'->xO k I' M'->DA X.P l vs I' M' λv zk ky=>(v=.bool true/\xO (k+1) zk ky)\/(v=.bool false/\VB zk ky):=by
  rintro k ae vs I' _ bn kd⟨dv,rfl,ahz⟩W k1;have GH:W.heap[l]?=some (.loop (gE .ready none)):=k1.m ⟨l,.loop (gE .ready none)⟩ am;have a1:l<W.heap.size:=(l4.1 GH).1;have b':=k1.cu;simp only[b0,lG]at b';have VC:I' l=none:=k1.d ⟨l,.loop (gE .ready none)⟩ am;refine⟨_,_,_,_,run_yield GH (by simpa using cQ _ _ _ ae kd),?_⟩;have h':((gE LoopState.ready none).params.zip vs.toArray).foldl (λtmps (x:Nat×Value)=>match x with | (t,a)=>tmps.setIfInBounds t a) (gE LoopState.ready none).tmps=(ps.toList.zip vs).foldl (λ(tmps:Array Value) (p:Nat×Value)=>tmps.setIfInBounds p.1 p.2) a.tmps:=by rw[<-NN];simp[gE]
  have OA:=Vz (β:=β) ps.toList vs F a.tmps (λt au=>by
   have:=fN.1 zl t au;rw[aM.size];exact bJ this) aM.an
  rw[<-h']at OA;refine roundIn_of_wpIn (F:=Fence.wide) (n:=0) trivial ?_;let wk:cN:=⟨X.P,X.E,X.gC,X.n,W.heap.size,W,I',dv.map (·.num),some l⟩
  let iC:=W.putObj l (.loop (gE .busy none))
  let GI:cN:=⟨X.P,X.E,X.gC,X.n,W.heap.size,iC,I',dv.map (·.num),some l⟩
  have ak:=round k ae vs I' dv bn kd ahz l W.heap.size W iC;have Gn:cM wk β { tmps:=((gE LoopState.ready none).params.zip vs.toArray).foldl (λtmps (x:Nat×Value)=>match x with | (t,a)=>tmps.setIfInBounds t a) (gE LoopState.ready none).tmps,defers:=[] } W (DB ps.toList vs F) (λ_=>none) I' dv:={
   size:=OA.1.trans aM.size
   defers:=⟨[],rfl,A2,λr af=>by cases af⟩
   holds:=⟨k1.i,λx ab=>k1.m x f9,λx ab=>k1.d x f9,b'.2⟩
   an:=OA.2
   cm:=λs cs av=>by cases av
   inj:=λs cq aa=>by simp at aa
   h5:=λb o ag=>ag
   hE:=λb o ag=>.inl ag
   own:=λx ab=>.inl (c3.2 ⟨x,ab,rfl⟩)
   dI:=λb ag aE=>rfl
   out:=.refl _
   sz:=cc _
   fA:=λx ab=>by
    obtain⟨y,aG,rfl⟩:=c3.1 ab;exact(l4.1 (k1.m y au')).1 }
  have JX:=q5 (X:=wk) aL fi xM ⟨β,Gn⟩ ak;refine wpIn_mono (Q:=mF wk _) JX ?_;intro e cP jZ av;cases e with
  |exit id=>obtain⟨_,_,_,_,_,ae⟩:=av;exact ae.elim
  |goto id=>obtain⟨_,_,_,_,_,ae⟩:=av;exact ae.elim
  |ret=>obtain⟨_,_,_,_,_,ae⟩:=av;exact ae.elim
  |panic Gm=>exact av.elim| outgrown=>exact av.elim
  |normal=>
   obtain⟨k6,ahA,ew,oB,⟨VD,h8⟩,N5⟩:=av;have uL:jZ.heap[l]?=some (.loop (gE .ready none)):=by rw[h8.dI l a1 b'.1];exact GH
   refine⟨_,run_beginRound uL rfl,?_⟩;have ahB:ew l=none:=by
    cases bE:ew l with
    |none=>rfl
    |some o=>
     rcases h8.hE _ _ bE with aa | aa;·rw[show wk.dA=I' from rfl,VC]at aa;cases aa
     ·exact absurd aa (Nat.not_le.2 a1)
   have ahC:∀ x∈oB,x.num≠l:=λx ab e=>by
    rcases h8.own x ab with aa | aa;·rw[e]at aa;exact b'.1 aa
    ·rw[e]at aa;exact absurd aa (Nat.not_le.2 a1)
   have mK:cM GI VD cP (jZ.putObj l (.loop (gE .busy none))) k6 ahA ew oB:={
    size:=h8.size
    defers:=by obtain⟨bb,a',bh,bW⟩:=h8.defers;refine⟨bb,a',bh,λr eb=>?_⟩;have af:=bW r eb;refine { bl:=?_,dJ:=af.dJ,jV:=af.jV,e3:=af.e3 };rw[nh (λe=>by have aa:=af.bl;rw[e,uL]at aa;cases aa)];exact af.bl
    holds:={
     i:=λb o iQ=>by rw[nh (λe=>by rw[e,ahB]at iQ;cases iQ)];exact h8.holds.i b o iQ
     m:=λx ab=>by rw[nh (ahC x ab)];exact h8.holds.m x ab
     d:=h8.holds.d
     cu:=h8.holds.cu }
    an:=h8.an
    cm:=λs cs av=>by have ag:=h8.cm s cs av;obtain⟨T,a6⟩:=ag.bl;refine { bl:=⟨T,?_⟩,dJ:=ag.dJ,jV:=ag.jV,e3:=ag.e3 };rw[nh (λe=>by rw[e,uL]at a6;cases a6)];exact a6
    inj:=h8.inj
    h5:=h8.h5
    hE:=h8.hE
    own:=h8.own
    dI:=λb ag aE=>by
     by_cases e:b=l;·subst e;rw[Dv (l4.1 uL).1];exact(Dv a1).symm
     ·rw[nh e];show _=(W.putObj l (.loop (gE .busy none))).heap[b]?;rw[nh e];exact h8.dI b ag aE
    out:=⟨h8.out.1,h8.out.2⟩
    sz:=by have:=h8.sz;simpa using this
    fA:=h8.fA }
   have ahD:=q5 (X:=GI) aL body iX ⟨VD,mK⟩ N5;refine wpIn_mono (Q:=mF GI _) ahD ?_;have fin:∀ (ez:Act) (qk:World) (wm:Fr) (wo:de) (k8:aH) (rj:List aA) (jump:Option Code),Rel GI ez qk wm wo k8 rj->∃ kz,(Instr.endRound l jump).run X.P qk=.ok (.bool jump.isNone) kz /\
     eJ k8 (⟨l,.loop (gE (if jump.isNone then .ready else .done) jump)⟩::rj) kz/\Kept I' (⟨l,.loop (gE .ready none)⟩::dv) W k8 (⟨l,.loop (gE (if jump.isNone then .ready else .done) jump)⟩::rj) kz:=by
    rintro ez qk wm wo k8 rj jump⟨zm,aj⟩;have rk:qk.heap[l]?=some (.loop (gE .busy none)):=by rw[aj.dI l a1 b'.1];exact Dv a1
    have VE:k8 l=none:=by
     cases bE:k8 l with
     |none=>rfl
     |some o=>
      rcases aj.hE _ _ bE with aa | aa;·rw[show GI.dA=I' from rfl,VC]at aa;cases aa
      ·exact absurd aa (Nat.not_le.2 a1)
    have VF:∀ x∈rj,x.num≠l:=λx ab e=>by
     rcases aj.own x ab with aa | aa;·rw[e]at aa;exact b'.1 aa
     ·rw[e]at aa;exact absurd aa (Nat.not_le.2 a1)
    refine⟨_,run_endRound jump rk,?_,?_⟩
    ·exact {
      i:=λb o iQ=>by rw[nh (λe=>by rw[e,VE]at iQ;cases iQ)];exact aj.holds.i b o iQ
      m:=λx ab=>by
       rcases er.1 ab with rfl | ab;·exact Dv (l4.1 rk).1
       ·rw[nh (VF x ab)];exact aj.holds.m x ab
      d:=λx ab=>by
       rcases er.1 ab with rfl | ab;·exact VE
       ·exact aj.holds.d x ab
      cu:=by
       simp only[b0,lG];refine⟨λhm=>?_,aj.holds.cu⟩;obtain⟨x,ab,e⟩:=c3.1 hm;exact VF x ab e }
    ·exact {
      le:=aj.h5
      uz:=aj.hE
      vU:=λx ab=>by
       rcases er.1 ab with rfl | ab;·exact .inl ⟨⟨l,.loop (gE .ready none)⟩,am,rfl⟩
       ·rcases aj.own x ab with aa | aa
        ·obtain⟨y,aG,e⟩:=c3.1 aa;exact .inl ⟨y,au',e⟩
        ·exact .inr aa
      dI:=λb ag bz=>by
       have kA:b≠l:=λe=>bz ⟨l,.loop (gE .ready none)⟩ am e.symm;rw[nh kA,aj.dI b ag (λhm=>by
        obtain⟨y,aG,e⟩:=c3.1 hm;exact bz y au' e)]
       exact nh kA
      out:=⟨aj.out.1,aj.out.2⟩
      sz:=by have:=aj.sz;simpa using this }
   intro e ez qk zn;cases e with
   |normal=>obtain⟨wm,wo,k8,rj,⟨zm,aj⟩,⟨ql,qm,Bs,aI⟩⟩:=zn;obtain⟨kz,aJ,bD,cG⟩:=fin ez qk wm wo ql qm none ⟨zm,aj.hT Bs⟩;exact⟨_,kz,aJ,_,_,_,rfl,.inl ⟨rfl,_,rfl,aI⟩,bD,cG⟩
   |exit id=>obtain⟨wm,wo,k8,rj,⟨zm,aj⟩,⟨ql,qm,Bs,aI⟩⟩:=zn;obtain⟨kz,aJ,bD,cG⟩:=fin ez qk wm wo ql qm (some (.exit id)) ⟨zm,aj.hT Bs⟩;exact⟨_,kz,aJ,_,_,_,rfl,.inr ⟨rfl,.exit id,_,_,rfl,rfl,aI⟩,bD,cG⟩
   |goto id=>obtain⟨wm,wo,k8,rj,⟨zm,aj⟩,⟨ql,qm,Bs,aI⟩⟩:=zn;obtain⟨kz,aJ,bD,cG⟩:=fin ez qk wm wo ql qm (some (.goto id)) ⟨zm,aj.hT Bs⟩;exact⟨_,kz,aJ,_,_,_,rfl,.inr ⟨rfl,.goto id,_,_,rfl,rfl,aI⟩,bD,cG⟩
   |ret=>obtain⟨wm,wo,k8,rj,⟨zm,aj⟩,⟨ql,qm,Bs,aI⟩⟩:=zn;obtain⟨kz,aJ,bD,cG⟩:=fin ez qk wm wo ql qm (some .ret) ⟨zm,aj.hT Bs⟩;exact⟨_,kz,aJ,_,_,_,rfl,.inr ⟨rfl,.ret,_,_,rfl,rfl,aI⟩,bD,cG⟩
   |panic Gm=>exact zn.elim| outgrown=>exact zn.elim
 obtain⟨qc,Be⟩:=uJ l xO VB (dD _ _ uK) aG I1 (⟨l,.loop (gE .ready none)⟩::M1) (λ_ _ h=>h) ⟨M1,rfl,start⟩;have mN:=Be nZ xN.holds;have ba:=df aM.an Oz;refine⟨l,[xu w.heap.size],nZ,{ target:=.fn (.func g) cap,args:=#[.func (.yield l) #[] #[]] },nZ,g,(.func (.yield l) #[] #[]::cap.toList).toArray,nZ,?_,?_,λ_ _=>trivial,?_,(λh=>ci),?_⟩
 ·have OB:(g2 X).round=none:=iS;rw[OB];exact run_enterLoop_outer fn a.tmps ps fi body
 ·show(Deferred.ofValue (a.eval f) (#[Operand.const (.func (.yield l) #[] #[])].map a.eval)).run X.P nZ=_;rw[ba];simp[Deferred.ofValue,Act.eval]
 ·simp only[invoke];rw[show #[Value.func (.yield l) #[] #[]]++cap=(.func (.yield l) #[] #[]::cap.toList).toArray from by apply lH;simp];exact qc _ _
 ·refine(N1 (X:=X) mN _).mono ?_;rintro e qk⟨v,I',M',rfl,aI,q1,dj⟩;have su:=xN.after (Mr:=[]) am q1 dj;rw[dK]at su;have bn:=dj.le;rcases aI with⟨dv,rfl,ahE⟩ | ⟨ex,c,dv,ao,rfl,ahF⟩
  ·refine⟨none,_,run_endLoop (q1.m ⟨l,.loop (gE .ready none)⟩ am) (by simp[gE]),?_⟩;exact⟨F,C,I',dv,⟨β,su.GD⟩,done I' dv bn ahE⟩
  ·refine⟨some c,_,run_endLoop (q1.m ⟨l,.loop (gE .done (some c))⟩ am) (by simp[gE]),?_⟩;obtain⟨bz,ae⟩:=stop ex I' dv bn ahF;cases ex with
   |normal=>exact(bz rfl).elim| exit id=>cases ao;exact wpIn_exit ⟨F,C,I',dv,⟨β,su.GD⟩,ae⟩| goto id=>cases ao;exact wpIn_goto ⟨F,C,I',dv,⟨β,su.GD⟩,ae⟩| ret=>cases ao;exact wpIn_ret ⟨F,C,I',dv,⟨β,su.GD⟩,ae⟩
def cY.range{K:jC}{uI:List (List Value)}(aL:cU X.P X.E)(iS:X.ro=none)(bf:(codeOk X.n fi&&(codeOk X.n body&&ps.toList.all (λt=>Nat.blt t X.n)))=true)(Oz:bG F f=.val (.func (.func g) #[] cap))(GG:hS X.foot I M I1 M1)(uJ:Iter X.P g cap.toList I1 uI)(cQ:∀ vs∈uI,vs.length=ps.size)(R:Nat->aH->List aA->Prop)(k7:sj->aH->List aA->Prop)(start:R 0 I1 M1)(round:∀ k (ae:k<uI.length) I' M',(∀ b o,I1 b=some o->I' b=some o)->R k I' M'->∀ l B ax iC,V ⟨X.P,X.E,X.gC,X.n,B,ax,I',M'.map (·.num),some l⟩ fi (DB ps.toList uI[k] F) (λ_=>none) I' M' (uC (λF C I M=>V ⟨X.P,X.E,X.gC,X.n,B,iC,I',M'.map (·.num),some l⟩ body F C I M (Vy (M'.map (·.num)) (R (k+1)) k7)) (λ_ _ _ _ _=>False)))(done:∀ I' M',(∀ b o,I1 b=some o->I' b=some o)->R uI.length I' M'->K .normal F C I' M')(stop:∀ ex I' M',(∀ b o,I1 b=some o->I' b=some o)->k7 ex I' M'->ex≠.normal/\K ex F C I' M') :
  cY X (.rangeFunc f ps fi body) F C I M K:=by
 refine cY.GF (A:=λ_=>True) (Q:=λk vs _=>uI[k]?=some vs) (λ_ _ _=>trivial) aL iS bf Oz GG (n:=uI.length) ?_ (λk vs _ _ h=>cQ vs (r7 h)) R k7 trivial start (λk ae vs I' M' bn h aM=>?_) done stop
 ·intro l R k7 _ h;exact uJ l R k7 λk ae I' M' bn aM=>h k ae _ I' M' bn (dy ae) aM
 ·obtain⟨_,rfl⟩:=iP.1 h;exact round k ae I' M' bn aM
end
structure aT where
 a:Option Nat
 n:Nat
 c:Nat
 aS:List Value
def aT.val(o:aT):Value:=.slice (o.a.map λg=>⟨g,0,none⟩) o.n o.c
def aT.ar(o:aT)(e:Nat):List aA:=match o.a with
 |some g=>[⟨g,.cells o.aS.toArray e (0,0)⟩]| none=>[]
structure aT.ok(o:aT)(size:Nat)(xs:List Value):Prop where
 len:xs.length=o.n*size
 nil:o.a=none->o.n=0/\o.c=0
 cap:∀ g,o.a=some g->o.aS.length=o.c*size/\o.n<=o.c/\o.c<=maxLen/\o.aS.take (o.n*size)=xs
section
variable{P:Program}{w:World}
def OC(t u ty e:Nat)(i:TypeInfo)(z:Value)(au:P.underlying t=some (.slice e))(hu:P.underlying u=some mM)(n1:∀ k,mM≠.int k)(hi:P.info? e=some i)(bg:i.zero=some z)(qn:z.cells.size=i.size)
  {os:aT} (bf:os.ok i.size xs) (aw:∀ g,os.a=some g->w.heap[g]?=some (.cells os.aS.toArray e (0,0)))
  {x:Value} (hm:0<m) (az:b8.length=m*i.size) (aa:∀ v∈b8,v.oneCell'=true)
  (cQ:∀ w',(Builtin.lenOf x).run P w'=.ok m w') (e6:∀ w':World,w'.heap=w.heap->(Builtin.firstCells i.size m x).run P w'=.ok b8.toArray w')
  (b1:os.n+m<=maxLen) (bH:(os.n+m)*i.bytes<=140737488355328) :
  ∃ (g c:Nat) (aS:List Value) (w':World),(Builtin.append_ #[t,u] ty #[os.val,x]).run P w=.ok (.slice (some ⟨g,0,none⟩) (os.n+m) c) w'/\aS.length=c*i.size/\os.n+m<=c/\c<=maxLen/\aS.take ((os.n+m)*i.size)=xs++b8 /\
   ((os.a=some g/\w'=w.setRow g aS.toArray)\/(g=w.heap.size/\w'=w.drew.alloc (.cells aS.toArray e (0,0)))):=by
 obtain⟨a,n,c,aS⟩:=os;have DD:(xs++b8).length=(n+m)*i.size:=by rw[cn,bf.len,az,kx]
 have Kk:∀ dI,(xs++b8++(Builtin.zeroCells z.cells (grownCap w (n+m) dI e-(n+m))).toList).length=grownCap w (n+m) dI e*i.size/\n+m<=grownCap w (n+m) dI e/\grownCap w (n+m) dI e<=maxLen /\
   (xs++b8++(Builtin.zeroCells z.cells (grownCap w (n+m) dI e-(n+m))).toList).take ((n+m)*i.size)=xs++b8:=by
  intro dI;have cV:=grownCap_ge w (n+m) dI e;have lP:grownCap w (n+m) dI e<=maxLen:=grownCap_le_maxLen w (n+m) dI e b1;refine⟨?_,cV,lP,?_⟩;·rw[cn,DD,xJ,size_zeroCells,qn,<-kx];congr 1;omega
  ·rw[<-DD];exact uG
 have GJ:(match mM with | .int _=>true | _=>false)=false:=by cases mM<;>first | rfl | exact(n1 _ rfl).elim
 have ia:n+m<=9223372036854775807:=by simp only[maxLen]at b1;exact b1
 cases a with
 |none=>
  obtain⟨sv,wq⟩:=bf.nil rfl;simp only at sv wq;subst sv;subst wq;have ab:xs=[]:=im (by simpa using bf.len);subst ab;simp only[dn,hI]at *;have ax:0<m:=hm;have aC:m≠0:=by omega
  have Bt:¬ (9223372036854775807<(m:Int)):=by omega
  have Bu:¬ (281474976710656<Builtin.nextslicecap m 0*i.bytes):=by rw[nextslicecap_zero ax];omega
  have aE:=e6 w.drew rfl;obtain⟨a',bh,bW,fu⟩:=Kk 0;refine⟨w.heap.size,grownCap w m 0 e,_,w.drew.alloc (.cells (b8++(Builtin.zeroCells z.cells (grownCap w m 0 e-m)).toList).toArray e),?_,a',bh,bW,fu,.inr ⟨rfl,rfl⟩⟩;simp[aT.val,Builtin.append_,run_underlying au,run_underlying hu,sizeOf,typeInfo,zeroValue,hi,bg,cQ,aC,Bt,Bu,Question.forced,run_firstCells_none,aE,newRow,grownCap];congr 2;apply lH;simp
 |some g=>
  obtain⟨dp,mO,lP,mP⟩:=bf.cap g rfl;have OD:=aw g rfl;simp only at dp mO lP mP OD;by_cases uM:n+m<=c
  ·have ib:n*i.size+b8.length<=aS.length:=by rw[az,dp,<-kx];exact p' _ uM
   have ff:=run_storeCells_at P g (n*i.size) e b8 0 aS.toArray w OD wt aa;simp only[pg]at ff;refine⟨g,c,aS.take (n*i.size)++b8++aS.drop (n*i.size+b8.length),_,?_,?_,uM,lP,?_,.inl ⟨rfl,rfl⟩⟩;·have aE:=e6 w rfl;simp[aT.val,Builtin.append_,run_underlying au,run_underlying hu,sizeOf,typeInfo,hi,cQ,uM,aE,Addr.add_lit,ff]
   ·simp only[cn,fT,py];omega
   ·rw[mP,<-DD];exact uG
  ·have aC:¬ (n+m<=c):=by omega
   have Bt:¬ (9223372036854775807<((n:Int)+(m:Int))):=by omega
   have Bu:¬ (281474976710656<Builtin.nextslicecap (n+m) c*i.bytes):=by have:=growslice_fits (by omega:c<n+m) bH;omega
   have aE:=e6 w.drew rfl;have Bv:∀ j v,xs[j]?=some v->w.drew.cell? ((⟨g,0,none⟩:Addr).add j)=some v:=by
    intro j v ah;have qo:w.drew.heap[g]?=some (.cells aS.toArray e (0,0)):=OD;rw[eM _ rfl,td qo];rw[<-mP,l5]at ah;split at ah;·simpa using ah
    ·cases ah
   have OE:=run_firstCells_some (P:=P) w.drew i.size n ⟨g,0,none⟩ n c xs bf.len Bv;obtain⟨a',bh,bW,fu⟩:=Kk c;refine⟨w.heap.size,grownCap w (n+m) c e,_,w.drew.alloc (.cells (xs++b8++(Builtin.zeroCells z.cells (grownCap w (n+m) c e-(n+m))).toList).toArray e),?_,a',bh,bW,fu,.inr ⟨rfl,rfl⟩⟩;simp[aT.val,Builtin.append_,run_underlying au,run_underlying hu,sizeOf,typeInfo,zeroValue,hi,bg,cQ,aC,Bt,Bu,Question.forced,aE,OE,newRow,grownCap];congr 2;apply lH;simp
end
section
variable{X:cN}{β:Nat->Nat}{a:Act}{w:World}{F:Fr}{C:de}{I:aH}{M:List aA}{o:Oper}{K:fz}
theorem OF(aL:cU X.P X.E)(aD:o.op=.call { callee:=.builtin .append,args:=#[s,x],argTypes:=#[t,u] })(ai:∀ d,o.dst=some d->d<X.n)
 (au:X.E t=some cS) (dt:cS.bL=.slice e) (hu:X.E u=some me) (fI:∀ k,me.bL≠.int k) (he:X.E e=some aB)
  (os:aT) (bf:os.ok aB.size xs) (av:bG F s=.val os.val)
 (ab:bG F x=.val qj) (hm:0<m) (az:b8.length=m*aB.size) (aa:fH b8=true)
  (cQ:∀ w',(Builtin.lenOf qj).run X.P w'=.ok m w') (e6:∀ w,eJ I M w->(Builtin.firstCells aB.size m qj).run X.P w=.ok b8.toArray w)
 (bc:M.Perm (os.ar e++Mr)) (b1:os.n+m<=maxLen) (bH:(os.n+m)*aB.bytes<=140737488355328)
  (k:∀ (g c:Nat) (aS:List Value),I g=none->aS.length=c*aB.size->os.n+m<=c->c<=maxLen->aS.take ((os.n+m)*aB.size)=xs++b8 ->
   K (put o.dst (.val (.slice (some ⟨g,0,none⟩) (os.n+m) c)) F) C I (⟨g,.cells aS.toArray e (0,0)⟩::Mr)):bC X o F C I M K:=by
 refine⟨λa w Q ⟨β,h9⟩=>?_⟩;have aM:cM X β a w F C I (os.ar e++Mr):=h9.hT (.perm bc .refl);obtain⟨inf,z,hi,fq,iy,iz,k3⟩:=(aL _ _ he).inf;obtain⟨d,fJ,fj⟩:=(aL _ _ hu).fp;obtain⟨gV,iD,kB⟩:=(aL _ _ au).fp;have oC:gV=.slice e:=by rw[dt]at kB;cases gV<;>simp_all[fo]
 subst oC;have qn:z.cells.size=inf.size:=by rw[fq,<-(aL _ _ he).len,<-k3];simp
 rw[<-fq]at bf az e6;obtain⟨g,c,aS,w',e',a',bh,bW,fu,k9⟩:=OC (P:=X.P) (w:=w) t u o.type e inf z iD fJ (λk c2=>fI k ah') hi iz qn bf (λg aw=>aM.holds.m ⟨g,.cells os.aS.toArray e (0,0)⟩ ol) (x:=qj) hm az (yZ aa) cQ (λw' xP=>e6 w' (h9.holds.heap xP)) b1 aig;rw[fq]at a' fu;have zo:I g=none:=by
  rcases k9 with⟨aw,_⟩ | ⟨rfl,_⟩;·exact aM.holds.d ⟨g,.cells os.aS.toArray e (0,0)⟩ ol
  ·cases bE:I w.heap.size with
   |none=>rfl| some nu=>have:=aM.holds.i _ _ bE;simp at this
 have es:=df aM.an av;have ex:=df aM.an ab;refine ix f7 (v:=.slice (some ⟨g,0,none⟩) (os.n+m) c) (w':=w') ?_ ⟨_,_,_,_,⟨β,cM.put (x:=.val (.slice (some ⟨g,0,none⟩) (os.n+m) c)) ?_ ai rfl⟩,k g c aS zo a' bh bW fu⟩
 ·unfold execOp;simp only[aD,resolve,invoke,builtin,cp,db,bY,rh,b0,hs,es,ex,e']
 ·rcases k9 with⟨aw,rfl⟩ | ⟨rfl,rfl⟩
  ·have ag:os.ar e=[⟨g,.cells os.aS.toArray e (0,0)⟩]:=by simp[aT.ar,aw]
   rw[ag]at aM;exact aM.xy (a9:=[]) (post:=Mr) rfl
  ·have ad:cM X β a w.drew F C I (os.ar e++Mr):=aM.world rfl;have aj:=ad.nX (.cells aS.toArray e (0,0));refine aj.hT (.sub ?_ .refl);exact List.Sublist.cons_cons _ (mL _ _)
def bC.append(aL:cU X.P X.E)(aD:o.op=.call { callee:=.builtin .append,args:=#[s,x],argTypes:=#[t,t] })(ai:∀ d,o.dst=some d->d<X.n)
 (au:X.E t=some cS) (dt:cS.bL=.slice e) (he:X.E e=some aB)
  (os:aT) (bf:os.ok aB.size xs) (av:bG F s=.val os.val)
 (ab:bG F x=.val (.slice (some aR) m c')) (hm:0<m) (aC:c6 I M aR (m*aB.size) b8) (aa:fH b8=true)
 (bc:M.Perm (os.ar e++Mr)) (b1:os.n+m<=maxLen) (bH:(os.n+m)*aB.bytes<=140737488355328)
  (k:∀ (g c:Nat) (aS:List Value),aS.length=c*aB.size->os.n+m<=c->c<=maxLen->aS.take ((os.n+m)*aB.size)=xs++b8 ->
   K (put o.dst (.val (.slice (some ⟨g,0,none⟩) (os.n+m) c)) F) C I (⟨g,.cells aS.toArray e (0,0)⟩::Mr)):bC X o F C I M K:=by
 refine OF aL aD ai au dt au (λk=>by rw[dt];simp) he os bf av ab hm ?_ aa (λ_=>rfl) (λw hw=>?_) bc b1 bH (λg c aS _=>k g c aS)
 ·obtain⟨_,_,_,_,_,_,h⟩:=aC;exact h
 ·obtain⟨di,cs,T,an,fh,ak,az⟩:=aC;refine run_firstCells_some (P:=X.P) w aB.size m aR m c' b8 az λj v ah=>?_;rw[eM _ di,td (fh.heap hw)];rw[<-ak,l5]at ah;split at ah
  ·rw[oq]at ah;simpa using ah
  ·cases ah
def bC.VG(aL:cU X.P X.E)(aD:o.op=.call { callee:=.builtin .append,args:=#[s,x],argTypes:=#[t,t] })(ai:∀ d,o.dst=some d->d<X.n)
 (au:X.E t=some cS) (dt:cS.bL=.slice e) (he:X.E e=some aB)
  (os:aT) (bf:os.ok aB.size xs) (av:bG F s=.val os.val)
 (ab:bG F x=.val (.slice (some aR) m c')) (hm:0<m) (aC:c6 I M aR (m*aB.size) b8) (aa:fH b8=true)
 (bc:M.Perm (os.ar e++Mr)) (b1:os.n+m<=maxLen) (bH:(os.n+m)*aB.bytes<=140737488355328)
  (k:∀ (g c:Nat) (aS:List Value),I g=none->aS.length=c*aB.size->os.n+m<=c->c<=maxLen->aS.take ((os.n+m)*aB.size)=xs++b8 ->
   K (put o.dst (.val (.slice (some ⟨g,0,none⟩) (os.n+m) c)) F) C I (⟨g,.cells aS.toArray e (0,0)⟩::Mr)):bC X o F C I M K:=by
 refine OF aL aD ai au dt au (λk=>by rw[dt];simp) he os bf av ab hm ?_ aa (λ_=>rfl) (λw hw=>?_) bc b1 bH k
 ·obtain⟨_,_,_,_,_,_,h⟩:=aC;exact h
 ·obtain⟨di,cs,T,an,fh,ak,az⟩:=aC;refine run_firstCells_some (P:=X.P) w aB.size m aR m c' b8 az λj v ah=>?_;rw[eM _ di,td (fh.heap hw)];rw[<-ak,l5]at ah;split at ah
  ·rw[oq]at ah;simpa using ah
  ·cases ah
def k'(s:ByteArray):List Value:=s.data.toList.map λb=>.int .u8 b.toNat
def bC.ahG(aL:cU X.P X.E)(aD:o.op=.call { callee:=.builtin .append,args:=#[s,x],argTypes:=#[t,u] })(ai:∀ d,o.dst=some d->d<X.n)
 (au:X.E t=some cS) (dt:cS.bL=.slice e) (hu:X.E u=some me) (fI:me.bL=.string) (he:X.E e=some aB) (dk:aB.size=1)
  (os:aT) (bf:os.ok aB.size xs) (av:bG F s=.val os.val)
  {str:ByteArray} (ab:bG F x=.val (.string str)) (hm:0<str.size)
 (bc:M.Perm (os.ar e++Mr)) (b1:os.n+str.size<=maxLen) (bH:(os.n+str.size)*aB.bytes<=140737488355328)
  (k:∀ (g c:Nat) (aS:List Value),aS.length=c*aB.size->os.n+str.size<=c->c<=maxLen->aS.take ((os.n+str.size)*aB.size)=xs++k' str ->
   K (put o.dst (.val (.slice (some ⟨g,0,none⟩) (os.n+str.size) c)) F) C I (⟨g,.cells aS.toArray e (0,0)⟩::Mr)):bC X o F C I M K:=by
 refine OF aL aD ai au dt hu (λk=>by rw[fI];simp) he os bf av ab hm ?_ ?_ (λ_=>rfl) (λw hw=>?_) bc b1 bH (λg c aS _=>k g c aS)
 ·simp[k',dk]
 ·refine fN.2 λv ak=>?_;obtain⟨b,_,rfl⟩:=c3.1 ak;rfl
 ·simp only[Builtin.firstCells,db];congr 1;apply lH;have aK:str.extract 0 str.size=str:=by apply xL;simp[Ow]
  simp[k',aK]
end
section
variable{X:cN}{F:Fr}{C:de}{I:aH}{M:List aA}{o:Oper}{K:fz}
def VH(au:P.underlying t=some (.array 4 e))(he:P.underlying e=some (.int k)){inf:TypeInfo}(hi:P.info? e=some inf)(av:inf.size=1)(fZ cP ek ez qp b1 bH cJ:Int)(w:World) :
  (Op.equal t (.agg #[.int k fZ,.int k cP,.int k ek,.int k ez]) (.agg #[.int k qp,.int k b1,.int k bH,.int k cJ])).run P w=.ok (fZ == qp&&(cP == b1&&(ek == bH&&ez == cJ))) w:=by
 have VI:∀ (xs:Array Value) (i:Nat) (v:Value) (w:World),xs[i]?=some v->(part e xs i).run P w=.ok v w:=λxs i v w h=>by
  have Ga:(isAgg e).run P w=.ok false w:=by unfold isAgg;simp[run_underlying he]
  unfold part;simp[Ga,sizeOf,typeInfo,hi,av,h]
 have hint:∀ (d:Nat) (x y:Int) (w:World),(Op.equalIn (d+1) e (.int k x) (.int k y)).run P w=.ok (x == y) w:=λd x y w=>by simp[Op.equalIn,run_underlying he]
 have key:∀ m,(∀ (x y:Int) (w:World),(Op.equalIn m e (.int k x) (.int k y)).run P w=.ok (x == y) w)->(Op.equalIn (m+1) t (.agg #[.int k fZ,.int k cP,.int k ek,.int k ez]) (.agg #[.int k qp,.int k b1,.int k bH,.int k cJ])).run P w=.ok (fZ == qp&&(cP == b1&&(ek == bH&&ez == cJ))) w:=λm hint=>by
  rw[Op.equalIn];simp only[cp,run_underlying au,bY,sizeOf,typeInfo,hi,run_program,db,av];simp only[Vu];have af:List.range' 0 ([:4]:Std.Legacy.Range).size=[0,1,2,3]:=by decide
  rw[af];have pa:=λ(i:Nat) (v:Value) (w:World)=>VI #[.int k fZ,.int k cP,.int k ek,.int k ez] i v w;have Kl:=λ(i:Nat) (v:Value) (w:World)=>VI #[.int k qp,.int k b1,.int k bH,.int k cJ] i v w;simp only[List.forIn_cons,List.forIn_nil,cp];rw[pa (0*1) (.int k fZ) w rfl];simp only[bY,cp];rw[Kl (0*1) (.int k qp) w rfl];simp only[bY,cp];rw[hint];simp only[bY];cases(fZ == qp);·simp
  simp only[zi,lE,mB,db,bY,cp];rw[pa (1*1) (.int k cP) w rfl];simp only[bY,cp];rw[Kl (1*1) (.int k b1) w rfl];simp only[bY,cp];rw[hint];simp only[bY];cases(cP == b1);·simp
  simp only[zi,lE,mB,db,bY,cp];rw[pa (2*1) (.int k ek) w rfl];simp only[bY,cp];rw[Kl (2*1) (.int k bH) w rfl];simp only[bY,cp];rw[hint];simp only[bY];cases(ek == bH);·simp
  simp only[zi,lE,mB,db,bY,cp];rw[pa (3*1) (.int k ez) w rfl];simp only[bY,cp];rw[Kl (3*1) (.int k cJ) w rfl];simp only[bY,cp];rw[hint];simp only[bY];cases(ez == cJ);·simp
  simp
 exact key 9999 (hint 9998)
theorem fL.Km{E:Env}(aL:cU P E)(au:E t=some cS)(dt:cS.bL=.array 4 e)(he:E e=some aB)(ke:aB.bL=.int k)(aw:P.eqGuardType P.depth t=false){fZ cP ek ez qp b1 bH cJ:Int}{V:Value->Prop}
  (h:V (.bool (fZ == qp&&(cP == b1&&(ek == bH&&ez == cJ))))):fL P .eql t x y (.val (.agg #[.int k fZ,.int k cP,.int k ek,.int k ez])) (.val (.agg #[.int k qp,.int k b1,.int k bH,.int k cJ])) V other:=by
 obtain⟨d,fJ,fj⟩:=(aL _ _ au).fp;obtain⟨qq,OG,OH⟩:=(aL _ _ he).fp;obtain⟨inf,z,hi,fq,_⟩:=(aL _ _ he).inf;have aa:d=.array 4 e:=by rw[dt]at fj;cases d<;>simp_all[fo]
 have ad:qq=.int k:=by rw[ke]at OH;cases qq<;>simp_all[fo]
 subst aa;subst ad;have gw:inf.size=1:=by rw[fq];exact(aL _ _ he).JN (by rw[ke];rfl)
 refine .mk _ _ _ rfl rfl (λw=>?_) h;simp only[cp,run_eqGuard_agg (hm:=aw),bY,binOp,VH fJ OG hi gw,db]
def fL.concat{a b:ByteArray}(av:a.size+b.size<=9223372036854775807){V:Value->Prop}(h:V (.string (a++b))):fL P .add t x y (.val (.string a)) (.val (.string b)) V other:=by refine .mk _ _ _ rfl rfl (λw=>?_) h;simp only[cp,N0,bY,binOp,run_string_add_sum _ _ _ av,db]
end
section
variable{X:cN}{β:Nat->Nat}{a:Act}{w:World}{F:Fr}{C:de}{I:aH}{M:List aA}{o:Oper}{K:fz}
def cM.VJ{n:Nat}{nu:Obj}{w':World}(h:cM X β a w F C I (⟨n,nu⟩::M))(av:w'.heap.size=w.heap.size)(ag:∀ b,b≠n->w'.heap[b]?=w.heap[b]?)(aD:ou w w'):cM X β a w' F C I M:=by
 have gd:(⟨n,nu⟩:aA)∈(⟨n,nu⟩:aA)::M:=by simp
 have b':=h.holds.cu;simp only[b0,lG]at b';exact {
  size:=h.size
  defers:=h.defers.mono λr af=>by have bz:n≠r:=af.e3 _ gd;refine { af with bl:=?_,e3:=λx ab=>af.e3 x f9 };rw[ag r (r9 bz)];exact af.bl
  holds:={
   i:=λb o iQ=>by rw[ag b (λe=>jp)];exact h.holds.i b o iQ
   m:=λx ab=>by rw[ag _ (λe=>b'.1 (c3.2 ⟨x,ab,e⟩))];exact h.holds.m x f9
   d:=λx ab=>h.holds.d x f9
   cu:=b'.2 }
  an:=h.an
  cm:=λs cs lM=>by have sm:=h.cm s cs lM;have bz:n≠β s:=sm.e3 _ gd;obtain⟨T,a6⟩:=sm.bl;refine { sm with bl:=⟨T,?_⟩,e3:=λx ab=>sm.e3 x f9 };rw[ag _ (r9 bz)];exact a6
  inj:=h.inj
  h5:=h.h5
  hE:=h.hE
  own:=λx ab=>h.own x f9
  dI:=λb a1 aE=>by
   rw[ag b (λe=>by
    rcases h.own _ gd with aa | aa;·simp only at aa;exact aE (e ▸ aa)
    ·simp only at aa;omega)]
   exact h.dI b a1 aE
  out:=h.out.trans aD
  sz:=by rw[av];exact h.sz
  fA:=h.fA }
def ahH(w:World)(p:Addr)(n:Nat):(w.freeze p n).heap.size=w.heap.size:=by
 unfold World.freeze;split<;>simp
def ahI(w:World)(p:Addr)(n:Nat):ou w (w.freeze p n):=by
 unfold World.freeze;split<;>exact⟨rfl,rfl⟩
def ahJ(w:World)(p:Addr)(n b:Nat)(h:b≠p.block):(w.freeze p n).heap[b]?=w.heap[b]?:=by
 unfold World.freeze;split
 ·rfl
 ·simp only[Array.getElem?_modify];rw[bS (r9 h)]
theorem bC.OI(aL:cU X.P X.E){p n:Operand}(aD:o.op=.call { callee:=.builtin .unsafeString,args:=#[p,n],argTypes:=#[uH,it] })(ai:∀ d,o.dst=some d->d<X.n)
 (au:X.E uH=some cS) (dt:cS.bL=.pointer e) (he:X.E e=some aB) (ke:aB.size=1)
 {l:List UInt8} (aI:bG F p=.val (.pointer (some ⟨g,0,none⟩))) (aC:bG F n=.val (.int .i64 l.length)) (ax:l≠[]) (OJ:l.length<=9223372036854775807)
 (bc:M.Perm (⟨g,.cells cs e (0,0)⟩::Mr)) (lM:cs.toList.take l.length=l.map λb=>.int .u8 b.toNat)
  (h:K (put o.dst (.val (.string ⟨l.toArray⟩)) F) C I Mr):bC X o F C I M K:=by
 refine⟨λa w Q ⟨β,h9⟩=>?_⟩;have aM:cM X β a w F C I (⟨g,.cells cs e (0,0)⟩::Mr):=h9.hT (.perm bc .refl);have aw:w.heap[g]?=some (.cells cs e (0,0)):=aM.holds.m ⟨g,.cells cs e (0,0)⟩ am;obtain⟨d,fJ,fj⟩:=(aL _ _ au).fp;have aa:d=.pointer e:=by rw[dt]at fj;cases d<;>simp_all[fo]
 subst aa;obtain⟨inf,z,hi,fq,_⟩:=(aL _ _ he).inf;have ao:X.P.cellsOf e=1:=by simp[Program.cellsOf,hi,fq,ke]
 have cQ:l.length<=cs.size:=by have:=congrArg List.length lM;simp only[fT,bB,xJ]at this;omega
 have e':=Lib.run_unsafeString_row (P:=X.P) w uH it o.type e fJ ao g cs.size (by simp[World.shape?,aw]) l ax cQ OJ (λj x ah=>by
  rw[eM _ rfl,td aw];have ad:(cs.toList.take l.length)[j]?=some (.int .u8 x.toNat):=by rw[lM];simp[ah]
  rw[l5]at ad;split at ad;·simpa using ad
  ·cases ad)
 have OK:=df aM.an aI;have e7:=df aM.an aC;refine ix f7 (v:=.string ⟨l.toArray⟩) (w':=w.freeze ⟨g,0,none⟩ l.length) ?_ ⟨_,_,_,_,⟨β,cM.put (x:=.val (.string ⟨l.toArray⟩)) (aM.VJ (ahH _ _ _) (λb ag=>ahJ _ _ _ _ ag) (ahI _ _ _)) ai rfl⟩,h⟩;unfold execOp;simp only[aD,resolve,invoke,builtin,cp,db,bY,rh,b0,hs,OK,e7,e']
def bC.VK{p n:Operand}(aD:o.op=.call { callee:=.builtin .unsafeString,args:=#[p,n],argTypes:=#[uH,it] })(ai:∀ d,o.dst=some d->d<X.n)
  {q:Option Addr} (aI:bG F p=.val (.pointer q)) (aC:bG F n=.val (.int .i64 0)) (h:K (put o.dst (.val (.string .empty)) F) C I M):bC X o F C I M K:=by
 refine⟨λa w Q ⟨β,aM⟩=>?_⟩;have OK:=df aM.an aI;have e7:=df aM.an aC;refine vY aM ai f7 ?_ h;unfold execOp;simp only[aD,resolve,invoke,builtin,cp,db,bY,rh,b0,hs,OK,e7,Lib.run_unsafeString_none]
theorem bC.VL(aL:cU X.P X.E)(aD:o.op=.call { callee:=.builtin .copy,args:=#[x,y],argTypes:=#[t,u] })(ai:∀ d,o.dst=some d->d<X.n)
 (au:X.E t=some cS) (dt:cS.bL=.slice e) (he:X.E e=some aB) (ke:aB.size=1)
 {off dl VM:Nat} {s:ByteArray} (ab:bG F x=.val (.slice (some ⟨g,off,none⟩) dl VM)) (aG:bG F y=.val (.string s)) (bn:s.size<=dl) (ib:off+s.size<=cs.size)
 (bc:M.Perm (⟨g,.cells cs T (0,0)⟩::Mr))
  (h:K (put o.dst (.val (.int .i64 s.size)) F) C I (⟨g,.cells (cd cs.toList off (k' s)).toArray T (0,0)⟩::Mr)):bC X o F C I M K:=by
 refine⟨λa w Q ⟨β,h9⟩=>?_⟩;have aM:cM X β a w F C I (⟨g,.cells cs T (0,0)⟩::Mr):=h9.hT (.perm bc .refl);have aw:w.heap[g]?=some (.cells cs T (0,0)):=aM.holds.m ⟨g,.cells cs T (0,0)⟩ am;obtain⟨d,fJ,fj⟩:=(aL _ _ au).fp;have aa:d=.slice e:=by rw[dt]at fj;cases d<;>simp_all[fo]
 subst aa;obtain⟨inf,z,hi,fq,_⟩:=(aL _ _ he).inf;have az:(k' s).length=s.size:=by simp[k']
 have aa:∀ v∈k' s,v.oneCell'=true:=λv ak=>by obtain⟨b,_,rfl⟩:=c3.1 ak;rfl
 have ff:=run_storeCells_at X.P g off T (k' s) 0 cs w aw (by rw[az];simpa using ib) aa;simp only[pg]at ff;have ahK:Nat.min s.size dl=s.size:=pf bn;have aE:(Builtin.firstCells inf.size s.size (.string s)).run X.P w=.ok (k' s).toArray w:=Vv w inf.size s;have ex:=df aM.an ab;have oD:=df aM.an aG;have mQ:=aM.xy (a9:=[]) (post:=Mr) (cs':=(cd cs.toList off (k' s)).toArray) rfl;refine ix f7 (v:=.int .i64 s.size) (w':=w.setRow g (cd cs.toList off (k' s)).toArray) ?_ ⟨_,_,_,_,⟨β,cM.put (x:=.val (.int .i64 s.size)) mQ ai rfl⟩,h⟩;have e':(Builtin.copy_ #[t,u] o.type #[.slice (some ⟨g,off,none⟩) dl VM,.string s]).run X.P w=.ok (.int .i64 s.size) (w.setRow g (cd cs.toList off (k' s)).toArray):=by simp[Builtin.copy_,run_underlying fJ,Builtin.lenOf,ahK,sizeOf,typeInfo,hi,aE,ff,cd,goInt]
 unfold execOp;simp only[aD,resolve,invoke,builtin,cp,db,bY,rh,b0,hs,ex,oD,e']
end
structure cx(I:aH)(a:Option Addr)(n c size b:Nat)(vs:List Value):Prop where
 len:vs.length=n*size
 cap:n<=c/\n*b<=140737488355328
 rd:n=0\/∃ aR,a=some aR/\aR.spot=none/\∃ cs T an,I aR.block=some (.cells cs T an)/\(cs.toList.drop aR.off).take (n*size)=vs
def cx.mono{n:Nat}(h:cx I a n c size b vs)(bE:∀ b o,I b=some o->I' b=some o):cx I' a n c size b vs:=
 ⟨h.len,h.cap,h.rd.imp id λ⟨aR,aa,ad,cs,T,an,aj,aJ⟩=>⟨aR,aa,ad,cs,T,an,bE _ _ aj,aJ⟩⟩
def cx.idx{n:Nat}(h:cx I a n c size b vs)(ah:j<n) :
  ∃ aR,a=some aR/\∀ M,c6 I M (aR.add (j*size)) size ((vs.drop (j*size)).take size):=by
 obtain⟨az,_,ax | ⟨aR,a7,av,cs,T,an,bE,ak⟩⟩:=h
 ·omega
 ·refine⟨aR,a7,λM=>?_⟩;have bn:j*size+size<=n*size:=by have:=p' size (show j+1<=n from ah);rw[kx,nt]at this;exact this
  refine⟨by rw[eM _ av],cs,T,an,.inl (by rw[eM _ av];exact bE),?_,?_⟩;·rw[eM _ av,<-ak,Dy,Dz,zh];congr 1;omega
  ·rw[fT,py,az];omega
def cx.one{n:Nat}{f:α->Value}{l:List α}(h:cx I a n c 1 b (l.map f))(ah:j<n)(jA:j<l.length) :
  ∃ aR,a=some aR/\∀ M,c6 I M (aR.add (j*1)) 1 [f l[j]]:=by
 obtain⟨aR,aa,ad⟩:=h.idx ah;refine⟨aR,aa,λM=>?_⟩;have:=ad M;rw[gM,<-Ki,<-Kj,e2 jA,rf,qi]at this;rw[gM];exact this
def Bw{α:Type}(f:α->List Value)(size:Nat)(aE:∀ x,(f x).length=size):∀ (l:List α) (j:Nat) (ah:j<l.length),((l.flatMap f).drop (j*size)).take size=f l[j]
 |x::l,0,_=>by simp only[iA,zj,tl,ti];rw[<-aE x];exact uG
 |x::l,j+1,ah=>by have aQ:=Bw f size aE l j lm;simp only[iA,Gz];rw[<-aQ,show(j+1)*size=(f x).length+j*size from by rw[aE,kx];omega,Ov]
def hc{α:Type}(f:α->List Value)(size:Nat)(aE:∀ x,(f x).length=size):∀ (l:List α),(l.flatMap f).length=l.length*size
 |[]=>by simp
 |x::l=>by simp[hc f size aE l,aE x,kx];omega
def cx.row{n:Nat}{f:α->List Value}(aE:∀ x,(f x).length=size){l:List α}(h:cx I a n c size b (l.flatMap f))(ah:j<n)(jA:j<l.length) :
  ∃ aR,a=some aR/\∀ M,c6 I M (aR.add (j*size)) size (f l[j]):=by
 obtain⟨aR,aa,ad⟩:=h.idx ah;refine⟨aR,aa,λM=>?_⟩;have:=ad M;rwa [Bw f size aE l j jA]at this
def c6.part{M:List aA}{a:Addr}{n k:Nat}(h:c6 I M a n vs)(ae:k+m<=n):c6 I M (a.add k) m ((vs.drop k).take m):=by
 obtain⟨av,cs,T,an,aa,ad,aj⟩:=h;refine⟨by rw[eM _ av],cs,T,an,by rw[eM _ av];exact aa,?_,?_⟩
 ·rw[eM _ av,<-ad,Dy,Dz,zh];congr 1;omega
 ·rw[fT,py,aj];omega
structure al where
 k:Int
 cf:Int
 s1:Int
 s2:Int
 cH:Int
 t:ByteArray
 lo:Int
 hi:Int
 ca:Option Addr
 aF:Nat
 cr:Nat
 ap:List Int
def al.cells(d:al):List Value:=[.int .u8 d.k,.int .u64 d.cf,.int .u64 d.s1,.int .u64 d.s2,.int .u64 d.cH,.string d.t,.int .i64 d.lo,.int .i64 d.hi,.slice d.ca d.aF d.cr]
def al.val(d:al):Value:=.agg #[.int .u8 d.k,.int .u64 d.cf,.int .u64 d.s1,.int .u64 d.s2,.int .u64 d.cH,.string d.t,.int .i64 d.lo,.int .i64 d.hi,.slice d.ca d.aF d.cr]
def eC(x:Int):Prop:=-9223372036854775808<=x/\x<=9223372036854775807
def ga(x:Int):Prop:=0<=x/\x<18446744073709551616
structure al.ok(I:aH)(d:al):Prop where
 k:0<=d.k/\d.k<256
 cf:ga d.cf
 s1:ga d.s1
 s2:ga d.s2
 cH:ga d.cH
 t:d.t.size<=9223372036854775807
 lo:eC d.lo
 hi:eC d.hi
 bb:cx I d.ca d.aF d.cr 1 8 (d.ap.map (.int .i64 ·))
 ap:∀ x∈d.ap,eC x
def al.cL(d:al):d.cells.length=9:=rfl
def al.ok.aF{d:al}(h:d.ok I):d.ap.length=d.aF:=by have:=h.bb.len;simpa using this
structure bs where
 ns:List al
 a:Option Addr
 n:Nat
 c:Nat
 bx:Int
def bs.cells(t:bs):List Value:=[.slice t.a t.n t.c,.int .i64 t.bx]
def bs.val(t:bs):Value:=.agg #[.slice t.a t.n t.c,.int .i64 t.bx]
structure bs.ok(I:aH)(t:bs):Prop where
 bb:cx I t.a t.n t.c 9 96 (t.ns.flatMap al.cells)
 ns:∀ d∈t.ns,d.ok I
 bx:eC t.bx
def bs.ok.n{t:bs}(h:t.ok I):t.ns.length=t.n:=by have:=h.bb.len;rw[hc _ 9 al.cL]at this;omega
structure a3 where
 name:ByteArray
 t:bs
def a3.cells(d:a3):List Value:=[.string d.name,.slice d.t.a d.t.n d.t.c,.int .i64 d.t.bx]
structure a3.ok(I:aH)(d:a3):Prop where
 name:d.name.size<=140737488355328
 t:d.t.ok I
def a3.cL(d:a3):d.cells.length=3:=rfl
structure cE where
 ds:List a3
 a:Option Addr
 n:Nat
 c:Nat
def cE.val(g:cE):Value:=.agg #[.slice g.a g.n g.c]
structure cE.ok(I:aH)(g:cE):Prop where
 bb:cx I g.a g.n g.c 3 48 (g.ds.flatMap a3.cells)
 ds:∀ d∈g.ds,d.ok I
def cE.ok.n{g:cE}(h:g.ok I):g.ds.length=g.n:=by have:=h.bb.len;rw[hc _ 3 a3.cL]at this;omega
def al.ok.mono{d:al}(h:d.ok I)(bE:∀ b o,I b=some o->I' b=some o):d.ok I':={ h with bb:=h.bb.mono bE }
def bs.ok.mono{t:bs}(h:t.ok I)(bE:∀ b o,I b=some o->I' b=some o):t.ok I':=⟨h.bb.mono bE,λd ai=>(h.ns d ai).mono bE,h.bx⟩
def a3.ok.mono{d:a3}(h:d.ok I)(bE:∀ b o,I b=some o->I' b=some o):d.ok I':=⟨h.name,h.t.mono bE⟩
def cE.ok.mono{g:cE}(h:g.ok I)(bE:∀ b o,I b=some o->I' b=some o):g.ok I':=⟨h.bb.mono bE,λd ai=>(h.ds d ai).mono bE⟩
def wrap_i64{x:Int}(h:eC x):IntKind.i64.wrap x=x:=by obtain⟨aa,ad⟩:=h;unfold IntKind.wrap;simp only[IntKind.bits,IntKind.signed];simp;omega
open Go Go.Proofs
def aY(t n:Nat)(a b:Option dH):Option dH:=bif Nat.blt t n then a else b
def tn(n:Nat):Option dH:=some ⟨1,8,[.pointer none],.pointer n⟩
def kf(n:Nat):Option dH:=some ⟨1,24,[.slice none 0 0],.slice n⟩
def g5:Option dH:=none
def bP:Option dH:=some ⟨1,8,[.nilFunc],.other⟩
def OL:Option dH:=some ⟨1,8,[.int .i64 0],.int .i64⟩
def OM:Option dH:=some ⟨1,1,[.int .u8 0],.int .u8⟩
def VN:Option dH:=some ⟨4,24,[.int .i64 0,.int .i64 0,.bool false,.int .u8 0],.struct [(2,0),(3,1),(4,2),(6,3)]⟩
def VO:Option dH:=some ⟨1,16,[.string ⟨#[]⟩],.string⟩
def ON:Option dH:=some ⟨1,8,[.int .u64 0],.int .u64⟩
def VP:Option dH:=some ⟨2,24,[.string ⟨#[]⟩,.int .u64 0],.struct [(9,0),(12,1)]⟩
def VQ:Option dH:=some ⟨1,8,[.pointer none],.struct [(17,0)]⟩
def VR:Option dH:=some ⟨1,4,[.int .i32 0],.int .i32⟩
def VS:Option dH:=some ⟨2,32,[.slice none 0 0,.int .i64 0],.struct [(22,0),(3,1)]⟩
def VT:Option dH:=some ⟨1,24,[.slice none 0 0],.struct [(26,0)]⟩
def VU:Option dH:=some ⟨4,32,[.int .u64 0,.int .u64 0,.int .u64 0,.int .u64 0],.array 4 34⟩
def OO:Option dH:=some ⟨2,32,[.int .i64 0,.slice none 0 0],.struct [(3,0),(42,1)]⟩
def VV:Option dH:=some ⟨5,112,[.string ⟨#[]⟩,.slice none 0 0,.slice none 0 0,.slice none 0 0,.slice none 0 0],.struct [(9,0),(121,1),(42,2),(22,3),(123,4)]⟩
def VW:Option dH:=some ⟨3,32,[.string ⟨#[]⟩,.int .i64 0,.int .i64 0],.struct [(9,0),(3,1),(3,2)]⟩
def VX:Option dH:=some ⟨4,16,[.int .i64 0,.int .i32 0,.int .u8 0,.int .u8 0],.struct [(2,0),(21,1),(5,2),(5,3)]⟩
def VY:Option dH:=some ⟨64,512,List.replicate 64 (.int .u64 0),.array 64 34⟩
def VZ:Option dH:=some ⟨66,528,[.int .i64 0,.int .u64 0,.int .u64 0,.int .u64 0,.int .u64 0,.int .u64 0,.int .u64 0,.int .u64 0,.int .u64 0,.int .u64 0,.int .u64 0,.int .u64 0,.int .u64 0,.int .u64 0,.int .u64 0,.int .u64 0,.int .u64 0,.int .u64 0,.int .u64 0,.int .u64 0,.int .u64 0,.int .u64 0,.int .u64 0,.int .u64 0,.int .u64 0,.int .u64 0,.int .u64 0,.int .u64 0,.int .u64 0,.int .u64 0,.int .u64 0,.int .u64 0,.int .u64 0,.int .u64 0,.int .u64 0,.int .u64 0,.int .u64 0,.int .u64 0,.int .u64 0,.int .u64 0,.int .u64 0,.int .u64 0,.int .u64 0,.int .u64 0,.int .u64 0,.int .u64 0,.int .u64 0,.int .u64 0,.int .u64 0,.int .u64 0,.int .u64 0,.int .u64 0,.int .u64 0,.int .u64 0,.int .u64 0,.int .u64 0,.int .u64 0,.int .u64 0,.int .u64 0,.int .u64 0,.int .u64 0,.int .u64 0,.int .u64 0,.int .u64 0,.int .u64 0,.int .u64 0],.struct [(3,0),(213,1),(34,65)]⟩
def V0:Option dH:=some ⟨8,160,[.slice none 0 0,.int .i64 0,.int .i64 0,.slice none 0 0,.slice none 0 0,.slice none 0 0,.slice none 0 0,.slice none 0 0],.struct [(248,0),(3,1),(3,2),(22,3),(249,4),(26,5),(248,6),(248,7)]⟩
def Kn:Option dH:=some ⟨2,16,[.int .i64 0,.int .i64 0],.struct [(3,0),(3,1)]⟩
def V1:Option dH:=some ⟨5,96,[.int .u8 0,.string ⟨#[]⟩,.slice none 0 0,.slice none 0 0,.slice none 0 0],.struct [(5,0),(9,1),(42,2),(42,3),(33,4)]⟩
def V2:Option dH:=some ⟨10,88,[.int .u8 0,.int .i64 0,.int .i64 0,.string ⟨#[]⟩,.int .u64 0,.int .u64 0,.int .u64 0,.int .u64 0,.int .i64 0,.int .i64 0],.struct [(5,0),(3,1),(3,2),(9,3),(36,4),(3,8),(3,9)]⟩
def OP:Option dH:=some ⟨3,3,[.bool false,.bool false,.bool false],.struct [(4,0),(4,1),(4,2)]⟩
def V3:Option dH:=some ⟨2,32,[.pointer none,.slice none 0 0],.struct [(339,0),(33,1)]⟩
def V4:Option dH:=some ⟨6,64,[.string ⟨#[]⟩,.string ⟨#[]⟩,.int .u8 0,.map none,.int .i64 0,.int .i64 0],.struct [(9,0),(9,1),(5,2),(415,3),(3,4),(47,5)]⟩
def sw:Env:=λt=>bif Nat.blt t 455 then(aY t 227 (aY t 113 (aY t 56 (aY t 28 (aY t 14 (aY t 7 (aY t 3 (aY t 1 g5 (aY t 2 bP OL)) (aY t 5 (aY t 4 OL (some ⟨1,1,[.bool false],.bool⟩)) OM)) (aY t 10 (aY t 8 VN (aY t 9 VN VO)) (aY t 12 VO (aY t 13 ON VP)))) (aY t 21 (aY t 17 (aY t 15 VP (aY t 16 (tn 444) (tn 447))) (aY t 19 (aY t 18 (tn 454) VQ) (aY t 20 VQ (some ⟨1,16,[.nilIface],.other⟩)))) (aY t 24 (aY t 22 VR (aY t 23 (kf 88) VS)) (aY t 26 (aY t 25 VS bP) (aY t 27 (kf 32) VT))))) (aY t 42 (aY t 35 (aY t 31 (aY t 29 VT bP) (aY t 33 (some ⟨3,48,[.string ⟨#[]⟩,.slice none 0 0,.int .i64 0],.struct [(9,0),(24,1)]⟩) (aY t 34 (kf 5) ON))) (aY t 38 (aY t 36 VU (aY t 37 VU g5)) bP)) (aY t 49 (aY t 45 (aY t 43 (kf 3) (some ⟨5,48,[.int .u8 0,.int .u8 0,.int .i64 0,.slice none 0 0,.int .i64 0],.struct [(5,0),(5,1),(3,2),(42,3),(3,4)]⟩)) (aY t 47 (aY t 46 (kf 44) bP) (aY t 48 OL g5))) (aY t 52 (aY t 50 bP (aY t 51 g5 bP)) (aY t 54 bP (aY t 55 bP (kf 24))))))) (aY t 84 (aY t 70 (aY t 63 (aY t 59 (aY t 57 bP (aY t 58 bP (tn 125))) (aY t 61 (aY t 60 g5 bP) (aY t 62 g5 bP))) (aY t 66 (aY t 64 (kf 135) (some ⟨3,40,[.bool false,.int .i64 0,.slice none 0 0],.struct [(4,0),(3,1),(63,2)]⟩)) (aY t 68 (aY t 67 g5 bP) bP))) (aY t 77 bP (aY t 80 (aY t 78 bP (aY t 79 bP g5)) (aY t 82 (aY t 81 bP (kf 84)) (aY t 83 bP OO))))) (aY t 98 (aY t 91 (aY t 87 (aY t 85 OO bP) (aY t 89 (some ⟨9,96,[.int .u8 0,.int .u64 0,.int .u64 0,.int .u64 0,.int .u64 0,.string ⟨#[]⟩,.int .i64 0,.int .i64 0,.slice none 0 0],.struct [(5,0),(36,1),(9,5),(3,6),(3,7),(42,8)]⟩) (aY t 90 bP g5))) (aY t 94 bP (aY t 96 (aY t 95 bP (some ⟨5,56,[.string ⟨#[]⟩,.string ⟨#[]⟩,.int .u8 0,.bool false,.string ⟨#[]⟩],.struct [(9,0),(9,1),(5,2),(4,3),(9,4)]⟩)) (aY t 97 (kf 95) bP)))) (aY t 105 bP (aY t 109 (aY t 107 (aY t 106 (some ⟨4,32,[.nilFunc,.nilFunc,.nilFunc,.nilFunc],.array 4 104⟩) bP) bP) (aY t 111 (aY t 110 bP (kf 113)) bP)))))) (aY t 170 (aY t 141 (aY t 127 (aY t 120 (aY t 116 (aY t 114 OO bP) bP) (aY t 123 (aY t 121 bP (aY t 122 (kf 9) bP)) (aY t 125 (aY t 124 (kf 198) VV) (aY t 126 VV bP)))) (aY t 134 bP (aY t 137 (aY t 135 VW (aY t 136 VW g5)) bP))) (aY t 155 (aY t 148 bP (aY t 151 (aY t 149 bP (aY t 150 (some ⟨4,32,[.nilFunc,.nilFunc,.nilFunc,.nilFunc],.array 4 148⟩) bP)) (aY t 153 (aY t 152 bP g5) bP))) (aY t 162 bP (aY t 166 bP (aY t 168 (aY t 167 bP (some ⟨1,8,[.map none],.map 9 3⟩)) bP))))) (aY t 198 (aY t 184 (aY t 177 (aY t 173 (aY t 171 bP (some ⟨1,24,[.slice none 0 0],.struct [(22,0)]⟩)) (aY t 175 (aY t 174 bP (some ⟨10,80,[.nilFunc,.nilFunc,.nilFunc,.nilFunc,.nilFunc,.nilFunc,.nilFunc,.nilFunc,.nilFunc,.nilFunc],.array 10 173⟩)) (aY t 176 bP (tn 172)))) (aY t 180 bP (aY t 182 (aY t 181 bP g5) bP))) (aY t 191 (aY t 187 (aY t 185 g5 bP) (aY t 189 bP (aY t 190 (kf 4) bP))) (aY t 194 (aY t 192 (kf 42) bP) bP))) (aY t 212 (aY t 205 (aY t 201 (aY t 199 (kf 208) bP) (aY t 203 (aY t 202 (some ⟨10,80,[.nilFunc,.nilFunc,.nilFunc,.nilFunc,.nilFunc,.nilFunc,.nilFunc,.nilFunc,.nilFunc,.nilFunc],.array 10 200⟩) bP) bP)) (aY t 208 (aY t 206 bP (aY t 207 bP VX)) (aY t 210 (aY t 209 VX bP) bP))) (aY t 219 (aY t 215 (aY t 213 VY (aY t 214 VY VZ)) (aY t 217 (aY t 216 VZ g5) bP)) bP))))) (aY t 341 (aY t 284 (aY t 255 (aY t 241 (aY t 234 (aY t 230 (aY t 228 bP (aY t 229 (kf 296) g5)) (aY t 232 (aY t 231 bP g5) bP)) bP) (aY t 248 (aY t 244 (aY t 242 g5 bP) (aY t 246 (aY t 245 bP (tn 251)) (aY t 247 g5 bP))) (aY t 251 (aY t 249 (kf 317) (aY t 250 (kf 310) V0)) (aY t 253 (aY t 252 V0 bP) bP)))) (aY t 269 (aY t 262 (aY t 258 (aY t 256 bP (aY t 257 g5 bP)) (aY t 260 bP (aY t 261 (some ⟨2,16,[.int .i64 0,.int .i64 0],.array 2 3⟩) (some ⟨20,160,List.replicate 20 (.int .i64 0),.array 10 260⟩)))) (aY t 265 bP (aY t 267 (aY t 266 bP Kn) (aY t 268 Kn (kf 267))))) (aY t 276 (aY t 272 (aY t 270 bP (aY t 271 bP (kf 333))) (aY t 274 (aY t 273 g5 bP) (aY t 275 g5 bP))) (aY t 280 (aY t 278 bP (aY t 279 bP g5)) (aY t 282 (aY t 281 bP (kf 189)) bP))))) (aY t 312 (aY t 298 (aY t 291 (aY t 287 bP (aY t 289 (aY t 288 g5 bP) bP)) (aY t 294 bP (aY t 296 (aY t 295 bP Kn) (aY t 297 Kn g5)))) (aY t 305 bP (aY t 308 (aY t 306 bP (aY t 307 bP g5)) (aY t 310 (aY t 309 bP V1) (aY t 311 V1 g5))))) (aY t 326 (aY t 319 (aY t 315 bP (aY t 317 (aY t 316 (tn 310) V2) (aY t 318 V2 bP))) (aY t 322 bP (aY t 324 (aY t 323 bP (kf 354)) (aY t 325 g5 bP)))) (aY t 333 (aY t 329 bP (aY t 331 bP (aY t 332 bP OP))) (aY t 337 (aY t 335 (aY t 334 OP bP) (aY t 336 bP (some ⟨4,64,[.slice none 0 0,.int .i64 0,.slice none 0 0,.int .i64 0],.array 2 24⟩))) (aY t 339 (aY t 338 (kf 336) (tn 24)) (aY t 340 (tn 341) V3))))))) (aY t 398 (aY t 369 (aY t 355 (aY t 348 (aY t 344 (aY t 342 V3 (some ⟨1,16,[.nilIface],.other⟩)) (aY t 346 (aY t 345 g5 bP) bP)) (aY t 351 bP (aY t 353 (aY t 352 g5 bP) (aY t 354 bP OP)))) (aY t 362 (aY t 358 (aY t 356 g5 bP) (aY t 360 (aY t 359 bP (some ⟨10,80,[.nilFunc,.nilFunc,.nilFunc,.nilFunc,.nilFunc,.nilFunc,.nilFunc,.nilFunc,.nilFunc,.nilFunc],.array 10 358⟩)) bP)) (aY t 365 bP (aY t 367 (aY t 366 (tn 5) bP) (aY t 368 (some ⟨1,8,[.map none],.map 5 371⟩) bP))))) (aY t 383 (aY t 376 (aY t 372 bP (aY t 374 g5 (aY t 375 g5 bP))) (aY t 379 (aY t 377 bP (some ⟨3,24,[.int .i64 0,.int .i64 0,.bool false],.struct [(3,0),(3,1),(4,2)]⟩)) (aY t 381 (aY t 380 (kf 378) (tn 378)) bP))) (aY t 390 (aY t 386 (aY t 384 (some ⟨3,48,[.string ⟨#[]⟩,.string ⟨#[]⟩,.string ⟨#[]⟩],.struct [(9,0),(9,1),(9,2)]⟩) (aY t 385 (some ⟨30,480,List.replicate 30 (.string ⟨#[]⟩),.array 10 383⟩) bP)) (aY t 388 (aY t 387 (some ⟨1,8,[.pointer none],.other⟩) bP) bP)) (aY t 394 (aY t 392 bP (aY t 393 bP g5)) (aY t 396 bP (aY t 397 g5 bP)))))) (aY t 426 (aY t 412 (aY t 405 (aY t 401 (aY t 399 g5 bP) (aY t 403 (aY t 402 bP (kf 404)) (aY t 404 bP (some ⟨2,2,[.int .u8 0,.int .u8 0],.array 2 5⟩)))) (aY t 408 bP (aY t 410 (aY t 409 (some ⟨3,32,[.int .i64 0,.int .i64 0,.string ⟨#[]⟩],.struct [(3,0),(3,1),(9,2)]⟩) (some ⟨9,96,[.int .i64 0,.int .i64 0,.string ⟨#[]⟩,.int .i64 0,.int .i64 0,.string ⟨#[]⟩,.int .i64 0,.int .i64 0,.string ⟨#[]⟩],.array 3 408⟩)) (aY t 411 (tn 417) bP)))) (aY t 419 (aY t 415 bP (aY t 417 (aY t 416 (some ⟨1,8,[.map none],.map 5 5⟩) V4) (aY t 418 V4 g5))) (aY t 422 bP (aY t 424 (aY t 423 ON bP) bP)))) (aY t 440 (aY t 433 (aY t 429 (aY t 427 bP (aY t 428 bP (some ⟨64,64,List.replicate 64 (.int .u8 0),.array 64 5⟩))) (aY t 431 (aY t 430 bP (some ⟨1,4,[.int .u32 0],.int .u32⟩)) (aY t 432 g5 bP))) (aY t 436 (aY t 434 (some ⟨24,24,List.replicate 24 (.int .u8 0),.array 24 5⟩) (aY t 435 bP g5)) (aY t 438 bP (aY t 439 (some ⟨20,160,List.replicate 20 (.int .u64 0),.array 20 34⟩) (some ⟨65,65,List.replicate 65 (.int .u8 0),.array 65 5⟩))))) (aY t 447 (aY t 443 (aY t 441 bP (aY t 442 bP (some ⟨32,32,List.replicate 32 (.int .u8 0),.array 32 5⟩))) (aY t 445 (some ⟨4,40,[.pointer none,.pointer none,.pointer none,.string ⟨#[]⟩],.struct [(17,0),(17,1),(17,2),(9,3)]⟩) (aY t 446 (some ⟨0,0,[],.array 0 16⟩) (some ⟨0,0,[],.struct [(445,0)]⟩)))) (aY t 451 (aY t 449 (aY t 448 (some ⟨0,0,[],.struct [(445,0)]⟩) OM) (aY t 450 OM bP)) (aY t 453 VR (some ⟨11,48,[.int .u64 0,.int .u64 0,.int .u32 0,.int .u8 0,.int .u8 0,.int .u8 0,.int .u8 0,.nilFunc,.pointer none,.int .i32 0,.int .i32 0],.struct [(12,0),(12,1),(430,2),(448,3),(5,4),(5,5),(449,6),(450,7),(365,8),(451,9),(452,10)]⟩)))))))))else none
def a0:cU Tryz.prog sw:=agX 455 (λt h=>by
 have bd:Nat.blt t 455=false:=by
  cases ag:Nat.blt t 455 with
  |false=>rfl| true=>exact absurd (bJ ag) Z
 simp only[sw,bd,cD]) d0
def letter(c:UInt8):Bool:=decide (97<=c.toNat/\c.toNat<=122)||(decide (65<=c.toNat/\c.toNat<=90)||decide (c.toNat=95))
def digit(c:UInt8):Bool:=decide (48<=c.toNat/\c.toNat<=57)
theorem V5(I:aH)(c:UInt8):Spec Tryz.prog 288 [.int .u8 c.toNat] I [] (λv I' M'=>v=.bool (letter c)/\I'=I/\M'=[]):=by
 refine bU [] a0 Tryz.func288 rfl rfl rfl ?_;intro B ax
 repeat' (refine b5.mk (λh=>?_) (λh=>?_))
 all_goals
  refine⟨_,_,.refl,?_⟩;refine⟨?_,rfl,rfl⟩;simp_all[letter]
  all_goals first
   |omega|(rw[r8];simp;omega)
theorem ahL(I:aH)(c:UInt8):Spec Tryz.prog 289 [.int .u8 c.toNat] I [] (λv I' M'=>v=.bool (digit c)/\I'=I/\M'=[]):=by
 refine bU [] a0 Tryz.func289 rfl rfl rfl ?_;intro B ax
 repeat' (refine b5.mk (λh=>?_) (λh=>?_))
 all_goals
  refine⟨_,_,.refl,?_⟩;refine⟨?_,rfl,rfl⟩;simp_all[digit]
  all_goals first
   |omega|(rw[r8];simp;omega)
def Bx(s:ByteArray):s.data.toList.length=s.size:=xJ
def ahM(I:aH)(s:ByteArray)(av:s.size<=140737488355328):Spec Tryz.prog 326 [.string s] I [] (λv I' M'=>v=.string s/\I'=I/\M'=[]):=by
 refine bU [] a0 Tryz.func326 rfl rfl rfl ?_;intro B ax;refine aZ.mk (λh=>?_) (λh=>?_)
 ·refine⟨_,_,.refl,?_,rfl,rfl⟩;have aa:s.size=0:=by simpa using h
  have:s=.empty:=by apply xL;exact Ou aa
  rw[this];rfl
 ·have aa:s.size≠0:=by simpa using h
  refine pi.mk s.size s.size rfl rfl (cc _) (by show 1*s.size<=_;omega) Z ?_;refine bQ.mk λb ag wu=>?_;refine bC.VL a0 rfl am (e:=5) rfl rfl rfl rfl rfl rfl (cc _) ?_ (.refl _) ?_;·simp[s',madeCells]
  refine bt.mk ⟨b,0,none⟩ 0 rfl rfl Z ?_;refine bC.OI a0 rfl am (e:=5) rfl rfl rfl rfl (g:=b) (l:=s.data.toList) rfl ?_ ?_ ?_ (.refl _) ?_ ?_;·show dx.val (.int .i64 (s.size:Int))=dx.val (.int .i64 (s.data.toList.length:Int));rw[Bx]
  ·intro e;have:=congrArg List.length e;rw[Bx]at this;exact aa this
  ·rw[Bx];omega
  ·rw[Bx];have az:(k' s).length=s.size:=by simp[k']
   simp only[cd];rw[qi,hI,Bo (by rw[az];exact cc _),<-az,Dx];rfl
  ·exact⟨_,_,.refl,rfl,rfl,rfl⟩
def V6(I:aH)(s:ByteArray)(av:s.size<=140737488355328):Spec Tryz.prog 290 [.string s] I [] (λv I' M'=>v=.string s/\I'=I/\M'=[]):=by refine bU [] a0 Tryz.func290 rfl rfl rfl ?_;intro B ax;refine a8.mk [] [] _ (.refl _) (ahM I s av) ?_;rintro v I' M' -⟨rfl,rfl,rfl⟩;exact⟨_,_,.refl,rfl,rfl,rfl⟩
def to(c:UInt8):Bool:=letter c||digit c
def tp(s:ByteArray):Nat:=match s.data.toList with
 |[]=>0| c::r=>bif letter c then 1+(r.takeWhile to).length else 0
def V7{α:Type}(p:α->Bool):∀ (l:List α) (i:Nat),i<=l.length->(∀ j (h:j<l.length),j<i->p l[j]=true)->(∀ (h:i<l.length),p l[i]=false)->(l.takeWhile p).length=i
 |[],i,h,_,_=>by simp at h;simp[h]
 |x::l,0,_,_,h=>by have:=h am;simp only[ti]at this;simp[this]
 |x::l,i+1,hi,aa,ad=>by have ab:=aa 0 am Z;simp only[ti]at ab;have aQ:=V7 p l i i6 (λj ah Ka=>by have:=aa (j+1) lm Z;simpa using this) (λh=>by have:=ad i5;simpa using this);simp[ab,aQ]
def ahN{s:ByteArray}(ax:0<s.size)(az:letter s[0]=true)(aa:1<=i)(hi:i<=s.size)(a7:∀ j (h:j<s.size),1<=j->j<i->to s[j]=true)(ag:∀ (h:i<s.size),to s[i]=false):tp s=i:=by
 have get:∀ j (h:j<s.size),s[j]=s.data.toList[j]'(by rw[Bx];exact h):=λj h=>rfl;unfold tp;have cQ:=Bx s;cases ai:s.data.toList with
 |nil=>rw[ai]at cQ;simp at cQ;omega
 |cons c r=>
  have g:∀ j (h:j<s.size),s[j]=(c::r)[j]'(by rw[<-ai,cQ];exact h):=λj h=>by rw[get j h];simp only[ai]
  rw[ai]at cQ;have ao:letter c=true:=by rw[g 0 ax]at az;simpa using az
  simp only[ao,cF];simp only[ep]at cQ;rw[V7 to r (i-1) Z (λj ah Ka=>by
   have aj:j+1<s.size:=by omega
   have:=a7 (j+1) aj Z Z;rw[g (j+1) aj]at this;simpa using this) (λh=>by
   have aj:i<s.size:=by omega
   have:=ag aj;rw[g i aj]at this;have e:i=(i-1)+1:=by omega
   rw[Ox]at this;rw[dif_neg Z]at this;exact this)]
  omega
def ahO(I:aH)(s:ByteArray)(av:s.size<=140737488355328):Spec Tryz.prog 220 [.string s] I [] (λv I' M'=>v=.string (s.extract 0 (tp s))/\I'=I/\M'=[]):=by
 refine bU [] a0 Tryz.func220 rfl rfl rfl ?_;intro B ax;have eB:∀ {s:ByteArray},tp s=0->s.extract 0 (tp s)=⟨#[]⟩:=λh=>by rw[h];apply xL;simp[Ow]
 refine b5.mk (λh=>?_) (λh=>?_)
 ·have aa:s≠⟨#[]⟩:=by simpa using h
  have lK:0<s.size:=by refine Nat.pos_of_ne_zero λe=>aa ?_;apply xL;exact Ou e
  refine s8.mk 0 rfl lK ?_;refine a8.mk [] [] _ (.refl _) (V5 I s[0]) ?_;rintro v I' M' -⟨rfl,rfl,rfl⟩;refine aZ.mk (λh=>?_) (λh=>?_)
  ·have az:letter s[0]=false:=by simpa using h
   refine⟨_,_,.refl,?_,rfl,rfl⟩;rw[eB]
   ·unfold tp;cases ai:s.data.toList with
    |nil=>rfl
    |cons c r=>
     have:s[0]=c:=by show s.data.toList[0]=c;simp only[ai];rfl
     rw[this]at az;simp[az]
  ·have az:letter s[0]=true:=by simpa using h
   refine du.inv (ι:=Nat) (λi=>{ bp:=[(0,.val (.string s)),(3,.val (.int .i64 i))],cO:=I' }) (λi=>1<=i/\i<=s.size/\∀ j (h:j<s.size),1<=j->j<i->to s[j]=true) (λi=>s.size-i) ?_ ?_;·exact⟨1,⟨Z,Z,λj _ aa ad=>Z⟩,.refl,xG,.nil⟩
   ·rintro i⟨fq,iy,iz⟩;have next:∀ (a1:i<s.size),to s[i]=true->(1<=i+1/\i+1<=s.size/\∀ k (h:k<s.size),1<=k->k<i+1->to s[k]=true)/\s.size-(i+1)<s.size-i:=λa1 ao=>
     ⟨⟨Z,Z,λj ah aa ad=>by
      by_cases e:j=i;·subst e;exact ao
      ·exact iz j ah aa Z⟩,Z⟩
    have out:(∀ (h:i<s.size),to s[i]=false)->s.extract 0 i=s.extract 0 (tp s):=λaC=>by rw[ahN lK az fq iy iz aC]
    have dk:(s.extract 0 i).size<=140737488355328:=by rw[ByteArray.size_extract];omega
    have gN:IntKind.i64.wrap ((i:Int)+1)=((i+1:Nat):Int):=by rw[wrap_i64 ⟨Z,Z⟩];omega
    refine b5.mk (λh=>?_) (λh=>?_)
    ·have a1:i<s.size:=by simpa using h
     refine s8.mk i rfl a1 ?_;refine a8.mk [] [] _ (.refl _) (V5 I' s[i]) ?_;rintro v I' M' -⟨rfl,rfl,rfl⟩;refine b5.mk (λh=>?_) (λh=>?_)
     ·refine s8.mk i rfl a1 ?_;refine a8.mk [] [] _ (.refl _) (ahL _ s[i]) ?_;rintro v I' M' -⟨rfl,rfl,rfl⟩;refine aZ.mk (λad=>?_) (λad=>?_)
      ·refine be.mk _ gN ?_;exact⟨i+1,next a1 (by simp only[to];rw[show digit s[i]=true from ad];simp),.refl,xG,.nil⟩
      ·refine kY.mk 0 i rfl rfl Z Z ?_;refine a8.mk [] [] _ (.refl _) (V6 _ _ dk) ?_;rintro v I' M' -⟨rfl,rfl,rfl⟩;refine⟨_,_,.refl,?_,rfl,rfl⟩;rw[<-out λ_=>by simp only[to];rw[show letter s[i]=false from h,show digit s[i]=false from ad];rfl]
     ·refine be.mk _ gN ?_;exact⟨i+1,next a1 (by simp only[to];rw[show letter s[i]=true from h];simp),.refl,xG,.nil⟩
    ·have cV:¬ i<s.size:=by simpa using h
     refine kY.mk 0 i rfl rfl Z Z ?_;refine a8.mk [] [] _ (.refl _) (V6 _ _ dk) ?_;rintro v I' M' -⟨rfl,rfl,rfl⟩;refine⟨_,_,.refl,?_,rfl,rfl⟩;rw[<-out λh=>(cV h).elim]
 ·have aa:s=⟨#[]⟩:=by simpa using h
  subst aa;refine⟨_,_,.refl,?_,rfl,rfl⟩;rw[eB];rfl
def nv(s:ByteArray):Bool:=decide (s≠⟨#[]⟩)&&(decide (s.size<=32)&&decide (tp s=s.size))
def ahP(s:ByteArray):tp s<=s.size:=by
 unfold tp;have az:=Bx s;cases ai:s.data.toList with
 |nil=>simp
 |cons c r=>
  rw[ai]at az;simp only[ep]at az;simp only;cases letter c;·simp
  ·simp only[cF];have:=(List.takeWhile_sublist (p:=to) (l:=r)).length_le;omega
theorem OQ(I:aH)(s:ByteArray):Spec Tryz.prog 146 [.string s] I [] (λv I' M'=>v=.bool (nv s)/\I'=I/\M'=[]):=by
 refine bU [] a0 Tryz.func146 rfl rfl rfl ?_;intro B ax;refine b5.mk (λaa=>?_) (λaa=>?_)
 ·refine b5.mk (λad=>?_) (λad=>?_)
  ·have n2:s.size<=32:=by simp at ad;omega
   refine a8.mk [] [] _ (.refl _) (ahO I s Z) ?_;rintro v I' M' -⟨rfl,rfl,rfl⟩;refine⟨_,_,.refl,?_,rfl,rfl⟩;have bn:=ahP s;have aK:(s.extract 0 (tp s)).size=tp s:=by rw[ByteArray.size_extract];omega
   simp_all[nv]
   all_goals omega
  ·refine⟨_,_,.refl,?_,rfl,rfl⟩;simp_all[nv]
   all_goals omega
 ·refine⟨_,_,.refl,?_,rfl,rfl⟩;simp_all[nv]
def jq:List Int:=[0,0,0,0,0,0,0,0,2,-1,2,-1,1,1,1,1,1,1,1,1]
def oE(k:Nat):Int:=jq.getD (k*2) 0
def nw(k:Nat):Int:=jq.getD (k*2+1) 0
def mR(I:aH):Prop:=∃ T an,I 0=some (.cells (jq.map (Value.int .i64)).toArray T an)
def mR.rd(h:mR I)(M:List aA)(ah:j<20):c6 I M (Addr.add ⟨0,0,none⟩ j) 1 [.int .i64 (jq.getD j 0)]:=by
 obtain⟨T,an,h⟩:=h;rw[eM _ rfl];refine⟨rfl,_,T,an,.inl h,?_,rfl⟩;simp only[dn];have:∀ j:Fin 20,(((jq.map (Value.int .i64)).toArray.toList.drop j.val).take 1)=[Value.int .i64 (jq.getD j.val 0)]:=by
  intro j;have aa:j.val<(jq.map (Value.int .i64)).length:=by simp[jq]
  rw[List.toList_toArray,e2 aa,rf,qi];have ad:j.val<jq.length:=by simp[jq]
  simp[bT,ad]
 exact this ⟨j,ah⟩
def mR.Ko(h:mR I)(M:List aA)(ah:i+j<20):c6 I M ((Addr.add ⟨0,0,none⟩ i).add j) 1 [.int .i64 (jq.getD (i+j) 0)]:=by
 have e:(Addr.add ⟨0,0,none⟩ i).add j=Addr.add ⟨0,0,none⟩ (i+j):=by rw[eM ⟨_,0,none⟩ rfl i,eM _ rfl j,eM _ rfl (i+j)];simp
 rw[e];exact h.rd M ah
def al.kC(d:al):Bool:=d.cf == 0&&(d.s1 == 0&&(d.s2 == 0&&d.cH == 0))
def fits(d:al)(n:Int):Bool:=
 bif decide (10<=d.k)then false else
 bif decide (n<oE d.k.toNat)||(decide (0<=nw d.k.toNat)&&decide (nw d.k.toNat<n))then false else
 bif decide (d.k=1)then decide (d.t=⟨#[]⟩)&&(decide (d.lo=0)&&decide (d.hi=0))else
 bif decide (d.k=2)then(!(decide (d.t=⟨#[]⟩)||decide (255<d.t.size)))&&(d.kC&&(decide (d.lo=0)&&decide (d.hi=0)))else
 bif decide (d.k=3)||decide (d.k=9)then nv d.t&&(d.kC&&(decide (d.lo=0)&&decide (d.hi=0)))else
 bif decide (d.k=6)then(!(decide (d.lo<0)||(decide (99<d.lo)||(decide (d.hi≠-1)&&(decide (d.hi<d.lo)||decide (99<d.hi))))))&&(d.kC&&decide (d.t=⟨#[]⟩))else
 d.kC&&(decide (d.t=⟨#[]⟩)&&(decide (d.lo=0)&&decide (d.hi=0)))
theorem OR(ao:mR I){d:al}(ai:d.ok I)(n:Int):Spec Tryz.prog 173 [d.val,.int .i64 n] I [] (λv I' M'=>v=.bool (fits d n)/\I'=I/\M'=[]):=by
 refine bU [] a0 Tryz.func173 rfl rfl rfl ?_;intro B ax;have ae:=ai.k;refine be.mk d.k (by unfold IntKind.wrap;simp[IntKind.bits,IntKind.signed];omega) ?_;refine aZ.mk (λh=>?_) (λh=>?_)
 ·refine⟨_,_,.refl,?_,rfl,rfl⟩;simp at h;simp[fits,h]
 ·have qs:d.k<10:=by simpa using h
  have ah:d.k=((d.k.toNat:Nat):Int):=by omega
  have V8:d.k.toNat<10:=by omega
  refine cY.draw a0 rfl rfl rfl ?_;refine cw.mk d.k.toNat ah V8 ?_;refine cw.mk 0 rfl Z ?_;refine aU.mk [.int .i64 (oE d.k.toNat)] (ao.rd _ (j:=d.k.toNat*2) Z) ?_;refine cw.mk d.k.toNat ah V8 ?_;refine cw.mk 1 rfl Z ?_;refine aU.mk [.int .i64 (nw d.k.toNat)] (ao.Ko _ (i:=d.k.toNat*2) (j:=1) Z) ?_
  repeat' first
   |refine b5.mk (λh=>?_) (λh=>?_)| refine aZ.mk (λh=>?_) (λh=>?_)| refine fL.Km a0 (e:=34) rfl rfl rfl rfl d0 ?_|(refine a8.mk [] [] _ (.refl _) (OQ _ _) ?_;rintro v I' M' -⟨rfl,rfl,rfl⟩)
  all_goals refine⟨_,_,.refl,?_⟩
  all_goals refine⟨?_,rfl,rfl⟩
  all_goals clear ao ai ah
  all_goals (first | (simp_all[fits,al.kC];done) | (simp_all[fits,al.kC];omega) | (simp_all[fits,al.kC];rw[r8];simp;omega))
def kD(i:Nat):List Int->List Bool->Option (List Bool)
 |[],s=>some s| k::ks,s=>bif decide (k<0)||(decide ((i:Int)<=k)||s.getD k.toNat false)then none else kD i ks (s.set k.toNat true)
def jr:Nat->List al->List Bool->Option (List Bool)
 |_,[],s=>some s
 |i,d::ds,s=>bif fits d d.ap.length then(match kD i d.ap s with
  |some cq=>jr (i+1) ds cq| none=>none)else none
def rl(bx:Int):Nat->List Bool->Bool
 |_,[]=>true| i,b::s=>bif b == decide ((i:Int)=bx)then false else rl bx (i+1) s
def right(t:bs):Bool:=decide (0<=t.bx)&&(decide (t.bx<t.ns.length)&&(match jr 0 t.ns (List.replicate t.ns.length false)with
 |some s=>rl t.bx 0 s| none=>false))
def By(v:Value)(n:Nat):rowOf [v] n=List.replicate n v:=by
 apply oA
 ·simp[s',madeCells]
 ·intro i aa ad;simp[s',madeCells,Nat.mod_one]
def zp(b:Nat)(s:List Bool):aA:=⟨b,.cells (s.map Value.bool).toArray 4 (0,0)⟩
def V9{M:List aA}{s:List Bool}(bc:zp b s∈M)(ah:j<s.length):c6 I M ((⟨b,0,none⟩:Addr).add (j*1)) 1 [.bool s[j]]:=by
 rw[eM _ rfl];refine⟨rfl,_,4,(0,0),.inr ⟨_,bc,rfl,rfl⟩,?_,rfl⟩;have aa:j<(s.map Value.bool).length:=by simpa using ah
 simp only[dn,gM];rw[e2 aa,rf,qi];simp
def ahQ(s:List Bool)(j:Nat)(ah:j<s.length)(b:Bool):cd (s.map Value.bool) j [.bool b]=(s.set j b).map Value.bool:=by unfold cd;rw[ri,Gy];simp[ah]
def b4.add{M:List aA}{o k:Nat}(a9 post:List aA)(cs:Array Value)(T:Nat)(bc:M=a9++⟨b,.cells cs T (0,0)⟩::post)(ag:o+k+vs.length<=cs.size)(aa:fH vs=true)
  (h:K (a9++⟨b,.cells (cd cs.toList (o+k) vs).toArray T (0,0)⟩::post)):b4 M ((⟨b,o,none⟩:Addr).add k) vs K:=by
 rw[eM _ rfl];exact .mk a9 post cs T bc rfl ag aa h
def b4.iE{M:List aA}{o k:Nat}(a9 post:List aA)(cs:List Value)(T:Nat)(bc:M=a9++⟨b,.cells cs.toArray T (0,0)⟩::post)(ag:Nat.ble (o+k+vs.length) cs.length=true)(aa:fH vs=true)(cs':List Value)(he:cd cs (o+k) vs=cs')(h:K (a9++⟨b,.cells cs'.toArray T (0,0)⟩::post)):b4 M ((⟨b,o,none⟩:Addr).add k) vs K:=
 b4.add a9 post _ _ bc (by simpa using bJ ag) aa (by rw[<-he]at h;exact h)
def nx(ao:mR I){t:bs}(au:t.ok I):Spec Tryz.prog 89 [t.val] I [] (λv I' M'=>v=.bool (right t)/\I'=I/\M'=[]):=by
 refine bU [] a0 Tryz.func89 rfl rfl rfl ?_;intro B ax;have aC:=au.n;have hk:=au.bb.cap;refine b5.mk (λaa=>?_) (λaa=>?_)
 ·refine aZ.mk (λad=>?_) (λad=>?_)
  ·refine⟨_,_,.refl,?_,rfl,rfl⟩;simp at ad;have:¬ t.bx<t.ns.length:=by omega
   simp[right,this]
  ·have a':0<=t.bx:=by simpa using aa
   have bh:t.bx<t.ns.length:=by simp at ad;omega
   refine pi.mk t.n t.n rfl rfl (cc _) (by show 1*t.n<=_;omega) Z ?_;refine bQ.mk λb ag wu=>?_;refine du.inv (ι:=Nat×List Bool) (λx=>{ bp:=[(1,.ref 1 0),(3,.val (.slice (some ⟨b,0,none⟩) t.n t.n)),(26,.val (.slice t.a t.n t.c)),(27,.val (.int .i64 t.n)),(28,.val (.int .i64 x.1))],cl:=[(1,t.cells)],cO:=I,c5:=[zp b x.2] }) (λx=>x.1<=t.n/\x.2.length=t.n/\jr 0 t.ns (List.replicate t.ns.length false)=jr x.1 (t.ns.drop x.1) x.2) (λx=>t.n-x.1) ?_ ?_;·refine⟨(0,List.replicate t.n false),⟨Z,am,by simp[aC]⟩,?_,hh,.cons rfl .nil⟩;show hS _ _ [⟨b,.cells (rowOf [Value.bool false] (t.n*1)).toArray 4 (0,0)⟩] _ [zp b (List.replicate t.n false)];rw[By,gM];simp only[zp,Bp];exact .refl
   ·rintro⟨i,s⟩⟨fq,iy,iz⟩;simp only at fq iy iz;refine aZ.mk (λh=>?_) (λh=>?_)
    ·have a1:i<t.n:=by simpa using h
     have cI:i<t.ns.length:=by omega
     obtain⟨aR,bI,bo⟩:=au.bb.row al.cL a1 cI;have gm:=au.ns t.ns[i] (bK cI);have fh:=gm.aF;have lQ:t.ns.drop i=t.ns[i]::t.ns.drop (i+1):=e2 cI;refine bt.mk aR i bI rfl a1 ?_;refine aU.mk t.ns[i].cells (bo _) ?_;refine a8.mk [] [zp b s] _ (.refl _) (OR ao gm t.ns[i].aF) ?_;rintro v I' M' -⟨rfl,rfl,rfl⟩;refine aZ.mk (λaj=>?_) (λaj=>?_)
     ·refine⟨_,_,.sub (fs _) .refl,?_,rfl,rfl⟩;have aE:fits t.ns[i] t.ns[i].ap.length=false:=by rw[fh];simpa using aj
      have:right t=false:=by unfold right;rw[iz,lQ];simp[jr,aE]
      rw[this]
     ·have aE:fits t.ns[i] t.ns[i].ap.length=true:=by rw[fh];simpa using aj
      refine du.inv (ι:=Nat×List Bool) (λx=>{ bp:=[(1,.ref 1 0),(3,.val (.slice (some ⟨b,0,none⟩) t.n t.n)),(4,.val (.int .i64 i)),(26,.val (.slice t.a t.n t.c)),(27,.val (.int .i64 t.n)),(28,.val (.int .i64 i)),(40,.val (.slice t.ns[i].ca t.ns[i].aF t.ns[i].cr)),(41,.val (.int .i64 t.ns[i].aF)),(42,.val (.int .i64 x.1))],cl:=[(1,t.cells)],cO:=I',c5:=[zp b x.2] }) (λx=>x.1<=t.ns[i].aF/\x.2.length=t.n/\kD i t.ns[i].ap s=kD i (t.ns[i].ap.drop x.1) x.2) (λx=>t.ns[i].aF-x.1) ?_ ?_;·exact⟨(0,s),⟨Z,iy,rfl⟩,.refl,mG,.cons rfl .nil⟩
      ·rintro⟨j,cq⟩⟨Kp,tq,DE⟩;simp only at Kp tq DE;refine aZ.mk (λh=>?_) (λh=>?_)
       ·have gi:j<t.ns[i].aF:=by simpa using h
        have oF:j<t.ns[i].ap.length:=by omega
        obtain⟨gn,fk,fc⟩:=gm.bb.one gi oF;refine bt.mk gn j fk rfl gi ?_;refine aU.mk [.int .i64 t.ns[i].ap[j]] (fc _) ?_;have jE:t.ns[i].ap.drop j=t.ns[i].ap[j]::t.ns[i].ap.drop (j+1):=e2 oF;have bad:(decide (t.ns[i].ap[j]<0)||(decide ((i:Int)<=t.ns[i].ap[j])||cq.getD t.ns[i].ap[j].toNat false))=true->right t=false:=λag=>by unfold right;rw[iz,lQ];simp only[jr,aE,cF,DE,jE,kD,ag];simp
        refine b5.mk (λaJ=>?_) (λaJ=>?_)
        ·refine b5.mk (λbD=>?_) (λbD=>?_)
         ·simp only[ss,Int.not_lt,Int.not_le]at aJ bD;have la:t.ns[i].ap[j]=((t.ns[i].ap[j].toNat:Nat):Int):=by omega
          have c4:t.ns[i].ap[j].toNat<t.n:=by omega
          have n3:t.ns[i].ap[j].toNat<cq.length:=by omega
          refine bt.mk ⟨b,0,none⟩ t.ns[i].ap[j].toNat rfl la c4 ?_;refine aU.mk [.bool cq[t.ns[i].ap[j].toNat]] (V9 am n3) ?_;refine aZ.mk (λcG=>?_) (λcG=>?_);·refine⟨_,_,.sub (fs _) .refl,?_,rfl,rfl⟩;rw[bad];simp[bT,n3,cG]
          ·refine bt.mk ⟨b,0,none⟩ t.ns[i].ap[j].toNat rfl la c4 ?_;refine b4.add [] [] _ 4 rfl ?_ rfl ?_
           ·simp only[s5,bB];show 0+t.ns[i].ap[j].toNat*1+1<=_;omega
           have gN:IntKind.i64.wrap ((j:Int)+1)=((j+1:Nat):Int):=by rw[wrap_i64 ⟨Z,act⟩];omega
           refine be.mk _ gN ?_;refine⟨(j+1,cq.set t.ns[i].ap[j].toNat true),⟨⟨Z,by simp[tq],?_⟩,IO⟩,?_,mG,.cons rfl .nil⟩
           ·simp only;rw[DE,jE];have aO:(decide (t.ns[i].ap[j]<0)||(decide ((i:Int)<=t.ns[i].ap[j])||cq.getD t.ns[i].ap[j].toNat false))=false:=by
             have aK:¬ t.ns[i].ap[j]<0:=by omega
             have ba:¬ (i:Int)<=t.ns[i].ap[j]:=by omega
             simp[aK,ba,bT,n3,show cq[t.ns[i].ap[j].toNat]=false from cG]
            simp only[kD,aO,cD]
           ·have e:=ahQ cq t.ns[i].ap[j].toNat n3 true;simp only[zp];rw[<-e];simp only[dn,gM];exact .refl
         ·refine⟨_,_,.sub (fs _) .refl,?_,rfl,rfl⟩;rw[bad];simp at bD;simp[bD]
        ·refine⟨_,_,.sub (fs _) .refl,?_,rfl,rfl⟩;rw[bad];simp at aJ;simp[aJ]
       ·have gi:¬ j<t.ns[i].aF:=by simpa using h
        have Bz:t.ns[i].ap.drop j=[]:=mc Z;have gN:IntKind.i64.wrap ((i:Int)+1)=((i+1:Nat):Int):=by rw[wrap_i64 ⟨Z,Z⟩];omega
        refine be.mk _ gN ?_;refine⟨(i+1,cq),⟨⟨Z,tq,?_⟩,IO⟩,.refl,hh,.cons rfl .nil⟩;simp only;rw[iz,lQ];simp only[jr,aE,cF,DE,Bz,kD]
    ·have cV:¬ i<t.n:=by simpa using h
     have jm:t.ns.drop i=[]:=mc Z;have eG:jr 0 t.ns (List.replicate t.ns.length false)=some s:=by rw[iz,jm];rfl
     have af:right t=rl t.bx 0 s:=by unfold right;rw[eG];simp[a',bh]
     refine du.inv (ι:=Nat) (λm=>{ bp:=[(1,.ref 1 0),(64,.val (.slice (some ⟨b,0,none⟩) t.n t.n)),(65,.val (.int .i64 t.n)),(66,.val (.int .i64 m))],cl:=[(1,t.cells)],cO:=I,c5:=[zp b s] }) (λm=>m<=t.n/\rl t.bx 0 s=rl t.bx m (s.drop m)) (λm=>t.n-m) ?_ ?_;·exact⟨0,⟨Z,rfl⟩,.refl,dM,.cons rfl .nil⟩
     ·rintro m⟨awI,zq⟩;refine aZ.mk (λh=>?_) (λh=>?_)
      ·have jF:m<t.n:=by simpa using h
       have rm:m<s.length:=by omega
       have rn:s.drop m=s[m]::s.drop (m+1):=e2 rm;refine bt.mk ⟨b,0,none⟩ m rfl rfl jF ?_;refine aU.mk [.bool s[m]] (V9 am rm) ?_;refine aZ.mk (λeZ=>?_) (λeZ=>?_)
       ·refine⟨_,_,.sub (fs _) .refl,?_,rfl,rfl⟩;have:right t=false:=by rw[af,zq,rn];simp only[rl,show(s[m] == decide ((m:Int)=t.bx))=true from eZ,cF]
        rw[this]
       ·have gN:IntKind.i64.wrap ((m:Int)+1)=((m+1:Nat):Int):=by rw[wrap_i64 ⟨Z,Z⟩];omega
        refine be.mk _ gN ?_;refine⟨m+1,⟨⟨Z,?_⟩,Z⟩,.refl,dM,.cons rfl .nil⟩;rw[zq,rn];simp only[rl,show(s[m] == decide ((m:Int)=t.bx))=false from eZ,cD]
      ·have jF:¬ m<t.n:=by simpa using h
       have rn:s.drop m=[]:=mc Z;refine⟨_,_,.sub (fs _) .refl,?_,rfl,rfl⟩;rw[af,zq,rn];rfl
 ·refine⟨_,_,.refl,?_,rfl,rfl⟩;have:¬ 0<=t.bx:=by simp at aa;omega
  simp[right,this]
def dE(b:Nat)(s:List Int):aA:=⟨b,.cells (s.map (Value.int .i64)).toArray 3 (0,0)⟩
def GK{M:List aA}{s:List Int}(bc:dE b s∈M)(ah:j<s.length):c6 I M ((⟨b,0,none⟩:Addr).add (j*1)) 1 [.int .i64 s[j]]:=by
 rw[eM _ rfl];refine⟨rfl,_,3,(0,0),.inr ⟨_,bc,rfl,rfl⟩,?_,rfl⟩;have aa:j<(s.map (Value.int .i64)).length:=by simpa using ah
 simp only[dn,gM];rw[e2 aa,rf,qi];simp
def GL{M:List aA}{s:List Int}{v:Int}(ah:j<s.length)(ak:s[j]=v)(bc:dE b s∈M):c6 I M ((⟨b,0,none⟩:Addr).add (j*1)) 1 [.int .i64 v]:=ak ▸ GK bc ah
def oG(s:List Int)(j:Nat)(ah:j<s.length)(b:Int):cd (s.map (Value.int .i64)) j [.int .i64 b]=(s.set j b).map (Value.int .i64):=by unfold cd;rw[ri,Gy];simp[ah]
def ahR(ao:mR I){t:bs}(au:t.ok I):Spec Tryz.prog 291 [t.val] I [] (λv I' M'=>v=.int .i64 (bif right t then(t.n:Int)else 0)/\I'=I/\M'=[]):=by
 refine bU [] a0 Tryz.func291 rfl rfl rfl ?_;intro B ax;refine a8.mk [] [] _ (.refl _) (nx ao au) ?_;rintro v I' M' -⟨rfl,rfl,rfl⟩;refine aZ.mk (λh=>?_) (λh=>?_)
 ·refine⟨_,_,.refl,?_,rfl,rfl⟩;rw[show right t=false by simpa using h];rfl
 ·refine⟨_,_,.refl,?_,rfl,rfl⟩;rw[show right t=true by simpa using h];rfl
def V'{i:Nat}:∀ {ks:List Int} {s cq:List Bool},kD i ks s=some cq->∀ k∈ks,0<=k/\k<i
 |[],s,cq,_,k,ae=>by cases ae
 |x::ks,s,cq,h,k,ae=>by
  unfold kD at h;cases ag:(decide (x<0)||(decide ((i:Int)<=x)||s.getD x.toNat false))with
  |true=>rw[ag]at h;cases h
  |false=>
   rw[ag]at h;simp only[tk,ss]at ag;rcases er.1 ae with rfl | ae;·omega
   ·exact V' h k ae
def Wa:∀ {i:Nat} {ds:List al} {s cq:List Bool},jr i ds s=some cq->∀ j (h:j<ds.length),∀ k∈ds[j].ap,0<=k/\k<(i+j:Nat)
 |i,[],s,cq,_,j,ah,_,_=>by cases ah
 |i,d::ds,s,cq,h,j,ah,k,ae=>by
  unfold jr at h;cases aE:fits d d.ap.length with
  |false=>rw[aE]at h;cases h
  |true=>
   rw[aE]at h;simp only[cF]at h;cases aD:kD i d.ap s with
   |none=>rw[aD]at h;cases h
   |some s1=>
    rw[aD]at h;cases j with
    |zero=>exact V' aD k (by simpa using ae)| succ j=>have:=Wa h j lm k (by simpa using ae);omega
def lb{t:bs}(h:right t=true):∀ j (ah:j<t.ns.length),∀ k∈t.ns[j].ap,0<=k/\k<j:=by
 unfold right at h;simp only[cC]at h;obtain⟨_,_,h⟩:=h;split at h
 ·rename_i s av;intro j ah k ae;have:=Wa av j ah k ae;omega
 ·cases h
def kE{t:bs}(h:right t=true):0<=t.bx/\t.bx<t.ns.length:=by unfold right at h;simp only[cC,h3]at h;exact⟨h.1,h.2.1⟩
def GM(gW:List Int):List Int->Int->Int
 |[],m=>m| k::ks,m=>GM gW ks (max m (gW.getD k.toNat 0))
def wv:Nat->List al->List Int->List Int
 |_,[],gW=>gW| i,d::ds,gW=>wv (i+1) ds (gW.set i (GM gW d.ap 0+1))
def depth(t:bs):Int:=bif right t then(wv 0 t.ns (List.replicate t.ns.length 0)).getD t.bx.toNat 0 else 0
def ahS(ao:mR I){t:bs}(au:t.ok I):Spec Tryz.prog 156 [t.val] I [] (λv I' M'=>v=.int .i64 (depth t)/\I'=I/\M'=[]):=by
 refine bU [] a0 Tryz.func156 rfl rfl rfl ?_;intro B ax;have aC:=au.n;have hk:=au.bb.cap;refine a8.mk [] [] _ (.refl _) (nx ao au) ?_;rintro v I' M' -⟨rfl,rfl,rfl⟩;refine aZ.mk (λh=>?_) (λh=>?_)
 ·refine⟨_,_,.refl,?_,rfl,rfl⟩;simp[depth,show right t=false by simpa using h]
 ·have af:right t=true:=by simpa using h
  have tr:=lb af;obtain⟨a',bh⟩:=kE af;refine pi.mk t.n t.n rfl rfl (cc _) ay7 Z ?_;refine bQ.mk λb ag wu=>?_;refine du.inv (ι:=Nat×List Int) (λx=>{ bp:=[(1,.ref 1 0),(3,.val (.slice (some ⟨b,0,none⟩) t.n t.n)),(16,.val (.slice t.a t.n t.c)),(17,.val (.int .i64 t.n)),(18,.val (.int .i64 x.1))],cl:=[(1,t.cells)],cO:=I',c5:=[dE b x.2] }) (λx=>x.1<=t.n/\x.2.length=t.n/\(∀ j,0<=x.2.getD j 0/\x.2.getD j 0<=x.1)/\(∀ j,x.1<=j->x.2.getD j 0=0)/\wv 0 t.ns (List.replicate t.ns.length 0)=wv x.1 (t.ns.drop x.1) x.2) (λx=>t.n-x.1) ?_ ?_
  ·have z:∀ j,(List.replicate t.n (0:Int)).getD j 0=0:=λj=>by
    by_cases ah:j<t.n<;>simp[bT,ah]
   refine⟨(0,List.replicate t.n 0),⟨Z,am,λj=>by rw[z];simp,λj _=>z j,by simp[aC]⟩,?_,hh,.cons rfl .nil⟩;show hS _ _ [⟨b,.cells (rowOf [Value.int .i64 0] (t.n*1)).toArray 3 (0,0)⟩] _ [dE b (List.replicate t.n 0)];rw[By,gM];simp only[dE,Bp];exact .refl
  ·rintro⟨i,gW⟩⟨fq,iy,iz,k3,Bd⟩;simp only at fq iy iz k3 Bd;refine aZ.mk (λh=>?_) (λh=>?_)
   ·have a1:i<t.n:=by simpa using h
    have cI:i<t.ns.length:=by omega
    obtain⟨aR,bI,bo⟩:=au.bb.row al.cL a1 cI;have gm:=au.ns t.ns[i] (bK cI);have fh:=gm.aF;have lQ:t.ns.drop i=t.ns[i]::t.ns.drop (i+1):=e2 cI;refine bt.mk aR i bI rfl a1 ?_;refine aU.mk t.ns[i].cells (bo _) ?_;refine du.inv (ι:=Nat×Int) (λx=>{ bp:=[(1,.ref 1 0),(3,.val (.slice (some ⟨b,0,none⟩) t.n t.n)),(4,.val (.int .i64 i)),(16,.val (.slice t.a t.n t.c)),(17,.val (.int .i64 t.n)),(18,.val (.int .i64 i)),(24,.val (.slice t.ns[i].ca t.ns[i].aF t.ns[i].cr)),(25,.val (.int .i64 t.ns[i].aF)),(26,.val (.int .i64 x.1))],cl:=[(1,t.cells)],cO:=I',c5:=[dE b (gW.set i x.2)] }) (λx=>x.1<=t.ns[i].aF/\0<=x.2/\x.2<=i/\GM gW t.ns[i].ap 0=GM gW (t.ns[i].ap.drop x.1) x.2) (λx=>t.ns[i].aF-x.1) ?_ ?_
    ·refine⟨(0,0),⟨Z,Z,am,rfl⟩,?_,mG,.cons rfl .nil⟩;have e:gW.set i 0=gW:=by
      have aa:=k3 i (cc _);rw[bT]at aa;apply Bq;intro j;rw[iB];split
      ·rename_i e;subst e;have:i<gW.length:=by omega
       simp[this]at aa |-;exact aa.symm
      ·rfl
     simp only;rw[e];exact .refl
    ·rintro⟨j,m⟩⟨Kp,tq,DE,OS⟩;simp only at Kp tq DE OS;refine aZ.mk (λh=>?_) (λh=>?_)
     ·have gi:j<t.ns[i].aF:=by simpa using h
      have oF:j<t.ns[i].ap.length:=by omega
      obtain⟨gn,fk,fc⟩:=gm.bb.one gi oF;have jE:t.ns[i].ap.drop j=t.ns[i].ap[j]::t.ns[i].ap.drop (j+1):=e2 oF;have ae:=tr i cI t.ns[i].ap[j] (bK oF);have la:t.ns[i].ap[j]=((t.ns[i].ap[j].toNat:Nat):Int):=by omega
      have c4:t.ns[i].ap[j].toNat<t.n:=by omega
      refine bt.mk gn j fk rfl gi ?_;refine aU.mk [.int .i64 t.ns[i].ap[j]] (fc _) ?_;refine cY.draw a0 rfl rfl rfl ?_;have dN:i<(gW.set i m).length:=by simp;omega
      have n3:t.ns[i].ap[j].toNat<(gW.set i m).length:=by simp;omega
      have OT:(gW.set i m)[i]=m:=by simp
      have e5:(gW.set i m)[t.ns[i].ap[j].toNat]=gW.getD t.ns[i].ap[j].toNat 0:=by
       have bz:i≠t.ns[i].ap[j].toNat:=by omega
       have dT:t.ns[i].ap[j].toNat<gW.length:=by omega
       rw[Oy,bS bz];simp[bT,dT]
      refine bt.mk ⟨b,0,none⟩ i rfl rfl a1 ?_;refine aU.mk [.int .i64 m] (GL dN OT am) ?_;refine bt.mk ⟨b,0,none⟩ t.ns[i].ap[j].toNat rfl la c4 ?_;refine aU.mk [.int .i64 (gW.getD t.ns[i].ap[j].toNat 0)] (GL n3 e5 am) ?_;refine bt.mk ⟨b,0,none⟩ i rfl rfl a1 ?_;refine b4.add [] [] _ 3 rfl ?_ rfl ?_;·simp only[s5,bB];show 0+i*1+1<=_;simp;omega
      have gN:IntKind.i64.wrap ((j:Int)+1)=((j+1:Nat):Int):=by rw[wrap_i64 ⟨Z,act⟩];omega
      refine be.mk _ gN ?_;have awJ:=iz t.ns[i].ap[j].toNat;refine⟨(j+1,max m (gW.getD t.ns[i].ap[j].toNat 0)),⟨⟨Z,ce,ce,?_⟩,IO⟩,?_,mG,.cons rfl .nil⟩;·simp only;rw[OS,jE];rfl
      ·have e:=oG (gW.set i m) i dN (max m (gW.getD t.ns[i].ap[j].toNat 0));simp only[dE];rw[GC]at e;rw[<-e];simp only[dn,gM];exact .refl
     ·have gi:¬ j<t.ns[i].aF:=by simpa using h
      have Bz:t.ns[i].ap.drop j=[]:=mc Z;have hm:GM gW t.ns[i].ap 0=m:=by rw[OS,Bz];rfl
      have dN:i<(gW.set i m).length:=by simp;omega
      have OT:(gW.set i m)[i]=m:=by simp
      have ahT:IntKind.i64.wrap (m+1)=m+1:=wrap_i64 ⟨Z,Z⟩;have gN:IntKind.i64.wrap ((i:Int)+1)=((i+1:Nat):Int):=by rw[wrap_i64 ⟨Z,Z⟩];omega
      refine bt.mk ⟨b,0,none⟩ i rfl rfl a1 ?_;refine aU.mk [.int .i64 m] (GL dN OT am) ?_;refine be.mk _ ahT ?_;refine bt.mk ⟨b,0,none⟩ i rfl rfl a1 ?_;refine b4.add [] [] _ 3 rfl ?_ rfl ?_;·simp only[s5,bB];show 0+i*1+1<=_;omega
      refine be.mk _ gN ?_;refine⟨(i+1,gW.set i (m+1)),⟨⟨Z,by simp[iy],?_,?_,?_⟩,IO⟩,?_,hh,.cons rfl .nil⟩
      ·intro q;have ahU:=iz q;simp only[bT,iB]at ahU |-;split
       ·rename_i e;subst e;have:i<gW.length:=by omega
        simp[this];omega
       ·omega
      ·intro q aO;have Wb:=k3 q Z;simp only at aO;simp only[bT,iB]at Wb |-;rw[bS Z];exact Wb
      ·simp only;rw[Bd,lQ];simp only[wv,hm]
      ·have e:=oG (gW.set i m) i dN (m+1);simp only[dE];rw[GC]at e;rw[<-e];simp only[dn,gM];exact .refl
   ·have cV:¬ i<t.n:=by simpa using h
    have jm:t.ns.drop i=[]:=mc Z;have eG:wv 0 t.ns (List.replicate t.ns.length 0)=gW:=by rw[Bd,jm];rfl
    have rp:t.bx=((t.bx.toNat:Nat):Int):=by omega
    have eD:t.bx.toNat<gW.length:=by omega
    refine bt.mk ⟨b,0,none⟩ t.bx.toNat rfl rp Z ?_;refine aU.mk [.int .i64 gW[t.bx.toNat]] (GL eD rfl am) ?_;refine⟨_,_,.sub (fs _) .refl,?_,rfl,rfl⟩;have:depth t=gW[t.bx.toNat]:=by unfold depth;rw[af,eG];simp[bT,eD]
    rw[this];rfl
def pA(t:bs):Bool:=decide (t.n<=1024)&&(right t&&decide (depth t<=32))
def ahV(ao:mR I){t:bs}(au:t.ok I):Spec Tryz.prog 75 [t.val] I [] (λv I' M'=>v=.bool (pA t)/\I'=I/\M'=[]):=by
 refine bU [] a0 Tryz.func75 rfl rfl rfl ?_;intro B ax;refine b5.mk (λaa=>?_) (λaa=>?_)
 ·refine a8.mk [] [] _ (.refl _) (nx ao au) ?_;rintro v I' M' -⟨rfl,rfl,rfl⟩;refine b5.mk (λad=>?_) (λad=>?_)
  ·refine a8.mk [] [] _ (.refl _) (ahS ao au) ?_;rintro v I' M' -⟨rfl,rfl,rfl⟩;refine⟨_,_,.refl,?_,rfl,rfl⟩;have wx:t.n<=1024:=by simp at aa;omega
   simp[pA,wx,ad]
  ·refine⟨_,_,.refl,?_,rfl,rfl⟩;have n2:right t=false:=ad;simp[pA,n2]
 ·refine⟨_,_,.refl,?_,rfl,rfl⟩;have wx:¬ t.n<=1024:=by simp at aa;omega
  simp[pA,wx]
def gF{α:Type}(z:α)(f:al->(Int->α)->α):List al->List α->List α
 |[],a5=>a5| d::ds,a5=>gF z f ds (a5++[f d λk=>a5.getD k.toNat z])
section
variable{α:Type}{z:α}{f:al->(Int->α)->α}
def OU:∀ (ds:List al) (a5:List α),(gF z f ds a5).length=a5.length+ds.length
 |[],a5=>by simp[gF]
 |d::ds,a5=>by rw[gF,OU ds];simp;omega
def OV:∀ (ds:List al) (a5:List α) (j:Nat),j<a5.length->(gF z f ds a5)[j]?=a5[j]?
 |[],a5,j,_=>rfl| d::ds,a5,j,h=>by rw[gF,OV ds _ j d4,sr h]
def OW:∀ (ds:List al) (a5:List α) (j:Nat) (h:j<ds.length),(gF z f ds a5)[a5.length+j]?=some (f ds[j] λk=>((gF z f ds a5).take (a5.length+j)).getD k.toNat z)
 |d::ds,a5,0,_=>by
  rw[gF,pg,OV ds _ a5.length am];simp only[List.getElem?_concat_length,ti,kr];congr 1;funext k;have:(gF z f ds (a5++[f d λk=>a5.getD k.toNat z])).take a5.length=a5:=by
   apply Bq;intro i;rw[l5];split;·rename_i hi;rw[OV ds _ i d4,sr hi]
   ·rw[tj Z]
  rw[this]
 |d::ds,a5,j+1,h=>by have:=OW ds (a5++[f d λk=>a5.getD k.toNat z]) j i5;rw[gF];simp only[cn,ep,hj,dn,Gz]at this |-;rw[show a5.length+(j+1)=a5.length+1+j from by omega];exact this
def mf(z:α)(f:al->(Int->α)->α)(ns:List al)(k:Int):α:=(gF z f ns []).getD k.toNat z
def DF(aE:∀ d g ei,(∀ k∈d.ap,g k=ei k)->f d g=f d ei){t:bs}(af:right t=true)(ah:j<t.ns.length):mf z f t.ns j=f t.ns[j] (mf z f t.ns):=by have h:=OW (z:=z) (f:=f) t.ns [] j ah;simp only[hj,dn]at h;unfold mf;rw[bT,show((j:Int).toNat)=j from by omega,h,lF];refine aE _ _ _ λk ae=>?_;have:=lb af j ah k ae;rw[bT,bT,l5,b2 Z]
end
def free(g:Nat->Nat)(s:List Bool):Nat->Nat
 |0=>0| i+1=>free g s i+(bif s.getD i false then 0 else g i)
def Wc{g:Nat->Nat}{s:List Bool}{k:Nat}:∀ {i:Nat},i<=k->free g (s.set k true) i=free g s i
 |0,_=>rfl| i+1,h=>by unfold free;rw[Wc Z];simp only[bT,iB];rw[bS Z]
def Wd{g:Nat->Nat}{s:List Bool}{k:Nat}(av:s.getD k false=false)(az:k<s.length):∀ {i:Nat},k<i->free g (s.set k true) i+g k=free g s i
 |i+1,h=>by
  unfold free;by_cases e:i=k;·subst e;rw[Wc (cc _),av];simp[bT,az]
  ·have:=Wd (g:=g) av az (i:=i) Z;simp only[bT,iB]at this |-;rw[bS Z];omega
def gO(g:Int->Nat)(ks:List Int):Nat:=(ks.map g).sum
def We{g:Nat->Nat}{i:Nat}:∀ {ks:List Int} {s cq:List Bool},kD i ks s=some cq->i<=s.length->cq.length=s.length/\free g cq i+gO (λk=>g k.toNat) ks=free g s i
 |[],s,cq,h,_=>by simp only[kD,kr]at h;subst h;exact⟨rfl,rfl⟩
 |x::ks,s,cq,h,az=>by
  unfold kD at h;cases ag:(decide (x<0)||(decide ((i:Int)<=x)||s.getD x.toNat false))with
  |true=>rw[ag]at h;cases h| false=>rw[ag]at h;simp only[tk,ss]at ag;obtain⟨aa,ad,aj⟩:=ag;obtain⟨aK,ba⟩:=We (g:=g) h pp;have cA:=Wd (g:=g) aj Z (i:=i) Z;refine⟨by simpa using aK,?_⟩;simp only[gO,b0,hr]at ba |-;omega
def OX{g:Nat->Nat}{c:al->Nat}:∀ {ds:List al} {i:Nat} {s cq:List Bool},jr i ds s=some cq->i+ds.length<=s.length->(∀ j (h:j<ds.length),g (i+j)<=c ds[j]+gO (λk=>g k.toNat) ds[j].ap) -> cq.length=s.length/\free g cq (i+ds.length)<=free g s i+(ds.map c).sum
 |[],i,s,cq,h,_,_=>by simp only[jr,kr]at h;subst h;simp
 |d::ds,i,s,cq,h,az,aw=>by
  unfold jr at h;cases aE:fits d d.ap.length with
  |false=>rw[aE]at h;cases h
  |true=>
   rw[aE]at h;simp only[cF]at h;cases aD:kD i d.ap s with
   |none=>rw[aD]at h;cases h
   |some s1=>
    rw[aD]at h;simp only[ep]at az;obtain⟨aK,ba⟩:=We (g:=g) aD Z;obtain⟨cA,ee⟩:=OX (g:=g) (c:=c) h Z (λj ah=>by
     have:=aw (j+1) d4;simp only[Gz]at this;rw[show i+1+j=i+(j+1)from by omega];exact this)
    have ax:=aw 0 am;simp only[pg,ti]at ax;refine⟨Z,?_⟩;have ny:free g s1 (i+1)<=free g s1 i+g i:=by
     show free g s1 i+_<=_;cases s1.getD i false<;>simp
    simp only[ep,b0,hr];rw[show i+(ds.length+1)=i+1+ds.length from by omega];omega
def Wf{bx:Int}:∀ {s:List Bool} {i:Nat},rl bx i s=true->∀ j,j<s.length->(i+j:Nat)=bx->s.getD j false=false
 |b::s,i,h,j,ah,e=>by
  unfold rl at h;cases ag:(b == decide ((i:Int)=bx))with
  |true=>rw[ag]at h;cases h
  |false=>
   rw[ag]at h;cases j with
   |zero=>
    have:decide ((i:Int)=bx)=true:=by simpa using e
    rw[this]at ag;simpa using ag
   |succ j=>have:=Wf (i:=i+1) h j lm Z;simpa using this
def Wg{g:Nat->Nat}{s:List Bool}{k:Nat}(ae:s.getD k false=false):∀ {n:Nat},k<n->g k<=free g s n
 |n+1,h=>by
  unfold free;by_cases e:n=k;·subst e;rw[ae];simp
  ·have:=Wg (g:=g) ae (n:=n) Z;omega
def OY{t:bs}(af:right t=true){g:Int->Nat}{c:al->Nat}(h:∀ j (ah:j<t.ns.length),g j<=c t.ns[j]+gO g t.ns[j].ap):g t.bx<=(t.ns.map c).sum:=by
 have pB:=kE af;have ae:=lb af;unfold right at af;simp only[cC]at af;obtain⟨_,_,af⟩:=af;split at af
 ·rename_i s av;obtain⟨aK,ba⟩:=OX (g:=λk=>g k) (c:=c) av am (λj ah=>by refine jU (by rw[dn];exact h j ah) (Nat.le_of_eq ?_);congr 1;unfold gO;congr 1;refine fR λk e5=>?_;have:=ae j ah k e5;rw[zf this.1]);simp only[zd,dn]at aK ba;have bg:=Wf af t.bx.toNat Z Z;have:=Wg (g:=λk=>g k) bg (n:=t.ns.length) Z;rw[zf pB.1]at this;simp only[free]at ba;omega
 ·cases af
def DG{t:bs}(af:right t=true)(ah:j<t.ns.length):fits t.ns[j] t.ns[j].ap.length=true:=by
 have aux:∀ {ds:List al} {i:Nat} {s cq:List Bool},jr i ds s=some cq->∀ j (h:j<ds.length),fits ds[j] ds[j].ap.length=true:=by
  intro ds
  induction ds with
  |nil=>intro i s cq _ j ah;cases ah
  |cons d ds aQ=>
   intro i s cq h j ah;unfold jr at h;cases aE:fits d d.ap.length with
   |false=>rw[aE]at h;cases h
   |true=>
    rw[aE]at h;simp only[cF]at h;cases aD:kD i d.ap s with
    |none=>rw[aD]at h;cases h
    |some s1=>
     rw[aD]at h;cases j with
     |zero=>exact aE| succ j=>exact aQ h j lm
 unfold right at af;simp only[cC]at af;obtain⟨_,_,af⟩:=af;split at af
 ·rename_i s av;exact aux av j ah
 ·cases af
def Wh(t u ty e:Nat)(i:TypeInfo)(au:P.underlying t=some (.slice e))(hu:P.underlying u=some mM)(n1:∀ k,mM≠.int k)(hi:P.info? e=some i)
 {n:Nat} (mO:n<=c) (ax:(∃ b c,qj=.slice b 0 c)\/qj=.string .empty):(Builtin.append_ #[t,u] ty #[.slice sa n c,qj]).run P w=.ok (.slice sa n c) w:=by
 have GJ:(match mM with | .int _=>true | _=>false)=false:=by cases mM<;>first | rfl | exact(n1 _ rfl).elim
 rcases ax with⟨b,c',rfl⟩ | rfl
 ·cases b<;>cases sa<;>simp[Builtin.append_,run_underlying au,run_underlying hu,sizeOf,typeInfo,hi,GJ,Builtin.lenOf,mO,Builtin.firstCells,Builtin.zeroCells,loadCells,loadCellsFrom,storeCells]
 ·cases sa<;>simp[Builtin.append_,run_underlying au,run_underlying hu,sizeOf,typeInfo,hi,GJ,Builtin.lenOf,mO,Builtin.firstCells,loadCells,storeCells]
section
variable{X:cN}{β:Nat->Nat}{a:Act}{w:World}{F:Fr}{C:de}{I:aH}{M:List aA}{o:Oper}{K:fz}
def bC.bin{op:BinOp}(aD:o.op=.binOp op t x y bi)(ai:∀ d,o.dst=some d->d<X.n){q:Value}(ab:bG F x=.val p)(aG:bG F y=.val q)
  (aw:∀ w,(eqGuard op t x y p q).run X.P w=.ok () w) (af:∀ w,eJ I M w->(binOp op t p q).run X.P w=.ok v w) (h:K (put o.dst (.val v) F) C I M):bC X o F C I M K:=by
 refine⟨λac w Q ⟨β,aM⟩=>?_⟩;have ex:=df aM.an ab;have oD:=df aM.an aG;refine vY aM ai f7 ?_ h;unfold execOp;simp only[aD,cp,ex,oD,aw,bY,af w aM.holds,db]
def bC.conv{s:Nat}(aD:o.op=.convert s t x)(ai:∀ d,o.dst=some d->d<X.n)(ab:bG F x=.val p)
  (af:∀ w,eJ I M w->(convert s t p).run X.P w=.ok v w) (h:K (put o.dst (.val v) F) C I M):bC X o F C I M K:=by
 refine⟨λac w Q ⟨β,aM⟩=>?_⟩;have ex:=df aM.an ab;refine vY aM ai f7 ?_ h;unfold execOp;simp only[aD,cp,ex,bY,af w aM.holds,db]
def bC.un{op:UnOp}(aD:o.op=.unOp op t x)(ai:∀ d,o.dst=some d->d<X.n)(ab:bG F x=.val p)
  (af:∀ w,eJ I M w->(Op.unary op p).run X.P w=.ok v w) (h:K (put o.dst (.val v) F) C I M):bC X o F C I M K:=by
 refine⟨λac w Q ⟨β,aM⟩=>?_⟩;have ex:=df aM.an ab;refine vY aM ai f7 ?_ h;unfold execOp;simp only[aD,cp,ex,bY,af w aM.holds,db]
def js(x:Int):Int:=IntKind.u64.wrap (BitVec.ofInt 64 IntKind.u64.max ^^^ BitVec.ofInt 64 x).toNat
def bC.GN(aD:o.op=.unOp .xor t x)(ai:∀ d,o.dst=some d->d<X.n){n:Int}(ab:bG F x=.val (.int .u64 n))(h:K (put o.dst (.val (.int .u64 (js n))) F) C I M):bC X o F C I M K:=
 .un aD ai ab (λw _=>rfl) h
theorem bC.OZ(aL:cU X.P X.E)(aD:o.op=.call { callee:=.builtin .append,args:=#[s,x],argTypes:=#[t,u] })(ai:∀ d,o.dst=some d->d<X.n)
 (au:X.E t=some cS) (dt:cS.bL=.slice e) (hu:X.E u=some me) (fI:∀ k,me.bL≠.int k) (he:X.E e=some aB)
 {n:Nat} (av:bG F s=.val (.slice sa n c)) (mO:n<=c)
 (ab:bG F x=.val qj) (ax:(∃ b c,qj=.slice b 0 c)\/qj=.string .empty)
  (h:K (put o.dst (.val (.slice sa n c)) F) C I M):bC X o F C I M K:=by
 refine⟨λa w Q ⟨β,aM⟩=>?_⟩;obtain⟨inf,z,hi,fq,iy,iz,k3⟩:=(aL _ _ he).inf;obtain⟨d,fJ,fj⟩:=(aL _ _ hu).fp;obtain⟨gV,iD,kB⟩:=(aL _ _ au).fp;have oC:gV=.slice e:=by rw[dt]at kB;cases gV<;>simp_all[fo]
 subst oC;have e':=Wh (w:=w) t u o.type e inf iD fJ (λk c2=>fI k ah') hi (sa:=sa) mO ax;have es:=df aM.an av;have ex:=df aM.an ab;refine vY aM ai f7 ?_ h;unfold execOp;simp only[aD,resolve,invoke,builtin,cp,db,bY,rh,b0,hs,es,ex,e']
def Wi(op:BinOp)(t:Nat)(x y:Operand)(p q:Option Addr)(P:Program)(w:World):(eqGuard op t x y (.pointer p) (.pointer q)).run P w=.ok () w:=by
 unfold eqGuard;cases op<;>rfl
theorem bC.Kq(aL:cU X.P X.E)(aD:o.op=.binOp .eql t x y bi)(ai:∀ d,o.dst=some d->d<X.n)(au:X.E t=some cS)(dt:cS.bL=.pointer e)
  {p:Option Addr} (ab:bG F x=.val (.pointer p)) (aG:bG F y=.val (.pointer none)) (h:K (put o.dst (.val (.bool p.isNone)) F) C I M):bC X o F C I M K:=by
 obtain⟨d,fJ,fj⟩:=(aL _ _ au).fp;have aa:d=.pointer e:=by rw[dt]at fj;cases d<;>simp_all[fo]
 subst aa;exact .bin aD ai ab aG (λw=>Wi ..) (λw _=>run_eql_pointer_nil w t p (by simp[Program.pointee,fJ])) h
theorem bC.Wj(aL:cU X.P X.E)(aD:o.op=.binOp .neq t x y bi)(ai:∀ d,o.dst=some d->d<X.n){ahW:dH}(au:X.E t=some cS)(dt:cS.bL=.pointer e)(he:X.E e=some ahW)
  {p:Addr} (ab:bG F x=.val (.pointer (some p))) (aG:bG F y=.val (.pointer (some p))) (h:K (put o.dst (.val (.bool false)) F) C I M):bC X o F C I M K:=by
 obtain⟨d,fJ,fj⟩:=(aL _ _ au).fp;have aa:d=.pointer e:=by rw[dt]at fj;cases d<;>simp_all[fo]
 subst aa;obtain⟨inf,z,hi,_⟩:=(aL _ _ he).inf;exact .bin aD ai ab aG (λw=>Wi ..) (λw _=>Lib.run_neq_ptr_same w p fJ hi) h
end
def Wk{f:Nat}{fn:Func}{e:Array Value->Sem Value}{args:List Value}{M:List aA}(aE:P.funcs[f]?=some fn)(ahX:(fn.name == "runtime.NumGoroutine")=false)
  (ag:fn.body.isNone=true) (aC:Extern.findNext fn=none) (he:Extern.find fn=some e) (af:∀ w,(e args.toArray).run P w=.ok v w):Spec P f args I M λr I' M'=>r=v/\I'=I/\M'=M:=by
 refine .inr λw hw=>⟨v,w,I,M,?_,⟨rfl,rfl,rfl⟩,hw,λ_ _ h=>h,λ_ _ h=>.inl h,λx ab=>.inl ⟨x,ab,rfl⟩,λ_ _ _=>rfl,.refl _,cc _⟩;rw[run_callFunc_extern aE ahX ag aC he,af];rfl
def zr(l:List UInt8):List Value:=l.map λb=>.int .u8 b.toNat
structure gp where
 ts:Bool
 os:aT
 ch:List UInt8
def gp.ar(b:Nat)(x:gp):aA:=⟨b,.cells #[.pointer (bif x.ts then some ⟨b,0,none⟩else none),x.os.val] 341 (0,0)⟩
def gp.M(b:Nat)(x:gp):List aA:=x.ar b::x.os.ar 5
structure gp.ok(x:gp):Prop where
 os:x.os.ok 1 (zr x.ch)
 ne:∀ g,x.os.a=some g->x.ch≠[]
def gp.new:gp:=⟨false,⟨none,0,0,[]⟩,[]⟩
def gp.Kr:gp.new.ok:=⟨⟨rfl,λ_=>⟨rfl,rfl⟩,λg h=>ci⟩,λg h=>ci⟩
def gp.ok.n{x:gp}(h:x.ok):x.os.n=x.ch.length:=by have:=h.os.len;simp[zr]at this;omega
def ptr(b:Nat):Value:=.pointer (some ⟨b,0,none⟩)
def dm{M:List aA}{cs:List Value}(bc:(⟨b,.cells cs.toArray T (0,0)⟩:aA)∈M){k n:Nat}(h:k+n<=cs.length):c6 I M ((⟨b,0,none⟩:Addr).add k) n ((cs.drop k).take n):=by
 rw[eM _ rfl];refine⟨rfl,_,T,(0,0),.inr ⟨_,bc,rfl,rfl⟩,?_,?_⟩
 ·simp
 ·simp;omega
def O0{M:List aA}(v:Value):Spec Tryz.prog 365 [v] I M λr I' M'=>r=v/\I'=I/\M'=M:=
 Wk Tryz.func365 d0 d0 d0 (e:=Extern.AbiNoEscape.same) d0 (λw=>Lib.run_noEscape w _)
def Wl{M:List aA}(s:ByteArray)(c:UInt8):Spec Tryz.prog 407 [.string s,.int .u8 c.toNat] I M λr I' M'=>r=.int .i64 (Lib.indexByte s.data.toList c)/\I'=I/\M'=M:=
 Wk Tryz.func407 d0 d0 d0 (e:=Extern.BytealgIndexByte.indexByte) d0 (λw=>by
  have:=Lib.run_indexByteString (P:=Tryz.prog) s (c.toNat:Int) w;simpa using this)
def ahY(s:ByteArray)(c:UInt8):Spec Tryz.prog 389 [.string s,.int .u8 c.toNat] I [] λr I' M'=>r=.int .i64 (Lib.indexByte s.data.toList c)/\I'=I/\M'=[]:=by refine bU [] a0 Tryz.func389 rfl rfl rfl ?_;intro B ax;refine a8.mk [] [] _ (.refl _) (Wl s c) ?_;rintro v I' M' -⟨rfl,rfl,rfl⟩;exact⟨_,_,.refl,rfl,rfl,rfl⟩
def Wm(s:ByteArray)(c:UInt8):Spec Tryz.prog 373 [.string s,.int .u8 c.toNat] I [] λr I' M'=>r=.int .i64 (Lib.indexByte s.data.toList c)/\I'=I/\M'=[]:=by refine bU [] a0 Tryz.func373 rfl rfl rfl ?_;intro B ax;refine a8.mk [] [] _ (.refl _) (ahY s c) ?_;rintro v I' M' -⟨rfl,rfl,rfl⟩;exact⟨_,_,.refl,rfl,rfl,rfl⟩
def Ks{M:List aA}(h:eJ I M w){an:Nat×Nat}(bc:(⟨b,.cells cs T an⟩:aA)∈M):w.shape? b=some (T,cs.size):=by have:=h.m _ bc;simp only at this;simp[World.shape?,this]
def Wn(b:Nat)(x:gp):Spec Tryz.prog 344 [ptr b] I [x.ar b] λr I' M'=>r=.tuple #[]/\I'=I/\M'=[{ x with ts:=true:gp }.ar b]:=by
 obtain⟨ts,os,ch⟩:=x;obtain⟨inf,z,hi,fq,_⟩:=(a0 341 _ rfl).inf;refine bU [] a0 Tryz.func344 rfl rfl rfl ?_;intro B ax;cases ts with
 |false=>refine aU.mk [.pointer none] (dm (cs:=[.pointer none,os.val]) (k:=0) (n:=1) (T:=341) (eL.2 rfl) am) ?_;refine .other (bC.Kq a0 rfl am rfl rfl rfl rfl ?_);refine aZ.mk (λ_=>?_) (λh=>ci);refine bC.conv rfl am rfl (λw hw=>Lib.run_to_unsafe (t:=341) (e:=341) (cells:=2) w ⟨b,0,none⟩ d0 d0 (j:=inf) hi (by rw[fq];decide) (Ks (cs:=#[.pointer none,os.val]) hw (eL.2 rfl)) am) ?_;refine a8.mk [gp.ar b ⟨false,os,ch⟩] [] _ am (O0 _) ?_;rintro v I' M' -⟨rfl,rfl,rfl⟩;refine bC.conv rfl am rfl (λw hw=>Lib.run_from_unsafe (u:=341) (e:=341) (cells:=2) w ⟨b,0,none⟩ d0 d0 (j:=inf) hi (Ks (cs:=#[.pointer none,os.val]) hw (eL.2 rfl)) d0) ?_;refine b4.add [] [] _ _ rfl (bJ rfl) rfl ?_;exact⟨_,_,.refl,rfl,rfl,rfl⟩
 |true=>refine aU.mk [ptr b] (dm (cs:=[ptr b,os.val]) (k:=0) (n:=1) (T:=341) (eL.2 rfl) am) ?_;refine .other (bC.Kq a0 rfl am rfl rfl rfl rfl ?_);refine aZ.mk (λh=>ci) (λ_=>?_);refine aU.mk [ptr b] (dm (cs:=[ptr b,os.val]) (k:=0) (n:=1) (T:=341) (eL.2 rfl) am) ?_;refine .other (bC.Wj a0 rfl am rfl rfl rfl rfl rfl ?_);refine aZ.mk (λh=>ci) (λ_=>?_);exact⟨_,_,.refl,rfl,rfl,rfl⟩
def pC(b:Nat){x:gp}(ab:x.ok)(c:UInt8)(az:x.ch.length<70368744177664):Spec Tryz.prog 361 [ptr b,.int .u8 c.toNat] I (x.M b)
  λr I' M'=>r=.nilIface/\I'=I/\∃ y:gp,y.ok/\y.ch=x.ch++[c]/\M'=y.M b:=by
 refine bU [] a0 Tryz.func361 rfl rfl rfl ?_;intro B ax;have aC:=ab.n;refine a8.mk [x.ar b] (x.os.ar 5) _ (.refl _) (Wn b x) ?_;rintro v I' M' -⟨rfl,rfl,rfl⟩;refine aU.mk [x.os.val] (dm (cs:=[ptr b,x.os.val]) (k:=1) (n:=1) (T:=341) (.head _) am) ?_;refine bQ.mk λg aw DH=>?_;refine bC.append a0 rfl am (e:=5) rfl rfl rfl x.os (xs:=zr x.ch) ab.os rfl (m:=1) rfl (b8:=[.int .u8 c.toNat]) bv ?_ rfl (Mr:=[⟨g,.cells #[.int .u8 c.toNat] 5 (0,0)⟩,{ x with ts:=true:gp }.ar b]) ?_ ?_ ?_ ?_
 ·exact dm (cs:=[.int .u8 c.toNat]) (k:=0) (n:=1) (T:=5) (.head _) am
 ·exact eN (l₁:=[_,_]) (l₂:=x.os.ar 5)
 ·simp only[maxLen];omega
 ·show(x.os.n+1)*1<=_;omega
 ·intro ei c' aS aa ad aj aJ;refine b4.add [⟨ei,.cells aS.toArray 5 (0,0)⟩,⟨g,.cells #[.int .u8 c.toNat] 5 (0,0)⟩] [] _ _ rfl (bJ rfl) rfl ?_;refine⟨_,_,.perm (M1:=[⟨g,.cells #[.int .u8 c.toNat] 5 (0,0)⟩]++gp.M b ⟨true,⟨some ei,x.os.n+1,c',aS⟩,x.ch++[c]⟩) ?_ (.sub (mL _ _) .refl),rfl,rfl,_,?_,rfl,rfl⟩
  ·exact eN (l₁:=[_]) (l₂:=[_,_])
  ·refine⟨⟨?_,λh=>d7,?_⟩,am⟩
   ·simp[zr,aC]
   ·intro bh mS;refine⟨aa,ad,aj,?_⟩;rw[aJ];simp[zr]
def uN(b:Nat){x:gp}(ab:x.ok)(s:ByteArray)(az:x.ch.length+s.size<=70368744177664):Spec Tryz.prog 328 [ptr b,.string s] I (x.M b)
  λr I' M'=>r=.tuple #[.int .i64 s.size,.nilIface]/\I'=I/\∃ y:gp,y.ok/\y.ch=x.ch++s.data.toList/\M'=y.M b:=by
 refine bU [] a0 Tryz.func328 rfl rfl rfl ?_;intro B ax;have aC:=ab.n;refine a8.mk [x.ar b] (x.os.ar 5) _ (.refl _) (Wn b x) ?_;rintro v I' M' -⟨rfl,rfl,rfl⟩;refine aU.mk [x.os.val] (dm (cs:=[ptr b,x.os.val]) (k:=1) (n:=1) (T:=341) (.head _) am) ?_;by_cases av:s.size=0
 ·have he:s=.empty:=xL (Ou av);subst he;have mO:x.os.n<=x.os.c:=by
   cases a7:x.os.a with
   |none=>obtain⟨aa,ad⟩:=ab.os.nil a7;omega
   |some g=>exact(ab.os.cap g a7).2.1
  refine bC.OZ a0 rfl am (e:=5) rfl rfl rfl am rfl rfl mO rfl (.inr rfl) ?_;refine b4.add [] (x.os.ar 5) _ _ rfl (bJ rfl) rfl ?_;exact⟨_,_,.refl,rfl,rfl,⟨true,x.os,x.ch⟩,⟨ab.os,ab.ne⟩,am,rfl⟩
 ·refine bC.ahG a0 rfl am (e:=5) rfl rfl rfl rfl rfl rfl x.os (xs:=zr x.ch) ab.os rfl rfl Z (Mr:=[{ x with ts:=true:gp }.ar b]) (eN (l₁:=[_])) ?_ ?_ ?_
  ·simp only[maxLen];omega
  ·show(x.os.n+s.size)*1<=_;omega
  ·intro ei c' aS aa ad aj aJ;refine b4.add [⟨ei,.cells aS.toArray 5 (0,0)⟩] [] _ _ rfl (bJ rfl) rfl ?_;refine⟨_,_,.perm (M1:=gp.M b ⟨true,⟨some ei,x.os.n+s.size,c',aS⟩,x.ch++s.data.toList⟩) ?_ .refl,rfl,rfl,_,?_,rfl,rfl⟩
   ·exact eN (l₁:=[_]) (l₂:=[_])
   ·refine⟨⟨?_,λh=>d7,?_⟩,λg _ h=>?_⟩
    ·simp[zr,aC]
    ·intro bh mS;refine⟨aa,ad,aj,?_⟩;rw[aJ];simp[zr,k']
    ·have bD:=congrArg List.length (List.append_eq_nil_iff.1 h).2;exact av (by simpa using bD)
def xQ(b:Nat){x:gp}(ab:x.ok)(az:x.ch.length<=70368744177664):Spec Tryz.prog 329 [ptr b] I (x.M b)
  λr I' M'=>r=.string ⟨x.ch.toArray⟩/\I'=I/\M'=[]:=by
 refine bU [] a0 Tryz.func329 rfl rfl rfl ?_;intro B ax;have aC:=ab.n;obtain⟨ts,⟨a,n,c,aS⟩,ch⟩:=x;simp only at aC az;subst aC;refine cY.draw a0 rfl rfl rfl ?_;cases a with
 |none=>obtain⟨aa,ad⟩:=ab.os.nil rfl;simp only at aa ad;have tt:ch=[]:=im aa;subst tt;subst ad;refine aU.mk [.slice none 0 0] (dm (cs:=[.pointer (bif ts then some ⟨b,0,none⟩else none),.slice none 0 0]) (k:=1) (n:=1) (T:=341) (.head _) am) ?_;refine aU.mk [.slice none 0 0] (dm (cs:=[.pointer (bif ts then some ⟨b,0,none⟩else none),.slice none 0 0]) (k:=1) (n:=1) (T:=341) (.head _) am) ?_;refine bC.VK rfl am rfl rfl ?_;exact⟨_,_,.sub (fs _) .refl,rfl,rfl,rfl⟩
 |some g=>
  obtain⟨aa,ad,aj,aJ⟩:=ab.os.cap g rfl;have bz:=ab.ne g rfl;simp only at aa ad aj aJ bz;have lK:ch.length≠0:=λh=>bz (im h);refine aU.mk [.slice (some ⟨g,0,none⟩) ch.length c] (dm (cs:=[.pointer (bif ts then some ⟨b,0,none⟩else none),.slice (some ⟨g,0,none⟩) ch.length c]) (k:=1) (n:=1) (T:=341) (.head _) am) ?_;refine xr.mk Z ?_;refine aU.mk [.slice (some ⟨g,0,none⟩) ch.length c] (dm (cs:=[.pointer (bif ts then some ⟨b,0,none⟩else none),.slice (some ⟨g,0,none⟩) ch.length c]) (k:=1) (n:=1) (T:=341) (.head _) am) ?_;refine bC.OI a0 rfl am (e:=5) rfl rfl rfl rfl (l:=ch) (g:=g) (cs:=aS.toArray) rfl rfl bz Z (Mr:=[gp.ar b ⟨ts,⟨some g,ch.length,c,aS⟩,ch⟩]) (eN (l₁:=[_]) (l₂:=[_])) ?_ ?_;·rw[gM]at aJ;exact aJ
  ·exact⟨_,_,.sub (fs _) .refl,rfl,rfl,rfl⟩
def BA(c:UInt8)(left:ByteArray):Bool:=decide ((32:Int)<=c.toNat)&&(decide ((c.toNat:Int)<=126)&&(!decide ((c.toNat:Int)=92)&&decide (Lib.indexByte left.data.toList c<0)))
def ahZ(c:UInt8)(left:ByteArray):Spec Tryz.prog 410 [.int .u8 c.toNat,.string left] I [] λr I' M'=>r=.bool (BA c left)/\I'=I/\M'=[]:=by
 refine bU [] a0 Tryz.func410 rfl rfl rfl ?_;intro B ax;refine b5.mk (λaa=>?_) (λaa=>?_)
 ·refine b5.mk (λad=>?_) (λad=>?_)
  ·refine b5.mk (λaj=>?_) (λaj=>?_)
   ·refine a8.mk [] [] _ (.refl _) (Wm left c) ?_;rintro v I' M' -⟨rfl,rfl,rfl⟩;refine⟨_,_,.refl,?_,rfl,rfl⟩;simp only[BA,aa,ad,aj,nY]
   ·refine⟨_,_,.refl,?_,rfl,rfl⟩;simp only[BA,aa,ad,aj,nY,zi,xK]
  ·refine⟨_,_,.refl,?_,rfl,rfl⟩;simp only[BA,aa,ad,nY,zi,xK]
 ·refine⟨_,_,.refl,?_,rfl,rfl⟩;simp only[BA,aa,nY,zi,xK]
def DI:ByteArray:=⟨#[48,49,50,51,52,53,54,55,56,57,97,98,99,100,101,102]⟩
def zs(n:Nat):UInt8:=DI.data.toList.getD n 0
def oH(c:UInt8)(left:ByteArray):List UInt8:=
 bif BA c left then [c]else
 bif decide ((c.toNat:Int)=10)then [92,110]else
 bif decide ((c.toNat:Int)=13)then [92,114]else
 bif decide ((c.toNat:Int)=9)then [92,116]else
 bif decide ((c.toNat:Int)=92)||decide ((0:Int)<=Lib.indexByte left.data.toList c)then [92,c]else [92,120,zs (c.toNat/16),zs (c.toNat%16)]
def GO(c:UInt8)(left:ByteArray):(oH c left).length<=4:=by
 unfold oH;cases BA c left<;>cases decide ((c.toNat:Int)=10)<;>cases decide ((c.toNat:Int)=13)<;>cases decide ((c.toNat:Int)=9)<;>cases(decide ((c.toNat:Int)=92)||decide ((0:Int)<=Lib.indexByte left.data.toList c))<;>simp
def ah0:∀ n:Nat,n<256->IntKind.u8.wrap ((BitVec.ofInt 8 (n:Int)) &&& (BitVec.ofInt 8 15)).toNat=((n%16:Nat):Int):=by decide +kernel
def Wo(ah:j<DI.size):DI[j]=zs j:=by have:j<DI.data.toList.length:=ah;simp only[zs,bT,dy this,lF];rfl
def Kt(b:Nat){x:gp}(ab:x.ok)(c:UInt8)(left:ByteArray)(az:x.ch.length<=70368744177600):Spec Tryz.prog 396 [ptr b,.int .u8 c.toNat,.string left] I (x.M b)
  λr I' M'=>I'=I/\∃ y:gp,y.ok/\y.ch=x.ch++oH c left/\M'=y.M b:=by
 refine bU [] a0 Tryz.func396 rfl rfl rfl ?_;intro B ax;refine a8.mk [] (x.M b) _ (.refl _) (ahZ c left) ?_;rintro v I' M' -⟨rfl,rfl,rfl⟩;refine aZ.mk (λaa=>?_) (λaa=>?_)
 ·refine a8.mk (x.M b) [] _ am (pC b ab c Z) ?_;rintro v I' M' -⟨rfl,rfl,y,aG,gX,rfl⟩;refine⟨_,_,.refl,rfl,y,aG,?_,am⟩;rw[gX,oH,aa];rfl
 ·refine aZ.mk (λad=>?_) (λad=>?_)
  ·refine a8.mk (x.M b) [] _ am (uN b ab _ ask) ?_;rintro v I' M' -⟨rfl,rfl,y,aG,gX,rfl⟩;refine⟨_,_,.refl,rfl,y,aG,?_,am⟩;rw[gX,oH,aa,ad];rfl
  ·refine aZ.mk (λaj=>?_) (λaj=>?_)
   ·refine a8.mk (x.M b) [] _ am (uN b ab _ ask) ?_;rintro v I' M' -⟨rfl,rfl,y,aG,gX,rfl⟩;refine⟨_,_,.refl,rfl,y,aG,?_,am⟩;rw[gX,oH,aa,ad,aj];rfl
   ·refine aZ.mk (λaJ=>?_) (λaJ=>?_)
    ·refine a8.mk (x.M b) [] _ am (uN b ab _ ask) ?_;rintro v I' M' -⟨rfl,rfl,y,aG,gX,rfl⟩;refine⟨_,_,.refl,rfl,y,aG,?_,am⟩;rw[gX,oH,aa,ad,aj,aJ];rfl
    ·have two:∀ (I1:aH),(decide ((c.toNat:Int)=92)||decide ((0:Int)<=Lib.indexByte left.data.toList c))=true->oH c left=[92,c]:=λ_ h=>by rw[oH,aa,ad,aj,aJ,h];rfl
     have other:(decide ((c.toNat:Int)=92)||decide ((0:Int)<=Lib.indexByte left.data.toList c))=false->oH c left=[92,120,zs (c.toNat/16),zs (c.toNat%16)]:=λh=>by rw[oH,aa,ad,aj,aJ,h];rfl
     have ao:=c.toNat_lt;refine b5.mk (λbD=>?_) (λbD=>?_)
     ·refine a8.mk [] (x.M b) _ (.refl _) (Wm left c) ?_;rintro v I' M' -⟨rfl,rfl,rfl⟩;refine aZ.mk (λcG=>?_) (λcG=>?_)
      ·refine a8.mk (x.M b) [] _ am (pC b ab 92 Z) ?_;rintro v I' M' -⟨rfl,rfl,y,aG,gX,rfl⟩;refine a8.mk (y.M b) [] _ am (pC b aG c as') ?_;rintro v I' M' -⟨rfl,rfl,z,bg,tu,rfl⟩;refine⟨_,_,.refl,rfl,z,bg,?_,am⟩;rw[tu,gX,two I' (by rw[bD];exact cG)];simp
      ·refine a8.mk (x.M b) [] _ am (uN b ab _ ask) ?_;rintro v I' M' -⟨rfl,rfl,y,aG,gX,rfl⟩;have GP:y.ch.length=x.ch.length+2:=by rw[gX];simp
       refine sc.mk 4 rfl ?_;refine s8.mk (s:=DI) (c.toNat/16) ?_ (by show _<16;omega) ?_
       ·show(c.toNat:Int).fdiv (2^(min 4 (IntKind.u8.bits)))=_;have ah1:((2:Int)^(min 4 IntKind.u8.bits))=16:=by decide
        rw[ah1,Kf _ Z];omega
       rw[Wo];refine a8.mk (y.M b) [] _ am (pC b aG (zs (c.toNat/16)) Z) ?_;rintro v I' M' -⟨rfl,rfl,z,bg,tu,rfl⟩;have xR:z.ch.length=x.ch.length+3:=by rw[tu];simp;omega
       refine s8.mk (s:=DI) (c.toNat%16) (ah0 c.toNat ao) (by show _<16;omega) ?_;rw[Wo];refine a8.mk (z.M b) [] _ am (pC b bg (zs (c.toNat%16)) Z) ?_;rintro v I' M' -⟨rfl,rfl,u,hu,xS,rfl⟩;refine⟨_,_,.refl,rfl,u,hu,?_,am⟩;rw[xS,tu,gX,other (by rw[bD];exact cG)];simp
     ·refine a8.mk (x.M b) [] _ am (pC b ab 92 Z) ?_;rintro v I' M' -⟨rfl,rfl,y,aG,gX,rfl⟩;refine a8.mk (y.M b) [] _ am (pC b aG c as') ?_;rintro v I' M' -⟨rfl,rfl,z,bg,tu,rfl⟩;refine⟨_,_,.refl,rfl,z,bg,?_,am⟩;rw[tu,gX,two I' (by rw[bD];rfl)];simp
def nz(n:Nat):List UInt8:=bif Nat.blt n 10 then [UInt8.ofNat (48+n)]else [UInt8.ofNat (48+n/10),UInt8.ofNat (48+n%10)]
def zt(n:Nat):ByteArray:=⟨(nz n).toArray⟩
def Wp:ByteArray:=⟨((List.range 10).map (λn=>UInt8.ofNat (48+n))++(List.range 26).map (λn=>UInt8.ofNat (97+n))).toArray⟩
def Wq:ByteArray:=⟨((List.range 100).flatMap λn=>[UInt8.ofNat (48+n/10),UInt8.ofNat (48+n%10)]).toArray⟩
def ah2:∀ n:Fin 10,(Wp.extract n.val (n.val+1)).data.toList=nz n.val:=by decide +kernel
def ah3:∀ n:Fin 100,10<=n.val->(Wq.extract (n.val*2) (n.val*2+2)).data.toList=nz n.val:=by decide +kernel
def DJ{a b:ByteArray}(h:a.data.toList=b.data.toList):a=b:=xL (lH h)
def GQ(n:Nat):(nz n).length<=2:=by
 unfold nz;cases Nat.blt n 10<;>simp
def ah4(n:Nat)(aC:n<100):Spec Tryz.prog 427 [.int .i64 n] I [] λr I' M'=>r=.string (zt n)/\I'=I/\M'=[]:=by
 refine bU [] a0 Tryz.func427 rfl rfl rfl ?_;intro B ax;refine aZ.mk (λh=>?_) (λh=>?_)
 ·have a1:n<10:=by simp at h;omega
  refine be.mk ((n+1:Nat):Int) f8 ?_;refine kY.mk n (n+1) rfl rfl Z (by show _<=36;omega) ?_;refine⟨_,_,.refl,?_,rfl,rfl⟩;have:Wp.extract n (n+1)=zt n:=DJ (ah2 ⟨n,a1⟩);rw[<-this];rfl
 ·have cV:10<=n:=by simp at h;omega
  refine be.mk ((n*2:Nat):Int) f8 ?_;refine be.mk ((n*2:Nat):Int) f8 ?_;refine be.mk ((n*2+2:Nat):Int) f8 ?_;refine kY.mk (n*2) (n*2+2) rfl rfl Z (by show _<=200;omega) ?_;refine⟨_,_,.refl,?_,rfl,rfl⟩;have:Wq.extract (n*2) (n*2+2)=zt n:=DJ (ah3 ⟨n,aC⟩ cV);rw[<-this];rfl
def ah5(n:Nat)(aC:n<100):Spec Tryz.prog 425 [.int .i64 n,.int .i64 10] I [] λr I' M'=>r=.string (zt n)/\I'=I/\M'=[]:=by refine bU [] a0 Tryz.func425 rfl rfl rfl ?_;intro B ax;refine aZ.mk (λh=>?_) (λh=>ci);refine b5.mk (λh=>?_) (λh=>by simp at h;try omega);refine aZ.mk (λh=>?_) (λh=>by simp at h;try omega);refine a8.mk [] [] _ (.refl _) (ah4 n aC) ?_;rintro v I' M' -⟨rfl,rfl,rfl⟩;exact⟨_,_,.refl,rfl,rfl,rfl⟩
def ah6(n:Nat)(aC:n<100):Spec Tryz.prog 420 [.int .i64 n] I [] λr I' M'=>r=.string (zt n)/\I'=I/\M'=[]:=by refine bU [] a0 Tryz.func420 rfl rfl rfl ?_;intro B ax;refine a8.mk [] [] _ (.refl _) (ah5 n aC) ?_;rintro v I' M' -⟨rfl,rfl,rfl⟩;exact⟨_,_,.refl,rfl,rfl,rfl⟩
def ah7(n:Nat)(aC:n<100):Spec Tryz.prog 412 [.int .i64 n] I [] λr I' M'=>r=.string (zt n)/\I'=I/\M'=[]:=by refine bU [] a0 Tryz.func412 rfl rfl rfl ?_;intro B ax;refine a8.mk [] [] _ (.refl _) (ah6 n aC) ?_;rintro v I' M' -⟨rfl,rfl,rfl⟩;exact⟨_,_,.refl,rfl,rfl,rfl⟩
def Ku(n:Nat)(aC:n<100):Spec Tryz.prog 398 [.int .i64 n] I [] λr I' M'=>r=.string (zt n)/\I'=I/\M'=[]:=by refine bU [] a0 Tryz.func398 rfl rfl rfl ?_;intro B ax;refine a8.mk [] [] _ (.refl _) (ah7 n aC) ?_;rintro v I' M' -⟨rfl,rfl,rfl⟩;exact⟨_,_,.refl,rfl,rfl,rfl⟩
def ht(node kid:Int):Bool:=
 bif decide (node=5)then decide (kid=5)else
 bif decide (node=4)||(decide (node=7)||decide (node=8))then decide (kid=4)||decide (kid=5)else
 bif decide (node=6)then decide (kid=4)||(decide (kid=5)||(decide (kid=6)||(decide (kid=7)||decide (kid=8))))else false
def O1(a b:Int):Spec Tryz.prog 363 [.int .u8 a,.int .u8 b] I [] λr I' M'=>r=.bool (ht a b)/\I'=I/\M'=[]:=by
 refine bU [] a0 Tryz.func363 rfl rfl rfl ?_;intro B ax;refine aZ.mk (λaa=>?_) (λaa=>?_)
 ·refine⟨_,_,.refl,?_,rfl,rfl⟩;simp only[ht,aa];rfl
 ·have two:∀ (I1:aH) (h:(decide (a=4)||(decide (a=7)||decide (a=8)))=true),ht a b=(decide (b=4)||decide (b=5)):=λ_ h=>by simp only[ht,aa,h];rfl
  have O2:(decide (a=4)||(decide (a=7)||decide (a=8)))=true->b5 (decide (b=4)) false (v5 [] I [] λI' M'=>Value.bool (decide (b=5))=.bool (ht a b)/\I'=I/\M'=[]) (v5 [] I [] λI' M'=>Value.bool true=.bool (ht a b)/\I'=I/\M'=[]):=λh=>by
   refine b5.mk (λaJ=>?_) (λaJ=>?_);·refine⟨_,_,.refl,?_,rfl,rfl⟩;rw[two I h,aJ];rfl
   ·refine⟨_,_,.refl,?_,rfl,rfl⟩;rw[two I h,aJ];rfl
  refine aZ.mk (λad=>?_) (λad=>?_);·refine aZ.mk (λ_=>?_) (λh=>by rw[ad]at h;cases h);exact O2 (by rw[ad];rfl)
  ·refine aZ.mk (λaj=>?_) (λaj=>?_)
   ·refine aZ.mk (λ_=>?_) (λh=>by rw[aj]at h;cases h);exact O2 (by rw[aj];simp)
   ·refine aZ.mk (λaJ=>?_) (λaJ=>?_)
    ·exact O2 (by rw[aJ];simp)
    ·have hw:ht a b=(bif decide (a=6)then decide (b=4)||(decide (b=5)||(decide (b=6)||(decide (b=7)||decide (b=8))))else false):=by simp only[ht,aa,ad,aj,aJ];rfl
     refine aZ.mk (λbD=>?_) (λbD=>?_)
     ·rw[bD]at hw;simp only[cF]at hw;refine b5.mk (λeQ=>?_) (λeQ=>?_)
      ·refine b5.mk (λcZ=>?_) (λcZ=>?_)
       ·refine b5.mk (λhq=>?_) (λhq=>?_)
        ·refine b5.mk (λnA=>?_) (λnA=>?_)
         ·refine⟨_,_,.refl,?_,rfl,rfl⟩;rw[hw,eQ,cZ,hq,nA];rfl
         ·refine⟨_,_,.refl,?_,rfl,rfl⟩;rw[hw,eQ,cZ,hq,nA];rfl
        ·refine⟨_,_,.refl,?_,rfl,rfl⟩;rw[hw,eQ,cZ,hq];rfl
       ·refine⟨_,_,.refl,?_,rfl,rfl⟩;rw[hw,eQ,cZ];rfl
      ·refine⟨_,_,.refl,?_,rfl,rfl⟩;rw[hw,eQ];rfl
     ·refine⟨_,_,.refl,?_,rfl,rfl⟩;rw[hw,bD];rfl
def wrap_u64(x:Int):ga (IntKind.u64.wrap x):=by unfold IntKind.wrap ga;simp only[IntKind.bits,IntKind.signed];simp;omega
def wrap_u8(x:Int):0<=IntKind.u8.wrap x/\IntKind.u8.wrap x<256:=by unfold IntKind.wrap;simp only[IntKind.bits,IntKind.signed];simp;omega
def Wr{x:Int}(h:ga x):IntKind.u64.wrap x=x:=by obtain⟨aa,ad⟩:=h;unfold IntKind.wrap;simp only[IntKind.bits,IntKind.signed];simp;omega
def sy(I:aH)(ay:List Int):Prop:=ay.length=64/\(∀ x∈ay,0<=x/\x<256)/\∃ T an,I 4=some (.cells (ay.map (Value.int .u8)).toArray T an)
def sy.rd(h:sy I ay)(M:List aA)(ah:j<64):c6 I M (Addr.add ⟨4,0,none⟩ (j*1)) 1 [.int .u8 (ay.getD j 0)]:=by
 obtain⟨az,_,T,an,h⟩:=h;rw[eM _ rfl];refine⟨rfl,_,T,an,.inl h,?_,rfl⟩;have aa:j<(ay.map (Value.int .u8)).length:=by simp[az,ah]
 have ad:j<ay.length:=by omega
 simp only[dn,gM];rw[e2 aa,rf,qi];simp[bT,ad]
def sy.at(h:sy I ay)(j:Nat):0<=ay.getD j 0/\ay.getD j 0<256:=by
 rw[bT];by_cases ah:j<ay.length
 ·rw[dy ah];exact h.2.1 _ (bK ah)
 ·simp[ah]
def GR(x y:Int):Int:=IntKind.u64.wrap (BitVec.ofInt 64 x &&& BitVec.ofInt 64 y).toNat
def tv(x:Int):Int:=IntKind.u64.wrap (GR x (IntKind.u64.wrap (0-x))*285870213051353865)
def uO(ay:List Int)(x:Int):Int:=bif decide (x=0)then 64 else ay.getD ((tv x).toNat/2^58) 0
def ah8(h:sy I ay)(x:Int):0<=uO ay x/\uO ay x<256:=by
 unfold uO;cases decide (x=0)
 ·exact h.at _
 ·simp
def ah9(ag:sy I ay)(x:Int):Spec Tryz.prog 419 [.int .u64 x] I [] λr I' M'=>r=.int .i64 (uO ay x)/\I'=I/\M'=[]:=by
 refine bU [] a0 Tryz.func419 rfl rfl rfl ?_;intro B ax;refine aZ.mk (λh=>?_) (λh=>?_)
 ·refine⟨_,_,.refl,?_,rfl,rfl⟩;simp only[uO,h];rfl
 ·have a7:=wrap_u64 (GR x (IntKind.u64.wrap (0-x))*285870213051353865);refine be.mk _ rfl ?_;refine be.mk (tv x) rfl ?_;refine sc.mk 58 rfl ?_;have aK:((2:Int)^(min 58 IntKind.u64.bits))=2^58:=by decide
  rw[aK];obtain⟨DK,DL⟩:=a7;have ba:(tv x).fdiv (2^58)=(((tv x).toNat/2^58:Nat):Int):=by rw[Kf _ bv];have:tv x=((tv x).toNat:Int):=(zf DK).symm;omega
  rw[ba];have ah:(tv x).toNat/2^58<64:=by have:tv x<18446744073709551616:=DL;omega
  refine cw.mk ((tv x).toNat/2^58) rfl ah ?_;refine aU.mk [.int .u8 (ay.getD ((tv x).toNat/2^58) 0)] (ag.rd _ ah) ?_;have ai:=ag.at ((tv x).toNat/2^58);refine be.mk (ay.getD ((tv x).toNat/2^58) 0) (wrap_i64 ⟨Z,Z⟩) ?_;refine⟨_,_,.refl,?_,rfl,rfl⟩;simp only[uO,h];rfl
def aia(a b c d:Int):Nat->List Value
 |0=>[.int .u64 (a),.int .u64 (b),.int .u64 (c),.int .u64 (d)]| 1=>[.int .u64 (js a),.int .u64 (b),.int .u64 (c),.int .u64 (d)]| 2=>[.int .u64 (js a),.int .u64 (js b),.int .u64 (c),.int .u64 (d)]| 3=>[.int .u64 (js a),.int .u64 (js b),.int .u64 (js c),.int .u64 (d)]| _=>[.int .u64 (js a),.int .u64 (js b),.int .u64 (js c),.int .u64 (js d)]
def aib(a b c d:Int):Spec Tryz.prog 406 [.agg #[.int .u64 a,.int .u64 b,.int .u64 c,.int .u64 d]] I [] λr I' M'=>r=.agg #[.int .u64 (js a),.int .u64 (js b),.int .u64 (js c),.int .u64 (js d)]/\I'=I/\M'=[]:=by
 refine bU [] a0 Tryz.func406 rfl rfl rfl ?_;intro B ax;refine du.inv (ι:=Nat) (λi=>{ bp:=[(1,.ref 1 0),(2,.ref 2 0),(5,.val (.agg #[.int .u64 a,.int .u64 b,.int .u64 c,.int .u64 d])),(6,.val (.int .i64 i))],cl:=[(1,aia a b c d i),(2,[.int .u64 0,.int .u64 0,.int .u64 0,.int .u64 0])],cO:=I }) (λi=>i<=4) (λi=>4-i) ?_ ?_
 ·exact⟨0,am,.refl,dM,.cons rfl (.cons rfl .nil)⟩
 ·intro i hi
  match i,hi with
  |0,_=>refine aZ.mk (λ_=>?_) (λh=>d7);refine cw.mk 0 rfl bv ?_;refine bC.GN rfl am rfl ?_;refine cw.mk 0 rfl bv ?_;refine be.mk 1 bv ?_;exact⟨1,⟨am,am⟩,.refl,dM,.cons rfl (.cons rfl .nil)⟩| 1,_=>refine aZ.mk (λ_=>?_) (λh=>d7);refine cw.mk 1 rfl bv ?_;refine bC.GN rfl am rfl ?_;refine cw.mk 1 rfl bv ?_;refine be.mk 2 bv ?_;exact⟨2,⟨am,am⟩,.refl,dM,.cons rfl (.cons rfl .nil)⟩| 2,_=>refine aZ.mk (λ_=>?_) (λh=>d7);refine cw.mk 2 rfl bv ?_;refine bC.GN rfl am rfl ?_;refine cw.mk 2 rfl bv ?_;refine be.mk 3 bv ?_;exact⟨3,⟨am,am⟩,.refl,dM,.cons rfl (.cons rfl .nil)⟩| 3,_=>refine aZ.mk (λ_=>?_) (λh=>d7);refine cw.mk 3 rfl bv ?_;refine bC.GN rfl am rfl ?_;refine cw.mk 3 rfl bv ?_;refine be.mk 4 bv ?_;exact⟨4,⟨am,am⟩,.refl,dM,.cons rfl (.cons rfl .nil)⟩| 4,_=>refine aZ.mk (λh=>d7) (λ_=>?_);exact⟨_,_,.refl,rfl,rfl,rfl⟩
def aic:Spec Tryz.prog 387 [] I [] λr I' M'=>r=.agg #[.int .u64 (js 0),.int .u64 (js 0),.int .u64 (js 0),.int .u64 (js 0)]/\I'=I/\M'=[]:=by refine bU [] a0 Tryz.func387 rfl rfl rfl ?_;intro B ax;refine a8.mk [] [] _ (.refl _) (aib 0 0 0 0) ?_;rintro v I' M' -⟨rfl,rfl,rfl⟩;exact⟨_,_,.refl,rfl,rfl,rfl⟩
def mg(I:aH)(b:Nat)(o:Obj):ins I b o b=some o:=by simp[ins]
def j0(ag:I b=none):∀ c p,I c=some p->ins I b o c=some p:=by
 intro c p h;unfold ins;cases e:Nat.beq c b with
 |false=>exact h| true=>have:=ea e;subst this;rw[ag]at h;cases h
def aid{x y:Int}(ab:ga x)(aG:ga y):GR x y=((x.toNat &&& y.toNat:Nat):Int):=by
 obtain⟨x,rfl⟩:=eh ab.1;obtain⟨y,rfl⟩:=eh aG.1;have aa:x<18446744073709551616:=by have:=ab.2;omega
 have ad:y<18446744073709551616:=by have:=aG.2;omega
 have e:∀ z:Nat,z<18446744073709551616->(BitVec.ofInt 64 (z:Int)).toNat=z:=λz bg=>by rw[BitVec.toNat_ofInt];omega
 unfold GR;rw[Kh,e x aa,e y ad,Wr]
 ·simp
 ·have:=Nat.and_le_left (n:=x) (m:=y);exact⟨Z,Z⟩
def zu(x:Int):Int:=GR x (IntKind.u64.wrap (x-1))
def BB(n:Nat):Nat:=((List.range 64).filter n.testBit).length
def aie(n:Nat):BB n<=64:=by have:=Kg n.testBit (List.range 64);simpa[BB]using this
theorem aif{x:Int}(ab:ga x)(ax:x≠0):ga (zu x)/\BB (zu x).toNat<BB x.toNat:=by
 obtain⟨n,rfl⟩:=eh ab.1;have aa:n<18446744073709551616:=by have:=ab.2;omega
 have lK:0<n:=by omega
 have av:ga ((n:Int)-1):=⟨Z,Z⟩;have e:zu (n:Int)=((n &&& (n-1):Nat):Int):=by unfold zu;rw[Wr av,aid ab av];congr 2;omega
 have bn:n &&& (n-1)<=n-1:=Nat.and_le_right;refine⟨by rw[e];exact⟨Z,Z⟩,?_⟩;rw[e];simp only[hC];unfold BB;have j1:List.Sublist ((List.range 64).filter (n &&& (n-1)).testBit) ((List.range 64).filter n.testBit):=by
  have:(List.range 64).filter (n &&& (n-1)).testBit=((List.range 64).filter n.testBit).filter (n-1).testBit:=by rw[List.filter_filter];congr 1;funext i;rw[Nat.testBit_and,Bool.and_comm]
  rw[this];exact zg
 rcases Nat.lt_or_eq_of_le j1.length_le with h | h
 ·exact h
 ·exfalso;have BC:=j1.eq_of_length h;have:n &&& (n-1)=n:=by
   apply Nat.eq_of_testBit_eq;intro i;by_cases hi:i<64
   ·have hm:i∈(List.range 64).filter (n &&& (n-1)).testBit ↔ i∈(List.range 64).filter n.testBit:=by rw[BC]
    simp only[nV,j9,hi,true_and]at hm;cases aa:(n &&& (n-1)).testBit i<;>cases ad:n.testBit i<;>simp_all
   ·have ad:2^64<=2^i:=Nat.pow_le_pow_right Z Z;rw[Nat.testBit_lt_two_pow Z,Nat.testBit_lt_two_pow Z]
  omega
def byteOf(ay:List Int)(i:Nat)(w:Int):UInt8:=UInt8.ofNat (IntKind.u8.wrap ((i:Int)*64+uO ay w)).toNat
def aih(ay:List Int)(i:Nat)(w:Int):((byteOf ay i w).toNat:Int)=IntKind.u8.wrap ((i:Int)*64+uO ay w):=by have:=wrap_u8 ((i:Int)*64+uO ay w);unfold byteOf;rw[UInt8.toNat_ofNat'];omega
def uP(ay:List Int)(i:Nat):Nat->Int->List UInt8
 |0,_=>[]| f+1,w=>bif decide (w=0)then []else byteOf ay i w::uP ay i f (zu w)
def iY(ay:List Int):Nat->List Int->List UInt8
 |_,[]=>[]| i,w::ws=>uP ay i 64 w++iY ay (i+1) ws
def Ws(ay:List Int)(i:Nat):∀ f w,(uP ay i f w).length<=f
 |0,_=>by simp[uP]
 |f+1,w=>by
  unfold uP;have:=Ws ay i f (zu w);cases decide (w=0)<;>simp
  exact this
def O3(ay:List Int):∀ ws i,(iY ay i ws).length<=64*ws.length
 |[],_=>by simp[iY]
 |w::ws,i=>by have aa:=Ws ay i 64 w;have ad:=O3 ay ws (i+1);simp only[iY,cn,ep];omega
def tw(l:List UInt8):List (List Value):=l.map λc=>[.int .u8 c.toNat]
def DM(a b c d:Int):List Value:=[.int .u64 a,.int .u64 b,.int .u64 c,.int .u64 d]
def aii(a b c d:Int):Spec Tryz.prog 411 [.agg #[.int .u64 a,.int .u64 b,.int .u64 c,.int .u64 d]] I [] λr I' M'=>∃ g,r=.func (.func 418) #[] #[ptr g]/\I' g=some (.cells (DM a b c d).toArray 36 (0,0))/\(∀ b o,I b=some o->I' b=some o)/\M'=[]:=by refine bU [1] a0 Tryz.func411 rfl rfl rfl ?_;intro B ax;refine bQ.mk λg aw DH=>?_;exact⟨_,_,.kZ rfl am .refl,g,rfl,mg ..,j0 aw,rfl⟩
def aij(BD:sy I ay){a b c d:Int}(zv:∀ x∈[a,b,c,d],ga x)(aw:I g=some (.cells (DM a b c d).toArray 36 (0,0))) :
  Iter Tryz.prog 418 [ptr g] I (tw (iY ay 0 [a,b,c,d])):=by
 intro l R k7 rq dA M0 nB h9;refine Bf [] a0 Tryz.func418 rfl rfl rfl ?_;intro B ax;have bo:∀ (I1:aH) (M:List aA),(∀ b o,I b=some o->I1 b=some o)->c6 I1 M ⟨g,0,none⟩ 4 (DM a b c d):=λI1 M h=>⟨rfl,_,_,_,.inl (h _ _ aw),rfl,rfl⟩;refine aU.mk _ (bo _ _ nB) ?_;refine du.inv (ι:=Nat×Nat×aH×List aA) (λx=>{ bp:=[(0,.val (.func (.yield l) #[] #[])),(5,.val (.agg (DM a b c d).toArray)),(6,.val (.int .i64 x.1))],cO:=x.2.2.1,c5:=x.2.2.2 }) (λx=>x.1<=4/\(∀ b o,I b=some o->x.2.2.1 b=some o)/\R x.2.1 x.2.2.1 x.2.2.2/\x.2.1<=(iY ay 0 [a,b,c,d]).length/\(iY ay 0 [a,b,c,d]).drop x.2.1=iY ay x.1 ([a,b,c,d].drop x.1)) (λx=>4-x.1) ?_ ?_
 ·exact⟨(0,0,dA,M0),⟨am,nB,h9,am,rfl⟩,.refl,fQ,.nil⟩
 ·rintro⟨i,k,I1,M1⟩⟨hi,c8,hU,c4,iF⟩;simp only at hi c8 hU c4 iF;refine aZ.mk (λh=>?_) (λh=>?_)
  ·have a1:i<4:=by simp at h;omega
   have cI:i < [a,b,c,d].length:=a1;refine cw.mk i rfl a1 ?_;have DN:pack false ((((DM a b c d).toArray).toList.drop (i*1)).take 1)=.int .u64 [a,b,c,d][i]:=by
    match i,a1 with
    |0,_=>rfl| 1,_=>rfl| 2,_=>rfl| 3,_=>rfl
   have lQ:[a,b,c,d].drop i=[a,b,c,d][i]::[a,b,c,d].drop (i+1):=e2 cI;refine du.inv (ι:=Int×Nat×Nat×aH×List aA) (λx=>{ bp:=[(0,.val (.func (.yield l) #[] #[])),(3,.val (.int .i64 i)),(4,.val (.int .u64 x.1)),(5,.val (.agg (DM a b c d).toArray)),(6,.val (.int .i64 i))],cO:=x.2.2.2.1,c5:=x.2.2.2.2 }) (λx=>ga x.1/\BB x.1.toNat<=x.2.1/\(∀ b o,I b=some o->x.2.2.2.1 b=some o)/\R x.2.2.1 x.2.2.2.1 x.2.2.2.2/\x.2.2.1<=(iY ay 0 [a,b,c,d]).length/\(iY ay 0 [a,b,c,d]).drop x.2.2.1=uP ay i x.2.1 x.1++iY ay (i+1) ([a,b,c,d].drop (i+1))) (λx=>BB x.1.toNat) ?_ ?_
   ·refine⟨([a,b,c,d][i],64,k,I1,M1),⟨zv _ (bK cI),aie _,c8,hU,c4,?_⟩,.refl,.cons .refl (.cons .refl (.cons ?_ (xG))),.nil⟩
    ·simp only;rw[iF,lQ];rfl
    ·simp only;rw[<-DN];exact .refl
   ·rintro⟨w,f,k,I1,M1⟩⟨hw,aE,c8,hU,c4,iF⟩;simp only at hw aE c8 hU c4 iF;refine aZ.mk (λh=>?_) (λh=>?_)
    ·have pD:w≠0:=by simpa using h
     obtain⟨tx,ld⟩:=aif hw pD;obtain⟨f,rfl⟩:∃ xT,f=xT+1:=⟨f-1,Z⟩;have ag:uP ay i (f+1) w=byteOf ay i w::uP ay i f (zu w):=by simp[uP,pD]
     rw[ag,pz]at iF;have ae:k<(iY ay 0 [a,b,c,d]).length:=by apply Nat.lt_of_not_le;intro bn;rw[mc bn]at iF;cases iF
     have gm:=e2 ae;rw[iF]at gm;obtain⟨tz,eU⟩:=List.cons.inj gm;have hJ:k<(tw (iY ay 0 [a,b,c,d])).length:=by simpa[tw]using ae
     have ak:(tw (iY ay 0 [a,b,c,d]))[k]=[.int .u8 (IntKind.u8.wrap ((i:Int)*64+uO ay w))]:=by simp only[tw,gh,<-tz,aih]
     have Wt:sy I1 ay:=by obtain⟨eg,eV,T,an,e0⟩:=BD;exact⟨eg,eV,T,an,c8 _ _ e0⟩
     have awK:=ah8 Wt w;refine be.mk ((i:Int)*64) (wrap_i64 ⟨Z,Z⟩) ?_;refine a8.mk [] M1 _ (.refl _) (ah9 Wt w) ?_;rintro v I' M' -⟨rfl,rfl,rfl⟩;refine be.mk ((i:Int)*64+uO ay w) (wrap_i64 ⟨Z,Z⟩) ?_;refine be.mk _ rfl ?_;refine bC.yield rfl am rfl rfl ?_;have aG:=rq k hJ I' M1 c8 hU;rw[ak]at aG;refine Br.mk M1 [] _ am aG ?_;rintro v ew dv gq (⟨rfl,mQ⟩ | ⟨rfl,ab⟩);·refine aZ.mk (λh=>d7) (λ_=>?_);refine be.mk _ rfl ?_;exact⟨(zu w,f,k+1,ew,dv),⟨⟨tx,ce,λb o h=>gq b o (c8 b o h),mQ,ae,eU.symm⟩,by simp only;exact ld⟩,.perm am .refl,hh,.nil⟩
     ·refine aZ.mk (λ_=>?_) (λh=>d7);exact⟨_,_,.perm am .refl,.inr ab⟩
    ·have pD:w=0:=by simpa using h
     have gN:IntKind.i64.wrap ((i:Int)+1)=((i+1:Nat):Int):=by rw[wrap_i64 ⟨Z,Z⟩];omega
     refine be.mk _ gN ?_;have ag:uP ay i f w=[]:=by cases f<;>simp[uP,pD]
     rw[ag,hI]at iF;exact⟨(i+1,k,I1,M1),⟨⟨ce,c8,hU,c4,iF⟩,ce⟩,.refl,fQ,.nil⟩
  ·have k3:i=4:=by simp at h;omega
   subst k3;refine⟨_,_,.refl,.inl ?_⟩;have nq:(iY ay 0 [a,b,c,d]).drop k=[]:=by rw[iF];rfl
   have uQ:k=(tw (iY ay 0 [a,b,c,d])).length:=by have:=GA.1 nq;simp only[tw,bB];omega
   rw[<-uQ];exact hU
def uR(l:List (UInt8×UInt8))(b:UInt8):List (UInt8×UInt8):=match l.getLast? with
 |some p=>bif decide ((p.2.toNat:Int)+1=b.toNat)then l.dropLast++[(p.1,b)]else l++[(b,b)]| none=>[(b,b)]
def pE(l:List UInt8):List (UInt8×UInt8):=l.foldl uR []
def j2(p:UInt8×UInt8):List Value:=[.int .u8 p.1.toNat,.int .u8 p.2.toNat]
def pF(l:List (UInt8×UInt8)):List Value:=l.flatMap j2
def Kv(l:List (UInt8×UInt8)):(pF l).length=l.length*2:=hc j2 2 (λ_=>rfl) l
def aik(l:List (UInt8×UInt8))(b:UInt8):(uR l b).length<=l.length+1:=by
 unfold uR;split
 ·rename_i p h;cases decide ((p.2.toNat:Int)+1=b.toNat)<;>simp
 ·simp
def Wu(l:List UInt8):(pE l).length<=l.length:=by
 have:∀ (l:List UInt8) (a5:List (UInt8×UInt8)),(l.foldl uR a5).length<=a5.length+l.length:=by
  intro l
  induction l with
  |nil=>intro a5;simp| cons b l aQ=>intro a5;have aa:=aQ (uR a5 b);have ad:=aik a5 b;simp only[kt,ep];omega
 simpa[pE]using this l []
def zw:((⟨b,0,none⟩:Addr).add i).add j=(⟨b,0,none⟩:Addr).add (i+j):=by rw[eM ⟨_,0,none⟩ rfl i,eM _ rfl j,eM _ rfl (i+j)];simp
def nC{M:List aA}{cs:List Value}(bc:(⟨b,.cells cs.toArray T (0,0)⟩:aA)∈M)(h:cs[i+j]?=some v):c6 I M (((⟨b,0,none⟩:Addr).add i).add j) 1 [v]:=by obtain⟨az,rfl⟩:=iP.1 h;have:=dm (I:=I) bc (k:=i+j) (n:=1) Z;rw[e2 az,rf,qi]at this;rw[zw];exact this
def Wv(a9:List Value)(u v z:Value)(bm:List Value)(k:Nat)(ae:k=a9.length+1):cd (a9++([u,v]++bm)) k [z]=a9++([u,z]++bm):=by
 subst ae;unfold cd;have aK:(a9++([u,v]++bm)).take (a9.length+1)=a9++[u]:=by rw[show a9++([u,v]++bm)=(a9++[u])++(v::bm)from by simp];exact st am
 have ba:(a9++([u,v]++bm)).drop (a9.length+1+[z].length)=bm:=by rw[show a9++([u,v]++bm)=(a9++[u,v])++bm from by simp];exact GB am
 rw[aK,ba];simp
def O4{os:aT}{bb:List (UInt8×UInt8)}{x:UInt8}(b3:os.ok 2 (pF bb)){aS:List Value}(aa:aS.length=c*2)(ad:os.n+1<=c)(aj:c<=maxLen)(aJ:aS.take ((os.n+1)*2)=pF bb++j2 (x,x)) :
  aT.ok ⟨some g,os.n+1,c,aS⟩ 2 (pF (bb++[(x,x)])):=by
 have xU:pF (bb++[(x,x)])=pF bb++j2 (x,x):=by simp[pF]
 have az:=b3.len;refine⟨?_,(λh=>ci),λbW sA=>⟨aa,ad,aj,by rw[xU];exact aJ⟩⟩;rw[xU,cn,az];simp[j2];omega
def ail(l:List UInt8)(x:UInt8):pE (l++[x])=uR (pE l) x:=by simp[pE]
def aim(BD:sy I ay){a b c d:Int}(zv:∀ x∈[a,b,c,d],ga x):Spec Tryz.prog 397 [.agg #[.int .u64 a,.int .u64 b,.int .u64 c,.int .u64 d]] I []
  λr I' M'=>(∀ b o,I b=some o->I' b=some o)/\∃ os:aT,r=os.val/\os.ok 2 (pF (pE (iY ay 0 [a,b,c,d])))/\M'=os.ar 404:=by
 refine bU [3] a0 Tryz.func397 rfl rfl rfl ?_;intro B ax;refine bQ.mk λg aw DH=>?_;refine a8.mk [] [⟨g,.cells #[.slice none 0 0] 402 (0,0)⟩] _ (.refl _) (aii a b c d) ?_;rintro v I1 M1 -⟨a',rfl,tA,c8,rfl⟩;have ain:sy I1 ay:=by obtain⟨eg,eV,T,an,e0⟩:=BD;exact⟨eg,eV,T,an,c8 _ _ e0⟩
 have bZ:=O3 ay [a,b,c,d] 0;refine cY.range a0 rfl rfl rfl .refl (aij ain zv tA) (λvs h=>?_) (λk I' M'=>(∀ b o,I1 b=some o->I' b=some o)/\∃ os:aT,os.ok 2 (pF (pE ((iY ay 0 [a,b,c,d]).take k)))/\M'=⟨g,.cells #[os.val] 402 (0,0)⟩::os.ar 404) (λ_ _ _=>False) ⟨λ_ _ h=>h,⟨none,0,0,[]⟩,⟨rfl,λ_=>⟨rfl,rfl⟩,λg h=>ci⟩,rfl⟩ ?_ ?_ (λ_ _ _ _ h=>h.elim)
 ·obtain⟨c,_,rfl⟩:=c3.1 h;rfl
 ·rintro k ae I' M' -⟨kF,os,b3,rfl⟩l B ax iC;have aio:k<(iY ay 0 [a,b,c,d]).length:=by simpa[tw]using ae
  generalize awL:iY ay 0 [a,b,c,d]=L at *;generalize ab:L[k]=x;have ak:(tw L)[k]=[.int .u8 x.toNat]:=by simp[tw,ab]
  rw[ak];have mP:pE (L.take (k+1))=uR (pE (L.take k)) x:=by rw[gk aio,ab,ail]
  rw[mP];have eD:(pE (L.take k)).length<=256:=by have aa:=Wu (L.take k);have ad:=Dw k L;simp only[ep,hj]at bZ;omega
  generalize dB:pE (L.take k)=bb at *;have kG:=x.toNat_lt;obtain⟨BE,n,fl,aS⟩:=os;have aC:bb.length=n:=by have:=b3.len;rw[Kv]at this;simp only at this;omega
  cases BE with
  |none=>
   obtain⟨aK,ba⟩:=b3.nil rfl;simp only at aK ba;subst aK;subst ba;have rp:bb=[]:=im aC;have iG:uR bb x=bb++[(x,x)]:=by rw[rp];rfl
   refine aU.mk [.slice none 0 0] (dm (cs:=[.slice none 0 0]) (k:=0) (n:=1) (T:=402) (.head _) am) ?_;refine be.mk (-1) bv ?_;refine b5.mk (λh=>d7) (λ_=>?_);refine aU.mk [.slice none 0 0] (dm (cs:=[.slice none 0 0]) (k:=0) (n:=1) (T:=402) (.head _) am) ?_;refine bQ.mk λbh mS Ww=>?_;refine bC.append a0 rfl am (e:=404) rfl rfl rfl (⟨none,0,0,aS⟩:aT) b3 rfl (m:=1) rfl (b8:=j2 (x,x)) bv (dm (cs:=j2 (x,x)) (k:=0) (n:=2) (T:=404) (.head _) (by simp[j2])) rfl (Mr:=[⟨bh,.cells (j2 (x,x)).toArray 404 (0,0)⟩,⟨g,.cells #[.slice none 0 0] 402 (0,0)⟩]) (eN (l₁:=[_,_])) rt aa' ?_;intro ei c' j3 eg eV e0 iZ;refine b4.mk [⟨ei,.cells j3.toArray 404 (0,0)⟩,⟨bh,.cells (j2 (x,x)).toArray 404 (0,0)⟩] [] _ _ rfl rfl (bJ rfl) rfl ?_;refine⟨_,_,.perm (M1:=[⟨bh,.cells (j2 (x,x)).toArray 404 (0,0)⟩]++(⟨g,.cells #[aT.val ⟨some ei,(⟨none,0,0,aS⟩:aT).n+1,c',j3⟩] 402 (0,0)⟩::aT.ar ⟨some ei,(⟨none,0,0,aS⟩:aT).n+1,c',j3⟩ 404)) (eN (l₁:=[_]) (l₂:=[_,_])) (.sub (mL _ _) .refl),kF,⟨some ei,(⟨none,0,0,aS⟩:aT).n+1,c',j3⟩,?_,rfl⟩;rw[iG];exact O4 b3 eg eV e0 iZ
  |some c0=>
   obtain⟨dp,mO,lP,ej⟩:=b3.cap c0 rfl;simp only at dp mO lP ej;refine aU.mk [.slice (some ⟨c0,0,none⟩) n fl] (dm (cs:=[.slice (some ⟨c0,0,none⟩) n fl]) (k:=0) (n:=1) (T:=402) (.head _) am) ?_;refine be.mk ((n:Int)-1) (wrap_i64 ⟨Z,Z⟩) ?_;refine b5.mk (λaa=>?_) (λaa=>?_)
   ·have lK:1<=n:=by simp at aa;omega
    obtain⟨uS,p,rfl⟩:∃ uS p,bb=uS++[p]:=by
     rcases ze bb with h | ⟨r,p,h⟩;·subst h;simp at aC;omega
     ·exact⟨r,p,i5⟩
    have sv:uS.length=n-1:=by simp at aC;omega
    have gx:(pF uS).length=(n-1)*2:=by rw[Kv,sv]
    obtain⟨bm,nD⟩:∃ bm,aS=pF uS++([.int .u8 p.1.toNat,.int .u8 p.2.toNat]++bm):=by refine⟨aS.drop (n*2),?_⟩;have ad:=px (n*2) aS;rw[ej]at ad;rw[<-ad,GB (by rw[Kv,aC])];simp[pF,j2]
    have eS:aS[(n-1)*2+1*1]?=some (.int .u8 p.2.toNat):=by rw[nD,<-gx,lO Z];simp
    have rr:=p.2.toNat_lt;refine aU.mk [.slice (some ⟨c0,0,none⟩) n fl] (dm (cs:=[.slice (some ⟨c0,0,none⟩) n fl]) (k:=0) (n:=1) (T:=402) (.head _) am) ?_;refine bt.mk ⟨c0,0,none⟩ (n-1) rfl Z Z ?_;refine cw.mk 1 rfl bv ?_;refine aU.mk [.int .u8 p.2.toNat] (nC (b:=c0) (cs:=aS) (T:=404) gc eS) ?_;refine be.mk (p.2.toNat:Int) (wrap_i64 ⟨Z,Z⟩) ?_;refine be.mk ((p.2.toNat:Int)+1) (wrap_i64 ⟨Z,Z⟩) ?_;refine be.mk (x.toNat:Int) (wrap_i64 ⟨Z,Z⟩) ?_;have iG:uR (uS++[p]) x=bif decide ((p.2.toNat:Int)+1=x.toNat)then uS++[(p.1,x)]else uS++[p]++[(x,x)]:=by simp[uR]
    refine aZ.mk (λad=>?_) (λad=>?_)
    ·rw[ad]at iG;refine aU.mk [.slice (some ⟨c0,0,none⟩) n fl] (dm (cs:=[.slice (some ⟨c0,0,none⟩) n fl]) (k:=0) (n:=1) (T:=402) (.head _) am) ?_;refine bt.mk ⟨c0,0,none⟩ (n-1) rfl Z Z ?_;refine cw.mk 1 rfl bv ?_;rw[zw];refine b4.add [⟨g,.cells #[.slice (some ⟨c0,0,none⟩) n fl] 402 (0,0)⟩] [] aS.toArray _ rfl ?_ rfl ?_
     ·simp only[s5];show 0+((n-1)*2+1)+1<=_;omega
     ·refine⟨_,_,.refl,kF,⟨some c0,n,fl,cd aS (0+((n-1)*2+1*1)) [.int .u8 x.toNat]⟩,?_,rfl⟩;have di:cd aS (0+((n-1)*2+1*1)) [.int .u8 x.toNat]=pF uS++([.int .u8 p.1.toNat,.int .u8 x.toNat]++bm):=by rw[nD];exact Wv _ _ _ _ _ _ Z
      rw[iG,di];have xU:pF (uS++[(p.1,x)])=pF uS++[.int .u8 p.1.toNat,.int .u8 x.toNat]:=by simp[pF,j2]
      refine⟨?_,(λh=>ci),λbW sA=>⟨?_,mO,lP,?_⟩⟩;·simp only[cF];rw[xU,cn,gx];simp;omega
      ·simp only;rw[<-dp,nD];simp
      ·simp only[cF];rw[xU,<-dW];refine st ?_;rw[cn,gx];simp;omega
    ·rw[ad]at iG;simp only[cD]at iG;refine aU.mk [.slice (some ⟨c0,0,none⟩) n fl] (dm (cs:=[.slice (some ⟨c0,0,none⟩) n fl]) (k:=0) (n:=1) (T:=402) (.head _) am) ?_;refine bQ.mk λbh mS Ww=>?_;refine bC.append a0 rfl am (e:=404) rfl rfl rfl (⟨some c0,n,fl,aS⟩:aT) b3 rfl (m:=1) rfl (b8:=j2 (x,x)) bv (dm (cs:=j2 (x,x)) (k:=0) (n:=2) (T:=404) (.head _) (by simp[j2])) rfl (Mr:=[⟨bh,.cells (j2 (x,x)).toArray 404 (0,0)⟩,⟨g,.cells #[.slice (some ⟨c0,0,none⟩) n fl] 402 (0,0)⟩]) (eN (l₁:=[_,_])) rt aa' ?_;intro ei c' j3 eg eV e0 iZ;refine b4.mk [⟨ei,.cells j3.toArray 404 (0,0)⟩,⟨bh,.cells (j2 (x,x)).toArray 404 (0,0)⟩] [] _ _ rfl rfl (bJ rfl) rfl ?_;refine⟨_,_,.perm (M1:=[⟨bh,.cells (j2 (x,x)).toArray 404 (0,0)⟩]++(⟨g,.cells #[aT.val ⟨some ei,(⟨some c0,n,fl,aS⟩:aT).n+1,c',j3⟩] 402 (0,0)⟩::aT.ar ⟨some ei,(⟨some c0,n,fl,aS⟩:aT).n+1,c',j3⟩ 404)) (eN (l₁:=[_]) (l₂:=[_,_])) (.sub (mL _ _) .refl),kF,⟨some ei,(⟨some c0,n,fl,aS⟩:aT).n+1,c',j3⟩,?_,rfl⟩;rw[iG];exact O4 b3 eg eV e0 iZ
   ·have sv:n=0:=by simp at aa;omega
    have rp:bb=[]:=im Z;have iG:uR bb x=bb++[(x,x)]:=by rw[rp];rfl
    refine aU.mk [.slice (some ⟨c0,0,none⟩) n fl] (dm (cs:=[.slice (some ⟨c0,0,none⟩) n fl]) (k:=0) (n:=1) (T:=402) (.head _) am) ?_;refine bQ.mk λbh mS Ww=>?_;refine bC.append a0 rfl am (e:=404) rfl rfl rfl (⟨some c0,n,fl,aS⟩:aT) b3 rfl (m:=1) rfl (b8:=j2 (x,x)) bv (dm (cs:=j2 (x,x)) (k:=0) (n:=2) (T:=404) (.head _) (by simp[j2])) rfl (Mr:=[⟨bh,.cells (j2 (x,x)).toArray 404 (0,0)⟩,⟨g,.cells #[.slice (some ⟨c0,0,none⟩) n fl] 402 (0,0)⟩]) (eN (l₁:=[_,_])) rt aa' ?_;intro ei c' j3 eg eV e0 iZ;refine b4.mk [⟨ei,.cells j3.toArray 404 (0,0)⟩,⟨bh,.cells (j2 (x,x)).toArray 404 (0,0)⟩] [] _ _ rfl rfl (bJ rfl) rfl ?_;refine⟨_,_,.perm (M1:=[⟨bh,.cells (j2 (x,x)).toArray 404 (0,0)⟩]++(⟨g,.cells #[aT.val ⟨some ei,(⟨some c0,n,fl,aS⟩:aT).n+1,c',j3⟩] 402 (0,0)⟩::aT.ar ⟨some ei,(⟨some c0,n,fl,aS⟩:aT).n+1,c',j3⟩ 404)) (eN (l₁:=[_]) (l₂:=[_,_])) (.sub (mL _ _) .refl),kF,⟨some ei,(⟨some c0,n,fl,aS⟩:aT).n+1,c',j3⟩,?_,rfl⟩;rw[iG];exact O4 b3 eg eV e0 iZ
 ·rintro I' M' -⟨kF,os,b3,rfl⟩;refine aU.mk [os.val] (dm (cs:=[os.val]) (k:=0) (n:=1) (T:=402) (.head _) am) ?_;refine⟨_,_,.sub (wj _ _) .refl,λb o h=>kF _ _ (c8 _ _ h),os,rfl,?_,rfl⟩;have:(iY ay 0 [a,b,c,d]).take (tw (iY ay 0 [a,b,c,d])).length=iY ay 0 [a,b,c,d]:=fD (by simp[tw]);rw[this]at b3;exact b3
def aT.ok.row{M:List aA}{os:aT}{f:α->List Value}(aE:∀ x,(f x).length=size)(ax:0<size){l:List α}(h:os.ok size (l.flatMap f))(bc:∀ x∈os.ar e,x∈M)(ah:j<l.length) :
  ∃ aR,os.a.map (λg=>(⟨g,0,none⟩:Addr))=some aR/\c6 I M (aR.add (j*size)) size (f l[j]):=by
 have aC:l.length=os.n:=by have aa:=h.len;rw[hc f size aE]at aa;exact Nat.eq_of_mul_eq_mul_right ax aa
 cases a7:os.a with
 |none=>have:=(h.nil a7).1;omega
 |some g=>
  obtain⟨aa,ad,aj,aJ⟩:=h.cap g a7;refine⟨⟨g,0,none⟩,rfl,?_⟩;have bn:j*size+size<=os.n*size:=by have:=p' size (show j+1<=os.n by omega);rw[kx,nt]at this;exact this
  have dp:os.n*size<=os.aS.length:=by rw[aa];exact p' _ ad
  have:=dm (I:=I) (M:=M) (b:=g) (T:=e) (cs:=os.aS) (bc _ (by simp[aT.ar,a7])) (k:=j*size) (n:=size) Z;have aK:(os.aS.drop (j*size)).take size=f l[j]:=by rw[<-Bw f size aE l j ah,<-aJ,Dy,zh];congr 1;omega
  rw[aK]at this;exact this
def BF:ByteArray:=⟨#[34]⟩
def zx:ByteArray:=⟨#[93,45,94]⟩
def GS(s:ByteArray):List UInt8:=[34]++s.data.toList.flatMap (oH · BF)++[34]
def strOf(l:List UInt8):ByteArray:=⟨l.toArray⟩
def GU{α β:Type}(f:α->List β)(m:Nat)(aE:∀ x,(f x).length<=m):∀ l:List α,(l.flatMap f).length<=m*l.length
 |[]=>by simp
 |x::l=>by have aa:=GU f m aE l;have ad:=aE x;simp only[iA,cn,ep,Nat.mul_add];omega
def Wx(s:ByteArray)(av:s.size<=1099511627776):Spec Tryz.prog 380 [.string s] I [] λr I' M'=>r=.string (strOf (GS s))/\I'=I/\M'=[]:=by
 refine bU [3] a0 Tryz.func380 rfl rfl rfl ?_;intro B ax;refine bQ.mk λb ag wu=>?_;refine a8.mk (gp.new.M b) [] _ (.refl _) (pC b gp.Kr 34 bv) ?_;rintro v I' M' -⟨rfl,rfl,wh,gd,O5,rfl⟩;refine du.inv (ι:=Nat×gp) (λp=>{ bp:=[(0,.val (.string s)),(3,.val (ptr b)),(4,.val (.int .i64 p.1))],cO:=I',c5:=p.2.M b }) (λp=>p.1<=s.size/\p.2.ok/\p.2.ch=[34]++(s.data.toList.take p.1).flatMap (oH · BF)) (λp=>s.size-p.1) ?_ ?_
 ·exact⟨(0,wh),⟨am,gd,by simp[O5,gp.new]⟩,.perm am .refl,fQ,.nil⟩
 ·rintro⟨i,x⟩⟨hi,ab,kg⟩;simp only at hi ab kg;have cQ:x.ch.length<=1+4*i:=by rw[kg];have:=GU (oH · BF) 4 (λc=>GO c BF) (s.data.toList.take i);have ad:=Dw i s.data.toList;simp only[cn,ep,hj];omega
  refine aZ.mk (λh=>?_) (λh=>?_)
  ·have a1:i<s.size:=by simpa using h
   have cI:i<s.data.toList.length:=a1;refine s8.mk i rfl a1 ?_;refine a8.mk (x.M b) [] _ am (Kt b ab s[i] BF Z) ?_;rintro v I' M' -⟨rfl,y,aG,gX,rfl⟩;have gN:IntKind.i64.wrap ((i:Int)+1)=((i+1:Nat):Int):=by rw[wrap_i64 ⟨Z,Z⟩];omega
   refine be.mk _ gN ?_;refine⟨(i+1,y),⟨⟨ce,aG,?_⟩,ce⟩,.perm am .refl,fQ,.nil⟩;simp only;rw[gX,kg,gk cI,fS,dW];congr 1;simp;rfl
  ·have cV:s.size<=i:=by simpa using h
   have eG:s.data.toList.take i=s.data.toList:=fD cV;refine a8.mk (x.M b) [] _ am (pC b ab 34 Z) ?_;rintro v I' M' -⟨rfl,rfl,y,aG,gX,rfl⟩;refine a8.mk (y.M b) [] _ am (xQ b aG as') ?_;rintro v I' M' -⟨rfl,rfl,rfl⟩;refine⟨_,_,.refl,?_,rfl,am⟩;rw[gX,kg,eG];rfl
def uT(p:UInt8×UInt8):List UInt8:=
 oH p.1 zx++((bif decide (1<IntKind.u8.wrap ((p.2.toNat:Int)-p.1.toNat))then [45]else [])++(bif !decide ((p.2.toNat:Int)=p.1.toNat)then oH p.2 zx else []))
def BG(ay:List Int)(a b c d:Int):List UInt8:=
 bif (a == js 0&&(b == js 0&&(c == js 0&&d == js 0)))then [46]else [91]++(pE (iY ay 0 [a,b,c,d])).flatMap uT++[93]
def Wy(p:UInt8×UInt8):(uT p).length<=9:=by
 have aa:=GO p.1 zx;have ad:=GO p.2 zx;unfold uT;cases decide (1<IntKind.u8.wrap ((p.2.toNat:Int)-p.1.toNat))<;>cases decide ((p.2.toNat:Int)=p.1.toNat)<;>simp<;>omega
def Wz(ay:List Int)(a b c d:Int):(pE (iY ay 0 [a,b,c,d])).length<=256:=by have aa:=O3 ay [a,b,c,d] 0;have ad:=Wu (iY ay 0 [a,b,c,d]);simp only[ep,hj]at aa;omega
def aip(ay:List Int)(a b c d:Int):(BG ay a b c d).length<=2306:=by
 have aa:=Wz ay a b c d;have ad:=GU uT 9 Wy (pE (iY ay 0 [a,b,c,d]));unfold BG;cases(a == js 0&&(b == js 0&&(c == js 0&&d == js 0)))
 ·simp only[cD,cn,ep,hj];omega
 ·simp
def aiq(BD:sy I ay){a b c d:Int}(zv:∀ x∈[a,b,c,d],ga x):Spec Tryz.prog 381 [.agg #[.int .u64 a,.int .u64 b,.int .u64 c,.int .u64 d]] I []
  λr I' M'=>r=.string (strOf (BG ay a b c d))/\(∀ b o,I b=some o->I' b=some o)/\M'=[]:=by
 refine bU [3] a0 Tryz.func381 rfl rfl rfl ?_;intro B ax;refine cY.draw a0 rfl rfl rfl ?_;refine ev.mk _ aic ?_;rintro v I' M' -⟨rfl,rfl,rfl⟩;refine fL.Km a0 (e:=34) rfl rfl rfl rfl d0 ?_;refine aZ.mk (λh=>?_) (λh=>?_)
 ·refine⟨_,_,.refl,?_,λ_ _ h=>h,rfl⟩;simp only[BG,h];rfl
 ·refine bQ.mk λg aw DH=>?_;refine a8.mk (gp.new.M g) [] _ (.refl _) (pC g gp.Kr 91 bv) ?_;rintro v I' M' -⟨rfl,rfl,wh,gd,O5,rfl⟩;refine a8.mk [] (wh.M g) _ am (aim BD zv) ?_;rintro v I1 M1 -⟨c8,os,rfl,b3,rfl⟩;have eD:=Wz ay a b c d;have dp:BG ay a b c d=[91]++(pE (iY ay 0 [a,b,c,d])).flatMap uT++[93]:=by simp only[BG,h];rfl
  generalize dB:pE (iY ay 0 [a,b,c,d])=bb at *;have aC:bb.length=os.n:=by have:=b3.len;rw[Kv]at this;omega
  refine du.inv (ι:=Nat×gp) (λp=>{ bp:=[(3,.val (ptr g)),(11,.val os.val),(12,.val (.int .i64 os.n)),(13,.val (.int .i64 p.1))],cO:=I1,c5:=p.2.M g++os.ar 404 }) (λp=>p.1<=os.n/\p.2.ok/\p.2.ch=[91]++(bb.take p.1).flatMap uT) (λp=>os.n-p.1) ?_ ?_;·exact⟨(0,wh),⟨am,gd,by simp[O5,gp.new]⟩,.perm (by simpa using eN) .refl,dM,.nil⟩
  ·rintro⟨i,x⟩⟨hi,ab,kg⟩;simp only at hi ab kg;have cQ:x.ch.length<=1+9*i:=by rw[kg];have:=GU uT 9 Wy (bb.take i);have ad:=Dw i bb;simp only[cn,ep,hj];omega
   refine aZ.mk (λh=>?_) (λh=>?_)
   ·have a1:i<os.n:=by simpa using h
    have cI:i<bb.length:=by omega
    obtain⟨aR,bI,bo⟩:=aT.ok.row (I:=I1) (M:=x.M g++os.ar 404) (f:=j2) (λ_=>rfl) bv b3 (e:=404) (λy aG=>au') cI;refine bt.mk aR i bI rfl a1 ?_;refine aU.mk _ bo ?_;generalize aI:bb[i]=p;refine cw.mk 0 rfl bv ?_;refine a8.mk (x.M g) (os.ar 404) _ (.refl _) (Kt g ab p.1 zx Z) ?_;rintro v I' M' -⟨rfl,y,aG,gX,rfl⟩;have GP:y.ch.length<=5+9*i:=by rw[gX,cn];have:=GO p.1 zx;omega
    refine cw.mk 1 rfl bv ?_;refine cw.mk 0 rfl bv ?_;refine be.mk _ rfl ?_;refine aZ.mk (λeQ=>?_) (λeQ=>?_)
    ·refine a8.mk (y.M g) (os.ar 404) _ am (pC g aG 45 Z) ?_;rintro v I' M' -⟨rfl,rfl,u,hu,xS,rfl⟩;have DO:u.ch.length<=6+9*i:=by rw[xS];simp;omega
     refine cw.mk 1 rfl bv ?_;refine cw.mk 0 rfl bv ?_;refine aZ.mk (λcZ=>?_) (λcZ=>?_)
     ·refine cw.mk 1 rfl bv ?_;refine a8.mk (u.M g) (os.ar 404) _ am (Kt g hu p.2 zx Z) ?_;rintro v I' M' -⟨rfl,z,bg,tu,rfl⟩;have gN:IntKind.i64.wrap ((i:Int)+1)=((i+1:Nat):Int):=by rw[wrap_i64 ⟨Z,Z⟩];omega
      refine be.mk _ gN ?_;refine⟨(i+1,z),⟨⟨ce,bg,?_⟩,ce⟩,.perm am .refl,dM,.nil⟩;simp only;rw[tu,xS,gX,kg,gk cI,fS,aI];simp[uT,eQ,cZ]
     ·have gN:IntKind.i64.wrap ((i:Int)+1)=((i+1:Nat):Int):=by rw[wrap_i64 ⟨Z,Z⟩];omega
      refine be.mk _ gN ?_;refine⟨(i+1,u),⟨⟨ce,hu,?_⟩,ce⟩,.perm am .refl,dM,.nil⟩;simp only;rw[xS,gX,kg,gk cI,fS,aI];simp[uT,eQ,cZ]
    ·refine cw.mk 1 rfl bv ?_;refine cw.mk 0 rfl bv ?_;refine aZ.mk (λcZ=>?_) (λcZ=>?_)
     ·refine cw.mk 1 rfl bv ?_;refine a8.mk (y.M g) (os.ar 404) _ am (Kt g aG p.2 zx Z) ?_;rintro v I' M' -⟨rfl,z,bg,tu,rfl⟩;have gN:IntKind.i64.wrap ((i:Int)+1)=((i+1:Nat):Int):=by rw[wrap_i64 ⟨Z,Z⟩];omega
      refine be.mk _ gN ?_;refine⟨(i+1,z),⟨⟨ce,bg,?_⟩,ce⟩,.perm am .refl,dM,.nil⟩;simp only;rw[tu,gX,kg,gk cI,fS,aI];simp[uT,eQ,cZ]
     ·have gN:IntKind.i64.wrap ((i:Int)+1)=((i+1:Nat):Int):=by rw[wrap_i64 ⟨Z,Z⟩];omega
      refine be.mk _ gN ?_;refine⟨(i+1,y),⟨⟨ce,aG,?_⟩,ce⟩,.perm am .refl,dM,.nil⟩;simp only;rw[gX,kg,gk cI,fS,aI];simp[uT,eQ,cZ]
   ·have cV:os.n<=i:=by simpa using h
    have eG:bb.take i=bb:=fD Z;refine a8.mk (x.M g) (os.ar 404) _ (.refl _) (pC g ab 93 Z) ?_;rintro v I' M' -⟨rfl,rfl,y,aG,gX,rfl⟩;refine a8.mk (y.M g) (os.ar 404) _ (.refl _) (xQ g aG as') ?_;rintro v I' M' -⟨rfl,rfl,rfl⟩;refine⟨_,_,.sub (fs _) .refl,?_,c8,rfl⟩;rw[gX,kg,eG,dp];rfl
end Go.V
