/- Part 2 of what the proofs of this seat share: the executor, data in memory, walks.
-/
import Derived.Test.YtjaibbcbjfapaaaGreatDoorK1
import Derived.Lib.UnsafeStr
import Derived.Test.YtjaibbcbjfapaaaGreatDoorProg
import Derived.KernelRfl
import Derived.Lib.Builder
import Derived.Lib.Bytealg
import Derived.Laws.Pointers
import Derived.Laws.StructEq
set_option linter.all false
set_option maxHeartbeats 4000000
set_option maxRecDepth 100000
namespace Go.V
open Go
def bP:=@List.getD_eq_getElem?_getD
def bD:=@List.getElem_mem
def bA:=@List.length_map
def du:=@List.getElem?_eq_getElem
def ct:=@List.length_append
def dZ:=@Int.eq_ofNat_of_zero_le
def eM:=@List.perm_append_comm
def dE:=@List.append_nil
def ej:=@List.append_assoc
def fE:=@List.take_of_length_le
def dg:=@Nat.zero_add
def iB:=@List.eq_nil_of_length_eq_zero
def fL:=@List.flatMap_append
def eY:=@List.nil_sublist
def fX:=@List.map_congr_left
def fF:=@List.length_take
def gl:=@List.getElem_map
def l4:=@List.getElem?_append_right
def iq:=@List.getElem?_set
def hl:=@List.length_nil
def m4:=@List.sublist_append_right
def iS:=@List.flatMap_cons
def l5:=@List.drop_eq_nil_of_le
def hW:=@List.nil_append
def hx:=@List.sum_cons
def gm:=@Nat.mul_one
def hd:=@List.map_nil
def pN:=@decide_eq_false_iff_not
def pO:=@List.take_append_drop
def sv:=@List.getElem?_append_left
def rp:=@List.getElem?_eq_none
def rq:=@Bool.or_eq_false_iff
def tp:=@List.getElem_cons_zero
def rr:=@List.take_succ_cons
def oU:=@List.length_drop
def oV:=@List.ext_getElem
def pP:=@List.cons_append
def kD:=@Nat.add_mul
def m5:=@Bool.true_and
def wv:=@List.sublist_cons_self
def rs:=@List.map_toArray
def BJ:=@List.take_append_of_le_length
def qw:=@List.take_zero
def xS:=@List.eq_nil_or_concat
def wx:=@Array.length_toList
def m6:=@Nat.one_mul
def sw:=@List.take_left'
def GQ:=@List.set_eq_take_append_cons_drop
def zx:=@List.length_replicate
def GR:=@Array.eq_empty_of_size_eq_zero
def qx:=@List.map_set
def xT:=@List.map_replicate
def tq:=@List.drop_zero
def zy:=@Int.toNat_of_nonneg
def zz:=@List.filter_sublist
def zA:=@List.length_take_le
def tr:=@ByteArray.ext
def DY:=@World.putObj_heap_same
def zB:=@List.ext_getElem?
def wy:=@List.take_left
def GS:=@ByteArray.data_extract
def GU:=@List.getElem_cons_succ
def Kv:=@Int.fdiv_eq_ediv_of_nonneg
def zC:=@List.take_take
def GV:=@List.drop_eq_nil_iff
def zD:=@Bool.not_true
def DZ:=@List.take_length
def Kw:=@ByteArray.size_extract
def zE:=@Nat.zero_mul
def Kx:=@List.length_filter_le
def V1:=@Std.Legacy.Range.forIn_eq_forIn_range'
def D1:=@List.drop_take
def D2:=@List.drop_drop
def GW:=@List.drop_left'
def GX:=@Bool.false_and
def Ky:=@BitVec.toNat_and
def V2:=@List.drop_length_add_append
def GY:=@List.set_set
def V3:=@Lib.run_firstCells_string
def OV:=@List.getElem_cons
def Kz:=@List.map_drop
def KA:=@List.map_take
def OW:=@List.getElem_set
variable{o:Obj}{I I1 I':aI}{K:List aD->Prop}{f x s y:Operand}{vs xs cb:List Value}{ps:Array Nat}{fu body:Code}{g m t u e c' b uI it T c size j i be:Nat}{cap cs:Array Value}{M1 Mr:List aD}{m7:TypeDesc}{dd mE aH:dV}{qy p v:Value}{ad:Addr}{P:Program}{k:IntKind}{other:Prop}{a sa:Option Addr}{α:Type}{w:World}{aB:List Int}
def D3(P:Program)(l:Nat)(args:List Value)(I:aI)(M:List aD)(post:Value->aI->List aD->Prop):Prop:=
 ∀ w,eJ I M w->∃ f tmps assign body,(Instr.yield l args.toArray).run P w=.ok (.round l f tmps assign body) w /\ RoundIn Fence.wide 0 P l f tmps assign body w λe w'=>∃ v I' M',e=.returned v/\post v I' M'/\eJ I' M' w'/\Kept I M w I' M' w'
inductive BK(P:Program)(l:Nat)(args:List Value)(I:aI)(M:List aD)(K:Value->aI->List aD->Prop):Prop
 |mk(eE Mr:List aD)(post:Value->aI->List aD->Prop)(bd:M.Perm (eE++Mr))(aw:D3 P l args I eE post)(k:∀ v I' M',(∀ b o,I b=some o->I' b=some o)->post v I' M'->K v I' (M'++Mr))
def bz.yield{X:c3}{o:Oper}{F:Fr}{C:dB}{M:List aD}{K:gx}{args:Array Operand}{ts:Array TypeId}{l:Nat}(aG:o.op=.call { callee:=.value f,args,argTypes:=ts })(aj:∀ d,o.dst=some d->d<X.n)(aC:bI F f=.val (.func (.yield l) #[] #[]))(je:mW F args.toList=some vs)
  (h:BK X.P l vs I M λv I' M'=>K (put o.dst (.val v) F) C I' M'):bz X o F C I M K:=by
 refine⟨λa w Q ⟨β,aZ⟩=>?_⟩;obtain⟨eE,Mr,post,bd,aw,af⟩:=h;obtain⟨fn,tmps,assign,body,aF,ag⟩:=aw w (aZ.holds.part bd);have aN:=tf aZ.ap je;have eA:args.map a.eval=vs.toArray:=by apply lY;simpa using aN
 have bc:=dt aZ.ap aC;obtain⟨dst,op,ty,pos,after,guard⟩:=o;simp only at aG;subst aG;refine⟨λ_ _=>trivial,?_⟩;rw[J1 _ _ _ am];have fk:(execOp a.eval ⟨dst,.call { callee:=.value f,args,argTypes:=ts },ty,pos,after,guard⟩).run X.P w=.ok (.round l fn tmps assign body) w:=by simp only[execOp,resolve,bc,Deferred.ofValue,cz,dn,cd,eA,invoke];simpa using aF
 rw[fk,Oper.uponIn_round];refine⟨(λh=>ci),?_⟩;have g4:RoundIn (hb X) (0-1) X.P l fn tmps assign body w _:=ag;refine g4.mono ?_;rintro e w'⟨v,I',M',rfl,aK,q9,c7⟩;exact⟨_,_,_,_,⟨β,(aZ.after bd q9 c7).put (x:=.val v) aj rfl⟩,af v I' M' c7.le aK⟩
def V4(A:(Nat->aI->List aD->Prop)->Prop)(P:Program)(g:Nat)(cap:List Value)(I:aI)(n:Nat)(Q:Nat->List Value->aI->Prop):Prop:=
 ∀ (l:Nat) (R:Nat->aI->List aD->Prop) (lE:aI->List aD->Prop),A R -> (∀ k (af:k<n) vs I' M',(∀ b o,I b=some o->I' b=some o)->Q k vs I'->R k I' M'->D3 P l vs I' M' λv zF k1=>(v=.bool true/\R (k+1) zF k1)\/(v=.bool false/\lE zF k1)) -> ∀ dU M0,(∀ b o,I b=some o->dU b=some o)->R 0 dU M0->vZ P g (.func (.yield l) #[] #[]::cap) dU M0 λ_ I' M'=>R n I' M'\/lE I' M'
def wz(R:Nat->aI->List aD->Prop):Prop:=∀ k I I' M,(∀ b o,I b=some o->I' b=some o)->R k I M->R k I' M
def wz.cons(x:aD)(S:Nat->aI->List aD->Prop)(h:wz S):wz λk I M=>∃ dp,M=x::dp/\S k I dp:=by rintro k I I' M bG⟨dp,e,cQ⟩;exact⟨dp,e,h k I I' dp bG cQ⟩
abbrev V5:=V4 wz
def Iter(P:Program)(g:Nat)(cap:List Value)(I:aI)(uJ:List (List Value)):Prop:=
 ∀ (l:Nat) (R:Nat->aI->List aD->Prop) (lE:aI->List aD->Prop),(∀ k (af:k<uJ.length) I' M',(∀ b o,I b=some o->I' b=some o)->R k I' M'->D3 P l uJ[k] I' M' λv zF k1=>(v=.bool true/\R (k+1) zF k1)\/(v=.bool false/\lE zF k1)) -> ∀ dU M0,(∀ b o,I b=some o->dU b=some o)->R 0 dU M0->vZ P g (.func (.yield l) #[] #[]::cap) dU M0 λ_ I' M'=>R uJ.length I' M'\/lE I' M'
def D4:List Nat->List Value->Fr->Fr
 |t::ps,v::vs,F=>D4 ps vs (g0 F t (.val v))| _,_,F=>F
def V6(foot:List Nat)(N:aI->List aD->Prop)(lE:tk->aI->List aD->Prop):ka:=λex F C I M=>match ex with
 | .normal=>wb foot I M N| ex=>wb foot I M (lE ex)
def D5:tk->Option Code
 | .normal=>none| .exit id=>some (.exit id)| .goto l=>some (.goto l)| .ret=>some .ret
section
variable{X:c3}{β:Nat->Nat}{a:Act}{w:World}{F:Fr}{C:dB}{I:aI}{M:List aD}
def V7:∀ (ps:List Nat) (vs:List Value) (F:Fr) (tmps:Array Value),(∀ t∈ps,t<tmps.size)->(∀ t,fj β (F t) (tmps.getD t undef)) ->
  let r:=(ps.zip vs).foldl (λ(tmps:Array Value) (p:Nat×Value)=>tmps.setIfInBounds p.1 p.2) tmps
  r.size=tmps.size/\∀ t,fj β (D4 ps vs F t) (r.getD t undef)
 |[],vs,F,tmps,_,h=>⟨rfl,h⟩| t::ps,[],F,tmps,_,h=>⟨rfl,h⟩
 |t::ps,v::vs,F,tmps,aK,h=>by
  have aa:∀ s,fj β (g0 F t (.val v) s) ((tmps.setIfInBounds t v).getD s undef):=λs=>by have:=Ok (β:=β) (F:=F) (a:=⟨tmps,[]⟩) h (d:=t) (x:=.val v) (v:=v) (aK t am) rfl s;exact this
  have aX:=V7 ps vs (g0 F t (.val v)) (tmps.setIfInBounds t v) (λs aw=>by simpa using aK s (by simp[aw])) aa;simp only[List.zip_cons_cons,kw,D4];exact⟨by simpa using aX.1,aX.2⟩
def cT.V8(h:cT X β a w F C I M):cT X β { a with defers:=xH w.heap.size::a.defers } (w.alloc (.deferred (some []))) F C I M where
 size:=h.size
 defers:=by
  obtain⟨a',aa,ab,al⟩:=h.defers;refine⟨w.heap.size::a',ayP,?_,?_⟩;·rw[mw];refine⟨λhm=>?_,ab⟩;have:=(lW.1 (al _ hm).bF).1;omega
  ·intro r ag;rcases ez.1 ag with rfl | ag
   ·exact⟨Oi w _,h.sz,h.holds.sm,h.holds.q7⟩
   ·exact(al r ag).alloc _
 holds:=h.holds.alloc _
 ap:=h.ap
 cx s cs aw:=(h.cx s cs aw).alloc _
 inj:=h.inj
 ik:=h.ik
 hS:=h.hS
 own:=h.own
 dR:=Om h.dR h.sz _
 out:=h.out
 sz:=by have:=h.sz;simp;omega
 fH:=h.fH
def cT.GZ{n:Nat}{o':Obj}(h:cT X β a w F C I (⟨n,o⟩::M)):cT X β a (w.putObj n o') F C I M:=by
 have gj:(⟨n,o⟩:aD)∈(⟨n,o⟩:aD)::M:=by simp
 have bW:=h.holds.bO;simp only[ch,mw]at bW;exact {
  size:=h.size
  defers:=h.defers.mono λr ag=>by have bH:n≠r:=ag.fe _ gj;refine { ag with bF:=?_,fe:=λx ae=>ag.fe x f0 };rw[nB (sh bH)];exact ag.bF
  holds:={
   i:=λb o jf=>by rw[nB (λe=>md)];exact h.holds.i b o jf
   m:=λx ae=>by rw[nB (λe=>bW.1 (c6.2 ⟨x,ae,e⟩))];exact h.holds.m x f0
   d:=λx ae=>h.holds.d x f0
   bO:=bW.2 }
  ap:=h.ap
  cx:=λs cs aw=>by have ah:=h.cx s cs aw;have bH:n≠β s:=ah.fe _ gj;obtain⟨T,bm⟩:=ah.bF;refine { ah with bF:=⟨T,?_⟩,fe:=λx ae=>ah.fe x f0 };rw[nB (sh bH)];exact bm
  inj:=h.inj
  ik:=h.ik
  hS:=h.hS
  own:=λx ae=>h.own x f0
  dR:=λb ah aC=>by
   rw[nB (λe=>by
    rcases h.own _ gj with aa | aa;·simp only at aa;exact aC (e ▸ aa)
    ·simp only at aa;omega)]
   exact h.dR b ah aC
  out:=h.out.trans (J7 _ _ _)
  sz:=by have:=h.sz;simpa using this
  fH:=h.fH }
def cN.KB{K:ka}{n:Nat}{Q:Nat->List Value->aI->Prop}{A:(Nat->aI->List aD->Prop)->Prop}(dz:∀ x S,A S->A λk I M=>∃ dp,M=x::dp/\S k I dp)(aQ:cX X.P X.E)(iA:X.ro=none)(bl:(codeOk X.n fu&&(codeOk X.n body&&ps.toList.all (λt=>Nat.blt t X.n)))=true)(OX:bI F f=.val (.func (.func g) #[] cap))(G0:h5 X.foot I M I1 M1)(xU:V4 A X.P g cap.toList I1 n Q)(c0:∀ k vs I,k<n->Q k vs I->vs.length=ps.size)(R:Nat->aI->List aD->Prop)(lE:tk->aI->List aD->Prop)(uK:A R)(start:R 0 I1 M1)(round:∀ k (af:k<n) vs I' M',(∀ b o,I1 b=some o->I' b=some o)->Q k vs I'->R k I' M'->∀ l B ax jk,V ⟨X.P,X.E,X.gP,X.n,B,ax,I',M'.map (·.num),some l⟩ fu (D4 ps.toList vs F) (λ_=>none) I' M' (zo (λF C I M=>V ⟨X.P,X.E,X.gP,X.n,B,jk,I',M'.map (·.num),some l⟩ body F C I M (V6 (M'.map (·.num)) (R (k+1)) lE)) (λ_ _ _ _ _=>False)))(done:∀ I' M',(∀ b o,I1 b=some o->I' b=some o)->R n I' M'->K .normal F C I' M')(stop:∀ ex I' M',(∀ b o,I1 b=some o->I' b=some o)->lE ex I' M'->ex≠.normal/\K ex F C I' M') :
  cN X (.rangeFunc f ps fu body) F C I M K:=by
 refine⟨λa w ⟨β,iT⟩=>?_⟩;have aZ:=iT.h6 G0;simp only[cH]at bl;obtain⟨xV,h9,zG⟩:=bl;refine wpIn_rangeFunc λfn _=>?_;let gR (s:LoopState) (rj:Option Code):Loop:={ state:=s,pending:=rj,fn:=fn,tmps:=a.tmps,params:=ps,assign:=fu,body:=body,defers:=w.heap.size }
 let l:=w.heap.size+1
 let m8:World:=(w.alloc (.deferred (some []))).alloc (.loop (gR .ready none))
 have BL:=aZ.V8.n' (.loop (gR .ready none));have ay:(w.alloc (.deferred (some []))).heap.size=l:=by simp[l]
 rw[ay]at BL;let xW (k:Nat) (I':aI) (M':List aD):Prop:=∃ dp,M'=⟨l,.loop (gR .ready none)⟩::dp/\R k I' dp
 let V9 (I':aI) (M':List aD):Prop:=∃ ex c dp,D5 ex=some c/\M'=⟨l,.loop (gR .done (some c))⟩::dp/\lE ex I' dp
 have aF:∀ k (af:k<n) vs I' M',(∀ b o,I1 b=some o->I' b=some o)->Q k vs I'->xW k I' M'->D3 X.P l vs I' M' λv zF k1=>(v=.bool true/\xW (k+1) zF k1)\/(v=.bool false/\V9 zF k1):=by
  rintro k af vs I' _ bo kC⟨dp,rfl,ahI⟩W hG;have G1:W.heap[l]?=some (.loop (gR .ready none)):=hG.m ⟨l,.loop (gR .ready none)⟩ am;have aV:l<W.heap.size:=(lW.1 G1).1;have bW:=hG.bO;simp only[ch,mw]at bW;have V':I' l=none:=hG.d ⟨l,.loop (gR .ready none)⟩ am;refine⟨_,_,_,_,run_yield G1 (by simpa using c0 _ _ _ af kC),?_⟩;have hX:((gR LoopState.ready none).params.zip vs.toArray).foldl (λtmps (x:Nat×Value)=>match x with | (t,a)=>tmps.setIfInBounds t a) (gR LoopState.ready none).tmps=(ps.toList.zip vs).foldl (λ(tmps:Array Value) (p:Nat×Value)=>tmps.setIfInBounds p.1 p.2) a.tmps:=by rw[<-Oc];simp[gR]
  have OY:=V7 (β:=β) ps.toList vs F a.tmps (λt au=>by
   have:=fV.1 zG t au;rw[aZ.size];exact bJ this) aZ.ap
  rw[<-hX]at OY;refine roundIn_of_wpIn (F:=Fence.wide) (n:=0) trivial ?_;let wA:c3:=⟨X.P,X.E,X.gP,X.n,W.heap.size,W,I',dp.map (·.num),some l⟩
  let jk:=W.putObj l (.loop (gR .busy none))
  let G2:c3:=⟨X.P,X.E,X.gP,X.n,W.heap.size,jk,I',dp.map (·.num),some l⟩
  have an:=round k af vs I' dp bo kC ahI l W.heap.size W jk;have GH:cT wA β { tmps:=((gR LoopState.ready none).params.zip vs.toArray).foldl (λtmps (x:Nat×Value)=>match x with | (t,a)=>tmps.setIfInBounds t a) (gR LoopState.ready none).tmps,defers:=[] } W (D4 ps.toList vs F) (λ_=>none) I' dp:={
   size:=OY.1.trans aZ.size
   defers:=⟨[],rfl,DJ,λr ag=>by cases ag⟩
   holds:=⟨hG.i,λx ae=>hG.m x f0,λx ae=>hG.d x f0,bW.2⟩
   ap:=OY.2
   cx:=λs cs aw=>by cases aw
   inj:=λs cr aa=>by simp at aa
   ik:=λb o ah=>ah
   hS:=λb o ah=>.inl ah
   own:=λx ae=>.inl (c6.2 ⟨x,ae,rfl⟩)
   dR:=λb ah aC=>rfl
   out:=.refl _
   sz:=cf _
   fH:=λx ae=>by
    obtain⟨y,aF,rfl⟩:=c6.1 ae;exact(lW.1 (hG.m y ayO)).1 }
  have Kc:=re (X:=wA) aQ fu xV ⟨β,GH⟩ an;refine wpIn_mono (Q:=mZ wA _) Kc ?_;intro e cO jG aw;cases e with
  |exit id=>obtain⟨_,_,_,_,_,af⟩:=aw;exact af.elim
  |goto id=>obtain⟨_,_,_,_,_,af⟩:=aw;exact af.elim
  |ret=>obtain⟨_,_,_,_,_,af⟩:=aw;exact af.elim
  |panic GF=>exact aw.elim| outgrown=>exact aw.elim
  |normal=>
   obtain⟨lC,ahJ,ed,oW,⟨Wa,hI⟩,Ox⟩:=aw;have uL:jG.heap[l]?=some (.loop (gR .ready none)):=by rw[hI.dR l aV bW.1];exact G1
   refine⟨_,run_beginRound uL rfl,?_⟩;have ahK:ed l=none:=by
    cases bG:ed l with
    |none=>rfl
    |some o=>
     rcases hI.hS _ _ bG with aa | aa;·rw[show wA.dU=I' from rfl,V']at aa;cases aa
     ·exact absurd aa (Nat.not_le.2 aV)
   have ahL:∀ x∈oW,x.num≠l:=λx ae e=>by
    rcases hI.own x ae with aa | aa;·rw[e]at aa;exact bW.1 aa
    ·rw[e]at aa;exact absurd aa (Nat.not_le.2 aV)
   have rl:cT G2 Wa cO (jG.putObj l (.loop (gR .busy none))) lC ahJ ed oW:={
    size:=hI.size
    defers:=by obtain⟨a',bb,bh,b2⟩:=hI.defers;refine⟨a',bb,bh,λr dD=>?_⟩;have ag:=b2 r dD;refine { bF:=?_,da:=ag.da,j8:=ag.j8,fe:=ag.fe };rw[nB (λe=>by have aa:=ag.bF;rw[e,uL]at aa;cases aa)];exact ag.bF
    holds:={
     i:=λb o jf=>by rw[nB (λe=>by rw[e,ahK]at jf;cases jf)];exact hI.holds.i b o jf
     m:=λx ae=>by rw[nB (ahL x ae)];exact hI.holds.m x ae
     d:=hI.holds.d
     bO:=hI.holds.bO }
    ap:=hI.ap
    cx:=λs cs aw=>by have ah:=hI.cx s cs aw;obtain⟨T,bm⟩:=ah.bF;refine { bF:=⟨T,?_⟩,da:=ah.da,j8:=ah.j8,fe:=ah.fe };rw[nB (λe=>by rw[e,uL]at bm;cases bm)];exact bm
    inj:=hI.inj
    ik:=hI.ik
    hS:=hI.hS
    own:=hI.own
    dR:=λb ah aC=>by
     by_cases e:b=l;·subst e;rw[DY (lW.1 uL).1];exact(DY aV).symm
     ·rw[nB e];show _=(W.putObj l (.loop (gR .busy none))).heap[b]?;rw[nB e];exact hI.dR b ah aC
    out:=⟨hI.out.1,hI.out.2⟩
    sz:=by have:=hI.sz;simpa using this
    fH:=hI.fH }
   have ahM:=re (X:=G2) aQ body h9 ⟨Wa,rl⟩ Ox;refine wpIn_mono (Q:=mZ G2 _) ahM ?_;have fin:∀ (ev:Act) (oX:World) (wB:Fr) (wC:dB) (lF:aI) (ru:List aD) (jump:Option Code),Rel G2 ev oX wB wC lF ru->∃ ke,(Instr.endRound l jump).run X.P oX=.ok (.bool jump.isNone) ke /\
     eJ lF (⟨l,.loop (gR (if jump.isNone then .ready else .done) jump)⟩::ru) ke/\Kept I' (⟨l,.loop (gR .ready none)⟩::dp) W lF (⟨l,.loop (gR (if jump.isNone then .ready else .done) jump)⟩::ru) ke:=by
    rintro ev oX wB wC lF ru jump⟨zH,al⟩;have uM:oX.heap[l]?=some (.loop (gR .busy none)):=by rw[al.dR l aV bW.1];exact DY aV
    have Wb:lF l=none:=by
     cases bG:lF l with
     |none=>rfl
     |some o=>
      rcases al.hS _ _ bG with aa | aa;·rw[show G2.dU=I' from rfl,V']at aa;cases aa
      ·exact absurd aa (Nat.not_le.2 aV)
    have Wc:∀ x∈ru,x.num≠l:=λx ae e=>by
     rcases al.own x ae with aa | aa;·rw[e]at aa;exact bW.1 aa
     ·rw[e]at aa;exact absurd aa (Nat.not_le.2 aV)
    refine⟨_,run_endRound jump uM,?_,?_⟩
    ·exact {
      i:=λb o jf=>by rw[nB (λe=>by rw[e,Wb]at jf;cases jf)];exact al.holds.i b o jf
      m:=λx ae=>by
       rcases ez.1 ae with rfl | ae;·exact DY (lW.1 uM).1
       ·rw[nB (Wc x ae)];exact al.holds.m x ae
      d:=λx ae=>by
       rcases ez.1 ae with rfl | ae;·exact Wb
       ·exact al.holds.d x ae
      bO:=by
       simp only[ch,mw];refine⟨λhm=>?_,al.holds.bO⟩;obtain⟨x,ae,e⟩:=c6.1 hm;exact Wc x ae e }
    ·exact {
      le:=al.ik
      uB:=al.hS
      vY:=λx ae=>by
       rcases ez.1 ae with rfl | ae;·exact .inl ⟨⟨l,.loop (gR .ready none)⟩,am,rfl⟩
       ·rcases al.own x ae with aa | aa
        ·obtain⟨y,aF,e⟩:=c6.1 aa;exact .inl ⟨y,ayO,e⟩
        ·exact .inr aa
      dR:=λb ah bH=>by
       have kf:b≠l:=λe=>bH ⟨l,.loop (gR .ready none)⟩ am e.symm;rw[nB kf,al.dR b ah (λhm=>by
        obtain⟨y,aF,e⟩:=c6.1 hm;exact bH y ayO e)]
       exact nB kf
      out:=⟨al.out.1,al.out.2⟩
      sz:=by have:=al.sz;simpa using this }
   intro e ev oX zI;cases e with
   |normal=>obtain⟨wB,wC,lF,ru,⟨zH,al⟩,⟨qz,qA,BM,aK⟩⟩:=zI;obtain⟨ke,aL,bB,cA⟩:=fin ev oX wB wC qz qA none ⟨zH,al.h6 BM⟩;exact⟨_,ke,aL,_,_,_,rfl,.inl ⟨rfl,_,rfl,aK⟩,bB,cA⟩
   |exit id=>obtain⟨wB,wC,lF,ru,⟨zH,al⟩,⟨qz,qA,BM,aK⟩⟩:=zI;obtain⟨ke,aL,bB,cA⟩:=fin ev oX wB wC qz qA (some (.exit id)) ⟨zH,al.h6 BM⟩;exact⟨_,ke,aL,_,_,_,rfl,.inr ⟨rfl,.exit id,_,_,rfl,rfl,aK⟩,bB,cA⟩
   |goto id=>obtain⟨wB,wC,lF,ru,⟨zH,al⟩,⟨qz,qA,BM,aK⟩⟩:=zI;obtain⟨ke,aL,bB,cA⟩:=fin ev oX wB wC qz qA (some (.goto id)) ⟨zH,al.h6 BM⟩;exact⟨_,ke,aL,_,_,_,rfl,.inr ⟨rfl,.goto id,_,_,rfl,rfl,aK⟩,bB,cA⟩
   |ret=>obtain⟨wB,wC,lF,ru,⟨zH,al⟩,⟨qz,qA,BM,aK⟩⟩:=zI;obtain⟨ke,aL,bB,cA⟩:=fin ev oX wB wC qz qA (some .ret) ⟨zH,al.h6 BM⟩;exact⟨_,ke,aL,_,_,_,rfl,.inr ⟨rfl,.ret,_,_,rfl,rfl,aK⟩,bB,cA⟩
   |panic GF=>exact zI.elim| outgrown=>exact zI.elim
 obtain⟨qp,By⟩:=xU l xW V9 (dz _ _ uK) aF I1 (⟨l,.loop (gR .ready none)⟩::M1) (λ_ _ h=>h) ⟨M1,rfl,start⟩;have m9:=By m8 BL.holds;have bc:=dt aZ.ap OX;refine⟨l,[xH w.heap.size],m8,{ target:=.fn (.func g) cap,args:=#[.func (.yield l) #[] #[]] },m8,g,(.func (.yield l) #[] #[]::cap.toList).toArray,m8,?_,?_,λ_ _=>trivial,?_,(λh=>ci),?_⟩
 ·have OZ:(hb X).round=none:=iA;rw[OZ];exact run_enterLoop_outer fn a.tmps ps fu body
 ·show(Deferred.ofValue (a.eval f) (#[Operand.const (.func (.yield l) #[] #[])].map a.eval)).run X.P m8=_;rw[bc];simp[Deferred.ofValue,Act.eval]
 ·simp only[invoke];rw[show #[Value.func (.yield l) #[] #[]]++cap=(.func (.yield l) #[] #[]::cap.toList).toArray from by apply lY;simp];exact qp _ _
 ·refine(Ot (X:=X) m9 _).mono ?_;rintro e oX⟨v,I',M',rfl,aK,q9,c7⟩;have sy:=BL.after (Mr:=[]) am q9 c7;rw[dE]at sy;have bo:=c7.le;rcases aK with⟨dp,rfl,ahN⟩ | ⟨ex,c,dp,ar,rfl,ahO⟩
  ·refine⟨none,_,run_endLoop (q9.m ⟨l,.loop (gR .ready none)⟩ am) (by simp[gR]),?_⟩;exact⟨F,C,I',dp,⟨β,sy.GZ⟩,done I' dp bo ahN⟩
  ·refine⟨some c,_,run_endLoop (q9.m ⟨l,.loop (gR .done (some c))⟩ am) (by simp[gR]),?_⟩;obtain⟨bH,af⟩:=stop ex I' dp bo ahO;cases ex with
   |normal=>exact(bH rfl).elim| exit id=>cases ar;exact wpIn_exit ⟨F,C,I',dp,⟨β,sy.GZ⟩,af⟩| goto id=>cases ar;exact wpIn_goto ⟨F,C,I',dp,⟨β,sy.GZ⟩,af⟩| ret=>cases ar;exact wpIn_ret ⟨F,C,I',dp,⟨β,sy.GZ⟩,af⟩
def cN.range{K:ka}{uJ:List (List Value)}(aQ:cX X.P X.E)(iA:X.ro=none)(bl:(codeOk X.n fu&&(codeOk X.n body&&ps.toList.all (λt=>Nat.blt t X.n)))=true)(OX:bI F f=.val (.func (.func g) #[] cap))(G0:h5 X.foot I M I1 M1)(xU:Iter X.P g cap.toList I1 uJ)(c0:∀ vs∈uJ,vs.length=ps.size)(R:Nat->aI->List aD->Prop)(lE:tk->aI->List aD->Prop)(start:R 0 I1 M1)(round:∀ k (af:k<uJ.length) I' M',(∀ b o,I1 b=some o->I' b=some o)->R k I' M'->∀ l B ax jk,V ⟨X.P,X.E,X.gP,X.n,B,ax,I',M'.map (·.num),some l⟩ fu (D4 ps.toList uJ[k] F) (λ_=>none) I' M' (zo (λF C I M=>V ⟨X.P,X.E,X.gP,X.n,B,jk,I',M'.map (·.num),some l⟩ body F C I M (V6 (M'.map (·.num)) (R (k+1)) lE)) (λ_ _ _ _ _=>False)))(done:∀ I' M',(∀ b o,I1 b=some o->I' b=some o)->R uJ.length I' M'->K .normal F C I' M')(stop:∀ ex I' M',(∀ b o,I1 b=some o->I' b=some o)->lE ex I' M'->ex≠.normal/\K ex F C I' M') :
  cN X (.rangeFunc f ps fu body) F C I M K:=by
 refine cN.KB (A:=λ_=>True) (Q:=λk vs _=>uJ[k]?=some vs) (λ_ _ _=>trivial) aQ iA bl OX G0 (n:=uJ.length) ?_ (λk vs _ _ h=>c0 vs (sg h)) R lE trivial start (λk af vs I' M' bo h aZ=>?_) done stop
 ·intro l R lE _ h;exact xU l R lE λk af I' M' bo aZ=>h k af _ I' M' bo (du af) aZ
 ·obtain⟨_,rfl⟩:=jd.1 h;exact round k af I' M' bo aZ
end
structure aO where
 a:Option Nat
 n:Nat
 c:Nat
 aR:List Value
def aO.val(o:aO):Value:=.slice (o.a.map λg=>⟨g,0,none⟩) o.n o.c
def aO.aq(o:aO)(e:Nat):List aD:=match o.a with
 |some g=>[⟨g,.cells o.aR.toArray e (0,0)⟩]| none=>[]
structure aO.ok(o:aO)(size:Nat)(xs:List Value):Prop where
 len:xs.length=o.n*size
 nil:o.a=none->o.n=0/\o.c=0
 cap:∀ g,o.a=some g->o.aR.length=o.c*size/\o.n<=o.c/\o.c<=maxLen/\o.aR.take (o.n*size)=xs
section
variable{P:Program}{w:World}
def O0(t u ty e:Nat)(i:TypeInfo)(z:Value)(au:P.underlying t=some (.slice e))(hu:P.underlying u=some m7)(ob:∀ k,m7≠.int k)(hi:P.info? e=some i)(bg:i.zero=some z)(qB:z.cells.size=i.size)
  {os:aO} (bl:os.ok i.size xs) (az:∀ g,os.a=some g->w.heap[g]?=some (.cells os.aR.toArray e (0,0)))
  {x:Value} (hm:0<m) (ay:cb.length=m*i.size) (aa:∀ v∈cb,v.oneCell'=true)
  (c0:∀ w',(Builtin.lenOf x).run P w'=.ok m w') (e3:∀ w':World,w'.heap=w.heap->(Builtin.firstCells i.size m x).run P w'=.ok cb.toArray w')
  (b1:os.n+m<=maxLen) (b8:(os.n+m)*i.bytes<=140737488355328) :
  ∃ (g c:Nat) (aR:List Value) (w':World),(Builtin.append_ #[t,u] ty #[os.val,x]).run P w=.ok (.slice (some ⟨g,0,none⟩) (os.n+m) c) w'/\aR.length=c*i.size/\os.n+m<=c/\c<=maxLen/\aR.take ((os.n+m)*i.size)=xs++cb /\
   ((os.a=some g/\w'=w.setRow g aR.toArray)\/(g=w.heap.size/\w'=w.drew.alloc (.cells aR.toArray e (0,0)))):=by
 obtain⟨a,n,c,aR⟩:=os;have D6:(xs++cb).length=(n+m)*i.size:=by rw[ct,bl.len,ay,kD]
 have KD:∀ dR,(xs++cb++(Builtin.zeroCells z.cells (grownCap w (n+m) dR e-(n+m))).toList).length=grownCap w (n+m) dR e*i.size/\n+m<=grownCap w (n+m) dR e/\grownCap w (n+m) dR e<=maxLen /\
   (xs++cb++(Builtin.zeroCells z.cells (grownCap w (n+m) dR e-(n+m))).toList).take ((n+m)*i.size)=xs++cb:=by
  intro dR;have cM:=grownCap_ge w (n+m) dR e;have l6:grownCap w (n+m) dR e<=maxLen:=grownCap_le_maxLen w (n+m) dR e b1;refine⟨?_,cM,l6,?_⟩;·rw[ct,D6,wx,size_zeroCells,qB,<-kD];congr 1;omega
  ·rw[<-D6];exact wy
 have G3:(match m7 with | .int _=>true | _=>false)=false:=by cases m7<;>first | rfl | exact(ob _ rfl).elim
 have iU:n+m<=9223372036854775807:=by simp only[maxLen]at b1;exact b1
 cases a with
 |none=>
  obtain⟨nL,zJ⟩:=bl.nil rfl;simp only at nL zJ;subst nL;subst zJ;have ae:xs=[]:=iB (by simpa using bl.len);subst ae;simp only[dg,hW]at *;have ax:0<m:=hm;have aE:m≠0:=by omega
  have BN:¬ (9223372036854775807<(m:Int)):=by omega
  have BO:¬ (281474976710656<Builtin.nextslicecap m 0*i.bytes):=by rw[nextslicecap_zero ax];omega
  have aC:=e3 w.drew rfl;obtain⟨bb,bh,b2,gg⟩:=KD 0;refine⟨w.heap.size,grownCap w m 0 e,_,w.drew.alloc (.cells (cb++(Builtin.zeroCells z.cells (grownCap w m 0 e-m)).toList).toArray e),?_,bb,bh,b2,gg,.inr ⟨rfl,rfl⟩⟩;simp[aO.val,Builtin.append_,run_underlying au,run_underlying hu,sizeOf,typeInfo,zeroValue,hi,bg,c0,aE,BN,BO,Question.forced,run_firstCells_none,aC,newRow,grownCap];congr 2;apply lY;simp
 |some g=>
  obtain⟨dN,na,l6,lG⟩:=bl.cap g rfl;have O1:=az g rfl;simp only at dN na l6 lG O1;by_cases uN:n+m<=c
  ·have ir:n*i.size+cb.length<=aR.length:=by rw[ay,dN,<-kD];exact oJ _ uN
   have fB:=run_storeCells_at P g (n*i.size) e cb 0 aR.toArray w O1 Id aa;simp only[pF]at fB;refine⟨g,c,aR.take (n*i.size)++cb++aR.drop (n*i.size+cb.length),_,?_,?_,uN,l6,?_,.inl ⟨rfl,rfl⟩⟩;·have aC:=e3 w rfl;simp[aO.val,Builtin.append_,run_underlying au,run_underlying hu,sizeOf,typeInfo,hi,c0,uN,aC,Addr.add_lit,fB]
   ·simp only[ct,fF,oU];omega
   ·rw[lG,<-D6];exact wy
  ·have aE:¬ (n+m<=c):=by omega
   have BN:¬ (9223372036854775807<((n:Int)+(m:Int))):=by omega
   have BO:¬ (281474976710656<Builtin.nextslicecap (n+m) c*i.bytes):=by have:=growslice_fits (by omega:c<n+m) b8;omega
   have aC:=e3 w.drew rfl;have BP:∀ j v,xs[j]?=some v->w.drew.cell? ((⟨g,0,none⟩:Addr).add j)=some v:=by
    intro j v ai;have rv:w.drew.heap[g]?=some (.cells aR.toArray e (0,0)):=O1;rw[eK _ rfl,th rv];rw[<-lG,lv]at ai;split at ai;·simpa using ai
    ·cases ai
   have O2:=run_firstCells_some (P:=P) w.drew i.size n ⟨g,0,none⟩ n c xs bl.len BP;obtain⟨bb,bh,b2,gg⟩:=KD c;refine⟨w.heap.size,grownCap w (n+m) c e,_,w.drew.alloc (.cells (xs++cb++(Builtin.zeroCells z.cells (grownCap w (n+m) c e-(n+m))).toList).toArray e),?_,bb,bh,b2,gg,.inr ⟨rfl,rfl⟩⟩;simp[aO.val,Builtin.append_,run_underlying au,run_underlying hu,sizeOf,typeInfo,zeroValue,hi,bg,c0,aE,BN,BO,Question.forced,aC,O2,newRow,grownCap];congr 2;apply lY;simp
end
section
variable{X:c3}{β:Nat->Nat}{a:Act}{w:World}{F:Fr}{C:dB}{I:aI}{M:List aD}{o:Oper}{K:gx}
theorem O3(aQ:cX X.P X.E)(aG:o.op=.call { callee:=.builtin .append,args:=#[s,x],argTypes:=#[t,u] })(aj:∀ d,o.dst=some d->d<X.n)
 (au:X.E t=some dd) (dA:dd.bM=.slice e) (hu:X.E u=some mE) (fP:∀ k,mE.bM≠.int k) (he:X.E e=some aH)
  (os:aO) (bl:os.ok aH.size xs) (aw:bI F s=.val os.val)
 (ae:bI F x=.val qy) (hm:0<m) (ay:cb.length=m*aH.size) (aa:fG cb=true)
  (c0:∀ w',(Builtin.lenOf qy).run X.P w'=.ok m w') (e3:∀ w,eJ I M w->(Builtin.firstCells aH.size m qy).run X.P w=.ok cb.toArray w)
 (bd:M.Perm (os.aq e++Mr)) (b1:os.n+m<=maxLen) (b8:(os.n+m)*aH.bytes<=140737488355328)
  (k:∀ (g c:Nat) (aR:List Value),I g=none->aR.length=c*aH.size->os.n+m<=c->c<=maxLen->aR.take ((os.n+m)*aH.size)=xs++cb ->
   K (put o.dst (.val (.slice (some ⟨g,0,none⟩) (os.n+m) c)) F) C I (⟨g,.cells aR.toArray e (0,0)⟩::Mr)):bz X o F C I M K:=by
 refine⟨λa w Q ⟨β,iT⟩=>?_⟩;have aZ:cT X β a w F C I (os.aq e++Mr):=iT.h6 (.perm bd .refl);obtain⟨inf,z,hi,fp,hs,h8,j'⟩:=(aQ _ _ he).inf;obtain⟨d,fQ,eZ⟩:=(aQ _ _ hu).fA;obtain⟨g7,iu,k2⟩:=(aQ _ _ au).fA;have oY:g7=.slice e:=by rw[dA]at k2;cases g7<;>simp_all[fz]
 subst oY;have qB:z.cells.size=inf.size:=by rw[fp,<-(aQ _ _ he).len,<-j'];simp
 rw[<-fp]at bl ay e3;obtain⟨g,c,aR,w',fk,bb,bh,b2,gg,oc⟩:=O0 (P:=X.P) (w:=w) t u o.type e inf z iu fQ (λk cY=>fP k ask) hi h8 qB bl (λg az=>aZ.holds.m ⟨g,.cells os.aR.toArray e (0,0)⟩ lm) (x:=qy) hm ay (zh aa) c0 (λw' xX=>e3 w' (iT.holds.heap xX)) b1 as';rw[fp]at bb gg;have zK:I g=none:=by
  rcases oc with⟨az,_⟩ | ⟨rfl,_⟩;·exact aZ.holds.d ⟨g,.cells os.aR.toArray e (0,0)⟩ lm
  ·cases bG:I w.heap.size with
   |none=>rfl| some nM=>have:=aZ.holds.i _ _ bG;simp at this
 have es:=dt aZ.ap aw;have ex:=dt aZ.ap ae;refine iQ f9 (v:=.slice (some ⟨g,0,none⟩) (os.n+m) c) (w':=w') ?_ ⟨_,_,_,_,⟨β,cT.put (x:=.val (.slice (some ⟨g,0,none⟩) (os.n+m) c)) ?_ aj rfl⟩,k g c aR zK bb bh b2 gg⟩
 ·unfold execOp;simp only[aG,resolve,invoke,builtin,cz,dn,cd,rs,ch,hd,es,ex,fk]
 ·rcases oc with⟨az,rfl⟩ | ⟨rfl,rfl⟩
  ·have ah:os.aq e=[⟨g,.cells os.aR.toArray e (0,0)⟩]:=by simp[aO.aq,az]
   rw[ah]at aZ;exact aZ.xK (ba:=[]) (post:=Mr) rfl
  ·have ab:cT X β a w.drew F C I (os.aq e++Mr):=aZ.world rfl;have al:=ab.n' (.cells aR.toArray e (0,0));refine al.h6 (.sub ?_ .refl);exact List.Sublist.cons_cons _ (m4 _ _)
def bz.append(aQ:cX X.P X.E)(aG:o.op=.call { callee:=.builtin .append,args:=#[s,x],argTypes:=#[t,t] })(aj:∀ d,o.dst=some d->d<X.n)
 (au:X.E t=some dd) (dA:dd.bM=.slice e) (he:X.E e=some aH)
  (os:aO) (bl:os.ok aH.size xs) (aw:bI F s=.val os.val)
 (ae:bI F x=.val (.slice (some ad) m c')) (hm:0<m) (aE:cG I M ad (m*aH.size) cb) (aa:fG cb=true)
 (bd:M.Perm (os.aq e++Mr)) (b1:os.n+m<=maxLen) (b8:(os.n+m)*aH.bytes<=140737488355328)
  (k:∀ (g c:Nat) (aR:List Value),aR.length=c*aH.size->os.n+m<=c->c<=maxLen->aR.take ((os.n+m)*aH.size)=xs++cb ->
   K (put o.dst (.val (.slice (some ⟨g,0,none⟩) (os.n+m) c)) F) C I (⟨g,.cells aR.toArray e (0,0)⟩::Mr)):bz X o F C I M K:=by
 refine O3 aQ aG aj au dA au (λk=>by rw[dA];simp) he os bl aw ae hm ?_ aa (λ_=>rfl) (λw hw=>?_) bd b1 b8 (λg c aR _=>k g c aR)
 ·obtain⟨_,_,_,_,_,_,h⟩:=aE;exact h
 ·obtain⟨de,cs,T,ap,eF,an,ay⟩:=aE;refine run_firstCells_some (P:=X.P) w aH.size m ad m c' cb ay λj v ai=>?_;rw[eK _ de,th (eF.heap hw)];rw[<-an,lv]at ai;split at ai
  ·rw[nC]at ai;simpa using ai
  ·cases ai
def bz.Wd(aQ:cX X.P X.E)(aG:o.op=.call { callee:=.builtin .append,args:=#[s,x],argTypes:=#[t,t] })(aj:∀ d,o.dst=some d->d<X.n)
 (au:X.E t=some dd) (dA:dd.bM=.slice e) (he:X.E e=some aH)
  (os:aO) (bl:os.ok aH.size xs) (aw:bI F s=.val os.val)
 (ae:bI F x=.val (.slice (some ad) m c')) (hm:0<m) (aE:cG I M ad (m*aH.size) cb) (aa:fG cb=true)
 (bd:M.Perm (os.aq e++Mr)) (b1:os.n+m<=maxLen) (b8:(os.n+m)*aH.bytes<=140737488355328)
  (k:∀ (g c:Nat) (aR:List Value),I g=none->aR.length=c*aH.size->os.n+m<=c->c<=maxLen->aR.take ((os.n+m)*aH.size)=xs++cb ->
   K (put o.dst (.val (.slice (some ⟨g,0,none⟩) (os.n+m) c)) F) C I (⟨g,.cells aR.toArray e (0,0)⟩::Mr)):bz X o F C I M K:=by
 refine O3 aQ aG aj au dA au (λk=>by rw[dA];simp) he os bl aw ae hm ?_ aa (λ_=>rfl) (λw hw=>?_) bd b1 b8 k
 ·obtain⟨_,_,_,_,_,_,h⟩:=aE;exact h
 ·obtain⟨de,cs,T,ap,eF,an,ay⟩:=aE;refine run_firstCells_some (P:=X.P) w aH.size m ad m c' cb ay λj v ai=>?_;rw[eK _ de,th (eF.heap hw)];rw[<-an,lv]at ai;split at ai
  ·rw[nC]at ai;simpa using ai
  ·cases ai
def lH(s:ByteArray):List Value:=s.data.toList.map λb=>.int .u8 b.toNat
def bz.ahP(aQ:cX X.P X.E)(aG:o.op=.call { callee:=.builtin .append,args:=#[s,x],argTypes:=#[t,u] })(aj:∀ d,o.dst=some d->d<X.n)
 (au:X.E t=some dd) (dA:dd.bM=.slice e) (hu:X.E u=some mE) (fP:mE.bM=.string) (he:X.E e=some aH) (dy:aH.size=1)
  (os:aO) (bl:os.ok aH.size xs) (aw:bI F s=.val os.val)
  {str:ByteArray} (ae:bI F x=.val (.string str)) (hm:0<str.size)
 (bd:M.Perm (os.aq e++Mr)) (b1:os.n+str.size<=maxLen) (b8:(os.n+str.size)*aH.bytes<=140737488355328)
  (k:∀ (g c:Nat) (aR:List Value),aR.length=c*aH.size->os.n+str.size<=c->c<=maxLen->aR.take ((os.n+str.size)*aH.size)=xs++lH str ->
   K (put o.dst (.val (.slice (some ⟨g,0,none⟩) (os.n+str.size) c)) F) C I (⟨g,.cells aR.toArray e (0,0)⟩::Mr)):bz X o F C I M K:=by
 refine O3 aQ aG aj au dA hu (λk=>by rw[fP];simp) he os bl aw ae hm ?_ ?_ (λ_=>rfl) (λw hw=>?_) bd b1 b8 (λg c aR _=>k g c aR)
 ·simp[lH,dy]
 ·refine fV.2 λv an=>?_;obtain⟨b,_,rfl⟩:=c6.1 an;rfl
 ·simp only[Builtin.firstCells,dn];congr 1;apply lY;have aN:str.extract 0 str.size=str:=by apply tr;simp[GS]
  simp[lH,aN]
end
section
variable{X:c3}{F:Fr}{C:dB}{I:aI}{M:List aD}{o:Oper}{K:gx}
def We(au:P.underlying t=some (.array 4 e))(he:P.underlying e=some (.int k)){inf:TypeInfo}(hi:P.info? e=some inf)(aw:inf.size=1)(fO cO en ev od b1 b8 eo:Int)(w:World) :
  (Op.equal t (.agg #[.int k fO,.int k cO,.int k en,.int k ev]) (.agg #[.int k od,.int k b1,.int k b8,.int k eo])).run P w=.ok (fO == od&&(cO == b1&&(en == b8&&ev == eo))) w:=by
 have Wf:∀ (xs:Array Value) (i:Nat) (v:Value) (w:World),xs[i]?=some v->(part e xs i).run P w=.ok v w:=λxs i v w h=>by
  have Gu:(isAgg e).run P w=.ok false w:=by unfold isAgg;simp[run_underlying he]
  unfold part;simp[Gu,sizeOf,typeInfo,hi,aw,h]
 have hint:∀ (d:Nat) (x y:Int) (w:World),(Op.equalIn (d+1) e (.int k x) (.int k y)).run P w=.ok (x == y) w:=λd x y w=>by simp[Op.equalIn,run_underlying he]
 have key:∀ m,(∀ (x y:Int) (w:World),(Op.equalIn m e (.int k x) (.int k y)).run P w=.ok (x == y) w)->(Op.equalIn (m+1) t (.agg #[.int k fO,.int k cO,.int k en,.int k ev]) (.agg #[.int k od,.int k b1,.int k b8,.int k eo])).run P w=.ok (fO == od&&(cO == b1&&(en == b8&&ev == eo))) w:=λm hint=>by
  rw[Op.equalIn];simp only[cz,run_underlying au,cd,sizeOf,typeInfo,hi,run_program,dn,aw];simp only[V1];have ag:List.range' 0 ([:4]:Std.Legacy.Range).size=[0,1,2,3]:=by decide
  rw[ag];have pa:=λ(i:Nat) (v:Value) (w:World)=>Wf #[.int k fO,.int k cO,.int k en,.int k ev] i v w;have KE:=λ(i:Nat) (v:Value) (w:World)=>Wf #[.int k od,.int k b1,.int k b8,.int k eo] i v w;simp only[List.forIn_cons,List.forIn_nil,cz];rw[pa (0*1) (.int k fO) w rfl];simp only[cd,cz];rw[KE (0*1) (.int k od) w rfl];simp only[cd,cz];rw[hint];simp only[cd];cases(fO == od);·simp
  simp only[zD,lX,mV,dn,cd,cz];rw[pa (1*1) (.int k cO) w rfl];simp only[cd,cz];rw[KE (1*1) (.int k b1) w rfl];simp only[cd,cz];rw[hint];simp only[cd];cases(cO == b1);·simp
  simp only[zD,lX,mV,dn,cd,cz];rw[pa (2*1) (.int k en) w rfl];simp only[cd,cz];rw[KE (2*1) (.int k b8) w rfl];simp only[cd,cz];rw[hint];simp only[cd];cases(en == b8);·simp
  simp only[zD,lX,mV,dn,cd,cz];rw[pa (3*1) (.int k ev) w rfl];simp only[cd,cz];rw[KE (3*1) (.int k eo) w rfl];simp only[cd,cz];rw[hint];simp only[cd];cases(ev == eo);·simp
  simp
 exact key 9999 (hint 9998)
theorem fm.KF{E:Env}(aQ:cX P E)(au:E t=some dd)(dA:dd.bM=.array 4 e)(he:E e=some aH)(jV:aH.bM=.int k)(az:P.eqGuardType P.depth t=false){fO cO en ev od b1 b8 eo:Int}{V:Value->Prop}
  (h:V (.bool (fO == od&&(cO == b1&&(en == b8&&ev == eo))))):fm P .eql t x y (.val (.agg #[.int k fO,.int k cO,.int k en,.int k ev])) (.val (.agg #[.int k od,.int k b1,.int k b8,.int k eo])) V other:=by
 obtain⟨d,fQ,eZ⟩:=(aQ _ _ au).fA;obtain⟨qC,O4,O5⟩:=(aQ _ _ he).fA;obtain⟨inf,z,hi,fp,_⟩:=(aQ _ _ he).inf;have aa:d=.array 4 e:=by rw[dA]at eZ;cases d<;>simp_all[fz]
 have ab:qC=.int k:=by rw[jV]at O5;cases qC<;>simp_all[fz]
 subst aa;subst ab;have gf:inf.size=1:=by rw[fp];exact(aQ _ _ he).J4 (by rw[jV];rfl)
 refine .mk _ _ _ rfl rfl (λw=>?_) h;simp only[cz,run_eqGuard_agg (hm:=az),cd,binOp,We fQ O4 hi gf,dn]
def fm.concat{a b:ByteArray}(aw:a.size+b.size<=9223372036854775807){V:Value->Prop}(h:V (.string (a++b))):fm P .add t x y (.val (.string a)) (.val (.string b)) V other:=by refine .mk _ _ _ rfl rfl (λw=>?_) h;simp only[cz,Oq,cd,binOp,run_string_add_sum _ _ _ aw,dn]
end
section
variable{X:c3}{β:Nat->Nat}{a:Act}{w:World}{F:Fr}{C:dB}{I:aI}{M:List aD}{o:Oper}{K:gx}
def cT.Wg{n:Nat}{nM:Obj}{w':World}(h:cT X β a w F C I (⟨n,nM⟩::M))(aw:w'.heap.size=w.heap.size)(ah:∀ b,b≠n->w'.heap[b]?=w.heap[b]?)(aG:oM w w'):cT X β a w' F C I M:=by
 have gj:(⟨n,nM⟩:aD)∈(⟨n,nM⟩:aD)::M:=by simp
 have bW:=h.holds.bO;simp only[ch,mw]at bW;exact {
  size:=h.size
  defers:=h.defers.mono λr ag=>by have bH:n≠r:=ag.fe _ gj;refine { ag with bF:=?_,fe:=λx ae=>ag.fe x f0 };rw[ah r (sh bH)];exact ag.bF
  holds:={
   i:=λb o jf=>by rw[ah b (λe=>md)];exact h.holds.i b o jf
   m:=λx ae=>by rw[ah _ (λe=>bW.1 (c6.2 ⟨x,ae,e⟩))];exact h.holds.m x f0
   d:=λx ae=>h.holds.d x f0
   bO:=bW.2 }
  ap:=h.ap
  cx:=λs cs l2=>by have we:=h.cx s cs l2;have bH:n≠β s:=we.fe _ gj;obtain⟨T,bm⟩:=we.bF;refine { we with bF:=⟨T,?_⟩,fe:=λx ae=>we.fe x f0 };rw[ah _ (sh bH)];exact bm
  inj:=h.inj
  ik:=h.ik
  hS:=h.hS
  own:=λx ae=>h.own x f0
  dR:=λb aV aC=>by
   rw[ah b (λe=>by
    rcases h.own _ gj with aa | aa;·simp only at aa;exact aC (e ▸ aa)
    ·simp only at aa;omega)]
   exact h.dR b aV aC
  out:=h.out.trans aG
  sz:=by rw[aw];exact h.sz
  fH:=h.fH }
def ahQ(w:World)(p:Addr)(n:Nat):(w.freeze p n).heap.size=w.heap.size:=by
 unfold World.freeze;split<;>simp
def ahR(w:World)(p:Addr)(n:Nat):oM w (w.freeze p n):=by
 unfold World.freeze;split<;>exact⟨rfl,rfl⟩
def ahS(w:World)(p:Addr)(n b:Nat)(h:b≠p.block):(w.freeze p n).heap[b]?=w.heap[b]?:=by
 unfold World.freeze;split
 ·rfl
 ·simp only[Array.getElem?_modify];rw[bK (sh h)]
theorem bz.O6(aQ:cX X.P X.E){p n:Operand}(aG:o.op=.call { callee:=.builtin .unsafeString,args:=#[p,n],argTypes:=#[uI,it] })(aj:∀ d,o.dst=some d->d<X.n)
 (au:X.E uI=some dd) (dA:dd.bM=.pointer e) (he:X.E e=some aH) (jV:aH.size=1)
 {l:List UInt8} (aK:bI F p=.val (.pointer (some ⟨g,0,none⟩))) (aE:bI F n=.val (.int .i64 l.length)) (ax:l≠[]) (O7:l.length<=9223372036854775807)
 (bd:M.Perm (⟨g,.cells cs e (0,0)⟩::Mr)) (l2:cs.toList.take l.length=l.map λb=>.int .u8 b.toNat)
  (h:K (put o.dst (.val (.string ⟨l.toArray⟩)) F) C I Mr):bz X o F C I M K:=by
 refine⟨λa w Q ⟨β,iT⟩=>?_⟩;have aZ:cT X β a w F C I (⟨g,.cells cs e (0,0)⟩::Mr):=iT.h6 (.perm bd .refl);have az:w.heap[g]?=some (.cells cs e (0,0)):=aZ.holds.m ⟨g,.cells cs e (0,0)⟩ am;obtain⟨d,fQ,eZ⟩:=(aQ _ _ au).fA;have aa:d=.pointer e:=by rw[dA]at eZ;cases d<;>simp_all[fz]
 subst aa;obtain⟨inf,z,hi,fp,_⟩:=(aQ _ _ he).inf;have ar:X.P.cellsOf e=1:=by simp[Program.cellsOf,hi,fp,jV]
 have c0:l.length<=cs.size:=by have:=congrArg List.length l2;simp only[fF,bA,wx]at this;omega
 have fk:=Lib.run_unsafeString_row (P:=X.P) w uI it o.type e fQ ar g cs.size (by simp[World.shape?,az]) l ax c0 O7 (λj x ai=>by
  rw[eK _ rfl,th az];have ab:(cs.toList.take l.length)[j]?=some (.int .u8 x.toNat):=by rw[l2];simp[ai]
  rw[lv]at ab;split at ab;·simpa using ab
  ·cases ab)
 have O8:=dt aZ.ap aK;have fi:=dt aZ.ap aE;refine iQ f9 (v:=.string ⟨l.toArray⟩) (w':=w.freeze ⟨g,0,none⟩ l.length) ?_ ⟨_,_,_,_,⟨β,cT.put (x:=.val (.string ⟨l.toArray⟩)) (aZ.Wg (ahQ _ _ _) (λb ah=>ahS _ _ _ _ ah) (ahR _ _ _)) aj rfl⟩,h⟩;unfold execOp;simp only[aG,resolve,invoke,builtin,cz,dn,cd,rs,ch,hd,O8,fi,fk]
def bz.Wh{p n:Operand}(aG:o.op=.call { callee:=.builtin .unsafeString,args:=#[p,n],argTypes:=#[uI,it] })(aj:∀ d,o.dst=some d->d<X.n)
  {q:Option Addr} (aK:bI F p=.val (.pointer q)) (aE:bI F n=.val (.int .i64 0)) (h:K (put o.dst (.val (.string .empty)) F) C I M):bz X o F C I M K:=by
 refine⟨λa w Q ⟨β,aZ⟩=>?_⟩;have O8:=dt aZ.ap aK;have fi:=dt aZ.ap aE;refine v5 aZ aj f9 ?_ h;unfold execOp;simp only[aG,resolve,invoke,builtin,cz,dn,cd,rs,ch,hd,O8,fi,Lib.run_unsafeString_none]
theorem bz.Wi(aQ:cX X.P X.E)(aG:o.op=.call { callee:=.builtin .copy,args:=#[x,y],argTypes:=#[t,u] })(aj:∀ d,o.dst=some d->d<X.n)
 (au:X.E t=some dd) (dA:dd.bM=.slice e) (he:X.E e=some aH) (jV:aH.size=1)
 {off dl Wj:Nat} {s:ByteArray} (ae:bI F x=.val (.slice (some ⟨g,off,none⟩) dl Wj)) (aF:bI F y=.val (.string s)) (bo:s.size<=dl) (ir:off+s.size<=cs.size)
 (bd:M.Perm (⟨g,.cells cs T (0,0)⟩::Mr))
  (h:K (put o.dst (.val (.int .i64 s.size)) F) C I (⟨g,.cells (cp cs.toList off (lH s)).toArray T (0,0)⟩::Mr)):bz X o F C I M K:=by
 refine⟨λa w Q ⟨β,iT⟩=>?_⟩;have aZ:cT X β a w F C I (⟨g,.cells cs T (0,0)⟩::Mr):=iT.h6 (.perm bd .refl);have az:w.heap[g]?=some (.cells cs T (0,0)):=aZ.holds.m ⟨g,.cells cs T (0,0)⟩ am;obtain⟨d,fQ,eZ⟩:=(aQ _ _ au).fA;have aa:d=.slice e:=by rw[dA]at eZ;cases d<;>simp_all[fz]
 subst aa;obtain⟨inf,z,hi,fp,_⟩:=(aQ _ _ he).inf;have ay:(lH s).length=s.size:=by simp[lH]
 have aa:∀ v∈lH s,v.oneCell'=true:=λv an=>by obtain⟨b,_,rfl⟩:=c6.1 an;rfl
 have fB:=run_storeCells_at X.P g off T (lH s) 0 cs w az (by rw[ay];simpa using ir) aa;simp only[pF]at fB;have ahT:Nat.min s.size dl=s.size:=pE bo;have aC:(Builtin.firstCells inf.size s.size (.string s)).run X.P w=.ok (lH s).toArray w:=V3 w inf.size s;have ex:=dt aZ.ap ae;have nN:=dt aZ.ap aF;have nb:=aZ.xK (ba:=[]) (post:=Mr) (cs':=(cp cs.toList off (lH s)).toArray) rfl;refine iQ f9 (v:=.int .i64 s.size) (w':=w.setRow g (cp cs.toList off (lH s)).toArray) ?_ ⟨_,_,_,_,⟨β,cT.put (x:=.val (.int .i64 s.size)) nb aj rfl⟩,h⟩;have fk:(Builtin.copy_ #[t,u] o.type #[.slice (some ⟨g,off,none⟩) dl Wj,.string s]).run X.P w=.ok (.int .i64 s.size) (w.setRow g (cp cs.toList off (lH s)).toArray):=by simp[Builtin.copy_,run_underlying fQ,Builtin.lenOf,ahT,sizeOf,typeInfo,hi,aC,fB,cp,goInt]
 unfold execOp;simp only[aG,resolve,invoke,builtin,cz,dn,cd,rs,ch,hd,ex,nN,fk]
end
structure cZ(I:aI)(a:Option Addr)(n c size b:Nat)(vs:List Value):Prop where
 len:vs.length=n*size
 cap:n<=c/\n*b<=140737488355328
 rd:n=0\/∃ ad,a=some ad/\ad.spot=none/\∃ cs T ap,I ad.block=some (.cells cs T ap)/\(cs.toList.drop ad.off).take (n*size)=vs
def cZ.mono{n:Nat}(h:cZ I a n c size b vs)(bG:∀ b o,I b=some o->I' b=some o):cZ I' a n c size b vs:=
 ⟨h.len,h.cap,h.rd.imp id λ⟨ad,aa,ab,cs,T,ap,al,aL⟩=>⟨ad,aa,ab,cs,T,ap,bG _ _ al,aL⟩⟩
def cZ.idx{n:Nat}(h:cZ I a n c size b vs)(ai:j<n) :
  ∃ ad,a=some ad/\∀ M,cG I M (ad.add (j*size)) size ((vs.drop (j*size)).take size):=by
 obtain⟨ay,_,ax | ⟨ad,a8,aw,cs,T,ap,bG,an⟩⟩:=h
 ·omega
 ·refine⟨ad,a8,λM=>?_⟩;have bo:j*size+size<=n*size:=by have:=oJ size (show j+1<=n from ai);rw[kD,m6]at this;exact this
  refine⟨by rw[eK _ aw],cs,T,ap,.inl (by rw[eK _ aw];exact bG),?_,?_⟩;·rw[eK _ aw,<-an,D1,D2,zC];congr 1;omega
  ·rw[fF,oU,ay];omega
def cZ.one{n:Nat}{f:α->Value}{l:List α}(h:cZ I a n c 1 b (l.map f))(ai:j<n)(jT:j<l.length) :
  ∃ ad,a=some ad/\∀ M,cG I M (ad.add (j*1)) 1 [f l[j]]:=by
 obtain⟨ad,aa,ab⟩:=h.idx ai;refine⟨ad,aa,λM=>?_⟩;have:=ab M;rw[gm,<-Kz,<-KA,e9 jT,rr,qw]at this;rw[gm];exact this
def BQ{α:Type}(f:α->List Value)(size:Nat)(aC:∀ x,(f x).length=size):∀ (l:List α) (j:Nat) (ai:j<l.length),((l.flatMap f).drop (j*size)).take size=f l[j]
 |x::l,0,_=>by simp only[iS,zE,tq,tp];rw[<-aC x];exact wy
 |x::l,j+1,ai=>by have aX:=BQ f size aC l j mt;simp only[iS,GU];rw[<-aX,show(j+1)*size=(f x).length+j*size from by rw[aC,kD];omega,V2]
def gz{α:Type}(f:α->List Value)(size:Nat)(aC:∀ x,(f x).length=size):∀ (l:List α),(l.flatMap f).length=l.length*size
 |[]=>by simp
 |x::l=>by simp[gz f size aC l,aC x,kD];omega
def cZ.row{n:Nat}{f:α->List Value}(aC:∀ x,(f x).length=size){l:List α}(h:cZ I a n c size b (l.flatMap f))(ai:j<n)(jT:j<l.length) :
  ∃ ad,a=some ad/\∀ M,cG I M (ad.add (j*size)) size (f l[j]):=by
 obtain⟨ad,aa,ab⟩:=h.idx ai;refine⟨ad,aa,λM=>?_⟩;have:=ab M;rwa [BQ f size aC l j jT]at this
def cG.part{M:List aD}{a:Addr}{n k:Nat}(h:cG I M a n vs)(af:k+m<=n):cG I M (a.add k) m ((vs.drop k).take m):=by
 obtain⟨aw,cs,T,ap,aa,ab,al⟩:=h;refine⟨by rw[eK _ aw],cs,T,ap,by rw[eK _ aw];exact aa,?_,?_⟩
 ·rw[eK _ aw,<-ab,D1,D2,zC];congr 1;omega
 ·rw[fF,oU,al];omega
structure ak where
 k:Int
 b0:Int
 s1:Int
 s2:Int
 cg:Int
 t:ByteArray
 lo:Int
 hi:Int
 bX:Option Addr
 aA:Nat
 b5:Nat
 ao:List Int
def ak.cells(d:ak):List Value:=[.int .u8 d.k,.int .u64 d.b0,.int .u64 d.s1,.int .u64 d.s2,.int .u64 d.cg,.string d.t,.int .i64 d.lo,.int .i64 d.hi,.slice d.bX d.aA d.b5]
def ak.val(d:ak):Value:=.agg #[.int .u8 d.k,.int .u64 d.b0,.int .u64 d.s1,.int .u64 d.s2,.int .u64 d.cg,.string d.t,.int .i64 d.lo,.int .i64 d.hi,.slice d.bX d.aA d.b5]
def hy(x:Int):Prop:=-9223372036854775808<=x/\x<=9223372036854775807
def eC(x:Int):Prop:=0<=x/\x<18446744073709551616
structure ak.ok(I:aI)(d:ak):Prop where
 k:0<=d.k/\d.k<256
 b0:eC d.b0
 s1:eC d.s1
 s2:eC d.s2
 cg:eC d.cg
 t:d.t.size<=9223372036854775807
 lo:hy d.lo
 hi:hy d.hi
 a':cZ I d.bX d.aA d.b5 1 8 (d.ao.map (.int .i64 ·))
 ao:∀ x∈d.ao,hy x
def ak.cq(d:ak):d.cells.length=9:=rfl
def ak.ok.aA{d:ak}(h:d.ok I):d.ao.length=d.aA:=by have:=h.a'.len;simpa using this
structure bf where
 ns:List ak
 a:Option Addr
 n:Nat
 c:Nat
 bp:Int
def bf.cells(t:bf):List Value:=[.slice t.a t.n t.c,.int .i64 t.bp]
def bf.val(t:bf):Value:=.agg #[.slice t.a t.n t.c,.int .i64 t.bp]
structure bf.ok(I:aI)(t:bf):Prop where
 a':cZ I t.a t.n t.c 9 96 (t.ns.flatMap ak.cells)
 ns:∀ d∈t.ns,d.ok I
 bp:hy t.bp
def bf.ok.n{t:bf}(h:t.ok I):t.ns.length=t.n:=by have:=h.a'.len;rw[gz _ 9 ak.cq]at this;omega
structure a4 where
 name:ByteArray
 t:bf
def a4.cells(d:a4):List Value:=[.string d.name,.slice d.t.a d.t.n d.t.c,.int .i64 d.t.bp]
structure a4.ok(I:aI)(d:a4):Prop where
 name:d.name.size<=140737488355328
 t:d.t.ok I
def a4.cq(d:a4):d.cells.length=3:=rfl
structure cR where
 ds:List a4
 a:Option Addr
 n:Nat
 c:Nat
def cR.val(g:cR):Value:=.agg #[.slice g.a g.n g.c]
structure cR.ok(I:aI)(g:cR):Prop where
 a':cZ I g.a g.n g.c 3 48 (g.ds.flatMap a4.cells)
 ds:∀ d∈g.ds,d.ok I
def cR.ok.n{g:cR}(h:g.ok I):g.ds.length=g.n:=by have:=h.a'.len;rw[gz _ 3 a4.cq]at this;omega
def ak.ok.mono{d:ak}(h:d.ok I)(bG:∀ b o,I b=some o->I' b=some o):d.ok I':={ h with a':=h.a'.mono bG }
def bf.ok.mono{t:bf}(h:t.ok I)(bG:∀ b o,I b=some o->I' b=some o):t.ok I':=⟨h.a'.mono bG,λd aj=>(h.ns d aj).mono bG,h.bp⟩
def a4.ok.mono{d:a4}(h:d.ok I)(bG:∀ b o,I b=some o->I' b=some o):d.ok I':=⟨h.name,h.t.mono bG⟩
def cR.ok.mono{g:cR}(h:g.ok I)(bG:∀ b o,I b=some o->I' b=some o):g.ok I':=⟨h.a'.mono bG,λd aj=>(h.ds d aj).mono bG⟩
def wrap_i64{x:Int}(h:hy x):IntKind.i64.wrap x=x:=by obtain⟨aa,ab⟩:=h;unfold IntKind.wrap;simp only[IntKind.bits,IntKind.signed];simp;omega
open Go Go.Proofs
def a1(t n:Nat)(a b:Option dV):Option dV:=bif Nat.blt t n then a else b
def tt(n:Nat):Option dV:=some ⟨1,8,[.pointer none],.pointer n⟩
def kE(n:Nat):Option dV:=some ⟨1,24,[.slice none 0 0],.slice n⟩
def hf:Option dV:=none
def bS:Option dV:=some ⟨1,8,[.nilFunc],.other⟩
def O9:Option dV:=some ⟨1,8,[.int .i64 0],.int .i64⟩
def O':Option dV:=some ⟨1,1,[.int .u8 0],.int .u8⟩
def Wk:Option dV:=some ⟨4,24,[.int .i64 0,.int .i64 0,.bool false,.int .u8 0],.struct [(2,0),(3,1),(4,2),(6,3)]⟩
def Wl:Option dV:=some ⟨1,16,[.string ⟨#[]⟩],.string⟩
def Pa:Option dV:=some ⟨1,8,[.int .u64 0],.int .u64⟩
def Wm:Option dV:=some ⟨2,24,[.string ⟨#[]⟩,.int .u64 0],.struct [(9,0),(12,1)]⟩
def Wn:Option dV:=some ⟨1,8,[.pointer none],.struct [(17,0)]⟩
def Wo:Option dV:=some ⟨1,4,[.int .i32 0],.int .i32⟩
def Wp:Option dV:=some ⟨2,32,[.slice none 0 0,.int .i64 0],.struct [(22,0),(3,1)]⟩
def Wq:Option dV:=some ⟨1,24,[.slice none 0 0],.struct [(26,0)]⟩
def Wr:Option dV:=some ⟨4,32,[.int .u64 0,.int .u64 0,.int .u64 0,.int .u64 0],.array 4 34⟩
def Pb:Option dV:=some ⟨2,32,[.int .i64 0,.slice none 0 0],.struct [(3,0),(42,1)]⟩
def Ws:Option dV:=some ⟨5,112,[.string ⟨#[]⟩,.slice none 0 0,.slice none 0 0,.slice none 0 0,.slice none 0 0],.struct [(9,0),(121,1),(42,2),(22,3),(123,4)]⟩
def Wt:Option dV:=some ⟨3,32,[.string ⟨#[]⟩,.int .i64 0,.int .i64 0],.struct [(9,0),(3,1),(3,2)]⟩
def Wu:Option dV:=some ⟨4,16,[.int .i64 0,.int .i32 0,.int .u8 0,.int .u8 0],.struct [(2,0),(21,1),(5,2),(5,3)]⟩
def Wv:Option dV:=some ⟨64,512,List.replicate 64 (.int .u64 0),.array 64 34⟩
def Ww:Option dV:=some ⟨66,528,[.int .i64 0,.int .u64 0,.int .u64 0,.int .u64 0,.int .u64 0,.int .u64 0,.int .u64 0,.int .u64 0,.int .u64 0,.int .u64 0,.int .u64 0,.int .u64 0,.int .u64 0,.int .u64 0,.int .u64 0,.int .u64 0,.int .u64 0,.int .u64 0,.int .u64 0,.int .u64 0,.int .u64 0,.int .u64 0,.int .u64 0,.int .u64 0,.int .u64 0,.int .u64 0,.int .u64 0,.int .u64 0,.int .u64 0,.int .u64 0,.int .u64 0,.int .u64 0,.int .u64 0,.int .u64 0,.int .u64 0,.int .u64 0,.int .u64 0,.int .u64 0,.int .u64 0,.int .u64 0,.int .u64 0,.int .u64 0,.int .u64 0,.int .u64 0,.int .u64 0,.int .u64 0,.int .u64 0,.int .u64 0,.int .u64 0,.int .u64 0,.int .u64 0,.int .u64 0,.int .u64 0,.int .u64 0,.int .u64 0,.int .u64 0,.int .u64 0,.int .u64 0,.int .u64 0,.int .u64 0,.int .u64 0,.int .u64 0,.int .u64 0,.int .u64 0,.int .u64 0,.int .u64 0],.struct [(3,0),(213,1),(34,65)]⟩
def Wx:Option dV:=some ⟨8,160,[.slice none 0 0,.int .i64 0,.int .i64 0,.slice none 0 0,.slice none 0 0,.slice none 0 0,.slice none 0 0,.slice none 0 0],.struct [(248,0),(3,1),(3,2),(22,3),(249,4),(26,5),(248,6),(248,7)]⟩
def KG:Option dV:=some ⟨2,16,[.int .i64 0,.int .i64 0],.struct [(3,0),(3,1)]⟩
def Wy:Option dV:=some ⟨5,96,[.int .u8 0,.string ⟨#[]⟩,.slice none 0 0,.slice none 0 0,.slice none 0 0],.struct [(5,0),(9,1),(42,2),(42,3),(33,4)]⟩
def Wz:Option dV:=some ⟨10,88,[.int .u8 0,.int .i64 0,.int .i64 0,.string ⟨#[]⟩,.int .u64 0,.int .u64 0,.int .u64 0,.int .u64 0,.int .i64 0,.int .i64 0],.struct [(5,0),(3,1),(3,2),(9,3),(36,4),(3,8),(3,9)]⟩
def Pc:Option dV:=some ⟨3,3,[.bool false,.bool false,.bool false],.struct [(4,0),(4,1),(4,2)]⟩
def WA:Option dV:=some ⟨2,32,[.pointer none,.slice none 0 0],.struct [(339,0),(33,1)]⟩
def WB:Option dV:=some ⟨6,64,[.string ⟨#[]⟩,.string ⟨#[]⟩,.int .u8 0,.map none,.int .i64 0,.int .i64 0],.struct [(9,0),(9,1),(5,2),(415,3),(3,4),(47,5)]⟩
def sA:Env:=λt=>bif Nat.blt t 455 then(a1 t 227 (a1 t 113 (a1 t 56 (a1 t 28 (a1 t 14 (a1 t 7 (a1 t 3 (a1 t 1 hf (a1 t 2 bS O9)) (a1 t 5 (a1 t 4 O9 (some ⟨1,1,[.bool false],.bool⟩)) O')) (a1 t 10 (a1 t 8 Wk (a1 t 9 Wk Wl)) (a1 t 12 Wl (a1 t 13 Pa Wm)))) (a1 t 21 (a1 t 17 (a1 t 15 Wm (a1 t 16 (tt 444) (tt 447))) (a1 t 19 (a1 t 18 (tt 454) Wn) (a1 t 20 Wn (some ⟨1,16,[.nilIface],.other⟩)))) (a1 t 24 (a1 t 22 Wo (a1 t 23 (kE 88) Wp)) (a1 t 26 (a1 t 25 Wp bS) (a1 t 27 (kE 32) Wq))))) (a1 t 42 (a1 t 35 (a1 t 31 (a1 t 29 Wq bS) (a1 t 33 (some ⟨3,48,[.string ⟨#[]⟩,.slice none 0 0,.int .i64 0],.struct [(9,0),(24,1)]⟩) (a1 t 34 (kE 5) Pa))) (a1 t 38 (a1 t 36 Wr (a1 t 37 Wr hf)) bS)) (a1 t 49 (a1 t 45 (a1 t 43 (kE 3) (some ⟨5,48,[.int .u8 0,.int .u8 0,.int .i64 0,.slice none 0 0,.int .i64 0],.struct [(5,0),(5,1),(3,2),(42,3),(3,4)]⟩)) (a1 t 47 (a1 t 46 (kE 44) bS) (a1 t 48 O9 hf))) (a1 t 52 (a1 t 50 bS (a1 t 51 hf bS)) (a1 t 54 bS (a1 t 55 bS (kE 24))))))) (a1 t 84 (a1 t 70 (a1 t 63 (a1 t 59 (a1 t 57 bS (a1 t 58 bS (tt 125))) (a1 t 61 (a1 t 60 hf bS) (a1 t 62 hf bS))) (a1 t 66 (a1 t 64 (kE 135) (some ⟨3,40,[.bool false,.int .i64 0,.slice none 0 0],.struct [(4,0),(3,1),(63,2)]⟩)) (a1 t 68 (a1 t 67 hf bS) bS))) (a1 t 77 bS (a1 t 80 (a1 t 78 bS (a1 t 79 bS hf)) (a1 t 82 (a1 t 81 bS (kE 84)) (a1 t 83 bS Pb))))) (a1 t 98 (a1 t 91 (a1 t 87 (a1 t 85 Pb bS) (a1 t 89 (some ⟨9,96,[.int .u8 0,.int .u64 0,.int .u64 0,.int .u64 0,.int .u64 0,.string ⟨#[]⟩,.int .i64 0,.int .i64 0,.slice none 0 0],.struct [(5,0),(36,1),(9,5),(3,6),(3,7),(42,8)]⟩) (a1 t 90 bS hf))) (a1 t 94 bS (a1 t 96 (a1 t 95 bS (some ⟨5,56,[.string ⟨#[]⟩,.string ⟨#[]⟩,.int .u8 0,.bool false,.string ⟨#[]⟩],.struct [(9,0),(9,1),(5,2),(4,3),(9,4)]⟩)) (a1 t 97 (kE 95) bS)))) (a1 t 105 bS (a1 t 109 (a1 t 107 (a1 t 106 (some ⟨4,32,[.nilFunc,.nilFunc,.nilFunc,.nilFunc],.array 4 104⟩) bS) bS) (a1 t 111 (a1 t 110 bS (kE 113)) bS)))))) (a1 t 170 (a1 t 141 (a1 t 127 (a1 t 120 (a1 t 116 (a1 t 114 Pb bS) bS) (a1 t 123 (a1 t 121 bS (a1 t 122 (kE 9) bS)) (a1 t 125 (a1 t 124 (kE 198) Ws) (a1 t 126 Ws bS)))) (a1 t 134 bS (a1 t 137 (a1 t 135 Wt (a1 t 136 Wt hf)) bS))) (a1 t 155 (a1 t 148 bS (a1 t 151 (a1 t 149 bS (a1 t 150 (some ⟨4,32,[.nilFunc,.nilFunc,.nilFunc,.nilFunc],.array 4 148⟩) bS)) (a1 t 153 (a1 t 152 bS hf) bS))) (a1 t 162 bS (a1 t 166 bS (a1 t 168 (a1 t 167 bS (some ⟨1,8,[.map none],.map 9 3⟩)) bS))))) (a1 t 198 (a1 t 184 (a1 t 177 (a1 t 173 (a1 t 171 bS (some ⟨1,24,[.slice none 0 0],.struct [(22,0)]⟩)) (a1 t 175 (a1 t 174 bS (some ⟨10,80,[.nilFunc,.nilFunc,.nilFunc,.nilFunc,.nilFunc,.nilFunc,.nilFunc,.nilFunc,.nilFunc,.nilFunc],.array 10 173⟩)) (a1 t 176 bS (tt 172)))) (a1 t 180 bS (a1 t 182 (a1 t 181 bS hf) bS))) (a1 t 191 (a1 t 187 (a1 t 185 hf bS) (a1 t 189 bS (a1 t 190 (kE 4) bS))) (a1 t 194 (a1 t 192 (kE 42) bS) bS))) (a1 t 212 (a1 t 205 (a1 t 201 (a1 t 199 (kE 208) bS) (a1 t 203 (a1 t 202 (some ⟨10,80,[.nilFunc,.nilFunc,.nilFunc,.nilFunc,.nilFunc,.nilFunc,.nilFunc,.nilFunc,.nilFunc,.nilFunc],.array 10 200⟩) bS) bS)) (a1 t 208 (a1 t 206 bS (a1 t 207 bS Wu)) (a1 t 210 (a1 t 209 Wu bS) bS))) (a1 t 219 (a1 t 215 (a1 t 213 Wv (a1 t 214 Wv Ww)) (a1 t 217 (a1 t 216 Ww hf) bS)) bS))))) (a1 t 341 (a1 t 284 (a1 t 255 (a1 t 241 (a1 t 234 (a1 t 230 (a1 t 228 bS (a1 t 229 (kE 296) hf)) (a1 t 232 (a1 t 231 bS hf) bS)) bS) (a1 t 248 (a1 t 244 (a1 t 242 hf bS) (a1 t 246 (a1 t 245 bS (tt 251)) (a1 t 247 hf bS))) (a1 t 251 (a1 t 249 (kE 317) (a1 t 250 (kE 310) Wx)) (a1 t 253 (a1 t 252 Wx bS) bS)))) (a1 t 269 (a1 t 262 (a1 t 258 (a1 t 256 bS (a1 t 257 hf bS)) (a1 t 260 bS (a1 t 261 (some ⟨2,16,[.int .i64 0,.int .i64 0],.array 2 3⟩) (some ⟨20,160,List.replicate 20 (.int .i64 0),.array 10 260⟩)))) (a1 t 265 bS (a1 t 267 (a1 t 266 bS KG) (a1 t 268 KG (kE 267))))) (a1 t 276 (a1 t 272 (a1 t 270 bS (a1 t 271 bS (kE 333))) (a1 t 274 (a1 t 273 hf bS) (a1 t 275 hf bS))) (a1 t 280 (a1 t 278 bS (a1 t 279 bS hf)) (a1 t 282 (a1 t 281 bS (kE 189)) bS))))) (a1 t 312 (a1 t 298 (a1 t 291 (a1 t 287 bS (a1 t 289 (a1 t 288 hf bS) bS)) (a1 t 294 bS (a1 t 296 (a1 t 295 bS KG) (a1 t 297 KG hf)))) (a1 t 305 bS (a1 t 308 (a1 t 306 bS (a1 t 307 bS hf)) (a1 t 310 (a1 t 309 bS Wy) (a1 t 311 Wy hf))))) (a1 t 326 (a1 t 319 (a1 t 315 bS (a1 t 317 (a1 t 316 (tt 310) Wz) (a1 t 318 Wz bS))) (a1 t 322 bS (a1 t 324 (a1 t 323 bS (kE 354)) (a1 t 325 hf bS)))) (a1 t 333 (a1 t 329 bS (a1 t 331 bS (a1 t 332 bS Pc))) (a1 t 337 (a1 t 335 (a1 t 334 Pc bS) (a1 t 336 bS (some ⟨4,64,[.slice none 0 0,.int .i64 0,.slice none 0 0,.int .i64 0],.array 2 24⟩))) (a1 t 339 (a1 t 338 (kE 336) (tt 24)) (a1 t 340 (tt 341) WA))))))) (a1 t 398 (a1 t 369 (a1 t 355 (a1 t 348 (a1 t 344 (a1 t 342 WA (some ⟨1,16,[.nilIface],.other⟩)) (a1 t 346 (a1 t 345 hf bS) bS)) (a1 t 351 bS (a1 t 353 (a1 t 352 hf bS) (a1 t 354 bS Pc)))) (a1 t 362 (a1 t 358 (a1 t 356 hf bS) (a1 t 360 (a1 t 359 bS (some ⟨10,80,[.nilFunc,.nilFunc,.nilFunc,.nilFunc,.nilFunc,.nilFunc,.nilFunc,.nilFunc,.nilFunc,.nilFunc],.array 10 358⟩)) bS)) (a1 t 365 bS (a1 t 367 (a1 t 366 (tt 5) bS) (a1 t 368 (some ⟨1,8,[.map none],.map 5 371⟩) bS))))) (a1 t 383 (a1 t 376 (a1 t 372 bS (a1 t 374 hf (a1 t 375 hf bS))) (a1 t 379 (a1 t 377 bS (some ⟨3,24,[.int .i64 0,.int .i64 0,.bool false],.struct [(3,0),(3,1),(4,2)]⟩)) (a1 t 381 (a1 t 380 (kE 378) (tt 378)) bS))) (a1 t 390 (a1 t 386 (a1 t 384 (some ⟨3,48,[.string ⟨#[]⟩,.string ⟨#[]⟩,.string ⟨#[]⟩],.struct [(9,0),(9,1),(9,2)]⟩) (a1 t 385 (some ⟨30,480,List.replicate 30 (.string ⟨#[]⟩),.array 10 383⟩) bS)) (a1 t 388 (a1 t 387 (some ⟨1,8,[.pointer none],.other⟩) bS) bS)) (a1 t 394 (a1 t 392 bS (a1 t 393 bS hf)) (a1 t 396 bS (a1 t 397 hf bS)))))) (a1 t 426 (a1 t 412 (a1 t 405 (a1 t 401 (a1 t 399 hf bS) (a1 t 403 (a1 t 402 bS (kE 404)) (a1 t 404 bS (some ⟨2,2,[.int .u8 0,.int .u8 0],.array 2 5⟩)))) (a1 t 408 bS (a1 t 410 (a1 t 409 (some ⟨3,32,[.int .i64 0,.int .i64 0,.string ⟨#[]⟩],.struct [(3,0),(3,1),(9,2)]⟩) (some ⟨9,96,[.int .i64 0,.int .i64 0,.string ⟨#[]⟩,.int .i64 0,.int .i64 0,.string ⟨#[]⟩,.int .i64 0,.int .i64 0,.string ⟨#[]⟩],.array 3 408⟩)) (a1 t 411 (tt 417) bS)))) (a1 t 419 (a1 t 415 bS (a1 t 417 (a1 t 416 (some ⟨1,8,[.map none],.map 5 5⟩) WB) (a1 t 418 WB hf))) (a1 t 422 bS (a1 t 424 (a1 t 423 Pa bS) bS)))) (a1 t 440 (a1 t 433 (a1 t 429 (a1 t 427 bS (a1 t 428 bS (some ⟨64,64,List.replicate 64 (.int .u8 0),.array 64 5⟩))) (a1 t 431 (a1 t 430 bS (some ⟨1,4,[.int .u32 0],.int .u32⟩)) (a1 t 432 hf bS))) (a1 t 436 (a1 t 434 (some ⟨24,24,List.replicate 24 (.int .u8 0),.array 24 5⟩) (a1 t 435 bS hf)) (a1 t 438 bS (a1 t 439 (some ⟨20,160,List.replicate 20 (.int .u64 0),.array 20 34⟩) (some ⟨65,65,List.replicate 65 (.int .u8 0),.array 65 5⟩))))) (a1 t 447 (a1 t 443 (a1 t 441 bS (a1 t 442 bS (some ⟨32,32,List.replicate 32 (.int .u8 0),.array 32 5⟩))) (a1 t 445 (some ⟨4,40,[.pointer none,.pointer none,.pointer none,.string ⟨#[]⟩],.struct [(17,0),(17,1),(17,2),(9,3)]⟩) (a1 t 446 (some ⟨0,0,[],.array 0 16⟩) (some ⟨0,0,[],.struct [(445,0)]⟩)))) (a1 t 451 (a1 t 449 (a1 t 448 (some ⟨0,0,[],.struct [(445,0)]⟩) O') (a1 t 450 O' bS)) (a1 t 453 Wo (some ⟨11,48,[.int .u64 0,.int .u64 0,.int .u32 0,.int .u8 0,.int .u8 0,.int .u8 0,.int .u8 0,.nilFunc,.pointer none,.int .i32 0,.int .i32 0],.struct [(12,0),(12,1),(430,2),(448,3),(5,4),(5,5),(449,6),(450,7),(365,8),(451,9),(452,10)]⟩)))))))))else none
def aT:cX Tryz.prog sA:=ag6 455 (λt h=>by
 have bu:Nat.blt t 455=false:=by
  cases ah:Nat.blt t 455 with
  |false=>rfl| true=>exact absurd (bJ ah) Z
 simp only[sA,bu,cw]) d4
def letter(c:UInt8):Bool:=decide (97<=c.toNat/\c.toNat<=122)||(decide (65<=c.toNat/\c.toNat<=90)||decide (c.toNat=95))
def digit(c:UInt8):Bool:=decide (48<=c.toNat/\c.toNat<=57)
theorem WC(I:aI)(c:UInt8):Spec Tryz.prog 288 [.int .u8 c.toNat] I [] (λv I' M'=>v=.bool (letter c)/\I'=I/\M'=[]):=by
 refine bR [] aT Tryz.func288 rfl rfl rfl ?_;intro B ax
 repeat' (refine bZ.mk (λh=>?_) (λh=>?_))
 all_goals
  refine⟨_,_,.refl,?_⟩;refine⟨?_,rfl,rfl⟩;simp_all[letter]
  all_goals first
   |omega|(rw[my];simp;omega)
theorem ahU(I:aI)(c:UInt8):Spec Tryz.prog 289 [.int .u8 c.toNat] I [] (λv I' M'=>v=.bool (digit c)/\I'=I/\M'=[]):=by
 refine bR [] aT Tryz.func289 rfl rfl rfl ?_;intro B ax
 repeat' (refine bZ.mk (λh=>?_) (λh=>?_))
 all_goals
  refine⟨_,_,.refl,?_⟩;refine⟨?_,rfl,rfl⟩;simp_all[digit]
  all_goals first
   |omega|(rw[my];simp;omega)
def BR(s:ByteArray):s.data.toList.length=s.size:=wx
def ahV(I:aI)(s:ByteArray)(aw:s.size<=140737488355328):Spec Tryz.prog 326 [.string s] I [] (λv I' M'=>v=.string s/\I'=I/\M'=[]):=by
 refine bR [] aT Tryz.func326 rfl rfl rfl ?_;intro B ax;refine aS.mk (λh=>?_) (λh=>?_)
 ·refine⟨_,_,.refl,?_,rfl,rfl⟩;have aa:s.size=0:=by simpa using h
  have:s=.empty:=by apply tr;exact GR aa
  rw[this];rfl
 ·have aa:s.size≠0:=by simpa using h
  refine n9.mk s.size s.size rfl rfl (cf _) (by show 1*s.size<=_;omega) Z ?_;refine bN.mk λb ah uO=>?_;refine bz.Wi aT rfl am (e:=5) rfl rfl rfl rfl rfl rfl (cf _) ?_ (.refl _) ?_;·simp[td,madeCells]
  refine bi.mk ⟨b,0,none⟩ 0 rfl rfl Z ?_;refine bz.O6 aT rfl am (e:=5) rfl rfl rfl rfl (g:=b) (l:=s.data.toList) rfl ?_ ?_ ?_ (.refl _) ?_ ?_;·show dK.val (.int .i64 (s.size:Int))=dK.val (.int .i64 (s.data.toList.length:Int));rw[BR]
  ·intro e;have:=congrArg List.length e;rw[BR]at this;exact aa this
  ·rw[BR];omega
  ·rw[BR];have ay:(lH s).length=s.size:=by simp[lH]
   simp only[cp];rw[qw,hW,BJ (by rw[ay];exact cf _),<-ay,DZ];rfl
  ·exact⟨_,_,.refl,rfl,rfl,rfl⟩
def WD(I:aI)(s:ByteArray)(aw:s.size<=140737488355328):Spec Tryz.prog 290 [.string s] I [] (λv I' M'=>v=.string s/\I'=I/\M'=[]):=by refine bR [] aT Tryz.func290 rfl rfl rfl ?_;intro B ax;refine a9.mk [] [] _ (.refl _) (ahV I s aw) ?_;rintro v I' M' -⟨rfl,rfl,rfl⟩;exact⟨_,_,.refl,rfl,rfl,rfl⟩
def mF(c:UInt8):Bool:=letter c||digit c
def mG(s:ByteArray):Nat:=match s.data.toList with
 |[]=>0| c::r=>bif letter c then 1+(r.takeWhile mF).length else 0
def WE{α:Type}(p:α->Bool):∀ (l:List α) (i:Nat),i<=l.length->(∀ j (h:j<l.length),j<i->p l[j]=true)->(∀ (h:i<l.length),p l[i]=false)->(l.takeWhile p).length=i
 |[],i,h,_,_=>by simp at h;simp[h]
 |x::l,0,_,_,h=>by have:=h am;simp only[tp]at this;simp[this]
 |x::l,i+1,hi,aa,ab=>by have ae:=aa 0 am Z;simp only[tp]at ae;have aX:=WE p l i i7 (λj ai Kq=>by have:=aa (j+1) mt Z;simpa using this) (λh=>by have:=ab i9;simpa using this);simp[ae,aX]
def WG{s:ByteArray}(ax:0<s.size)(ay:letter s[0]=true)(aa:1<=i)(hi:i<=s.size)(a8:∀ j (h:j<s.size),1<=j->j<i->mF s[j]=true)(ah:∀ (h:i<s.size),mF s[i]=false):mG s=i:=by
 have get:∀ j (h:j<s.size),s[j]=s.data.toList[j]'(by rw[BR];exact h):=λj h=>rfl;unfold mG;have c0:=BR s;cases aj:s.data.toList with
 |nil=>rw[aj]at c0;simp at c0;omega
 |cons c r=>
  have g:∀ j (h:j<s.size),s[j]=(c::r)[j]'(by rw[<-aj,c0];exact h):=λj h=>by rw[get j h];simp only[aj]
  rw[aj]at c0;have ar:letter c=true:=by rw[g 0 ax]at ay;simpa using ay
  simp only[ar,cD];simp only[ey]at c0;rw[WE mF r (i-1) Z (λj ai Kq=>by
   have al:j+1<s.size:=by omega
   have:=a8 (j+1) al Z Z;rw[g (j+1) al]at this;simpa using this) (λh=>by
   have al:i<s.size:=by omega
   have:=ah al;rw[g i al]at this;have e:i=(i-1)+1:=by omega
   rw[OV]at this;rw[dif_neg Z]at this;exact this)]
  omega
def ahW(I:aI)(s:ByteArray)(aw:s.size<=140737488355328):Spec Tryz.prog 220 [.string s] I [] (λv I' M'=>v=.string (s.extract 0 (mG s))/\I'=I/\M'=[]):=by
 refine bR [] aT Tryz.func220 rfl rfl rfl ?_;intro B ax;have dC:∀ {s:ByteArray},mG s=0->s.extract 0 (mG s)=⟨#[]⟩:=λh=>by rw[h];apply tr;simp[GS]
 refine bZ.mk (λh=>?_) (λh=>?_)
 ·have aa:s≠⟨#[]⟩:=by simpa using h
  have kB:0<s.size:=by refine Nat.pos_of_ne_zero λe=>aa ?_;apply tr;exact GR e
  refine oL.mk 0 rfl kB ?_;refine a9.mk [] [] _ (.refl _) (WC I s[0]) ?_;rintro v I' M' -⟨rfl,rfl,rfl⟩;refine aS.mk (λh=>?_) (λh=>?_)
  ·have ay:letter s[0]=false:=by simpa using h
   refine⟨_,_,.refl,?_,rfl,rfl⟩;rw[dC]
   ·unfold mG;cases aj:s.data.toList with
    |nil=>rfl
    |cons c r=>
     have:s[0]=c:=by show s.data.toList[0]=c;simp only[aj];rfl
     rw[this]at ay;simp[ay]
  ·have ay:letter s[0]=true:=by simpa using h
   refine c2.inv (ι:=Nat) (λi=>{ bn:=[(0,.val (.string s)),(3,.val (.int .i64 i))],cm:=I' }) (λi=>1<=i/\i<=s.size/\∀ j (h:j<s.size),1<=j->j<i->mF s[j]=true) (λi=>s.size-i) ?_ ?_;·exact⟨1,⟨Z,Z,λj _ aa ab=>Z⟩,.refl,tl,.nil⟩
   ·rintro i⟨fp,hs,h8⟩;have next:∀ (aV:i<s.size),mF s[i]=true->(1<=i+1/\i+1<=s.size/\∀ k (h:k<s.size),1<=k->k<i+1->mF s[k]=true)/\s.size-(i+1)<s.size-i:=λaV ar=>
     ⟨⟨Z,Z,λj ai aa ab=>by
      by_cases e:j=i;·subst e;exact ar
      ·exact h8 j ai aa Z⟩,Z⟩
    have out:(∀ (h:i<s.size),mF s[i]=false)->s.extract 0 i=s.extract 0 (mG s):=λaE=>by rw[WG kB ay fp hs h8 aE]
    have dy:(s.extract 0 i).size<=140737488355328:=by rw[Kw];omega
    have gA:IntKind.i64.wrap ((i:Int)+1)=((i+1:Nat):Int):=by rw[wrap_i64 ⟨Z,Z⟩];omega
    refine bZ.mk (λh=>?_) (λh=>?_)
    ·have aV:i<s.size:=by simpa using h
     refine oL.mk i rfl aV ?_;refine a9.mk [] [] _ (.refl _) (WC I' s[i]) ?_;rintro v I' M' -⟨rfl,rfl,rfl⟩;refine bZ.mk (λh=>?_) (λh=>?_)
     ·refine oL.mk i rfl aV ?_;refine a9.mk [] [] _ (.refl _) (ahU _ s[i]) ?_;rintro v I' M' -⟨rfl,rfl,rfl⟩;refine aS.mk (λab=>?_) (λab=>?_)
      ·refine a3.mk _ gA ?_;exact⟨i+1,next aV abs,.refl,tl,.nil⟩
      ·refine j7.mk 0 i rfl rfl Z Z ?_;refine a9.mk [] [] _ (.refl _) (WD _ _ dy) ?_;rintro v I' M' -⟨rfl,rfl,rfl⟩;refine⟨_,_,.refl,?_,rfl,rfl⟩;rw[<-out λ_=>rx]
     ·refine a3.mk _ gA ?_;exact⟨i+1,next aV ab',.refl,tl,.nil⟩
    ·have cM:¬ i<s.size:=by simpa using h
     refine j7.mk 0 i rfl rfl Z Z ?_;refine a9.mk [] [] _ (.refl _) (WD _ _ dy) ?_;rintro v I' M' -⟨rfl,rfl,rfl⟩;refine⟨_,_,.refl,?_,rfl,rfl⟩;rw[<-out λh=>(cM h).elim]
 ·have aa:s=⟨#[]⟩:=by simpa using h
  subst aa;refine⟨_,_,.refl,?_,rfl,rfl⟩;rw[dC];rfl
def kF(s:ByteArray):Bool:=decide (s≠⟨#[]⟩)&&(decide (s.size<=32)&&decide (mG s=s.size))
def WH(s:ByteArray):mG s<=s.size:=by
 unfold mG;have ay:=BR s;cases aj:s.data.toList with
 |nil=>simp
 |cons c r=>
  rw[aj]at ay;simp only[ey]at ay;simp only;cases letter c;·simp
  ·simp only[cD];have:=(List.takeWhile_sublist (p:=mF) (l:=r)).length_le;omega
theorem Pd(I:aI)(s:ByteArray):Spec Tryz.prog 146 [.string s] I [] (λv I' M'=>v=.bool (kF s)/\I'=I/\M'=[]):=by
 refine bR [] aT Tryz.func146 rfl rfl rfl ?_;intro B ax;refine bZ.mk (λaa=>?_) (λaa=>?_)
 ·refine bZ.mk (λab=>?_) (λab=>?_)
  ·have hn:s.size<=32:=by simp at ab;omega
   refine a9.mk [] [] _ (.refl _) (ahW I s Z) ?_;rintro v I' M' -⟨rfl,rfl,rfl⟩;refine⟨_,_,.refl,?_,rfl,rfl⟩;have bo:=WH s;have aN:(s.extract 0 (mG s)).size=mG s:=by rw[Kw];omega
   simp_all[kF]
   all_goals omega
  ·refine⟨_,_,.refl,?_,rfl,rfl⟩;simp_all[kF]
   all_goals omega
 ·refine⟨_,_,.refl,?_,rfl,rfl⟩;simp_all[kF]
def jl:List Int:=[0,0,0,0,0,0,0,0,2,-1,2,-1,1,1,1,1,1,1,1,1]
def oe(k:Nat):Int:=jl.getD (k*2) 0
def nc(k:Nat):Int:=jl.getD (k*2+1) 0
def nd(I:aI):Prop:=∃ T ap,I 0=some (.cells (jl.map (Value.int .i64)).toArray T ap)
def nd.rd(h:nd I)(M:List aD)(ai:j<20):cG I M (Addr.add ⟨0,0,none⟩ j) 1 [.int .i64 (jl.getD j 0)]:=by
 obtain⟨T,ap,h⟩:=h;rw[eK _ rfl];refine⟨rfl,_,T,ap,.inl h,?_,rfl⟩;simp only[dg];have:∀ j:Fin 20,(((jl.map (Value.int .i64)).toArray.toList.drop j.val).take 1)=[Value.int .i64 (jl.getD j.val 0)]:=by
  intro j;have aa:j.val<(jl.map (Value.int .i64)).length:=by simp[jl]
  rw[List.toList_toArray,e9 aa,rr,qw];have ab:j.val<jl.length:=by simp[jl]
  simp[bP,ab]
 exact this ⟨j,ai⟩
def nd.KH(h:nd I)(M:List aD)(ai:i+j<20):cG I M ((Addr.add ⟨0,0,none⟩ i).add j) 1 [.int .i64 (jl.getD (i+j) 0)]:=by
 have e:(Addr.add ⟨0,0,none⟩ i).add j=Addr.add ⟨0,0,none⟩ (i+j):=by rw[eK ⟨_,0,none⟩ rfl i,eK _ rfl j,eK _ rfl (i+j)];simp
 rw[e];exact h.rd M ai
def ak.jW(d:ak):Bool:=d.b0 == 0&&(d.s1 == 0&&(d.s2 == 0&&d.cg == 0))
def fits(d:ak)(n:Int):Bool:=
 bif decide (10<=d.k)then false else
 bif decide (n<oe d.k.toNat)||(decide (0<=nc d.k.toNat)&&decide (nc d.k.toNat<n))then false else
 bif decide (d.k=1)then decide (d.t=⟨#[]⟩)&&(decide (d.lo=0)&&decide (d.hi=0))else
 bif decide (d.k=2)then(!(decide (d.t=⟨#[]⟩)||decide (255<d.t.size)))&&(d.jW&&(decide (d.lo=0)&&decide (d.hi=0)))else
 bif decide (d.k=3)||decide (d.k=9)then kF d.t&&(d.jW&&(decide (d.lo=0)&&decide (d.hi=0)))else
 bif decide (d.k=6)then(!(decide (d.lo<0)||(decide (99<d.lo)||(decide (d.hi≠-1)&&(decide (d.hi<d.lo)||decide (99<d.hi))))))&&(d.jW&&decide (d.t=⟨#[]⟩))else
 d.jW&&(decide (d.t=⟨#[]⟩)&&(decide (d.lo=0)&&decide (d.hi=0)))
theorem Pe(ar:nd I){d:ak}(aj:d.ok I)(n:Int):Spec Tryz.prog 173 [d.val,.int .i64 n] I [] (λv I' M'=>v=.bool (fits d n)/\I'=I/\M'=[]):=by
 refine bR [] aT Tryz.func173 rfl rfl rfl ?_;intro B ax;have af:=aj.k;refine a3.mk d.k (by unfold IntKind.wrap;simp[IntKind.bits,IntKind.signed];omega) ?_;refine aS.mk (λh=>?_) (λh=>?_)
 ·refine⟨_,_,.refl,?_,rfl,rfl⟩;simp at h;simp[fits,h]
 ·have oZ:d.k<10:=by simpa using h
  have ai:d.k=((d.k.toNat:Nat):Int):=by omega
  have WI:d.k.toNat<10:=by omega
  refine cN.draw aT rfl rfl rfl ?_;refine cj.mk d.k.toNat ai WI ?_;refine cj.mk 0 rfl Z ?_;refine aJ.mk [.int .i64 (oe d.k.toNat)] (ar.rd _ (j:=d.k.toNat*2) Z) ?_;refine cj.mk d.k.toNat ai WI ?_;refine cj.mk 1 rfl Z ?_;refine aJ.mk [.int .i64 (nc d.k.toNat)] (ar.KH _ (i:=d.k.toNat*2) (j:=1) Z) ?_
  repeat' first
   |refine bZ.mk (λh=>?_) (λh=>?_)| refine aS.mk (λh=>?_) (λh=>?_)| refine fm.KF aT (e:=34) rfl rfl rfl rfl d4 ?_|(refine a9.mk [] [] _ (.refl _) (Pd _ _) ?_;rintro v I' M' -⟨rfl,rfl,rfl⟩)
  all_goals refine⟨_,_,.refl,?_⟩
  all_goals refine⟨?_,rfl,rfl⟩
  all_goals clear ar aj ai
  all_goals (first | (simp_all[fits,ak.jW];done) | (simp_all[fits,ak.jW];omega) | (simp_all[fits,ak.jW];rw[my];simp;omega))
def jm(i:Nat):List Int->List Bool->Option (List Bool)
 |[],s=>some s| k::ks,s=>bif decide (k<0)||(decide ((i:Int)<=k)||s.getD k.toNat false)then none else jm i ks (s.set k.toNat true)
def ho:Nat->List ak->List Bool->Option (List Bool)
 |_,[],s=>some s
 |i,d::ds,s=>bif fits d d.ao.length then(match jm i d.ao s with
  |some cr=>ho (i+1) ds cr| none=>none)else none
def pQ(bp:Int):Nat->List Bool->Bool
 |_,[]=>true| i,b::s=>bif b == decide ((i:Int)=bp)then false else pQ bp (i+1) s
def right(t:bf):Bool:=decide (0<=t.bp)&&(decide (t.bp<t.ns.length)&&(match ho 0 t.ns (List.replicate t.ns.length false)with
 |some s=>pQ t.bp 0 s| none=>false))
def xY(v:Value)(n:Nat):rowOf [v] n=List.replicate n v:=by
 apply oV
 ·simp[td,madeCells]
 ·intro i aa ab;simp[td,madeCells,Nat.mod_one]
def zL(b:Nat)(s:List Bool):aD:=⟨b,.cells (s.map Value.bool).toArray 4 (0,0)⟩
def WJ{M:List aD}{s:List Bool}(bd:zL b s∈M)(ai:j<s.length):cG I M ((⟨b,0,none⟩:Addr).add (j*1)) 1 [.bool s[j]]:=by
 rw[eK _ rfl];refine⟨rfl,_,4,(0,0),.inr ⟨_,bd,rfl,rfl⟩,?_,rfl⟩;have aa:j<(s.map Value.bool).length:=by simpa using ai
 simp only[dg,gm];rw[e9 aa,rr,qw];simp
def ahX(s:List Bool)(j:Nat)(ai:j<s.length)(b:Bool):cp (s.map Value.bool) j [.bool b]=(s.set j b).map Value.bool:=by unfold cp;rw[qx,GQ];simp[ai]
def b'.add{M:List aD}{o k:Nat}(ba post:List aD)(cs:Array Value)(T:Nat)(bd:M=ba++⟨b,.cells cs T (0,0)⟩::post)(ah:o+k+vs.length<=cs.size)(aa:fG vs=true)
  (h:K (ba++⟨b,.cells (cp cs.toList (o+k) vs).toArray T (0,0)⟩::post)):b' M ((⟨b,o,none⟩:Addr).add k) vs K:=by
 rw[eK _ rfl];exact .mk ba post cs T bd rfl ah aa h
def b'.iC{M:List aD}{o k:Nat}(ba post:List aD)(cs:List Value)(T:Nat)(bd:M=ba++⟨b,.cells cs.toArray T (0,0)⟩::post)(ah:Nat.ble (o+k+vs.length) cs.length=true)(aa:fG vs=true)(cs':List Value)(he:cp cs (o+k) vs=cs')(h:K (ba++⟨b,.cells cs'.toArray T (0,0)⟩::post)):b' M ((⟨b,o,none⟩:Addr).add k) vs K:=
 b'.add ba post _ _ bd (by simpa using bJ ah) aa (by rw[<-he]at h;exact h)
def o0(ar:nd I){t:bf}(au:t.ok I):Spec Tryz.prog 89 [t.val] I [] (λv I' M'=>v=.bool (right t)/\I'=I/\M'=[]):=by
 refine bR [] aT Tryz.func89 rfl rfl rfl ?_;intro B ax;have aE:=au.n;have g8:=au.a'.cap;refine bZ.mk (λaa=>?_) (λaa=>?_)
 ·refine aS.mk (λab=>?_) (λab=>?_)
  ·refine⟨_,_,.refl,?_,rfl,rfl⟩;simp at ab;have:¬ t.bp<t.ns.length:=by omega
   simp[right,this]
  ·have bb:0<=t.bp:=by simpa using aa
   have bh:t.bp<t.ns.length:=by simp at ab;omega
   refine n9.mk t.n t.n rfl rfl (cf _) (by show 1*t.n<=_;omega) Z ?_;refine bN.mk λb ah uO=>?_;refine c2.inv (ι:=Nat×List Bool) (λx=>{ bn:=[(1,.ref 1 0),(3,.val (.slice (some ⟨b,0,none⟩) t.n t.n)),(26,.val (.slice t.a t.n t.c)),(27,.val (.int .i64 t.n)),(28,.val (.int .i64 x.1))],cl:=[(1,t.cells)],cm:=I,cK:=[zL b x.2] }) (λx=>x.1<=t.n/\x.2.length=t.n/\ho 0 t.ns (List.replicate t.ns.length false)=ho x.1 (t.ns.drop x.1) x.2) (λx=>t.n-x.1) ?_ ?_;·refine⟨(0,List.replicate t.n false),⟨Z,am,by simp[aE]⟩,?_,fh,.cons rfl .nil⟩;show h5 _ _ [⟨b,.cells (rowOf [Value.bool false] (t.n*1)).toArray 4 (0,0)⟩] _ [zL b (List.replicate t.n false)];rw[xY,gm];simp only[zL,xT];exact .refl
   ·rintro⟨i,s⟩⟨fp,hs,h8⟩;simp only at fp hs h8;refine aS.mk (λh=>?_) (λh=>?_)
    ·have aV:i<t.n:=by simpa using h
     have cF:i<t.ns.length:=by omega
     obtain⟨ad,bt,bj⟩:=au.a'.row ak.cq aV cF;have gB:=au.ns t.ns[i] (bD cF);have eF:=gB.aA;have l7:t.ns.drop i=t.ns[i]::t.ns.drop (i+1):=e9 cF;refine bi.mk ad i bt rfl aV ?_;refine aJ.mk t.ns[i].cells (bj _) ?_;refine a9.mk [] [zL b s] _ (.refl _) (Pe ar gB t.ns[i].aA) ?_;rintro v I' M' -⟨rfl,rfl,rfl⟩;refine aS.mk (λal=>?_) (λal=>?_)
     ·refine⟨_,_,.sub (eY _) .refl,?_,rfl,rfl⟩;have aC:fits t.ns[i] t.ns[i].ao.length=false:=by rw[eF];simpa using al
      have:right t=false:=by unfold right;rw[h8,l7];simp[ho,aC]
      rw[this]
     ·have aC:fits t.ns[i] t.ns[i].ao.length=true:=by rw[eF];simpa using al
      refine c2.inv (ι:=Nat×List Bool) (λx=>{ bn:=[(1,.ref 1 0),(3,.val (.slice (some ⟨b,0,none⟩) t.n t.n)),(4,.val (.int .i64 i)),(26,.val (.slice t.a t.n t.c)),(27,.val (.int .i64 t.n)),(28,.val (.int .i64 i)),(40,.val (.slice t.ns[i].bX t.ns[i].aA t.ns[i].b5)),(41,.val (.int .i64 t.ns[i].aA)),(42,.val (.int .i64 x.1))],cl:=[(1,t.cells)],cm:=I',cK:=[zL b x.2] }) (λx=>x.1<=t.ns[i].aA/\x.2.length=t.n/\jm i t.ns[i].ao s=jm i (t.ns[i].ao.drop x.1) x.2) (λx=>t.ns[i].aA-x.1) ?_ ?_;·exact⟨(0,s),⟨Z,hs,rfl⟩,.refl,l3,.cons rfl .nil⟩
      ·rintro⟨j,cr⟩⟨KI,tu,D7⟩;simp only at KI tu D7;refine aS.mk (λh=>?_) (λh=>?_)
       ·have fY:j<t.ns[i].aA:=by simpa using h
        have o1:j<t.ns[i].ao.length:=by omega
        obtain⟨fq,eN,eL⟩:=gB.a'.one fY o1;refine bi.mk fq j eN rfl fY ?_;refine aJ.mk [.int .i64 t.ns[i].ao[j]] (eL _) ?_;have iV:t.ns[i].ao.drop j=t.ns[i].ao[j]::t.ns[i].ao.drop (j+1):=e9 o1;have bad:(decide (t.ns[i].ao[j]<0)||(decide ((i:Int)<=t.ns[i].ao[j])||cr.getD t.ns[i].ao[j].toNat false))=true->right t=false:=λah=>by unfold right;rw[h8,l7];simp only[ho,aC,cD,D7,iV,jm,ah];simp
        refine bZ.mk (λaL=>?_) (λaL=>?_)
        ·refine bZ.mk (λbB=>?_) (λbB=>?_)
         ·simp only[pN,Int.not_lt,Int.not_le]at aL bB;have jH:t.ns[i].ao[j]=((t.ns[i].ao[j].toNat:Nat):Int):=by omega
          have cL:t.ns[i].ao[j].toNat<t.n:=by omega
          have ry:t.ns[i].ao[j].toNat<cr.length:=by omega
          refine bi.mk ⟨b,0,none⟩ t.ns[i].ao[j].toNat rfl jH cL ?_;refine aJ.mk [.bool cr[t.ns[i].ao[j].toNat]] (WJ am ry) ?_;refine aS.mk (λcA=>?_) (λcA=>?_);·refine⟨_,_,.sub (eY _) .refl,?_,rfl,rfl⟩;rw[bad];simp[bP,ry,cA]
          ·refine bi.mk ⟨b,0,none⟩ t.ns[i].ao[j].toNat rfl jH cL ?_;refine b'.add [] [] _ 4 rfl ?_ rfl ?_
           ·simp only[q6,bA];show 0+t.ns[i].ao[j].toNat*1+1<=_;omega
           have gA:IntKind.i64.wrap ((j:Int)+1)=((j+1:Nat):Int):=by rw[wrap_i64 ⟨Z,am'⟩];omega
           refine a3.mk _ gA ?_;refine⟨(j+1,cr.set t.ns[i].ao[j].toNat true),⟨⟨Z,by simp[tu],?_⟩,acl⟩,?_,l3,.cons rfl .nil⟩
           ·simp only;rw[D7,iV];have aM:(decide (t.ns[i].ao[j]<0)||(decide ((i:Int)<=t.ns[i].ao[j])||cr.getD t.ns[i].ao[j].toNat false))=false:=by
             have aN:¬ t.ns[i].ao[j]<0:=by omega
             have bc:¬ (i:Int)<=t.ns[i].ao[j]:=by omega
             simp[aN,bc,bP,ry,show cr[t.ns[i].ao[j].toNat]=false from cA]
            simp only[jm,aM,cw]
           ·have e:=ahX cr t.ns[i].ao[j].toNat ry true;simp only[zL];rw[<-e];simp only[dg,gm];exact .refl
         ·refine⟨_,_,.sub (eY _) .refl,?_,rfl,rfl⟩;rw[bad];simp at bB;simp[bB]
        ·refine⟨_,_,.sub (eY _) .refl,?_,rfl,rfl⟩;rw[bad];simp at aL;simp[aL]
       ·have fY:¬ j<t.ns[i].aA:=by simpa using h
        have BS:t.ns[i].ao.drop j=[]:=l5 Z;have gA:IntKind.i64.wrap ((i:Int)+1)=((i+1:Nat):Int):=by rw[wrap_i64 ⟨Z,Z⟩];omega
        refine a3.mk _ gA ?_;refine⟨(i+1,cr),⟨⟨Z,tu,?_⟩,acl⟩,.refl,fh,.cons rfl .nil⟩;simp only;rw[h8,l7];simp only[ho,aC,cD,D7,BS,jm]
    ·have cM:¬ i<t.n:=by simpa using h
     have jE:t.ns.drop i=[]:=l5 Z;have eG:ho 0 t.ns (List.replicate t.ns.length false)=some s:=by rw[h8,jE];rfl
     have ag:right t=pQ t.bp 0 s:=by unfold right;rw[eG];simp[bb,bh]
     refine c2.inv (ι:=Nat) (λm=>{ bn:=[(1,.ref 1 0),(64,.val (.slice (some ⟨b,0,none⟩) t.n t.n)),(65,.val (.int .i64 t.n)),(66,.val (.int .i64 m))],cl:=[(1,t.cells)],cm:=I,cK:=[zL b s] }) (λm=>m<=t.n/\pQ t.bp 0 s=pQ t.bp m (s.drop m)) (λm=>t.n-m) ?_ ?_;·exact⟨0,⟨Z,rfl⟩,.refl,dS,.cons rfl .nil⟩
     ·rintro m⟨awq,D8⟩;refine aS.mk (λh=>?_) (λh=>?_)
      ·have gn:m<t.n:=by simpa using h
       have kg:m<s.length:=by omega
       have rz:s.drop m=s[m]::s.drop (m+1):=e9 kg;refine bi.mk ⟨b,0,none⟩ m rfl rfl gn ?_;refine aJ.mk [.bool s[m]] (WJ am kg) ?_;refine aS.mk (λeB=>?_) (λeB=>?_)
       ·refine⟨_,_,.sub (eY _) .refl,?_,rfl,rfl⟩;have:right t=false:=by rw[ag,D8,rz];simp only[pQ,show(s[m] == decide ((m:Int)=t.bp))=true from eB,cD]
        rw[this]
       ·have gA:IntKind.i64.wrap ((m:Int)+1)=((m+1:Nat):Int):=by rw[wrap_i64 ⟨Z,Z⟩];omega
        refine a3.mk _ gA ?_;refine⟨m+1,⟨⟨Z,?_⟩,Z⟩,.refl,dS,.cons rfl .nil⟩;rw[D8,rz];simp only[pQ,show(s[m] == decide ((m:Int)=t.bp))=false from eB,cw]
      ·have gn:¬ m<t.n:=by simpa using h
       have rz:s.drop m=[]:=l5 Z;refine⟨_,_,.sub (eY _) .refl,?_,rfl,rfl⟩;rw[ag,D8,rz];rfl
 ·refine⟨_,_,.refl,?_,rfl,rfl⟩;have:¬ 0<=t.bp:=by simp at aa;omega
  simp[right,this]
def cV(b:Nat)(s:List Int):aD:=⟨b,.cells (s.map (Value.int .i64)).toArray 3 (0,0)⟩
def zM{M:List aD}{s:List Int}(bd:cV b s∈M)(ai:j<s.length):cG I M ((⟨b,0,none⟩:Addr).add (j*1)) 1 [.int .i64 s[j]]:=by
 rw[eK _ rfl];refine⟨rfl,_,3,(0,0),.inr ⟨_,bd,rfl,rfl⟩,?_,rfl⟩;have aa:j<(s.map (Value.int .i64)).length:=by simpa using ai
 simp only[dg,gm];rw[e9 aa,rr,qw];simp
def G4{M:List aD}{s:List Int}{v:Int}(ai:j<s.length)(an:s[j]=v)(bd:cV b s∈M):cG I M ((⟨b,0,none⟩:Addr).add (j*1)) 1 [.int .i64 v]:=an ▸ zM bd ai
def nO(s:List Int)(j:Nat)(ai:j<s.length)(b:Int):cp (s.map (Value.int .i64)) j [.int .i64 b]=(s.set j b).map (Value.int .i64):=by unfold cp;rw[qx,GQ];simp[ai]
def ahY(ar:nd I){t:bf}(au:t.ok I):Spec Tryz.prog 291 [t.val] I [] (λv I' M'=>v=.int .i64 (bif right t then(t.n:Int)else 0)/\I'=I/\M'=[]):=by
 refine bR [] aT Tryz.func291 rfl rfl rfl ?_;intro B ax;refine a9.mk [] [] _ (.refl _) (o0 ar au) ?_;rintro v I' M' -⟨rfl,rfl,rfl⟩;refine aS.mk (λh=>?_) (λh=>?_)
 ·refine⟨_,_,.refl,?_,rfl,rfl⟩;rw[show right t=false by simpa using h];rfl
 ·refine⟨_,_,.refl,?_,rfl,rfl⟩;rw[show right t=true by simpa using h];rfl
def WK{i:Nat}:∀ {ks:List Int} {s cr:List Bool},jm i ks s=some cr->∀ k∈ks,0<=k/\k<i
 |[],s,cr,_,k,af=>by cases af
 |x::ks,s,cr,h,k,af=>by
  unfold jm at h;cases ah:(decide (x<0)||(decide ((i:Int)<=x)||s.getD x.toNat false))with
  |true=>rw[ah]at h;cases h
  |false=>
   rw[ah]at h;simp only[rq,pN]at ah;rcases ez.1 af with rfl | af;·omega
   ·exact WK h k af
def WL:∀ {i:Nat} {ds:List ak} {s cr:List Bool},ho i ds s=some cr->∀ j (h:j<ds.length),∀ k∈ds[j].ao,0<=k/\k<(i+j:Nat)
 |i,[],s,cr,_,j,ai,_,_=>by cases ai
 |i,d::ds,s,cr,h,j,ai,k,af=>by
  unfold ho at h;cases aC:fits d d.ao.length with
  |false=>rw[aC]at h;cases h
  |true=>
   rw[aC]at h;simp only[cD]at h;cases aG:jm i d.ao s with
   |none=>rw[aG]at h;cases h
   |some s1=>
    rw[aG]at h;cases j with
    |zero=>exact WK aG k (by simpa using af)| succ j=>have:=WL h j mt k (by simpa using af);omega
def jX{t:bf}(h:right t=true):∀ j (ai:j<t.ns.length),∀ k∈t.ns[j].ao,0<=k/\k<j:=by
 unfold right at h;simp only[cH]at h;obtain⟨_,_,h⟩:=h;split at h
 ·rename_i s aw;intro j ai k af;have:=WL aw j ai k af;omega
 ·cases h
def kh{t:bf}(h:right t=true):0<=t.bp/\t.bp<t.ns.length:=by unfold right at h;simp only[cH,gN]at h;exact⟨h.1,h.2.1⟩
def G5(g9:List Int):List Int->Int->Int
 |[],m=>m| k::ks,m=>G5 g9 ks (max m (g9.getD k.toNat 0))
def wD:Nat->List ak->List Int->List Int
 |_,[],g9=>g9| i,d::ds,g9=>wD (i+1) ds (g9.set i (G5 g9 d.ao 0+1))
def depth(t:bf):Int:=bif right t then(wD 0 t.ns (List.replicate t.ns.length 0)).getD t.bp.toNat 0 else 0
def ahZ(ar:nd I){t:bf}(au:t.ok I):Spec Tryz.prog 156 [t.val] I [] (λv I' M'=>v=.int .i64 (depth t)/\I'=I/\M'=[]):=by
 refine bR [] aT Tryz.func156 rfl rfl rfl ?_;intro B ax;have aE:=au.n;have g8:=au.a'.cap;refine a9.mk [] [] _ (.refl _) (o0 ar au) ?_;rintro v I' M' -⟨rfl,rfl,rfl⟩;refine aS.mk (λh=>?_) (λh=>?_)
 ·refine⟨_,_,.refl,?_,rfl,rfl⟩;simp[depth,show right t=false by simpa using h]
 ·have ag:right t=true:=by simpa using h
  have qD:=jX ag;obtain⟨bb,bh⟩:=kh ag;refine n9.mk t.n t.n rfl rfl (cf _) WP Z ?_;refine bN.mk λb ah uO=>?_;refine c2.inv (ι:=Nat×List Int) (λx=>{ bn:=[(1,.ref 1 0),(3,.val (.slice (some ⟨b,0,none⟩) t.n t.n)),(16,.val (.slice t.a t.n t.c)),(17,.val (.int .i64 t.n)),(18,.val (.int .i64 x.1))],cl:=[(1,t.cells)],cm:=I',cK:=[cV b x.2] }) (λx=>x.1<=t.n/\x.2.length=t.n/\(∀ j,0<=x.2.getD j 0/\x.2.getD j 0<=x.1)/\(∀ j,x.1<=j->x.2.getD j 0=0)/\wD 0 t.ns (List.replicate t.ns.length 0)=wD x.1 (t.ns.drop x.1) x.2) (λx=>t.n-x.1) ?_ ?_
  ·have z:∀ j,(List.replicate t.n (0:Int)).getD j 0=0:=λj=>by
    by_cases ai:j<t.n<;>simp[bP,ai]
   refine⟨(0,List.replicate t.n 0),⟨Z,am,λj=>by rw[z];simp,λj _=>z j,by simp[aE]⟩,?_,fh,.cons rfl .nil⟩;show h5 _ _ [⟨b,.cells (rowOf [Value.int .i64 0] (t.n*1)).toArray 3 (0,0)⟩] _ [cV b (List.replicate t.n 0)];rw[xY,gm];simp only[cV,xT];exact .refl
  ·rintro⟨i,g9⟩⟨fp,hs,h8,j',Bx⟩;simp only at fp hs h8 j' Bx;refine aS.mk (λh=>?_) (λh=>?_)
   ·have aV:i<t.n:=by simpa using h
    have cF:i<t.ns.length:=by omega
    obtain⟨ad,bt,bj⟩:=au.a'.row ak.cq aV cF;have gB:=au.ns t.ns[i] (bD cF);have eF:=gB.aA;have l7:t.ns.drop i=t.ns[i]::t.ns.drop (i+1):=e9 cF;refine bi.mk ad i bt rfl aV ?_;refine aJ.mk t.ns[i].cells (bj _) ?_;refine c2.inv (ι:=Nat×Int) (λx=>{ bn:=[(1,.ref 1 0),(3,.val (.slice (some ⟨b,0,none⟩) t.n t.n)),(4,.val (.int .i64 i)),(16,.val (.slice t.a t.n t.c)),(17,.val (.int .i64 t.n)),(18,.val (.int .i64 i)),(24,.val (.slice t.ns[i].bX t.ns[i].aA t.ns[i].b5)),(25,.val (.int .i64 t.ns[i].aA)),(26,.val (.int .i64 x.1))],cl:=[(1,t.cells)],cm:=I',cK:=[cV b (g9.set i x.2)] }) (λx=>x.1<=t.ns[i].aA/\0<=x.2/\x.2<=i/\G5 g9 t.ns[i].ao 0=G5 g9 (t.ns[i].ao.drop x.1) x.2) (λx=>t.ns[i].aA-x.1) ?_ ?_
    ·refine⟨(0,0),⟨Z,Z,am,rfl⟩,?_,l3,.cons rfl .nil⟩;have e:g9.set i 0=g9:=by
      have aa:=j' i (cf _);rw[bP]at aa;apply zB;intro j;rw[iq];split
      ·rename_i e;subst e;have:i<g9.length:=by omega
       simp[this]at aa |-;exact aa.symm
      ·rfl
     simp only;rw[e];exact .refl
    ·rintro⟨j,m⟩⟨KI,tu,D7,Pf⟩;simp only at KI tu D7 Pf;refine aS.mk (λh=>?_) (λh=>?_)
     ·have fY:j<t.ns[i].aA:=by simpa using h
      have o1:j<t.ns[i].ao.length:=by omega
      obtain⟨fq,eN,eL⟩:=gB.a'.one fY o1;have iV:t.ns[i].ao.drop j=t.ns[i].ao[j]::t.ns[i].ao.drop (j+1):=e9 o1;have af:=qD i cF t.ns[i].ao[j] (bD o1);have jH:t.ns[i].ao[j]=((t.ns[i].ao[j].toNat:Nat):Int):=by omega
      have cL:t.ns[i].ao[j].toNat<t.n:=by omega
      refine bi.mk fq j eN rfl fY ?_;refine aJ.mk [.int .i64 t.ns[i].ao[j]] (eL _) ?_;refine cN.draw aT rfl rfl rfl ?_;have dP:i<(g9.set i m).length:=by simp;omega
      have ry:t.ns[i].ao[j].toNat<(g9.set i m).length:=by simp;omega
      have Pg:(g9.set i m)[i]=m:=by simp
      have eR:(g9.set i m)[t.ns[i].ao[j].toNat]=g9.getD t.ns[i].ao[j].toNat 0:=by
       have bH:i≠t.ns[i].ao[j].toNat:=by omega
       have dW:t.ns[i].ao[j].toNat<g9.length:=by omega
       rw[OW,bK bH];simp[bP,dW]
      refine bi.mk ⟨b,0,none⟩ i rfl rfl aV ?_;refine aJ.mk [.int .i64 m] (G4 dP Pg am) ?_;refine bi.mk ⟨b,0,none⟩ t.ns[i].ao[j].toNat rfl jH cL ?_;refine aJ.mk [.int .i64 (g9.getD t.ns[i].ao[j].toNat 0)] (G4 ry eR am) ?_;refine bi.mk ⟨b,0,none⟩ i rfl rfl aV ?_;refine b'.add [] [] _ 3 rfl ?_ rfl ?_;·simp only[q6,bA];show 0+i*1+1<=_;simp;omega
      have gA:IntKind.i64.wrap ((j:Int)+1)=((j+1:Nat):Int):=by rw[wrap_i64 ⟨Z,am'⟩];omega
      refine a3.mk _ gA ?_;have awr:=h8 t.ns[i].ao[j].toNat;refine⟨(j+1,max m (g9.getD t.ns[i].ao[j].toNat 0)),⟨⟨Z,ce,ce,?_⟩,acl⟩,?_,l3,.cons rfl .nil⟩;·simp only;rw[Pf,iV];rfl
      ·have e:=nO (g9.set i m) i dP (max m (g9.getD t.ns[i].ao[j].toNat 0));simp only[cV];rw[GY]at e;rw[<-e];simp only[dg,gm];exact .refl
     ·have fY:¬ j<t.ns[i].aA:=by simpa using h
      have BS:t.ns[i].ao.drop j=[]:=l5 Z;have hm:G5 g9 t.ns[i].ao 0=m:=by rw[Pf,BS];rfl
      have dP:i<(g9.set i m).length:=by simp;omega
      have Pg:(g9.set i m)[i]=m:=by simp
      have ah0:IntKind.i64.wrap (m+1)=m+1:=wrap_i64 ⟨Z,Z⟩;have gA:IntKind.i64.wrap ((i:Int)+1)=((i+1:Nat):Int):=by rw[wrap_i64 ⟨Z,Z⟩];omega
      refine bi.mk ⟨b,0,none⟩ i rfl rfl aV ?_;refine aJ.mk [.int .i64 m] (G4 dP Pg am) ?_;refine a3.mk _ ah0 ?_;refine bi.mk ⟨b,0,none⟩ i rfl rfl aV ?_;refine b'.add [] [] _ 3 rfl ?_ rfl ?_;·simp only[q6,bA];show 0+i*1+1<=_;omega
      refine a3.mk _ gA ?_;refine⟨(i+1,g9.set i (m+1)),⟨⟨Z,by simp[hs],?_,?_,?_⟩,acl⟩,?_,fh,.cons rfl .nil⟩
      ·intro q;have ah1:=h8 q;simp only[bP,iq]at ah1 |-;split
       ·rename_i e;subst e;have:i<g9.length:=by omega
        simp[this];omega
       ·omega
      ·intro q aM;have WM:=j' q Z;simp only at aM;simp only[bP,iq]at WM |-;rw[bK Z];exact WM
      ·simp only;rw[Bx,l7];simp only[wD,hm]
      ·have e:=nO (g9.set i m) i dP (m+1);simp only[cV];rw[GY]at e;rw[<-e];simp only[dg,gm];exact .refl
   ·have cM:¬ i<t.n:=by simpa using h
    have jE:t.ns.drop i=[]:=l5 Z;have eG:wD 0 t.ns (List.replicate t.ns.length 0)=g9:=by rw[Bx,jE];rfl
    have og:t.bp=((t.bp.toNat:Nat):Int):=by omega
    have dw:t.bp.toNat<g9.length:=by omega
    refine bi.mk ⟨b,0,none⟩ t.bp.toNat rfl og Z ?_;refine aJ.mk [.int .i64 g9[t.bp.toNat]] (G4 dw rfl am) ?_;refine⟨_,_,.sub (eY _) .refl,?_,rfl,rfl⟩;have:depth t=g9[t.bp.toNat]:=by unfold depth;rw[ag,eG];simp[bP,dw]
    rw[this];rfl
def pR(t:bf):Bool:=decide (t.n<=1024)&&(right t&&decide (depth t<=32))
def ah2(ar:nd I){t:bf}(au:t.ok I):Spec Tryz.prog 75 [t.val] I [] (λv I' M'=>v=.bool (pR t)/\I'=I/\M'=[]):=by
 refine bR [] aT Tryz.func75 rfl rfl rfl ?_;intro B ax;refine bZ.mk (λaa=>?_) (λaa=>?_)
 ·refine a9.mk [] [] _ (.refl _) (o0 ar au) ?_;rintro v I' M' -⟨rfl,rfl,rfl⟩;refine bZ.mk (λab=>?_) (λab=>?_)
  ·refine a9.mk [] [] _ (.refl _) (ahZ ar au) ?_;rintro v I' M' -⟨rfl,rfl,rfl⟩;refine⟨_,_,.refl,?_,rfl,rfl⟩;have hz:t.n<=1024:=by simp at aa;omega
   simp[pR,hz,ab]
  ·refine⟨_,_,.refl,?_,rfl,rfl⟩;have hn:right t=false:=ab;simp[pR,hn]
 ·refine⟨_,_,.refl,?_,rfl,rfl⟩;have hz:¬ t.n<=1024:=by simp at aa;omega
  simp[pR,hz]
def gS{α:Type}(z:α)(f:ak->(Int->α)->α):List ak->List α->List α
 |[],a7=>a7| d::ds,a7=>gS z f ds (a7++[f d λk=>a7.getD k.toNat z])
section
variable{α:Type}{z:α}{f:ak->(Int->α)->α}
def Ph:∀ (ds:List ak) (a7:List α),(gS z f ds a7).length=a7.length+ds.length
 |[],a7=>by simp[gS]
 |d::ds,a7=>by rw[gS,Ph ds];simp;omega
def Pj:∀ (ds:List ak) (a7:List α) (j:Nat),j<a7.length->(gS z f ds a7)[j]?=a7[j]?
 |[],a7,j,_=>rfl| d::ds,a7,j,h=>by rw[gS,Pj ds _ j d7,sv h]
def Pk:∀ (ds:List ak) (a7:List α) (j:Nat) (h:j<ds.length),(gS z f ds a7)[a7.length+j]?=some (f ds[j] λk=>((gS z f ds a7).take (a7.length+j)).getD k.toNat z)
 |d::ds,a7,0,_=>by
  rw[gS,pF,Pj ds _ a7.length am];simp only[List.getElem?_concat_length,tp,kW];congr 1;funext k;have:(gS z f ds (a7++[f d λk=>a7.getD k.toNat z])).take a7.length=a7:=by
   apply zB;intro i;rw[lv];split;·rename_i hi;rw[Pj ds _ i d7,sv hi]
   ·rw[rp Z]
  rw[this]
 |d::ds,a7,j+1,h=>by have:=Pk ds (a7++[f d λk=>a7.getD k.toNat z]) j i9;rw[gS];simp only[ct,ey,hl,dg,GU]at this |-;rw[show a7.length+(j+1)=a7.length+1+j from by omega];exact this
def mH(z:α)(f:ak->(Int->α)->α)(ns:List ak)(k:Int):α:=(gS z f ns []).getD k.toNat z
def D9(aC:∀ d g et,(∀ k∈d.ao,g k=et k)->f d g=f d et){t:bf}(ag:right t=true)(ai:j<t.ns.length):mH z f t.ns j=f t.ns[j] (mH z f t.ns):=by have h:=Pk (z:=z) (f:=f) t.ns [] j ai;simp only[hl,dg]at h;unfold mH;rw[bP,show((j:Int).toNat)=j from by omega,h,kX];refine aC _ _ _ λk af=>?_;have:=jX ag j ai k af;rw[bP,bP,lv,bY Z]
end
def free(g:Nat->Nat)(s:List Bool):Nat->Nat
 |0=>0| i+1=>free g s i+(bif s.getD i false then 0 else g i)
def WN{g:Nat->Nat}{s:List Bool}{k:Nat}:∀ {i:Nat},i<=k->free g (s.set k true) i=free g s i
 |0,_=>rfl| i+1,h=>by unfold free;rw[WN Z];simp only[bP,iq];rw[bK Z]
def WO{g:Nat->Nat}{s:List Bool}{k:Nat}(aw:s.getD k false=false)(ay:k<s.length):∀ {i:Nat},k<i->free g (s.set k true) i+g k=free g s i
 |i+1,h=>by
  unfold free;by_cases e:i=k;·subst e;rw[WN (cf _),aw];simp[bP,ay]
  ·have:=WO (g:=g) aw ay (i:=i) Z;simp only[bP,iq]at this |-;rw[bK Z];omega
def fC(g:Int->Nat)(ks:List Int):Nat:=(ks.map g).sum
def WQ{g:Nat->Nat}{i:Nat}:∀ {ks:List Int} {s cr:List Bool},jm i ks s=some cr->i<=s.length->cr.length=s.length/\free g cr i+fC (λk=>g k.toNat) ks=free g s i
 |[],s,cr,h,_=>by simp only[jm,kW]at h;subst h;exact⟨rfl,rfl⟩
 |x::ks,s,cr,h,ay=>by
  unfold jm at h;cases ah:(decide (x<0)||(decide ((i:Int)<=x)||s.getD x.toNat false))with
  |true=>rw[ah]at h;cases h| false=>rw[ah]at h;simp only[rq,pN]at ah;obtain⟨aa,ab,al⟩:=ah;obtain⟨aN,bc⟩:=WQ (g:=g) h rt;have cy:=WO (g:=g) al Z (i:=i) Z;refine⟨by simpa using aN,?_⟩;simp only[fC,ch,hx]at bc |-;omega
def Pl{g:Nat->Nat}{c:ak->Nat}:∀ {ds:List ak} {i:Nat} {s cr:List Bool},ho i ds s=some cr->i+ds.length<=s.length->(∀ j (h:j<ds.length),g (i+j)<=c ds[j]+fC (λk=>g k.toNat) ds[j].ao) -> cr.length=s.length/\free g cr (i+ds.length)<=free g s i+(ds.map c).sum
 |[],i,s,cr,h,_,_=>by simp only[ho,kW]at h;subst h;simp
 |d::ds,i,s,cr,h,ay,az=>by
  unfold ho at h;cases aC:fits d d.ao.length with
  |false=>rw[aC]at h;cases h
  |true=>
   rw[aC]at h;simp only[cD]at h;cases aG:jm i d.ao s with
   |none=>rw[aG]at h;cases h
   |some s1=>
    rw[aG]at h;simp only[ey]at ay;obtain⟨aN,bc⟩:=WQ (g:=g) aG Z;obtain⟨cy,dX⟩:=Pl (g:=g) (c:=c) h Z (λj ai=>by
     have:=az (j+1) d7;simp only[GU]at this;rw[show i+1+j=i+(j+1)from by omega];exact this)
    have ax:=az 0 am;simp only[pF,tp]at ax;refine⟨Z,?_⟩;have k3:free g s1 (i+1)<=free g s1 i+g i:=by
     show free g s1 i+_<=_;cases s1.getD i false<;>simp
    simp only[ey,ch,hx];rw[show i+(ds.length+1)=i+1+ds.length from by omega];omega
def WR{bp:Int}:∀ {s:List Bool} {i:Nat},pQ bp i s=true->∀ j,j<s.length->(i+j:Nat)=bp->s.getD j false=false
 |b::s,i,h,j,ai,e=>by
  unfold pQ at h;cases ah:(b == decide ((i:Int)=bp))with
  |true=>rw[ah]at h;cases h
  |false=>
   rw[ah]at h;cases j with
   |zero=>
    have:decide ((i:Int)=bp)=true:=by simpa using e
    rw[this]at ah;simpa using ah
   |succ j=>have:=WR (i:=i+1) h j mt Z;simpa using this
def WS{g:Nat->Nat}{s:List Bool}{k:Nat}(af:s.getD k false=false):∀ {n:Nat},k<n->g k<=free g s n
 |n+1,h=>by
  unfold free;by_cases e:n=k;·subst e;rw[af];simp
  ·have:=WS (g:=g) af (n:=n) Z;omega
def Pm{t:bf}(ag:right t=true){g:Int->Nat}{c:ak->Nat}(h:∀ j (ai:j<t.ns.length),g j<=c t.ns[j]+fC g t.ns[j].ao):g t.bp<=(t.ns.map c).sum:=by
 have pS:=kh ag;have af:=jX ag;unfold right at ag;simp only[cH]at ag;obtain⟨_,_,ag⟩:=ag;split at ag
 ·rename_i s aw;obtain⟨aN,bc⟩:=Pl (g:=λk=>g k) (c:=c) aw am (λj ai=>by refine iO (by rw[dg];exact h j ai) (Nat.le_of_eq ?_);congr 1;unfold fC;congr 1;refine fX λk eR=>?_;have:=af j ai k eR;rw[zy this.1]);simp only[zx,dg]at aN bc;have bg:=WR ag t.bp.toNat Z Z;have:=WS (g:=λk=>g k) bg (n:=t.ns.length) Z;rw[zy pS.1]at this;simp only[free]at bc;omega
 ·cases ag
def D'{t:bf}(ag:right t=true)(ai:j<t.ns.length):fits t.ns[j] t.ns[j].ao.length=true:=by
 have aux:∀ {ds:List ak} {i:Nat} {s cr:List Bool},ho i ds s=some cr->∀ j (h:j<ds.length),fits ds[j] ds[j].ao.length=true:=by
  intro ds
  induction ds with
  |nil=>intro i s cr _ j ai;cases ai
  |cons d ds aX=>
   intro i s cr h j ai;unfold ho at h;cases aC:fits d d.ao.length with
   |false=>rw[aC]at h;cases h
   |true=>
    rw[aC]at h;simp only[cD]at h;cases aG:jm i d.ao s with
    |none=>rw[aG]at h;cases h
    |some s1=>
     rw[aG]at h;cases j with
     |zero=>exact aC| succ j=>exact aX h j mt
 unfold right at ag;simp only[cH]at ag;obtain⟨_,_,ag⟩:=ag;split at ag
 ·rename_i s aw;exact aux aw j ai
 ·cases ag
def WT(t u ty e:Nat)(i:TypeInfo)(au:P.underlying t=some (.slice e))(hu:P.underlying u=some m7)(ob:∀ k,m7≠.int k)(hi:P.info? e=some i)
 {n:Nat} (na:n<=c) (ax:(∃ b c,qy=.slice b 0 c)\/qy=.string .empty):(Builtin.append_ #[t,u] ty #[.slice sa n c,qy]).run P w=.ok (.slice sa n c) w:=by
 have G3:(match m7 with | .int _=>true | _=>false)=false:=by cases m7<;>first | rfl | exact(ob _ rfl).elim
 rcases ax with⟨b,c',rfl⟩ | rfl
 ·cases b<;>cases sa<;>simp[Builtin.append_,run_underlying au,run_underlying hu,sizeOf,typeInfo,hi,G3,Builtin.lenOf,na,Builtin.firstCells,Builtin.zeroCells,loadCells,loadCellsFrom,storeCells]
 ·cases sa<;>simp[Builtin.append_,run_underlying au,run_underlying hu,sizeOf,typeInfo,hi,G3,Builtin.lenOf,na,Builtin.firstCells,loadCells,storeCells]
section
variable{X:c3}{β:Nat->Nat}{a:Act}{w:World}{F:Fr}{C:dB}{I:aI}{M:List aD}{o:Oper}{K:gx}
def bz.bin{op:BinOp}(aG:o.op=.binOp op t x y be)(aj:∀ d,o.dst=some d->d<X.n){q:Value}(ae:bI F x=.val p)(aF:bI F y=.val q)
  (az:∀ w,(eqGuard op t x y p q).run X.P w=.ok () w) (ag:∀ w,eJ I M w->(binOp op t p q).run X.P w=.ok v w) (h:K (put o.dst (.val v) F) C I M):bz X o F C I M K:=by
 refine⟨λac w Q ⟨β,aZ⟩=>?_⟩;have ex:=dt aZ.ap ae;have nN:=dt aZ.ap aF;refine v5 aZ aj f9 ?_ h;unfold execOp;simp only[aG,cz,ex,nN,az,cd,ag w aZ.holds,dn]
def bz.conv{s:Nat}(aG:o.op=.convert s t x)(aj:∀ d,o.dst=some d->d<X.n)(ae:bI F x=.val p)
  (ag:∀ w,eJ I M w->(convert s t p).run X.P w=.ok v w) (h:K (put o.dst (.val v) F) C I M):bz X o F C I M K:=by
 refine⟨λac w Q ⟨β,aZ⟩=>?_⟩;have ex:=dt aZ.ap ae;refine v5 aZ aj f9 ?_ h;unfold execOp;simp only[aG,cz,ex,cd,ag w aZ.holds,dn]
def bz.un{op:UnOp}(aG:o.op=.unOp op t x)(aj:∀ d,o.dst=some d->d<X.n)(ae:bI F x=.val p)
  (ag:∀ w,eJ I M w->(Op.unary op p).run X.P w=.ok v w) (h:K (put o.dst (.val v) F) C I M):bz X o F C I M K:=by
 refine⟨λac w Q ⟨β,aZ⟩=>?_⟩;have ex:=dt aZ.ap ae;refine v5 aZ aj f9 ?_ h;unfold execOp;simp only[aG,cz,ex,cd,ag w aZ.holds,dn]
def jI(x:Int):Int:=IntKind.u64.wrap (BitVec.ofInt 64 IntKind.u64.max ^^^ BitVec.ofInt 64 x).toNat
def bz.G6(aG:o.op=.unOp .xor t x)(aj:∀ d,o.dst=some d->d<X.n){n:Int}(ae:bI F x=.val (.int .u64 n))(h:K (put o.dst (.val (.int .u64 (jI n))) F) C I M):bz X o F C I M K:=
 .un aG aj ae (λw _=>rfl) h
theorem bz.KJ(aQ:cX X.P X.E)(aG:o.op=.call { callee:=.builtin .append,args:=#[s,x],argTypes:=#[t,u] })(aj:∀ d,o.dst=some d->d<X.n)
 (au:X.E t=some dd) (dA:dd.bM=.slice e) (hu:X.E u=some mE) (fP:∀ k,mE.bM≠.int k) (he:X.E e=some aH)
 {n:Nat} (aw:bI F s=.val (.slice sa n c)) (na:n<=c)
 (ae:bI F x=.val qy) (ax:(∃ b c,qy=.slice b 0 c)\/qy=.string .empty)
  (h:K (put o.dst (.val (.slice sa n c)) F) C I M):bz X o F C I M K:=by
 refine⟨λa w Q ⟨β,aZ⟩=>?_⟩;obtain⟨inf,z,hi,fp,hs,h8,j'⟩:=(aQ _ _ he).inf;obtain⟨d,fQ,eZ⟩:=(aQ _ _ hu).fA;obtain⟨g7,iu,k2⟩:=(aQ _ _ au).fA;have oY:g7=.slice e:=by rw[dA]at k2;cases g7<;>simp_all[fz]
 subst oY;have fk:=WT (w:=w) t u o.type e inf iu fQ (λk cY=>fP k ask) hi (sa:=sa) na ax;have es:=dt aZ.ap aw;have ex:=dt aZ.ap ae;refine v5 aZ aj f9 ?_ h;unfold execOp;simp only[aG,resolve,invoke,builtin,cz,dn,cd,rs,ch,hd,es,ex,fk]
def WU(op:BinOp)(t:Nat)(x y:Operand)(p q:Option Addr)(P:Program)(w:World):(eqGuard op t x y (.pointer p) (.pointer q)).run P w=.ok () w:=by
 unfold eqGuard;cases op<;>rfl
theorem bz.KK(aQ:cX X.P X.E)(aG:o.op=.binOp .eql t x y be)(aj:∀ d,o.dst=some d->d<X.n)(au:X.E t=some dd)(dA:dd.bM=.pointer e)
  {p:Option Addr} (ae:bI F x=.val (.pointer p)) (aF:bI F y=.val (.pointer none)) (h:K (put o.dst (.val (.bool p.isNone)) F) C I M):bz X o F C I M K:=by
 obtain⟨d,fQ,eZ⟩:=(aQ _ _ au).fA;have aa:d=.pointer e:=by rw[dA]at eZ;cases d<;>simp_all[fz]
 subst aa;exact .bin aG aj ae aF (λw=>WU ..) (λw _=>run_eql_pointer_nil w t p (by simp[Program.pointee,fQ])) h
theorem bz.WV(aQ:cX X.P X.E)(aG:o.op=.binOp .neq t x y be)(aj:∀ d,o.dst=some d->d<X.n){ah3:dV}(au:X.E t=some dd)(dA:dd.bM=.pointer e)(he:X.E e=some ah3)
  {p:Addr} (ae:bI F x=.val (.pointer (some p))) (aF:bI F y=.val (.pointer (some p))) (h:K (put o.dst (.val (.bool false)) F) C I M):bz X o F C I M K:=by
 obtain⟨d,fQ,eZ⟩:=(aQ _ _ au).fA;have aa:d=.pointer e:=by rw[dA]at eZ;cases d<;>simp_all[fz]
 subst aa;obtain⟨inf,z,hi,_⟩:=(aQ _ _ he).inf;exact .bin aG aj ae aF (λw=>WU ..) (λw _=>Lib.run_neq_ptr_same w p fQ hi) h
end
def WW{f:Nat}{fn:Func}{e:Array Value->Sem Value}{args:List Value}{M:List aD}(aC:P.funcs[f]?=some fn)(ah4:(fn.name == "runtime.NumGoroutine")=false)
  (ah:fn.body.isNone=true) (aE:Extern.findNext fn=none) (he:Extern.find fn=some e) (ag:∀ w,(e args.toArray).run P w=.ok v w):Spec P f args I M λr I' M'=>r=v/\I'=I/\M'=M:=by
 refine .inr λw hw=>⟨v,w,I,M,?_,⟨rfl,rfl,rfl⟩,hw,λ_ _ h=>h,λ_ _ h=>.inl h,λx ae=>.inl ⟨x,ae,rfl⟩,λ_ _ _=>rfl,.refl _,cf _⟩;rw[run_callFunc_extern aC ah4 ah aE he,ag];rfl
def zN(l:List UInt8):List Value:=l.map λb=>.int .u8 b.toNat
structure gC where
 tv:Bool
 os:aO
 cE:List UInt8
def gC.aq(b:Nat)(x:gC):aD:=⟨b,.cells #[.pointer (bif x.tv then some ⟨b,0,none⟩else none),x.os.val] 341 (0,0)⟩
def gC.M(b:Nat)(x:gC):List aD:=x.aq b::x.os.aq 5
structure gC.ok(x:gC):Prop where
 os:x.os.ok 1 (zN x.cE)
 ne:∀ g,x.os.a=some g->x.cE≠[]
def gC.new:gC:=⟨false,⟨none,0,0,[]⟩,[]⟩
def gC.KL:gC.new.ok:=⟨⟨rfl,λ_=>⟨rfl,rfl⟩,λg h=>ci⟩,λg h=>ci⟩
def gC.ok.n{x:gC}(h:x.ok):x.os.n=x.cE.length:=by have:=h.os.len;simp[zN]at this;omega
def ptr(b:Nat):Value:=.pointer (some ⟨b,0,none⟩)
def dj{M:List aD}{cs:List Value}(bd:(⟨b,.cells cs.toArray T (0,0)⟩:aD)∈M){k n:Nat}(h:k+n<=cs.length):cG I M ((⟨b,0,none⟩:Addr).add k) n ((cs.drop k).take n):=by
 rw[eK _ rfl];refine⟨rfl,_,T,(0,0),.inr ⟨_,bd,rfl,rfl⟩,?_,?_⟩
 ·simp
 ·simp;omega
def Pn{M:List aD}(v:Value):Spec Tryz.prog 365 [v] I M λr I' M'=>r=v/\I'=I/\M'=M:=
 WW Tryz.func365 d4 d4 d4 (e:=Extern.AbiNoEscape.same) d4 (λw=>Lib.run_noEscape w _)
def WX{M:List aD}(s:ByteArray)(c:UInt8):Spec Tryz.prog 407 [.string s,.int .u8 c.toNat] I M λr I' M'=>r=.int .i64 (Lib.indexByte s.data.toList c)/\I'=I/\M'=M:=
 WW Tryz.func407 d4 d4 d4 (e:=Extern.BytealgIndexByte.indexByte) d4 (λw=>by
  have:=Lib.run_indexByteString (P:=Tryz.prog) s (c.toNat:Int) w;simpa using this)
def ah5(s:ByteArray)(c:UInt8):Spec Tryz.prog 389 [.string s,.int .u8 c.toNat] I [] λr I' M'=>r=.int .i64 (Lib.indexByte s.data.toList c)/\I'=I/\M'=[]:=by refine bR [] aT Tryz.func389 rfl rfl rfl ?_;intro B ax;refine a9.mk [] [] _ (.refl _) (WX s c) ?_;rintro v I' M' -⟨rfl,rfl,rfl⟩;exact⟨_,_,.refl,rfl,rfl,rfl⟩
def WY(s:ByteArray)(c:UInt8):Spec Tryz.prog 373 [.string s,.int .u8 c.toNat] I [] λr I' M'=>r=.int .i64 (Lib.indexByte s.data.toList c)/\I'=I/\M'=[]:=by refine bR [] aT Tryz.func373 rfl rfl rfl ?_;intro B ax;refine a9.mk [] [] _ (.refl _) (ah5 s c) ?_;rintro v I' M' -⟨rfl,rfl,rfl⟩;exact⟨_,_,.refl,rfl,rfl,rfl⟩
def KM{M:List aD}(h:eJ I M w){ap:Nat×Nat}(bd:(⟨b,.cells cs T ap⟩:aD)∈M):w.shape? b=some (T,cs.size):=by have:=h.m _ bd;simp only at this;simp[World.shape?,this]
def WZ(b:Nat)(x:gC):Spec Tryz.prog 344 [ptr b] I [x.aq b] λr I' M'=>r=.tuple #[]/\I'=I/\M'=[{ x with tv:=true:gC }.aq b]:=by
 obtain⟨tv,os,cE⟩:=x;obtain⟨inf,z,hi,fp,_⟩:=(aT 341 _ rfl).inf;refine bR [] aT Tryz.func344 rfl rfl rfl ?_;intro B ax;cases tv with
 |false=>refine aJ.mk [.pointer none] (dj (cs:=[.pointer none,os.val]) (k:=0) (n:=1) (T:=341) (ep.2 rfl) am) ?_;refine .other (bz.KK aT rfl am rfl rfl rfl rfl ?_);refine aS.mk (λ_=>?_) (λh=>ci);refine bz.conv rfl am rfl (λw hw=>Lib.run_to_unsafe (t:=341) (e:=341) (cells:=2) w ⟨b,0,none⟩ d4 d4 (j:=inf) hi (by rw[fp];decide) (KM (cs:=#[.pointer none,os.val]) hw (ep.2 rfl)) am) ?_;refine a9.mk [gC.aq b ⟨false,os,cE⟩] [] _ am (Pn _) ?_;rintro v I' M' -⟨rfl,rfl,rfl⟩;refine bz.conv rfl am rfl (λw hw=>Lib.run_from_unsafe (u:=341) (e:=341) (cells:=2) w ⟨b,0,none⟩ d4 d4 (j:=inf) hi (KM (cs:=#[.pointer none,os.val]) hw (ep.2 rfl)) d4) ?_;refine b'.add [] [] _ _ rfl (bJ rfl) rfl ?_;exact⟨_,_,.refl,rfl,rfl,rfl⟩
 |true=>refine aJ.mk [ptr b] (dj (cs:=[ptr b,os.val]) (k:=0) (n:=1) (T:=341) (ep.2 rfl) am) ?_;refine .other (bz.KK aT rfl am rfl rfl rfl rfl ?_);refine aS.mk (λh=>ci) (λ_=>?_);refine aJ.mk [ptr b] (dj (cs:=[ptr b,os.val]) (k:=0) (n:=1) (T:=341) (ep.2 rfl) am) ?_;refine .other (bz.WV aT rfl am rfl rfl rfl rfl rfl ?_);refine aS.mk (λh=>ci) (λ_=>?_);exact⟨_,_,.refl,rfl,rfl,rfl⟩
def pT(b:Nat){x:gC}(ae:x.ok)(c:UInt8)(ay:x.cE.length<70368744177664):Spec Tryz.prog 361 [ptr b,.int .u8 c.toNat] I (x.M b)
  λr I' M'=>r=.nilIface/\I'=I/\∃ y:gC,y.ok/\y.cE=x.cE++[c]/\M'=y.M b:=by
 refine bR [] aT Tryz.func361 rfl rfl rfl ?_;intro B ax;have aE:=ae.n;refine a9.mk [x.aq b] (x.os.aq 5) _ (.refl _) (WZ b x) ?_;rintro v I' M' -⟨rfl,rfl,rfl⟩;refine aJ.mk [x.os.val] (dj (cs:=[ptr b,x.os.val]) (k:=1) (n:=1) (T:=341) (.head _) am) ?_;refine bN.mk λg az Ea=>?_;refine bz.append aT rfl am (e:=5) rfl rfl rfl x.os (xs:=zN x.cE) ae.os rfl (m:=1) rfl (cb:=[.int .u8 c.toNat]) bv ?_ rfl (Mr:=[⟨g,.cells #[.int .u8 c.toNat] 5 (0,0)⟩,{ x with tv:=true:gC }.aq b]) ?_ ?_ ?_ ?_
 ·exact dj (cs:=[.int .u8 c.toNat]) (k:=0) (n:=1) (T:=5) (.head _) am
 ·exact eM (l₁:=[_,_]) (l₂:=x.os.aq 5)
 ·simp only[maxLen];omega
 ·show(x.os.n+1)*1<=_;omega
 ·intro et c' aR aa ab al aL;refine b'.add [⟨et,.cells aR.toArray 5 (0,0)⟩,⟨g,.cells #[.int .u8 c.toNat] 5 (0,0)⟩] [] _ _ rfl (bJ rfl) rfl ?_;refine⟨_,_,.perm (M1:=[⟨g,.cells #[.int .u8 c.toNat] 5 (0,0)⟩]++gC.M b ⟨true,⟨some et,x.os.n+1,c',aR⟩,x.cE++[c]⟩) ?_ (.sub (m4 _ _) .refl),rfl,rfl,_,?_,rfl,rfl⟩
  ·exact eM (l₁:=[_]) (l₂:=[_,_])
  ·refine⟨⟨?_,λh=>d5,?_⟩,am⟩
   ·simp[zN,aE]
   ·intro bh l8;refine⟨aa,ab,al,?_⟩;rw[aL];simp[zN]
def uP(b:Nat){x:gC}(ae:x.ok)(s:ByteArray)(ay:x.cE.length+s.size<=70368744177664):Spec Tryz.prog 328 [ptr b,.string s] I (x.M b)
  λr I' M'=>r=.tuple #[.int .i64 s.size,.nilIface]/\I'=I/\∃ y:gC,y.ok/\y.cE=x.cE++s.data.toList/\M'=y.M b:=by
 refine bR [] aT Tryz.func328 rfl rfl rfl ?_;intro B ax;have aE:=ae.n;refine a9.mk [x.aq b] (x.os.aq 5) _ (.refl _) (WZ b x) ?_;rintro v I' M' -⟨rfl,rfl,rfl⟩;refine aJ.mk [x.os.val] (dj (cs:=[ptr b,x.os.val]) (k:=1) (n:=1) (T:=341) (.head _) am) ?_;by_cases aw:s.size=0
 ·have he:s=.empty:=tr (GR aw);subst he;have na:x.os.n<=x.os.c:=by
   cases a8:x.os.a with
   |none=>obtain⟨aa,ab⟩:=ae.os.nil a8;omega
   |some g=>exact(ae.os.cap g a8).2.1
  refine bz.KJ aT rfl am (e:=5) rfl rfl rfl am rfl rfl na rfl (.inr rfl) ?_;refine b'.add [] (x.os.aq 5) _ _ rfl (bJ rfl) rfl ?_;exact⟨_,_,.refl,rfl,rfl,⟨true,x.os,x.cE⟩,⟨ae.os,ae.ne⟩,am,rfl⟩
 ·refine bz.ahP aT rfl am (e:=5) rfl rfl rfl rfl rfl rfl x.os (xs:=zN x.cE) ae.os rfl rfl Z (Mr:=[{ x with tv:=true:gC }.aq b]) (eM (l₁:=[_])) ?_ ?_ ?_
  ·simp only[maxLen];omega
  ·show(x.os.n+s.size)*1<=_;omega
  ·intro et c' aR aa ab al aL;refine b'.add [⟨et,.cells aR.toArray 5 (0,0)⟩] [] _ _ rfl (bJ rfl) rfl ?_;refine⟨_,_,.perm (M1:=gC.M b ⟨true,⟨some et,x.os.n+s.size,c',aR⟩,x.cE++s.data.toList⟩) ?_ .refl,rfl,rfl,_,?_,rfl,rfl⟩
   ·exact eM (l₁:=[_]) (l₂:=[_])
   ·refine⟨⟨?_,λh=>d5,?_⟩,λg _ h=>?_⟩
    ·simp[zN,aE]
    ·intro bh l8;refine⟨aa,ab,al,?_⟩;rw[aL];simp[zN,lH]
    ·have bB:=congrArg List.length (List.append_eq_nil_iff.1 h).2;exact aw ayY
def xZ(b:Nat){x:gC}(ae:x.ok)(ay:x.cE.length<=70368744177664):Spec Tryz.prog 329 [ptr b] I (x.M b)
  λr I' M'=>r=.string ⟨x.cE.toArray⟩/\I'=I/\M'=[]:=by
 refine bR [] aT Tryz.func329 rfl rfl rfl ?_;intro B ax;have aE:=ae.n;obtain⟨tv,⟨a,n,c,aR⟩,cE⟩:=x;simp only at aE ay;subst aE;refine cN.draw aT rfl rfl rfl ?_;cases a with
 |none=>obtain⟨aa,ab⟩:=ae.os.nil rfl;simp only at aa ab;have Eb:cE=[]:=iB aa;subst Eb;subst ab;refine aJ.mk [.slice none 0 0] (dj (cs:=[.pointer (bif tv then some ⟨b,0,none⟩else none),.slice none 0 0]) (k:=1) (n:=1) (T:=341) (.head _) am) ?_;refine aJ.mk [.slice none 0 0] (dj (cs:=[.pointer (bif tv then some ⟨b,0,none⟩else none),.slice none 0 0]) (k:=1) (n:=1) (T:=341) (.head _) am) ?_;refine bz.Wh rfl am rfl rfl ?_;exact⟨_,_,.sub (eY _) .refl,rfl,rfl,rfl⟩
 |some g=>
  obtain⟨aa,ab,al,aL⟩:=ae.os.cap g rfl;have bH:=ae.ne g rfl;simp only at aa ab al aL bH;have kB:cE.length≠0:=λh=>bH (iB h);refine aJ.mk [.slice (some ⟨g,0,none⟩) cE.length c] (dj (cs:=[.pointer (bif tv then some ⟨b,0,none⟩else none),.slice (some ⟨g,0,none⟩) cE.length c]) (k:=1) (n:=1) (T:=341) (.head _) am) ?_;refine h4.mk Z ?_;refine aJ.mk [.slice (some ⟨g,0,none⟩) cE.length c] (dj (cs:=[.pointer (bif tv then some ⟨b,0,none⟩else none),.slice (some ⟨g,0,none⟩) cE.length c]) (k:=1) (n:=1) (T:=341) (.head _) am) ?_;refine bz.O6 aT rfl am (e:=5) rfl rfl rfl rfl (l:=cE) (g:=g) (cs:=aR.toArray) rfl rfl bH Z (Mr:=[gC.aq b ⟨tv,⟨some g,cE.length,c,aR⟩,cE⟩]) (eM (l₁:=[_]) (l₂:=[_])) ?_ ?_;·rw[gm]at aL;exact aL
  ·exact⟨_,_,.sub (eY _) .refl,rfl,rfl,rfl⟩
def BT(c:UInt8)(left:ByteArray):Bool:=decide ((32:Int)<=c.toNat)&&(decide ((c.toNat:Int)<=126)&&(!decide ((c.toNat:Int)=92)&&decide (Lib.indexByte left.data.toList c<0)))
def ah6(c:UInt8)(left:ByteArray):Spec Tryz.prog 410 [.int .u8 c.toNat,.string left] I [] λr I' M'=>r=.bool (BT c left)/\I'=I/\M'=[]:=by
 refine bR [] aT Tryz.func410 rfl rfl rfl ?_;intro B ax;refine bZ.mk (λaa=>?_) (λaa=>?_)
 ·refine bZ.mk (λab=>?_) (λab=>?_)
  ·refine bZ.mk (λal=>?_) (λal=>?_)
   ·refine a9.mk [] [] _ (.refl _) (WY left c) ?_;rintro v I' M' -⟨rfl,rfl,rfl⟩;refine⟨_,_,.refl,?_,rfl,rfl⟩;simp only[BT,aa,ab,al,m5]
   ·refine⟨_,_,.refl,?_,rfl,rfl⟩;simp only[BT,aa,ab,al,m5,zD,GX]
  ·refine⟨_,_,.refl,?_,rfl,rfl⟩;simp only[BT,aa,ab,m5,zD,GX]
 ·refine⟨_,_,.refl,?_,rfl,rfl⟩;simp only[BT,aa,m5,zD,GX]
def Ec:ByteArray:=⟨#[48,49,50,51,52,53,54,55,56,57,97,98,99,100,101,102]⟩
def zO(n:Nat):UInt8:=Ec.data.toList.getD n 0
def o2(c:UInt8)(left:ByteArray):List UInt8:=
 bif BT c left then [c]else
 bif decide ((c.toNat:Int)=10)then [92,110]else
 bif decide ((c.toNat:Int)=13)then [92,114]else
 bif decide ((c.toNat:Int)=9)then [92,116]else
 bif decide ((c.toNat:Int)=92)||decide ((0:Int)<=Lib.indexByte left.data.toList c)then [92,c]else [92,120,zO (c.toNat/16),zO (c.toNat%16)]
def G7(c:UInt8)(left:ByteArray):(o2 c left).length<=4:=by
 unfold o2;cases BT c left<;>cases decide ((c.toNat:Int)=10)<;>cases decide ((c.toNat:Int)=13)<;>cases decide ((c.toNat:Int)=9)<;>cases(decide ((c.toNat:Int)=92)||decide ((0:Int)<=Lib.indexByte left.data.toList c))<;>simp
def ah7:∀ n:Nat,n<256->IntKind.u8.wrap ((BitVec.ofInt 8 (n:Int)) &&& (BitVec.ofInt 8 15)).toNat=((n%16:Nat):Int):=by decide +kernel
def W0(ai:j<Ec.size):Ec[j]=zO j:=by have:j<Ec.data.toList.length:=ai;simp only[zO,bP,du this,kX];rfl
def KN(b:Nat){x:gC}(ae:x.ok)(c:UInt8)(left:ByteArray)(ay:x.cE.length<=70368744177600):Spec Tryz.prog 396 [ptr b,.int .u8 c.toNat,.string left] I (x.M b)
  λr I' M'=>I'=I/\∃ y:gC,y.ok/\y.cE=x.cE++o2 c left/\M'=y.M b:=by
 refine bR [] aT Tryz.func396 rfl rfl rfl ?_;intro B ax;refine a9.mk [] (x.M b) _ (.refl _) (ah6 c left) ?_;rintro v I' M' -⟨rfl,rfl,rfl⟩;refine aS.mk (λaa=>?_) (λaa=>?_)
 ·refine a9.mk (x.M b) [] _ am (pT b ae c Z) ?_;rintro v I' M' -⟨rfl,rfl,y,aF,g',rfl⟩;refine⟨_,_,.refl,rfl,y,aF,?_,am⟩;rw[g',o2,aa];rfl
 ·refine aS.mk (λab=>?_) (λab=>?_)
  ·refine a9.mk (x.M b) [] _ am (uP b ae _ ayI) ?_;rintro v I' M' -⟨rfl,rfl,y,aF,g',rfl⟩;refine⟨_,_,.refl,rfl,y,aF,?_,am⟩;rw[g',o2,aa,ab];rfl
  ·refine aS.mk (λal=>?_) (λal=>?_)
   ·refine a9.mk (x.M b) [] _ am (uP b ae _ ayI) ?_;rintro v I' M' -⟨rfl,rfl,y,aF,g',rfl⟩;refine⟨_,_,.refl,rfl,y,aF,?_,am⟩;rw[g',o2,aa,ab,al];rfl
   ·refine aS.mk (λaL=>?_) (λaL=>?_)
    ·refine a9.mk (x.M b) [] _ am (uP b ae _ ayI) ?_;rintro v I' M' -⟨rfl,rfl,y,aF,g',rfl⟩;refine⟨_,_,.refl,rfl,y,aF,?_,am⟩;rw[g',o2,aa,ab,al,aL];rfl
    ·have two:∀ (I1:aI),(decide ((c.toNat:Int)=92)||decide ((0:Int)<=Lib.indexByte left.data.toList c))=true->o2 c left=[92,c]:=λ_ h=>by rw[o2,aa,ab,al,aL,h];rfl
     have other:(decide ((c.toNat:Int)=92)||decide ((0:Int)<=Lib.indexByte left.data.toList c))=false->o2 c left=[92,120,zO (c.toNat/16),zO (c.toNat%16)]:=λh=>by rw[o2,aa,ab,al,aL,h];rfl
     have ar:=c.toNat_lt;refine bZ.mk (λbB=>?_) (λbB=>?_)
     ·refine a9.mk [] (x.M b) _ (.refl _) (WY left c) ?_;rintro v I' M' -⟨rfl,rfl,rfl⟩;refine aS.mk (λcA=>?_) (λcA=>?_)
      ·refine a9.mk (x.M b) [] _ am (pT b ae 92 Z) ?_;rintro v I' M' -⟨rfl,rfl,y,aF,g',rfl⟩;refine a9.mk (y.M b) [] _ am (pT b aF c ayJ) ?_;rintro v I' M' -⟨rfl,rfl,z,bg,tw,rfl⟩;refine⟨_,_,.refl,rfl,z,bg,?_,am⟩;rw[tw,g',two I' (by rw[bB];exact cA)];simp
      ·refine a9.mk (x.M b) [] _ am (uP b ae _ ayI) ?_;rintro v I' M' -⟨rfl,rfl,y,aF,g',rfl⟩;have G8:y.cE.length=x.cE.length+2:=by rw[g'];simp
       refine sk.mk 4 rfl ?_;refine oL.mk (s:=Ec) (c.toNat/16) ?_ (by show _<16;omega) ?_
       ·show(c.toNat:Int).fdiv (2^(min 4 (IntKind.u8.bits)))=_;have ah8:((2:Int)^(min 4 IntKind.u8.bits))=16:=by decide
        rw[ah8,Kv _ Z];omega
       rw[W0];refine a9.mk (y.M b) [] _ am (pT b aF (zO (c.toNat/16)) Z) ?_;rintro v I' M' -⟨rfl,rfl,z,bg,tw,rfl⟩;have x0:z.cE.length=x.cE.length+3:=by rw[tw];simp;omega
       refine oL.mk (s:=Ec) (c.toNat%16) (ah7 c.toNat ar) (by show _<16;omega) ?_;rw[W0];refine a9.mk (z.M b) [] _ am (pT b bg (zO (c.toNat%16)) Z) ?_;rintro v I' M' -⟨rfl,rfl,u,hu,x1,rfl⟩;refine⟨_,_,.refl,rfl,u,hu,?_,am⟩;rw[x1,tw,g',other (by rw[bB];exact cA)];simp
     ·refine a9.mk (x.M b) [] _ am (pT b ae 92 Z) ?_;rintro v I' M' -⟨rfl,rfl,y,aF,g',rfl⟩;refine a9.mk (y.M b) [] _ am (pT b aF c ayJ) ?_;rintro v I' M' -⟨rfl,rfl,z,bg,tw,rfl⟩;refine⟨_,_,.refl,rfl,z,bg,?_,am⟩;rw[tw,g',two I' (by rw[bB];rfl)];simp
def nP(n:Nat):List UInt8:=bif Nat.blt n 10 then [UInt8.ofNat (48+n)]else [UInt8.ofNat (48+n/10),UInt8.ofNat (48+n%10)]
def zP(n:Nat):ByteArray:=⟨(nP n).toArray⟩
def W1:ByteArray:=⟨((List.range 10).map (λn=>UInt8.ofNat (48+n))++(List.range 26).map (λn=>UInt8.ofNat (97+n))).toArray⟩
def W2:ByteArray:=⟨((List.range 100).flatMap λn=>[UInt8.ofNat (48+n/10),UInt8.ofNat (48+n%10)]).toArray⟩
def ah9:∀ n:Fin 10,(W1.extract n.val (n.val+1)).data.toList=nP n.val:=by decide +kernel
def aia:∀ n:Fin 100,10<=n.val->(W2.extract (n.val*2) (n.val*2+2)).data.toList=nP n.val:=by decide +kernel
def Ed{a b:ByteArray}(h:a.data.toList=b.data.toList):a=b:=tr (lY h)
def G9(n:Nat):(nP n).length<=2:=by
 unfold nP;cases Nat.blt n 10<;>simp
def aib(n:Nat)(aE:n<100):Spec Tryz.prog 427 [.int .i64 n] I [] λr I' M'=>r=.string (zP n)/\I'=I/\M'=[]:=by
 refine bR [] aT Tryz.func427 rfl rfl rfl ?_;intro B ax;refine aS.mk (λh=>?_) (λh=>?_)
 ·have aV:n<10:=by simp at h;omega
  refine a3.mk ((n+1:Nat):Int) gc ?_;refine j7.mk n (n+1) rfl rfl Z (by show _<=36;omega) ?_;refine⟨_,_,.refl,?_,rfl,rfl⟩;have:W1.extract n (n+1)=zP n:=Ed (ah9 ⟨n,aV⟩);rw[<-this];rfl
 ·have cM:10<=n:=by simp at h;omega
  refine a3.mk ((n*2:Nat):Int) gc ?_;refine a3.mk ((n*2:Nat):Int) gc ?_;refine a3.mk ((n*2+2:Nat):Int) gc ?_;refine j7.mk (n*2) (n*2+2) rfl rfl Z (by show _<=200;omega) ?_;refine⟨_,_,.refl,?_,rfl,rfl⟩;have:W2.extract (n*2) (n*2+2)=zP n:=Ed (aia ⟨n,aE⟩ cM);rw[<-this];rfl
def aic(n:Nat)(aE:n<100):Spec Tryz.prog 425 [.int .i64 n,.int .i64 10] I [] λr I' M'=>r=.string (zP n)/\I'=I/\M'=[]:=by refine bR [] aT Tryz.func425 rfl rfl rfl ?_;intro B ax;refine aS.mk (λh=>?_) (λh=>ci);refine bZ.mk (λh=>?_) (λh=>by simp at h;try omega);refine aS.mk (λh=>?_) (λh=>by simp at h;try omega);refine a9.mk [] [] _ (.refl _) (aib n aE) ?_;rintro v I' M' -⟨rfl,rfl,rfl⟩;exact⟨_,_,.refl,rfl,rfl,rfl⟩
def aid(n:Nat)(aE:n<100):Spec Tryz.prog 420 [.int .i64 n] I [] λr I' M'=>r=.string (zP n)/\I'=I/\M'=[]:=by refine bR [] aT Tryz.func420 rfl rfl rfl ?_;intro B ax;refine a9.mk [] [] _ (.refl _) (aic n aE) ?_;rintro v I' M' -⟨rfl,rfl,rfl⟩;exact⟨_,_,.refl,rfl,rfl,rfl⟩
def aie(n:Nat)(aE:n<100):Spec Tryz.prog 412 [.int .i64 n] I [] λr I' M'=>r=.string (zP n)/\I'=I/\M'=[]:=by refine bR [] aT Tryz.func412 rfl rfl rfl ?_;intro B ax;refine a9.mk [] [] _ (.refl _) (aid n aE) ?_;rintro v I' M' -⟨rfl,rfl,rfl⟩;exact⟨_,_,.refl,rfl,rfl,rfl⟩
def KO(n:Nat)(aE:n<100):Spec Tryz.prog 398 [.int .i64 n] I [] λr I' M'=>r=.string (zP n)/\I'=I/\M'=[]:=by refine bR [] aT Tryz.func398 rfl rfl rfl ?_;intro B ax;refine a9.mk [] [] _ (.refl _) (aie n aE) ?_;rintro v I' M' -⟨rfl,rfl,rfl⟩;exact⟨_,_,.refl,rfl,rfl,rfl⟩
def hK(node k4:Int):Bool:=
 bif decide (node=5)then decide (k4=5)else
 bif decide (node=4)||(decide (node=7)||decide (node=8))then decide (k4=4)||decide (k4=5)else
 bif decide (node=6)then decide (k4=4)||(decide (k4=5)||(decide (k4=6)||(decide (k4=7)||decide (k4=8))))else false
def Po(a b:Int):Spec Tryz.prog 363 [.int .u8 a,.int .u8 b] I [] λr I' M'=>r=.bool (hK a b)/\I'=I/\M'=[]:=by
 refine bR [] aT Tryz.func363 rfl rfl rfl ?_;intro B ax;refine aS.mk (λaa=>?_) (λaa=>?_)
 ·refine⟨_,_,.refl,?_,rfl,rfl⟩;simp only[hK,aa];rfl
 ·have two:∀ (I1:aI) (h:(decide (a=4)||(decide (a=7)||decide (a=8)))=true),hK a b=(decide (b=4)||decide (b=5)):=λ_ h=>by simp only[hK,aa,h];rfl
  have Pp:(decide (a=4)||(decide (a=7)||decide (a=8)))=true->bZ (decide (b=4)) false (wb [] I [] λI' M'=>Value.bool (decide (b=5))=.bool (hK a b)/\I'=I/\M'=[]) (wb [] I [] λI' M'=>Value.bool true=.bool (hK a b)/\I'=I/\M'=[]):=λh=>by
   refine bZ.mk (λaL=>?_) (λaL=>?_);·refine⟨_,_,.refl,?_,rfl,rfl⟩;rw[two I h,aL];rfl
   ·refine⟨_,_,.refl,?_,rfl,rfl⟩;rw[two I h,aL];rfl
  refine aS.mk (λab=>?_) (λab=>?_);·refine aS.mk (λ_=>?_) (λh=>by rw[ab]at h;cases h);exact Pp (by rw[ab];rfl)
  ·refine aS.mk (λal=>?_) (λal=>?_)
   ·refine aS.mk (λ_=>?_) (λh=>by rw[al]at h;cases h);exact Pp (by rw[al];simp)
   ·refine aS.mk (λaL=>?_) (λaL=>?_)
    ·exact Pp (by rw[aL];simp)
    ·have hw:hK a b=(bif decide (a=6)then decide (b=4)||(decide (b=5)||(decide (b=6)||(decide (b=7)||decide (b=8))))else false):=by simp only[hK,aa,ab,al,aL];rfl
     refine aS.mk (λbB=>?_) (λbB=>?_)
     ·rw[bB]at hw;simp only[cD]at hw;refine bZ.mk (λeW=>?_) (λeW=>?_)
      ·refine bZ.mk (λc8=>?_) (λc8=>?_)
       ·refine bZ.mk (λhJ=>?_) (λhJ=>?_)
        ·refine bZ.mk (λnQ=>?_) (λnQ=>?_)
         ·refine⟨_,_,.refl,?_,rfl,rfl⟩;rw[hw,eW,c8,hJ,nQ];rfl
         ·refine⟨_,_,.refl,?_,rfl,rfl⟩;rw[hw,eW,c8,hJ,nQ];rfl
        ·refine⟨_,_,.refl,?_,rfl,rfl⟩;rw[hw,eW,c8,hJ];rfl
       ·refine⟨_,_,.refl,?_,rfl,rfl⟩;rw[hw,eW,c8];rfl
      ·refine⟨_,_,.refl,?_,rfl,rfl⟩;rw[hw,eW];rfl
     ·refine⟨_,_,.refl,?_,rfl,rfl⟩;rw[hw,bB];rfl
def wrap_u64(x:Int):eC (IntKind.u64.wrap x):=by unfold IntKind.wrap eC;simp only[IntKind.bits,IntKind.signed];simp;omega
def wrap_u8(x:Int):0<=IntKind.u8.wrap x/\IntKind.u8.wrap x<256:=by unfold IntKind.wrap;simp only[IntKind.bits,IntKind.signed];simp;omega
def KP{x:Int}(h:eC x):IntKind.u64.wrap x=x:=by obtain⟨aa,ab⟩:=h;unfold IntKind.wrap;simp only[IntKind.bits,IntKind.signed];simp;omega
def sB(I:aI)(aB:List Int):Prop:=aB.length=64/\(∀ x∈aB,0<=x/\x<256)/\∃ T ap,I 4=some (.cells (aB.map (Value.int .u8)).toArray T ap)
def sB.rd(h:sB I aB)(M:List aD)(ai:j<64):cG I M (Addr.add ⟨4,0,none⟩ (j*1)) 1 [.int .u8 (aB.getD j 0)]:=by
 obtain⟨ay,_,T,ap,h⟩:=h;rw[eK _ rfl];refine⟨rfl,_,T,ap,.inl h,?_,rfl⟩;have aa:j<(aB.map (Value.int .u8)).length:=by simp[ay,ai]
 have ab:j<aB.length:=by omega
 simp only[dg,gm];rw[e9 aa,rr,qw];simp[bP,ab]
def sB.at(h:sB I aB)(j:Nat):0<=aB.getD j 0/\aB.getD j 0<256:=by
 rw[bP];by_cases ai:j<aB.length
 ·rw[du ai];exact h.2.1 _ (bD ai)
 ·simp[ai]
def G'(x y:Int):Int:=IntKind.u64.wrap (BitVec.ofInt 64 x &&& BitVec.ofInt 64 y).toNat
def tx(x:Int):Int:=IntKind.u64.wrap (G' x (IntKind.u64.wrap (0-x))*285870213051353865)
def uQ(aB:List Int)(x:Int):Int:=bif decide (x=0)then 64 else aB.getD ((tx x).toNat/2^58) 0
def aif(h:sB I aB)(x:Int):0<=uQ aB x/\uQ aB x<256:=by
 unfold uQ;cases decide (x=0)
 ·exact h.at _
 ·simp
def aih(ah:sB I aB)(x:Int):Spec Tryz.prog 419 [.int .u64 x] I [] λr I' M'=>r=.int .i64 (uQ aB x)/\I'=I/\M'=[]:=by
 refine bR [] aT Tryz.func419 rfl rfl rfl ?_;intro B ax;refine aS.mk (λh=>?_) (λh=>?_)
 ·refine⟨_,_,.refl,?_,rfl,rfl⟩;simp only[uQ,h];rfl
 ·have a8:=wrap_u64 (G' x (IntKind.u64.wrap (0-x))*285870213051353865);refine a3.mk _ rfl ?_;refine a3.mk (tx x) rfl ?_;refine sk.mk 58 rfl ?_;have aN:((2:Int)^(min 58 IntKind.u64.bits))=2^58:=by decide
  rw[aN];obtain⟨BU,BV⟩:=a8;have bc:(tx x).fdiv (2^58)=(((tx x).toNat/2^58:Nat):Int):=by rw[Kv _ bv];have:tx x=((tx x).toNat:Int):=(zy BU).symm;omega
  rw[bc];have ai:(tx x).toNat/2^58<64:=by have:tx x<18446744073709551616:=BV;omega
  refine cj.mk ((tx x).toNat/2^58) rfl ai ?_;refine aJ.mk [.int .u8 (aB.getD ((tx x).toNat/2^58) 0)] (ah.rd _ ai) ?_;have aj:=ah.at ((tx x).toNat/2^58);refine a3.mk (aB.getD ((tx x).toNat/2^58) 0) (wrap_i64 ⟨Z,Z⟩) ?_;refine⟨_,_,.refl,?_,rfl,rfl⟩;simp only[uQ,h];rfl
def aii(a b c d:Int):Nat->List Value
 |0=>[.int .u64 (a),.int .u64 (b),.int .u64 (c),.int .u64 (d)]| 1=>[.int .u64 (jI a),.int .u64 (b),.int .u64 (c),.int .u64 (d)]| 2=>[.int .u64 (jI a),.int .u64 (jI b),.int .u64 (c),.int .u64 (d)]| 3=>[.int .u64 (jI a),.int .u64 (jI b),.int .u64 (jI c),.int .u64 (d)]| _=>[.int .u64 (jI a),.int .u64 (jI b),.int .u64 (jI c),.int .u64 (jI d)]
def aij(a b c d:Int):Spec Tryz.prog 406 [.agg #[.int .u64 a,.int .u64 b,.int .u64 c,.int .u64 d]] I [] λr I' M'=>r=.agg #[.int .u64 (jI a),.int .u64 (jI b),.int .u64 (jI c),.int .u64 (jI d)]/\I'=I/\M'=[]:=by
 refine bR [] aT Tryz.func406 rfl rfl rfl ?_;intro B ax;refine c2.inv (ι:=Nat) (λi=>{ bn:=[(1,.ref 1 0),(2,.ref 2 0),(5,.val (.agg #[.int .u64 a,.int .u64 b,.int .u64 c,.int .u64 d])),(6,.val (.int .i64 i))],cl:=[(1,aii a b c d i),(2,[.int .u64 0,.int .u64 0,.int .u64 0,.int .u64 0])],cm:=I }) (λi=>i<=4) (λi=>4-i) ?_ ?_
 ·exact⟨0,am,.refl,dS,.cons rfl (.cons rfl .nil)⟩
 ·intro i hi
  match i,hi with
  |0,_=>refine aS.mk (λ_=>?_) (λh=>d5);refine cj.mk 0 rfl bv ?_;refine bz.G6 rfl am rfl ?_;refine cj.mk 0 rfl bv ?_;refine a3.mk 1 bv ?_;exact⟨1,⟨am,am⟩,.refl,dS,.cons rfl (.cons rfl .nil)⟩| 1,_=>refine aS.mk (λ_=>?_) (λh=>d5);refine cj.mk 1 rfl bv ?_;refine bz.G6 rfl am rfl ?_;refine cj.mk 1 rfl bv ?_;refine a3.mk 2 bv ?_;exact⟨2,⟨am,am⟩,.refl,dS,.cons rfl (.cons rfl .nil)⟩| 2,_=>refine aS.mk (λ_=>?_) (λh=>d5);refine cj.mk 2 rfl bv ?_;refine bz.G6 rfl am rfl ?_;refine cj.mk 2 rfl bv ?_;refine a3.mk 3 bv ?_;exact⟨3,⟨am,am⟩,.refl,dS,.cons rfl (.cons rfl .nil)⟩| 3,_=>refine aS.mk (λ_=>?_) (λh=>d5);refine cj.mk 3 rfl bv ?_;refine bz.G6 rfl am rfl ?_;refine cj.mk 3 rfl bv ?_;refine a3.mk 4 bv ?_;exact⟨4,⟨am,am⟩,.refl,dS,.cons rfl (.cons rfl .nil)⟩| 4,_=>refine aS.mk (λh=>d5) (λ_=>?_);exact⟨_,_,.refl,rfl,rfl,rfl⟩
def aik:Spec Tryz.prog 387 [] I [] λr I' M'=>r=.agg #[.int .u64 (jI 0),.int .u64 (jI 0),.int .u64 (jI 0),.int .u64 (jI 0)]/\I'=I/\M'=[]:=by refine bR [] aT Tryz.func387 rfl rfl rfl ?_;intro B ax;refine a9.mk [] [] _ (.refl _) (aij 0 0 0 0) ?_;rintro v I' M' -⟨rfl,rfl,rfl⟩;exact⟨_,_,.refl,rfl,rfl,rfl⟩
def o3(I:aI)(b:Nat)(o:Obj):ins I b o b=some o:=by simp[ins]
def l9(ah:I b=none):∀ c p,I c=some p->ins I b o c=some p:=by
 intro c p h;unfold ins;cases e:Nat.beq c b with
 |false=>exact h| true=>have:=ei e;subst this;rw[ah]at h;cases h
def ail{x y:Int}(ae:eC x)(aF:eC y):G' x y=((x.toNat &&& y.toNat:Nat):Int):=by
 obtain⟨x,rfl⟩:=dZ ae.1;obtain⟨y,rfl⟩:=dZ aF.1;have aa:x<18446744073709551616:=by have:=ae.2;omega
 have ab:y<18446744073709551616:=by have:=aF.2;omega
 have e:∀ z:Nat,z<18446744073709551616->(BitVec.ofInt 64 (z:Int)).toNat=z:=λz bg=>by rw[BitVec.toNat_ofInt];omega
 unfold G';rw[Ky,e x aa,e y ab,KP]
 ·simp
 ·have:=Nat.and_le_left (n:=x) (m:=y);exact⟨Z,Z⟩
def zQ(x:Int):Int:=G' x (IntKind.u64.wrap (x-1))
def BW(n:Nat):Nat:=((List.range 64).filter n.testBit).length
def aim(n:Nat):BW n<=64:=by have:=Kx n.testBit (List.range 64);simpa[BW]using this
theorem ain{x:Int}(ae:eC x)(ax:x≠0):eC (zQ x)/\BW (zQ x).toNat<BW x.toNat:=by
 obtain⟨n,rfl⟩:=dZ ae.1;have aa:n<18446744073709551616:=by have:=ae.2;omega
 have kB:0<n:=by omega
 have aw:eC ((n:Int)-1):=⟨Z,Z⟩;have e:zQ (n:Int)=((n &&& (n-1):Nat):Int):=by unfold zQ;rw[KP aw,ail ae aw];congr 2;omega
 have bo:n &&& (n-1)<=n-1:=Nat.and_le_right;refine⟨by rw[e];exact⟨Z,Z⟩,?_⟩;rw[e];simp only[h2];unfold BW;have iD:List.Sublist ((List.range 64).filter (n &&& (n-1)).testBit) ((List.range 64).filter n.testBit):=by
  have:(List.range 64).filter (n &&& (n-1)).testBit=((List.range 64).filter n.testBit).filter (n-1).testBit:=by rw[List.filter_filter];congr 1;funext i;rw[Nat.testBit_and,Bool.and_comm]
  rw[this];exact zz
 rcases Nat.lt_or_eq_of_le iD.length_le with h | h
 ·exact h
 ·exfalso;have tz:=iD.eq_of_length h;have:n &&& (n-1)=n:=by
   apply Nat.eq_of_testBit_eq;intro i;by_cases hi:i<64
   ·have hm:i∈(List.range 64).filter (n &&& (n-1)).testBit ↔ i∈(List.range 64).filter n.testBit:=by rw[tz]
    simp only[n8,kx,hi,true_and]at hm;cases aa:(n &&& (n-1)).testBit i<;>cases ab:n.testBit i<;>simp_all
   ·have ab:2^64<=2^i:=Nat.pow_le_pow_right Z Z;rw[Nat.testBit_lt_two_pow Z,Nat.testBit_lt_two_pow Z]
  omega
def byteOf(aB:List Int)(i:Nat)(w:Int):UInt8:=UInt8.ofNat (IntKind.u8.wrap ((i:Int)*64+uQ aB w)).toNat
def aio(aB:List Int)(i:Nat)(w:Int):((byteOf aB i w).toNat:Int)=IntKind.u8.wrap ((i:Int)*64+uQ aB w):=by have:=wrap_u8 ((i:Int)*64+uQ aB w);unfold byteOf;rw[UInt8.toNat_ofNat'];omega
def uR(aB:List Int)(i:Nat):Nat->Int->List UInt8
 |0,_=>[]| f+1,w=>bif decide (w=0)then []else byteOf aB i w::uR aB i f (zQ w)
def jn(aB:List Int):Nat->List Int->List UInt8
 |_,[]=>[]| i,w::ws=>uR aB i 64 w++jn aB (i+1) ws
def W3(aB:List Int)(i:Nat):∀ f w,(uR aB i f w).length<=f
 |0,_=>by simp[uR]
 |f+1,w=>by
  unfold uR;have:=W3 aB i f (zQ w);cases decide (w=0)<;>simp
  exact this
def Pq(aB:List Int):∀ ws i,(jn aB i ws).length<=64*ws.length
 |[],_=>by simp[jn]
 |w::ws,i=>by have aa:=W3 aB i 64 w;have ab:=Pq aB ws (i+1);simp only[jn,ct,ey];omega
def tA(l:List UInt8):List (List Value):=l.map λc=>[.int .u8 c.toNat]
def Ee(a b c d:Int):List Value:=[.int .u64 a,.int .u64 b,.int .u64 c,.int .u64 d]
def aip(a b c d:Int):Spec Tryz.prog 411 [.agg #[.int .u64 a,.int .u64 b,.int .u64 c,.int .u64 d]] I [] λr I' M'=>∃ g,r=.func (.func 418) #[] #[ptr g]/\I' g=some (.cells (Ee a b c d).toArray 36 (0,0))/\(∀ b o,I b=some o->I' b=some o)/\M'=[]:=by refine bR [1] aT Tryz.func411 rfl rfl rfl ?_;intro B ax;refine bN.mk λg az Ea=>?_;exact⟨_,_,.nG rfl am .refl,g,rfl,o3 ..,l9 az,rfl⟩
def aiq(BX:sB I aB){a b c d:Int}(jo:∀ x∈[a,b,c,d],eC x)(az:I g=some (.cells (Ee a b c d).toArray 36 (0,0))) :
  Iter Tryz.prog 418 [ptr g] I (tA (jn aB 0 [a,b,c,d])):=by
 intro l R lE rA dU M0 oh iT;refine BA [] aT Tryz.func418 rfl rfl rfl ?_;intro B ax;have bj:∀ (I1:aI) (M:List aD),(∀ b o,I b=some o->I1 b=some o)->cG I1 M ⟨g,0,none⟩ 4 (Ee a b c d):=λI1 M h=>⟨rfl,_,_,_,.inl (h _ _ az),rfl,rfl⟩;refine aJ.mk _ (bj _ _ oh) ?_;refine c2.inv (ι:=Nat×Nat×aI×List aD) (λx=>{ bn:=[(0,.val (.func (.yield l) #[] #[])),(5,.val (.agg (Ee a b c d).toArray)),(6,.val (.int .i64 x.1))],cm:=x.2.2.1,cK:=x.2.2.2 }) (λx=>x.1<=4/\(∀ b o,I b=some o->x.2.2.1 b=some o)/\R x.2.1 x.2.2.1 x.2.2.2/\x.2.1<=(jn aB 0 [a,b,c,d]).length/\(jn aB 0 [a,b,c,d]).drop x.2.1=jn aB x.1 ([a,b,c,d].drop x.1)) (λx=>4-x.1) ?_ ?_
 ·exact⟨(0,0,dU,M0),⟨am,oh,iT,am,rfl⟩,.refl,e2,.nil⟩
 ·rintro⟨i,k,I1,M1⟩⟨hi,di,h',cL,iW⟩;simp only at hi di h' cL iW;refine aS.mk (λh=>?_) (λh=>?_)
  ·have aV:i<4:=by simp at h;omega
   have cF:i < [a,b,c,d].length:=aV;refine cj.mk i rfl aV ?_;have x2:pack false ((((Ee a b c d).toArray).toList.drop (i*1)).take 1)=.int .u64 [a,b,c,d][i]:=by
    match i,aV with
    |0,_=>rfl| 1,_=>rfl| 2,_=>rfl| 3,_=>rfl
   have l7:[a,b,c,d].drop i=[a,b,c,d][i]::[a,b,c,d].drop (i+1):=e9 cF;refine c2.inv (ι:=Int×Nat×Nat×aI×List aD) (λx=>{ bn:=[(0,.val (.func (.yield l) #[] #[])),(3,.val (.int .i64 i)),(4,.val (.int .u64 x.1)),(5,.val (.agg (Ee a b c d).toArray)),(6,.val (.int .i64 i))],cm:=x.2.2.2.1,cK:=x.2.2.2.2 }) (λx=>eC x.1/\BW x.1.toNat<=x.2.1/\(∀ b o,I b=some o->x.2.2.2.1 b=some o)/\R x.2.2.1 x.2.2.2.1 x.2.2.2.2/\x.2.2.1<=(jn aB 0 [a,b,c,d]).length/\(jn aB 0 [a,b,c,d]).drop x.2.2.1=uR aB i x.2.1 x.1++jn aB (i+1) ([a,b,c,d].drop (i+1))) (λx=>BW x.1.toNat) ?_ ?_
   ·refine⟨([a,b,c,d][i],64,k,I1,M1),⟨jo _ (bD cF),aim _,di,h',cL,?_⟩,.refl,.cons .refl (.cons .refl (.cons ?_ (tl))),.nil⟩
    ·simp only;rw[iW,l7];rfl
    ·simp only;rw[<-x2];exact .refl
   ·rintro⟨w,f,k,I1,M1⟩⟨hw,aC,di,h',cL,iW⟩;simp only at hw aC di h' cL iW;refine aS.mk (λh=>?_) (λh=>?_)
    ·have zR:w≠0:=by simpa using h
     obtain⟨rB,kG⟩:=ain hw zR;obtain⟨f,rfl⟩:∃ sC,f=sC+1:=⟨f-1,Z⟩;have ah:uR aB i (f+1) w=byteOf aB i w::uR aB i f (zQ w):=by simp[uR,zR]
     rw[ah,pP]at iW;have af:k<(jn aB 0 [a,b,c,d]).length:=by apply Nat.lt_of_not_le;intro bo;rw[l5 bo]at iW;cases iW
     have gB:=e9 af;rw[iW]at gB;obtain⟨ki,e4⟩:=List.cons.inj gB;have gp:k<(tA (jn aB 0 [a,b,c,d])).length:=by simpa[tA]using af
     have an:(tA (jn aB 0 [a,b,c,d]))[k]=[.int .u8 (IntKind.u8.wrap ((i:Int)*64+uQ aB w))]:=by simp only[tA,gl,<-ki,aio]
     have W4:sB I1 aB:=by obtain⟨ee,eO,T,ap,eS⟩:=BX;exact⟨ee,eO,T,ap,di _ _ eS⟩
     have aws:=aif W4 w;refine a3.mk ((i:Int)*64) (wrap_i64 ⟨Z,Z⟩) ?_;refine a9.mk [] M1 _ (.refl _) (aih W4 w) ?_;rintro v I' M' -⟨rfl,rfl,rfl⟩;refine a3.mk ((i:Int)*64+uQ aB w) (wrap_i64 ⟨Z,Z⟩) ?_;refine a3.mk _ rfl ?_;refine bz.yield rfl am rfl rfl ?_;have aF:=rA k gp I' M1 di h';rw[an]at aF;refine BK.mk M1 [] _ am aF ?_;rintro v ed dp gq (⟨rfl,nb⟩ | ⟨rfl,ae⟩);·refine aS.mk (λh=>d5) (λ_=>?_);refine a3.mk _ rfl ?_;exact⟨(zQ w,f,k+1,ed,dp),⟨⟨rB,ce,λb o h=>gq b o (di b o h),nb,af,e4.symm⟩,by simp only;exact kG⟩,.perm am .refl,fh,.nil⟩
     ·refine aS.mk (λ_=>?_) (λh=>d5);exact⟨_,_,.perm am .refl,.inr ae⟩
    ·have zR:w=0:=by simpa using h
     have gA:IntKind.i64.wrap ((i:Int)+1)=((i+1:Nat):Int):=by rw[wrap_i64 ⟨Z,Z⟩];omega
     refine a3.mk _ gA ?_;have ah:uR aB i f w=[]:=by cases f<;>simp[uR,zR]
     rw[ah,hW]at iW;exact⟨(i+1,k,I1,M1),⟨⟨ce,di,h',cL,iW⟩,ce⟩,.refl,e2,.nil⟩
  ·have j':i=4:=by simp at h;omega
   subst j';refine⟨_,_,.refl,.inl ?_⟩;have nJ:(jn aB 0 [a,b,c,d]).drop k=[]:=by rw[iW];rfl
   have x3:k=(tA (jn aB 0 [a,b,c,d])).length:=by have:=GV.1 nJ;simp only[tA,bA];omega
   rw[<-x3];exact h'
def uS(l:List (UInt8×UInt8))(b:UInt8):List (UInt8×UInt8):=match l.getLast? with
 |some p=>bif decide ((p.2.toNat:Int)+1=b.toNat)then l.dropLast++[(p.1,b)]else l++[(b,b)]| none=>[(b,b)]
def pU(l:List UInt8):List (UInt8×UInt8):=l.foldl uS []
def kj(p:UInt8×UInt8):List Value:=[.int .u8 p.1.toNat,.int .u8 p.2.toNat]
def pV(l:List (UInt8×UInt8)):List Value:=l.flatMap kj
def KQ(l:List (UInt8×UInt8)):(pV l).length=l.length*2:=gz kj 2 (λ_=>rfl) l
def air(l:List (UInt8×UInt8))(b:UInt8):(uS l b).length<=l.length+1:=by
 unfold uS;split
 ·rename_i p h;cases decide ((p.2.toNat:Int)+1=b.toNat)<;>simp
 ·simp
def W5(l:List UInt8):(pU l).length<=l.length:=by
 have:∀ (l:List UInt8) (a7:List (UInt8×UInt8)),(l.foldl uS a7).length<=a7.length+l.length:=by
  intro l
  induction l with
  |nil=>intro a7;simp| cons b l aX=>intro a7;have aa:=aX (uS a7 b);have ab:=air a7 b;simp only[kw,ey];omega
 simpa[pU]using this l []
def zS:((⟨b,0,none⟩:Addr).add i).add j=(⟨b,0,none⟩:Addr).add (i+j):=by rw[eK ⟨_,0,none⟩ rfl i,eK _ rfl j,eK _ rfl (i+j)];simp
def nR{M:List aD}{cs:List Value}(bd:(⟨b,.cells cs.toArray T (0,0)⟩:aD)∈M)(h:cs[i+j]?=some v):cG I M (((⟨b,0,none⟩:Addr).add i).add j) 1 [v]:=by obtain⟨ay,rfl⟩:=jd.1 h;have:=dj (I:=I) bd (k:=i+j) (n:=1) Z;rw[e9 ay,rr,qw]at this;rw[zS];exact this
def W6(ba:List Value)(u v z:Value)(bq:List Value)(k:Nat)(af:k=ba.length+1):cp (ba++([u,v]++bq)) k [z]=ba++([u,z]++bq):=by
 subst af;unfold cp;have aN:(ba++([u,v]++bq)).take (ba.length+1)=ba++[u]:=by rw[show ba++([u,v]++bq)=(ba++[u])++(v::bq)from by simp];exact sw am
 have bc:(ba++([u,v]++bq)).drop (ba.length+1+[z].length)=bq:=by rw[show ba++([u,v]++bq)=(ba++[u,v])++bq from by simp];exact GW am
 rw[aN,bc];simp
def Pr{os:aO}{a':List (UInt8×UInt8)}{x:UInt8}(bV:os.ok 2 (pV a')){aR:List Value}(aa:aR.length=c*2)(ab:os.n+1<=c)(al:c<=maxLen)(aL:aR.take ((os.n+1)*2)=pV a'++kj (x,x)) :
  aO.ok ⟨some g,os.n+1,c,aR⟩ 2 (pV (a'++[(x,x)])):=by
 have x4:pV (a'++[(x,x)])=pV a'++kj (x,x):=by simp[pV]
 have ay:=bV.len;refine⟨?_,(λh=>ci),λb2 o4=>⟨aa,ab,al,by rw[x4];exact aL⟩⟩;rw[x4,ct,ay];simp[kj];omega
def ais(l:List UInt8)(x:UInt8):pU (l++[x])=uS (pU l) x:=by simp[pU]
def ait(BX:sB I aB){a b c d:Int}(jo:∀ x∈[a,b,c,d],eC x):Spec Tryz.prog 397 [.agg #[.int .u64 a,.int .u64 b,.int .u64 c,.int .u64 d]] I []
  λr I' M'=>(∀ b o,I b=some o->I' b=some o)/\∃ os:aO,r=os.val/\os.ok 2 (pV (pU (jn aB 0 [a,b,c,d])))/\M'=os.aq 404:=by
 refine bR [3] aT Tryz.func397 rfl rfl rfl ?_;intro B ax;refine bN.mk λg az Ea=>?_;refine a9.mk [] [⟨g,.cells #[.slice none 0 0] 402 (0,0)⟩] _ (.refl _) (aip a b c d) ?_;rintro v I1 M1 -⟨bb,rfl,rC,di,rfl⟩;have aiu:sB I1 aB:=by obtain⟨ee,eO,T,ap,eS⟩:=BX;exact⟨ee,eO,T,ap,di _ _ eS⟩
 have ca:=Pq aB [a,b,c,d] 0;refine cN.range aT rfl rfl rfl .refl (aiq aiu jo rC) (λvs h=>?_) (λk I' M'=>(∀ b o,I1 b=some o->I' b=some o)/\∃ os:aO,os.ok 2 (pV (pU ((jn aB 0 [a,b,c,d]).take k)))/\M'=⟨g,.cells #[os.val] 402 (0,0)⟩::os.aq 404) (λ_ _ _=>False) ⟨λ_ _ h=>h,⟨none,0,0,[]⟩,⟨rfl,λ_=>⟨rfl,rfl⟩,λg h=>ci⟩,rfl⟩ ?_ ?_ (λ_ _ _ _ h=>h.elim)
 ·obtain⟨c,_,rfl⟩:=c6.1 h;rfl
 ·rintro k af I' M' -⟨k5,os,bV,rfl⟩l B ax jk;have aiv:k<(jn aB 0 [a,b,c,d]).length:=by simpa[tA]using af
  generalize awt:jn aB 0 [a,b,c,d]=L at *;generalize ae:L[k]=x;have an:(tA L)[k]=[.int .u8 x.toNat]:=by simp[tA,ae]
  rw[an];have lG:pU (L.take (k+1))=uS (pU (L.take k)) x:=by rw[gi aiv,ae,ais]
  rw[lG];have dw:(pU (L.take k)).length<=256:=by have aa:=W5 (L.take k);have ab:=zA k L;simp only[ey,hl]at ca;omega
  generalize dM:pU (L.take k)=a' at *;have kk:=x.toNat_lt;obtain⟨uT,n,fv,aR⟩:=os;have aE:a'.length=n:=by have:=bV.len;rw[KQ]at this;simp only at this;omega
  cases uT with
  |none=>
   obtain⟨aN,bc⟩:=bV.nil rfl;simp only at aN bc;subst aN;subst bc;have og:a'=[]:=iB aE;have iX:uS a' x=a'++[(x,x)]:=by rw[og];rfl
   refine aJ.mk [.slice none 0 0] (dj (cs:=[.slice none 0 0]) (k:=0) (n:=1) (T:=402) (.head _) am) ?_;refine a3.mk (-1) bv ?_;refine bZ.mk (λh=>d5) (λ_=>?_);refine aJ.mk [.slice none 0 0] (dj (cs:=[.slice none 0 0]) (k:=0) (n:=1) (T:=402) (.head _) am) ?_;refine bN.mk λbh l8 W7=>?_;refine bz.append aT rfl am (e:=404) rfl rfl rfl (⟨none,0,0,aR⟩:aO) bV rfl (m:=1) rfl (cb:=kj (x,x)) bv (dj (cs:=kj (x,x)) (k:=0) (n:=2) (T:=404) (.head _) (by simp[kj])) rfl (Mr:=[⟨bh,.cells (kj (x,x)).toArray 404 (0,0)⟩,⟨g,.cells #[.slice none 0 0] 402 (0,0)⟩]) (eM (l₁:=[_,_])) i5 af' ?_;intro et c' kl ee eO eS jq;refine b'.mk [⟨et,.cells kl.toArray 404 (0,0)⟩,⟨bh,.cells (kj (x,x)).toArray 404 (0,0)⟩] [] _ _ rfl rfl (bJ rfl) rfl ?_;refine⟨_,_,.perm (M1:=[⟨bh,.cells (kj (x,x)).toArray 404 (0,0)⟩]++(⟨g,.cells #[aO.val ⟨some et,(⟨none,0,0,aR⟩:aO).n+1,c',kl⟩] 402 (0,0)⟩::aO.aq ⟨some et,(⟨none,0,0,aR⟩:aO).n+1,c',kl⟩ 404)) (eM (l₁:=[_]) (l₂:=[_,_])) (.sub (m4 _ _) .refl),k5,⟨some et,(⟨none,0,0,aR⟩:aO).n+1,c',kl⟩,?_,rfl⟩;rw[iX];exact Pr bV ee eO eS jq
  |some c9=>
   obtain⟨dN,na,l6,dI⟩:=bV.cap c9 rfl;simp only at dN na l6 dI;refine aJ.mk [.slice (some ⟨c9,0,none⟩) n fv] (dj (cs:=[.slice (some ⟨c9,0,none⟩) n fv]) (k:=0) (n:=1) (T:=402) (.head _) am) ?_;refine a3.mk ((n:Int)-1) (wrap_i64 ⟨Z,Z⟩) ?_;refine bZ.mk (λaa=>?_) (λaa=>?_)
   ·have kB:1<=n:=by simp at aa;omega
    obtain⟨uU,p,rfl⟩:∃ uU p,a'=uU++[p]:=by
     rcases xS a' with h | ⟨r,p,h⟩;·subst h;simp at aE;omega
     ·exact⟨r,p,i9⟩
    have nL:uU.length=n-1:=by simp at aE;omega
    have gD:(pV uU).length=(n-1)*2:=by rw[KQ,nL]
    obtain⟨bq,nS⟩:∃ bq,aR=pV uU++([.int .u8 p.1.toNat,.int .u8 p.2.toNat]++bq):=by refine⟨aR.drop (n*2),?_⟩;have ab:=pO (n*2) aR;rw[dI]at ab;rw[<-ab,GW (by rw[KQ,aE])];simp[pV,kj]
    have fa:aR[(n-1)*2+1*1]?=some (.int .u8 p.2.toNat):=by rw[nS,<-gD,l4 Z];simp
    have rD:=p.2.toNat_lt;refine aJ.mk [.slice (some ⟨c9,0,none⟩) n fv] (dj (cs:=[.slice (some ⟨c9,0,none⟩) n fv]) (k:=0) (n:=1) (T:=402) (.head _) am) ?_;refine bi.mk ⟨c9,0,none⟩ (n-1) rfl Z Z ?_;refine cj.mk 1 rfl bv ?_;refine aJ.mk [.int .u8 p.2.toNat] (nR (b:=c9) (cs:=aR) (T:=404) gt fa) ?_;refine a3.mk (p.2.toNat:Int) (wrap_i64 ⟨Z,Z⟩) ?_;refine a3.mk ((p.2.toNat:Int)+1) (wrap_i64 ⟨Z,Z⟩) ?_;refine a3.mk (x.toNat:Int) (wrap_i64 ⟨Z,Z⟩) ?_;have iX:uS (uU++[p]) x=bif decide ((p.2.toNat:Int)+1=x.toNat)then uU++[(p.1,x)]else uU++[p]++[(x,x)]:=by simp[uS]
    refine aS.mk (λab=>?_) (λab=>?_)
    ·rw[ab]at iX;refine aJ.mk [.slice (some ⟨c9,0,none⟩) n fv] (dj (cs:=[.slice (some ⟨c9,0,none⟩) n fv]) (k:=0) (n:=1) (T:=402) (.head _) am) ?_;refine bi.mk ⟨c9,0,none⟩ (n-1) rfl Z Z ?_;refine cj.mk 1 rfl bv ?_;rw[zS];refine b'.add [⟨g,.cells #[.slice (some ⟨c9,0,none⟩) n fv] 402 (0,0)⟩] [] aR.toArray _ rfl ?_ rfl ?_
     ·simp only[q6];show 0+((n-1)*2+1)+1<=_;omega
     ·refine⟨_,_,.refl,k5,⟨some c9,n,fv,cp aR (0+((n-1)*2+1*1)) [.int .u8 x.toNat]⟩,?_,rfl⟩;have de:cp aR (0+((n-1)*2+1*1)) [.int .u8 x.toNat]=pV uU++([.int .u8 p.1.toNat,.int .u8 x.toNat]++bq):=by rw[nS];exact W6 _ _ _ _ _ _ Z
      rw[iX,de];have x4:pV (uU++[(p.1,x)])=pV uU++[.int .u8 p.1.toNat,.int .u8 x.toNat]:=by simp[pV,kj]
      refine⟨?_,(λh=>ci),λb2 o4=>⟨?_,na,l6,?_⟩⟩;·simp only[cD];rw[x4,ct,gD];simp;omega
      ·simp only;rw[<-dN,nS];simp
      ·simp only[cD];rw[x4,<-ej];refine sw ?_;rw[ct,gD];simp;omega
    ·rw[ab]at iX;simp only[cw]at iX;refine aJ.mk [.slice (some ⟨c9,0,none⟩) n fv] (dj (cs:=[.slice (some ⟨c9,0,none⟩) n fv]) (k:=0) (n:=1) (T:=402) (.head _) am) ?_;refine bN.mk λbh l8 W7=>?_;refine bz.append aT rfl am (e:=404) rfl rfl rfl (⟨some c9,n,fv,aR⟩:aO) bV rfl (m:=1) rfl (cb:=kj (x,x)) bv (dj (cs:=kj (x,x)) (k:=0) (n:=2) (T:=404) (.head _) (by simp[kj])) rfl (Mr:=[⟨bh,.cells (kj (x,x)).toArray 404 (0,0)⟩,⟨g,.cells #[.slice (some ⟨c9,0,none⟩) n fv] 402 (0,0)⟩]) (eM (l₁:=[_,_])) i5 af' ?_;intro et c' kl ee eO eS jq;refine b'.mk [⟨et,.cells kl.toArray 404 (0,0)⟩,⟨bh,.cells (kj (x,x)).toArray 404 (0,0)⟩] [] _ _ rfl rfl (bJ rfl) rfl ?_;refine⟨_,_,.perm (M1:=[⟨bh,.cells (kj (x,x)).toArray 404 (0,0)⟩]++(⟨g,.cells #[aO.val ⟨some et,(⟨some c9,n,fv,aR⟩:aO).n+1,c',kl⟩] 402 (0,0)⟩::aO.aq ⟨some et,(⟨some c9,n,fv,aR⟩:aO).n+1,c',kl⟩ 404)) (eM (l₁:=[_]) (l₂:=[_,_])) (.sub (m4 _ _) .refl),k5,⟨some et,(⟨some c9,n,fv,aR⟩:aO).n+1,c',kl⟩,?_,rfl⟩;rw[iX];exact Pr bV ee eO eS jq
   ·have nL:n=0:=by simp at aa;omega
    have og:a'=[]:=iB Z;have iX:uS a' x=a'++[(x,x)]:=by rw[og];rfl
    refine aJ.mk [.slice (some ⟨c9,0,none⟩) n fv] (dj (cs:=[.slice (some ⟨c9,0,none⟩) n fv]) (k:=0) (n:=1) (T:=402) (.head _) am) ?_;refine bN.mk λbh l8 W7=>?_;refine bz.append aT rfl am (e:=404) rfl rfl rfl (⟨some c9,n,fv,aR⟩:aO) bV rfl (m:=1) rfl (cb:=kj (x,x)) bv (dj (cs:=kj (x,x)) (k:=0) (n:=2) (T:=404) (.head _) (by simp[kj])) rfl (Mr:=[⟨bh,.cells (kj (x,x)).toArray 404 (0,0)⟩,⟨g,.cells #[.slice (some ⟨c9,0,none⟩) n fv] 402 (0,0)⟩]) (eM (l₁:=[_,_])) i5 af' ?_;intro et c' kl ee eO eS jq;refine b'.mk [⟨et,.cells kl.toArray 404 (0,0)⟩,⟨bh,.cells (kj (x,x)).toArray 404 (0,0)⟩] [] _ _ rfl rfl (bJ rfl) rfl ?_;refine⟨_,_,.perm (M1:=[⟨bh,.cells (kj (x,x)).toArray 404 (0,0)⟩]++(⟨g,.cells #[aO.val ⟨some et,(⟨some c9,n,fv,aR⟩:aO).n+1,c',kl⟩] 402 (0,0)⟩::aO.aq ⟨some et,(⟨some c9,n,fv,aR⟩:aO).n+1,c',kl⟩ 404)) (eM (l₁:=[_]) (l₂:=[_,_])) (.sub (m4 _ _) .refl),k5,⟨some et,(⟨some c9,n,fv,aR⟩:aO).n+1,c',kl⟩,?_,rfl⟩;rw[iX];exact Pr bV ee eO eS jq
 ·rintro I' M' -⟨k5,os,bV,rfl⟩;refine aJ.mk [os.val] (dj (cs:=[os.val]) (k:=0) (n:=1) (T:=402) (.head _) am) ?_;refine⟨_,_,.sub (wv _ _) .refl,λb o h=>k5 _ _ (di _ _ h),os,rfl,?_,rfl⟩;have:(jn aB 0 [a,b,c,d]).take (tA (jn aB 0 [a,b,c,d])).length=jn aB 0 [a,b,c,d]:=fE (by simp[tA]);rw[this]at bV;exact bV
def aO.ok.row{M:List aD}{os:aO}{f:α->List Value}(aC:∀ x,(f x).length=size)(ax:0<size){l:List α}(h:os.ok size (l.flatMap f))(bd:∀ x∈os.aq e,x∈M)(ai:j<l.length) :
  ∃ ad,os.a.map (λg=>(⟨g,0,none⟩:Addr))=some ad/\cG I M (ad.add (j*size)) size (f l[j]):=by
 have aE:l.length=os.n:=by have aa:=h.len;rw[gz f size aC]at aa;exact Nat.eq_of_mul_eq_mul_right ax aa
 cases a8:os.a with
 |none=>have:=(h.nil a8).1;omega
 |some g=>
  obtain⟨aa,ab,al,aL⟩:=h.cap g a8;refine⟨⟨g,0,none⟩,rfl,?_⟩;have bo:j*size+size<=os.n*size:=by have:=oJ size (show j+1<=os.n by omega);rw[kD,m6]at this;exact this
  have dN:os.n*size<=os.aR.length:=by rw[aa];exact oJ _ ab
  have:=dj (I:=I) (M:=M) (b:=g) (T:=e) (cs:=os.aR) (bd _ (by simp[aO.aq,a8])) (k:=j*size) (n:=size) Z;have aN:(os.aR.drop (j*size)).take size=f l[j]:=by rw[<-BQ f size aC l j ai,<-aL,D1,zC];congr 1;omega
  rw[aN]at this;exact this
def BY:ByteArray:=⟨#[34]⟩
def zT:ByteArray:=⟨#[93,45,94]⟩
def Ha(s:ByteArray):List UInt8:=[34]++s.data.toList.flatMap (o2 · BY)++[34]
def strOf(l:List UInt8):ByteArray:=⟨l.toArray⟩
def Hb{α β:Type}(f:α->List β)(m:Nat)(aC:∀ x,(f x).length<=m):∀ l:List α,(l.flatMap f).length<=m*l.length
 |[]=>by simp
 |x::l=>by have aa:=Hb f m aC l;have ab:=aC x;simp only[iS,ct,ey,Nat.mul_add];omega
def W8(s:ByteArray)(aw:s.size<=1099511627776):Spec Tryz.prog 380 [.string s] I [] λr I' M'=>r=.string (strOf (Ha s))/\I'=I/\M'=[]:=by
 refine bR [3] aT Tryz.func380 rfl rfl rfl ?_;intro B ax;refine bN.mk λb ah uO=>?_;refine a9.mk (gC.new.M b) [] _ (.refl _) (pT b gC.KL 34 bv) ?_;rintro v I' M' -⟨rfl,rfl,wu,gj,Ps,rfl⟩;refine c2.inv (ι:=Nat×gC) (λp=>{ bn:=[(0,.val (.string s)),(3,.val (ptr b)),(4,.val (.int .i64 p.1))],cm:=I',cK:=p.2.M b }) (λp=>p.1<=s.size/\p.2.ok/\p.2.cE=[34]++(s.data.toList.take p.1).flatMap (o2 · BY)) (λp=>s.size-p.1) ?_ ?_
 ·exact⟨(0,wu),⟨am,gj,by simp[Ps,gC.new]⟩,.perm am .refl,e2,.nil⟩
 ·rintro⟨i,x⟩⟨hi,ae,kH⟩;simp only at hi ae kH;have c0:x.cE.length<=1+4*i:=by rw[kH];have:=Hb (o2 · BY) 4 (λc=>G7 c BY) (s.data.toList.take i);have ab:=zA i s.data.toList;simp only[ct,ey,hl];omega
  refine aS.mk (λh=>?_) (λh=>?_)
  ·have aV:i<s.size:=by simpa using h
   have cF:i<s.data.toList.length:=aV;refine oL.mk i rfl aV ?_;refine a9.mk (x.M b) [] _ am (KN b ae s[i] BY Z) ?_;rintro v I' M' -⟨rfl,y,aF,g',rfl⟩;have gA:IntKind.i64.wrap ((i:Int)+1)=((i+1:Nat):Int):=by rw[wrap_i64 ⟨Z,Z⟩];omega
   refine a3.mk _ gA ?_;refine⟨(i+1,y),⟨⟨ce,aF,?_⟩,ce⟩,.perm am .refl,e2,.nil⟩;simp only;rw[g',kH,gi cF,fL,ej];congr 1;simp;rfl
  ·have cM:s.size<=i:=by simpa using h
   have eG:s.data.toList.take i=s.data.toList:=fE cM;refine a9.mk (x.M b) [] _ am (pT b ae 34 Z) ?_;rintro v I' M' -⟨rfl,rfl,y,aF,g',rfl⟩;refine a9.mk (y.M b) [] _ am (xZ b aF ayJ) ?_;rintro v I' M' -⟨rfl,rfl,rfl⟩;refine⟨_,_,.refl,?_,rfl,am⟩;rw[g',kH,eG];rfl
def uV(p:UInt8×UInt8):List UInt8:=
 o2 p.1 zT++((bif decide (1<IntKind.u8.wrap ((p.2.toNat:Int)-p.1.toNat))then [45]else [])++(bif !decide ((p.2.toNat:Int)=p.1.toNat)then o2 p.2 zT else []))
def BZ(aB:List Int)(a b c d:Int):List UInt8:=
 bif (a == jI 0&&(b == jI 0&&(c == jI 0&&d == jI 0)))then [46]else [91]++(pU (jn aB 0 [a,b,c,d])).flatMap uV++[93]
def W9(p:UInt8×UInt8):(uV p).length<=9:=by
 have aa:=G7 p.1 zT;have ab:=G7 p.2 zT;unfold uV;cases decide (1<IntKind.u8.wrap ((p.2.toNat:Int)-p.1.toNat))<;>cases decide ((p.2.toNat:Int)=p.1.toNat)<;>simp<;>omega
def W'(aB:List Int)(a b c d:Int):(pU (jn aB 0 [a,b,c,d])).length<=256:=by have aa:=Pq aB [a,b,c,d] 0;have ab:=W5 (jn aB 0 [a,b,c,d]);simp only[ey,hl]at aa;omega
def aiw(aB:List Int)(a b c d:Int):(BZ aB a b c d).length<=2306:=by
 have aa:=W' aB a b c d;have ab:=Hb uV 9 W9 (pU (jn aB 0 [a,b,c,d]));unfold BZ;cases(a == jI 0&&(b == jI 0&&(c == jI 0&&d == jI 0)))
 ·simp only[cw,ct,ey,hl];omega
 ·simp
def aix(BX:sB I aB){a b c d:Int}(jo:∀ x∈[a,b,c,d],eC x):Spec Tryz.prog 381 [.agg #[.int .u64 a,.int .u64 b,.int .u64 c,.int .u64 d]] I []
  λr I' M'=>r=.string (strOf (BZ aB a b c d))/\(∀ b o,I b=some o->I' b=some o)/\M'=[]:=by
 refine bR [3] aT Tryz.func381 rfl rfl rfl ?_;intro B ax;refine cN.draw aT rfl rfl rfl ?_;refine er.mk _ aik ?_;rintro v I' M' -⟨rfl,rfl,rfl⟩;refine fm.KF aT (e:=34) rfl rfl rfl rfl d4 ?_;refine aS.mk (λh=>?_) (λh=>?_)
 ·refine⟨_,_,.refl,?_,λ_ _ h=>h,rfl⟩;simp only[BZ,h];rfl
 ·refine bN.mk λg az Ea=>?_;refine a9.mk (gC.new.M g) [] _ (.refl _) (pT g gC.KL 91 bv) ?_;rintro v I' M' -⟨rfl,rfl,wu,gj,Ps,rfl⟩;refine a9.mk [] (wu.M g) _ am (ait BX jo) ?_;rintro v I1 M1 -⟨di,os,rfl,bV,rfl⟩;have dw:=W' aB a b c d;have dN:BZ aB a b c d=[91]++(pU (jn aB 0 [a,b,c,d])).flatMap uV++[93]:=by simp only[BZ,h];rfl
  generalize dM:pU (jn aB 0 [a,b,c,d])=a' at *;have aE:a'.length=os.n:=by have:=bV.len;rw[KQ]at this;omega
  refine c2.inv (ι:=Nat×gC) (λp=>{ bn:=[(3,.val (ptr g)),(11,.val os.val),(12,.val (.int .i64 os.n)),(13,.val (.int .i64 p.1))],cm:=I1,cK:=p.2.M g++os.aq 404 }) (λp=>p.1<=os.n/\p.2.ok/\p.2.cE=[91]++(a'.take p.1).flatMap uV) (λp=>os.n-p.1) ?_ ?_;·exact⟨(0,wu),⟨am,gj,by simp[Ps,gC.new]⟩,.perm (by simpa using eM) .refl,dS,.nil⟩
  ·rintro⟨i,x⟩⟨hi,ae,kH⟩;simp only at hi ae kH;have c0:x.cE.length<=1+9*i:=by rw[kH];have:=Hb uV 9 W9 (a'.take i);have ab:=zA i a';simp only[ct,ey,hl];omega
   refine aS.mk (λh=>?_) (λh=>?_)
   ·have aV:i<os.n:=by simpa using h
    have cF:i<a'.length:=by omega
    obtain⟨ad,bt,bj⟩:=aO.ok.row (I:=I1) (M:=x.M g++os.aq 404) (f:=kj) (λ_=>rfl) bv bV (e:=404) (λy aF=>ayO) cF;refine bi.mk ad i bt rfl aV ?_;refine aJ.mk _ bj ?_;generalize aK:a'[i]=p;refine cj.mk 0 rfl bv ?_;refine a9.mk (x.M g) (os.aq 404) _ (.refl _) (KN g ae p.1 zT Z) ?_;rintro v I' M' -⟨rfl,y,aF,g',rfl⟩;have G8:y.cE.length<=5+9*i:=by rw[g',ct];have:=G7 p.1 zT;omega
    refine cj.mk 1 rfl bv ?_;refine cj.mk 0 rfl bv ?_;refine a3.mk _ rfl ?_;refine aS.mk (λeW=>?_) (λeW=>?_)
    ·refine a9.mk (y.M g) (os.aq 404) _ am (pT g aF 45 Z) ?_;rintro v I' M' -⟨rfl,rfl,u,hu,x1,rfl⟩;have Hc:u.cE.length<=6+9*i:=by rw[x1];simp;omega
     refine cj.mk 1 rfl bv ?_;refine cj.mk 0 rfl bv ?_;refine aS.mk (λc8=>?_) (λc8=>?_)
     ·refine cj.mk 1 rfl bv ?_;refine a9.mk (u.M g) (os.aq 404) _ am (KN g hu p.2 zT Z) ?_;rintro v I' M' -⟨rfl,z,bg,tw,rfl⟩;have gA:IntKind.i64.wrap ((i:Int)+1)=((i+1:Nat):Int):=by rw[wrap_i64 ⟨Z,Z⟩];omega
      refine a3.mk _ gA ?_;refine⟨(i+1,z),⟨⟨ce,bg,?_⟩,ce⟩,.perm am .refl,dS,.nil⟩;simp only;rw[tw,x1,g',kH,gi cF,fL,aK];simp[uV,eW,c8]
     ·have gA:IntKind.i64.wrap ((i:Int)+1)=((i+1:Nat):Int):=by rw[wrap_i64 ⟨Z,Z⟩];omega
      refine a3.mk _ gA ?_;refine⟨(i+1,u),⟨⟨ce,hu,?_⟩,ce⟩,.perm am .refl,dS,.nil⟩;simp only;rw[x1,g',kH,gi cF,fL,aK];simp[uV,eW,c8]
    ·refine cj.mk 1 rfl bv ?_;refine cj.mk 0 rfl bv ?_;refine aS.mk (λc8=>?_) (λc8=>?_)
     ·refine cj.mk 1 rfl bv ?_;refine a9.mk (y.M g) (os.aq 404) _ am (KN g aF p.2 zT Z) ?_;rintro v I' M' -⟨rfl,z,bg,tw,rfl⟩;have gA:IntKind.i64.wrap ((i:Int)+1)=((i+1:Nat):Int):=by rw[wrap_i64 ⟨Z,Z⟩];omega
      refine a3.mk _ gA ?_;refine⟨(i+1,z),⟨⟨ce,bg,?_⟩,ce⟩,.perm am .refl,dS,.nil⟩;simp only;rw[tw,g',kH,gi cF,fL,aK];simp[uV,eW,c8]
     ·have gA:IntKind.i64.wrap ((i:Int)+1)=((i+1:Nat):Int):=by rw[wrap_i64 ⟨Z,Z⟩];omega
      refine a3.mk _ gA ?_;refine⟨(i+1,y),⟨⟨ce,aF,?_⟩,ce⟩,.perm am .refl,dS,.nil⟩;simp only;rw[g',kH,gi cF,fL,aK];simp[uV,eW,c8]
   ·have cM:os.n<=i:=by simpa using h
    have eG:a'.take i=a':=fE Z;refine a9.mk (x.M g) (os.aq 404) _ (.refl _) (pT g ae 93 Z) ?_;rintro v I' M' -⟨rfl,rfl,y,aF,g',rfl⟩;refine a9.mk (y.M g) (os.aq 404) _ (.refl _) (xZ g aF ayJ) ?_;rintro v I' M' -⟨rfl,rfl,rfl⟩;refine⟨_,_,.sub (eY _) .refl,?_,di,rfl⟩;rw[g',kH,eG,dN];rfl
end Go.V
