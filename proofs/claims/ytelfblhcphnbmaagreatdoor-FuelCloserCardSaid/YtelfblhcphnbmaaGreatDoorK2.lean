/- Part 2 of what the proofs of this seat share: the executor, data in memory, walks.
-/
import Derived.Test.YtelfblhcphnbmaaGreatDoorK1
import Derived.Lib.UnsafeStr
import Derived.Test.YtelfblhcphnbmaaGreatDoorProg
import Derived.KernelRfl
import Derived.Lib.Builder
import Derived.Lib.Bytealg
import Derived.Laws.Pointers
import Derived.Laws.StructEq
set_option linter.all false
set_option maxHeartbeats 4000000
namespace Go.V
open Go
def cP:=@List.length_append
def h7:=@List.eq_nil_of_length_eq_zero
def et:=@List.getElem_mem
def gk:=@List.perm_append_comm
def dd:=@Nat.zero_add
def h8:=@List.getElem?_eq_getElem
def fa:=@List.nil_sublist
def jA:=@List.sublist_append_right
def j8:=@List.getElem?_append_right
def iZ:=@List.drop_eq_nil_of_le
def hc:=@List.append_assoc
def gP:=@List.length_nil
def kU:=@List.take_of_length_le
def hd:=@List.append_nil
def nb:=@decide_eq_false_iff_not
def mq:=@Bool.or_eq_false_iff
def ob:=@Int.eq_ofNat_of_zero_le
def kV:=@List.getElem?_set
def kW:=@List.length_take
def j9:=@List.length_map
def jB:=@List.sum_cons
def oc:=@List.flatMap_append
def lC:=@List.nil_append
def h9:=@Nat.add_mul
def pC:=@List.take_succ_cons
def qH:=@List.take_append_drop
def si:=@List.getElem_cons_zero
def nc:=@List.take_left'
def od:=@List.map_toArray
def wz:=@List.take_append_of_le_length
def qI:=@Array.length_toList
def pD:=@List.length_drop
def lD:=@List.map_nil
def t':=@World.putObj_heap_same
def qJ:=@List.flatMap_cons
def sj:=@Int.toNat_of_nonneg
def qK:=@List.cons_append
def pE:=@List.take_zero
def mr:=@Nat.mul_one
def ua:=@List.map_congr_left
def sk:=@List.getElem_map
def B1:=@List.set_eq_take_append_cons_drop
def B2:=@Array.eq_empty_of_size_eq_zero
def Hw:=@Std.Legacy.Range.forIn_eq_forIn_range'
def wA:=@List.ext_getElem?
def B3:=@Int.fdiv_eq_ediv_of_nonneg
def ub:=@List.take_take
def zi:=@List.length_take_le
def sm:=@Nat.zero_mul
def B4:=@List.getElem_cons_succ
def sp:=@Nat.one_mul
def wB:=@List.drop_take
def B5:=@List.drop_eq_nil_iff
def Hx:=@List.drop_length_add_append
def zj:=@List.take_left
def Hy:=@Lib.run_firstCells_string
def zk:=@Bool.true_and
def B6:=@List.ext_getElem
def B7:=@BitVec.toNat_and
def zl:=@List.map_set
def B8:=@List.drop_drop
def B9:=@Bool.false_and
variable{o:Obj}{I I':aG}{f x s y:Operand}{vs xs news:List Value}{g m t u e c' b nd it T c size j i cD:Nat}{i':TypeDesc}{cA iC av:cF}{oe p v:Value}{Mr:List aC}{ad:Addr}{P:Program}{k:IntKind}{other:Prop}{a sa:Option Addr}{cs:Array Value}{α:Type}{w:World}{deb:List Int}{d:Int}
def wC(P:Program)(l:Nat)(args:List Value)(I:aG)(M:List aC)(post:Value->aG->List aC->Prop):Prop:=
 ∀ w,cL I M w->∃ f tmps assign body,(Instr.yield l args.toArray).run P w=.ok (.round l f tmps assign body) w /\ RoundIn Fence.wide 0 P l f tmps assign body w λe w'=>∃ v I' M',e=.returned v/\post v I' M'/\cL I' M' w'/\Kept I M w I' M' w'
inductive zm(P:Program)(l:Nat)(args:List Value)(I:aG)(M:List aC)(K:Value->aG->List aC->Prop):Prop
 |mk(b4 Mr:List aC)(post:Value->aG->List aC->Prop)(aZ:M.Perm (b4++Mr))(an:wC P l args I b4 post)(k:∀ v I' M',(∀ b o,I b=some o->I' b=some o)->post v I' M'->K v I' (M'++Mr))
def a9.yield{X:bO}{o:Oper}{F:Fr}{C:b6}{M:List aC}{K:dE}{args:Array Operand}{c6:Array TypeId}{l:Nat}(ar:o.op=.call { callee:=.value f,args,argTypes:=c6 })(ao:∀ d,o.dst=some d->d<X.n)(az:a' F f=.val (.func (.yield l) #[] #[]))(e5:hv F args.toList=some vs)
  (h:zm X.P l vs I M λv I' M'=>K (put o.dst (.val v) F) C I' M'):a9 X o F C I M K:=by
 refine⟨λa w Q ⟨β,aM⟩=>?_⟩;obtain⟨b4,Mr,post,aZ,an,aj⟩:=h;obtain⟨fn,tmps,assign,body,aE,al⟩:=an w (aM.holds.part aZ);have ax:=mc aM.ah e5;have cq:args.map a.eval=vs.toArray:=by apply dT;simpa using ax
 have aS:=b1 aM.ah az;obtain⟨dst,op,ty,pos,after,guard⟩:=o;simp only at ar;subst ar;refine⟨λ_ _=>trivial,?_⟩;rw[yL _ _ _ (by simp)];have dg:(execOp a.eval ⟨dst,.call { callee:=.value f,args,argTypes:=c6 },ty,pos,after,guard⟩).run X.P w=.ok (.round l fn tmps assign body) w:=by simp only[execOp,resolve,aS,Deferred.ofValue,bo,bR,bd,cq,invoke];simpa using aE
 rw[dg,Oper.uponIn_round];refine⟨(λh=>by cases h),?_⟩;have eR:RoundIn (dV X) (0-1) X.P l fn tmps assign body w _:=al;refine eR.mono ?_;rintro e w'⟨v,I',M',rfl,aK,kH,dy⟩;exact⟨_,_,_,_,⟨β,(aM.after aZ kH dy).put (x:=.val v) ao rfl⟩,aj v I' M' dy.le aK⟩
def Iter(P:Program)(g:Nat)(cap:List Value)(I:aG)(jC:List (List Value)):Prop:=
 ∀ (l:Nat) (R:Nat->aG->List aC->Prop) (nf:aG->List aC->Prop),(∀ k (aj:k<jC.length) I' M',(∀ b o,I b=some o->I' b=some o)->R k I' M'->wC P l jC[k] I' M' λv wD iD=>(v=.bool true/\R (k+1) wD iD)\/(v=.bool false/\nf wD iD)) -> ∀ cg M0,(∀ b o,I b=some o->cg b=some o)->R 0 cg M0->ql P g (.func (.yield l) #[] #[]::cap) cg M0 λ_ I' M'=>R jC.length I' M'\/nf I' M'
def wE:List Nat->List Value->Fr->Fr
 |t::ps,v::vs,F=>wE ps vs (dK F t (.val v))| _,_,F=>F
def OG(bA:List Nat)(N:aG->List aC->Prop)(nf:m4->aG->List aC->Prop):hA:=λex F C I M=>match ex with
 | .normal=>qx bA I M N| ex=>qx bA I M (nf ex)
def uc:m4->Option Code
 | .normal=>none| .exit id=>some (.exit id)| .goto l=>some (.goto l)| .ret=>some .ret
section
variable{X:bO}{β:Nat->Nat}{a:Act}{w:World}{F:Fr}{C:b6}{I:aG}{M:List aC}
def Hz:∀ (ps:List Nat) (vs:List Value) (F:Fr) (tmps:Array Value),(∀ t∈ps,t<tmps.size)->(∀ t,cI β (F t) (tmps.getD t undef)) ->
  let r:=(ps.zip vs).foldl (λ(tmps:Array Value) (p:Nat×Value)=>tmps.setIfInBounds p.1 p.2) tmps
  r.size=tmps.size/\∀ t,cI β (wE ps vs F t) (r.getD t undef)
 |[],vs,F,tmps,_,h=>⟨rfl,h⟩| t::ps,[],F,tmps,_,h=>⟨rfl,h⟩
 |t::ps,v::vs,F,tmps,aK,h=>by
  have U:∀ s,cI β (dK F t (.val v) s) ((tmps.setIfInBounds t v).getD s undef):=λs=>by have:=Bx (β:=β) (F:=F) (a:=⟨tmps,[]⟩) h (d:=t) (x:=.val v) (v:=v) (aK t (by simp)) rfl s;exact this
  have aX:=Hz ps vs (dK F t (.val v)) (tmps.setIfInBounds t v) (λs an=>by simpa using aK s (by simp[an])) U;simp only[List.zip_cons_cons,vI,wE];exact⟨by simpa using aX.1,aX.2⟩
def bE.HA(h:bE X β a w F C I M):bE X β { a with defers:=pj w.heap.size::a.defers } (w.alloc (.deferred (some []))) F C I M where
 size:=h.size
 defers:=by
  obtain⟨aV,U,aa,ak⟩:=h.defers;refine⟨w.heap.size::aV,by simp[U],?_,?_⟩;·rw[kB];refine⟨λhm=>?_,aa⟩;have:=(hU.1 (ak _ hm).at_).1;omega
  ·intro r al;rcases cU.1 al with rfl | al
   ·exact⟨Bv w _,h.sz,h.holds.lr,h.holds.kG⟩
   ·exact(ak r al).alloc _
 holds:=h.holds.alloc _
 ah:=h.ah
 bq s cs an:=(h.bq s cs an).alloc _
 inj:=h.inj
 eg:=h.eg
 eB:=h.eB
 own:=h.own
 cp:=Bz h.cp h.sz _
 out:=h.out
 sz:=by have:=h.sz;simp;omega
def bE.wF{n:Nat}{o':Obj}(h:bE X β a w F C I (⟨n,o⟩::M)):bE X β a (w.putObj n o') F C I M:=by
 have dF:(⟨n,o⟩:aC)∈(⟨n,o⟩:aC)::M:=by simp
 have bI:=h.holds.bH;simp only[cC,kB]at bI;exact {
  size:=h.size
  defers:=h.defers.mono λr al=>by have br:n≠r:=al.cM _ dF;refine { al with at_:=?_,cM:=λx ab=>al.cM x (by simp[ab]) };rw[hV (l' br)];exact al.at_
  holds:={
   i:=λb o fO=>by rw[hV (λe=>by have:=h.holds.d _ dF;simp only at this;rw[e,this]at fO;cases fO)];exact h.holds.i b o fO
   m:=λx ab=>by rw[hV (λe=>bI.1 (dw.2 ⟨x,ab,e⟩))];exact h.holds.m x (by simp[ab])
   d:=λx ab=>h.holds.d x (by simp[ab])
   bH:=bI.2 }
  ah:=h.ah
  bq:=λs cs an=>by have ag:=h.bq s cs an;have br:n≠β s:=ag.cM _ dF;obtain⟨T,bJ⟩:=ag.at_;refine { ag with at_:=⟨T,?_⟩,cM:=λx ab=>ag.cM x (by simp[ab]) };rw[hV (l' br)];exact bJ
  inj:=h.inj
  eg:=h.eg
  eB:=h.eB
  own:=λx ab=>h.own x (by simp[ab])
  cp:=λb ag az=>by
   rw[hV (λe=>by
    rcases h.own _ dF with U | U;·simp only at U;exact az (e ▸ U)
    ·simp only at U;omega)]
   exact h.cp b ag az
  out:=h.out.trans (yR _ _ _)
  sz:=by have:=h.sz;simpa using this }
def dt.range{K:hA}{ps:Array Nat}{cV body:Code}{cap:Array Value}{jC:List (List Value)}(aA:bV X.P X.E)(hb:X.ro=none)(bm:(codeOk X.n cV&&(codeOk X.n body&&ps.toList.all (λt=>Nat.blt t X.n)))=true)(OH:a' F f=.val (.func (.func g) #[] cap)){ct:aG}{M1:List aC}(OI:ht X.bA I M ct M1)(OJ:Iter X.P g cap.toList ct jC)(hlen:∀ vs∈jC,vs.length=ps.size)(R:Nat->aG->List aC->Prop)(nf:m4->aG->List aC->Prop)(start:R 0 ct M1)(round:∀ k (aj:k<jC.length) I' M',(∀ b o,ct b=some o->I' b=some o)->R k I' M'->∀ l B aD hE,V ⟨X.P,X.E,X.eX,X.n,B,aD,I',M'.map (·.num),some l⟩ cV (wE ps.toList jC[k] F) (λ_=>none) I' M' (sb (λF C I M=>V ⟨X.P,X.E,X.eX,X.n,B,hE,I',M'.map (·.num),some l⟩ body F C I M (OG (M'.map (·.num)) (R (k+1)) nf)) (λ_ _ _ _ _=>False)))(done:∀ I' M',(∀ b o,ct b=some o->I' b=some o)->R jC.length I' M'->K .normal F C I' M')(stop:∀ ex I' M',(∀ b o,ct b=some o->I' b=some o)->nf ex I' M'->ex≠.normal/\K ex F C I' M') :
  dt X (.rangeFunc f ps cV body) F C I M K:=by
 refine⟨λa w ⟨β,h'⟩=>?_⟩;have aM:=h'.gh OI;simp only[bs]at bm;obtain⟨OK,wG,OL⟩:=bm;refine wpIn_rangeFunc λfn _=>?_;let eT (s:LoopState) (j7:Option Code):Loop:={ state:=s,pending:=j7,fn:=fn,tmps:=a.tmps,params:=ps,assign:=cV,body:=body,defers:=w.heap.size }
 let l:=w.heap.size+1
 let gl:World:=(w.alloc (.deferred (some []))).alloc (.loop (eT .ready none))
 have sq:=aM.HA.j1 (.loop (eT .ready none));have au:(w.alloc (.deferred (some []))).heap.size=l:=by simp[l]
 rw[au]at sq;let B' (k:Nat) (I':aG) (M':List aC):Prop:=∃ cQ,M'=⟨l,.loop (eT .ready none)⟩::cQ/\R k I' cQ
 let HB (I':aG) (M':List aC):Prop:=∃ ex c cQ,uc ex=some c/\M'=⟨l,.loop (eT .done (some c))⟩::cQ/\nf ex I' cQ
 have aE:∀ k (aj:k<jC.length) I' M',(∀ b o,ct b=some o->I' b=some o)->B' k I' M'->wC X.P l jC[k] I' M' λv wD iD=>(v=.bool true/\B' (k+1) wD iD)\/(v=.bool false/\HB wD iD):=by
  rintro k aj I' _ hle⟨cQ,rfl,OM⟩W e8;have wH:W.heap[l]?=some (.loop (eT .ready none)):=e8.m ⟨l,.loop (eT .ready none)⟩ (by simp);have a0:l<W.heap.size:=(hU.1 wH).1;have bI:=e8.bH;simp only[cC,kB]at bI;have HC:I' l=none:=e8.d ⟨l,.loop (eT .ready none)⟩ (by simp);refine⟨_,_,_,_,run_yield wH (by simpa using hlen _ (et aj)),?_⟩;have Ca:((eT LoopState.ready none).params.zip jC[k].toArray).foldl (λtmps (x:Nat×Value)=>match x with | (t,a)=>tmps.setIfInBounds t a) (eT LoopState.ready none).tmps=(ps.toList.zip jC[k]).foldl (λ(tmps:Array Value) (p:Nat×Value)=>tmps.setIfInBounds p.1 p.2) a.tmps:=by rw[<-Bp];simp[eT]
  have Cb:=Hz (β:=β) ps.toList jC[k] F a.tmps (λt aq=>by
   have:=eO.1 OL t aq;rw[aM.size];exact bk this) aM.ah
  rw[<-Ca]at Cb;refine roundIn_of_wpIn (F:=Fence.wide) (n:=0) trivial ?_;let og:bO:=⟨X.P,X.E,X.eX,X.n,W.heap.size,W,I',cQ.map (·.num),some l⟩
  let hE:=W.putObj l (.loop (eT .busy none))
  let wI:bO:=⟨X.P,X.E,X.eX,X.n,W.heap.size,hE,I',cQ.map (·.num),some l⟩
  have af:=round k aj I' cQ hle OM l W.heap.size W hE;have wb:bE og β { tmps:=((eT LoopState.ready none).params.zip jC[k].toArray).foldl (λtmps (x:Nat×Value)=>match x with | (t,a)=>tmps.setIfInBounds t a) (eT LoopState.ready none).tmps,defers:=[] } W (wE ps.toList jC[k] F) (λ_=>none) I' cQ:={
   size:=Cb.1.trans aM.size
   defers:=⟨[],rfl,tG,λr al=>by cases al⟩
   holds:=⟨e8.i,λx ab=>e8.m x (by simp[ab]),λx ab=>e8.d x (by simp[ab]),bI.2⟩
   ah:=Cb.2
   bq:=λs cs an=>by cases an
   inj:=λs bx U=>by simp at U
   eg:=λb o ag=>ag
   eB:=λb o ag=>.inl ag
   own:=λx ab=>.inl (dw.2 ⟨x,ab,rfl⟩)
   cp:=λb ag az=>rfl
   out:=.refl _
   sz:=cK _ }
  have y1:=lv (X:=og) aA cV OK ⟨β,wb⟩ af;refine wpIn_mono (Q:=jx og _) y1 ?_;intro e bK fx an;cases e with
  |exit id=>obtain⟨_,_,_,_,_,aj⟩:=an;exact aj.elim
  |goto id=>obtain⟨_,_,_,_,_,aj⟩:=an;exact aj.elim
  |ret=>obtain⟨_,_,_,_,_,aj⟩:=an;exact aj.elim
  |panic sd=>exact an.elim| outgrown=>exact an.elim
  |normal=>
   obtain⟨gN,ON,du,sr,⟨HD,gj⟩,tS⟩:=an;have ud:fx.heap[l]?=some (.loop (eT .ready none)):=by rw[gj.cp l a0 bI.1];exact wH
   refine⟨_,run_beginRound ud rfl,?_⟩;have OO:du l=none:=by
    cases a7:du l with
    |none=>rfl
    |some o=>
     rcases gj.eB _ _ a7 with U | U;·rw[show og.cg=I' from rfl,HC]at U;cases U
     ·exact absurd U (Nat.not_le.2 a0)
   have OP:∀ x∈sr,x.num≠l:=λx ab e=>by
    rcases gj.own x ab with U | U;·rw[e]at U;exact bI.1 U
    ·rw[e]at U;exact absurd U (Nat.not_le.2 a0)
   have py:bE wI HD bK (fx.putObj l (.loop (eT .busy none))) gN ON du sr:={
    size:=gj.size
    defers:=by obtain⟨aV,aI,aQ,bG⟩:=gj.defers;refine⟨aV,aI,aQ,λr BL=>?_⟩;have al:=bG r BL;refine { at_:=?_,base:=al.base,fM:=al.fM,cM:=al.cM };rw[hV (λe=>by have U:=al.at_;rw[e,ud]at U;cases U)];exact al.at_
    holds:={
     i:=λb o fO=>by rw[hV (λe=>by rw[e,OO]at fO;cases fO)];exact gj.holds.i b o fO
     m:=λx ab=>by rw[hV (OP x ab)];exact gj.holds.m x ab
     d:=gj.holds.d
     bH:=gj.holds.bH }
    ah:=gj.ah
    bq:=λs cs an=>by have ag:=gj.bq s cs an;obtain⟨T,bJ⟩:=ag.at_;refine { at_:=⟨T,?_⟩,base:=ag.base,fM:=ag.fM,cM:=ag.cM };rw[hV (λe=>by rw[e,ud]at bJ;cases bJ)];exact bJ
    inj:=gj.inj
    eg:=gj.eg
    eB:=gj.eB
    own:=gj.own
    cp:=λb ag az=>by
     by_cases e:b=l;·subst e;rw[t' (hU.1 ud).1];exact(t' a0).symm
     ·rw[hV e];show _=(W.putObj l (.loop (eT .busy none))).heap[b]?;rw[hV e];exact gj.cp b ag az
    out:=⟨gj.out.1,gj.out.2⟩
    sz:=by have:=gj.sz;simpa using this }
   have OQ:=lv (X:=wI) aA body wG ⟨HD,py⟩ tS;refine wpIn_mono (Q:=jx wI _) OQ ?_;have fin:∀ (cn:Act) (ja:World) (oh:Fr) (oi:b6) (iE:aG) (ms:List aC) (jump:Option Code),Rel wI cn ja oh oi iE ms->∃ fV,(Instr.endRound l jump).run X.P ja=.ok (.bool jump.isNone) fV /\
     cL iE (⟨l,.loop (eT (if jump.isNone then .ready else .done) jump)⟩::ms) fV/\Kept I' (⟨l,.loop (eT .ready none)⟩::cQ) W iE (⟨l,.loop (eT (if jump.isNone then .ready else .done) jump)⟩::ms) fV:=by
    rintro cn ja oh oi iE ms jump⟨qL,ak⟩;have ss:ja.heap[l]?=some (.loop (eT .busy none)):=by rw[ak.cp l a0 bI.1];exact t' a0
    have HE:iE l=none:=by
     cases a7:iE l with
     |none=>rfl
     |some o=>
      rcases ak.eB _ _ a7 with U | U;·rw[show wI.cg=I' from rfl,HC]at U;cases U
      ·exact absurd U (Nat.not_le.2 a0)
    have HF:∀ x∈ms,x.num≠l:=λx ab e=>by
     rcases ak.own x ab with U | U;·rw[e]at U;exact bI.1 U
     ·rw[e]at U;exact absurd U (Nat.not_le.2 a0)
    refine⟨_,run_endRound jump ss,?_,?_⟩
    ·exact {
      i:=λb o fO=>by rw[hV (λe=>by rw[e,HE]at fO;cases fO)];exact ak.holds.i b o fO
      m:=λx ab=>by
       rcases cU.1 ab with rfl | ab;·exact t' (hU.1 ss).1
       ·rw[hV (HF x ab)];exact ak.holds.m x ab
      d:=λx ab=>by
       rcases cU.1 ab with rfl | ab;·exact HE
       ·exact ak.holds.d x ab
      bH:=by
       simp only[cC,kB];refine⟨λhm=>?_,ak.holds.bH⟩;obtain⟨x,ab,e⟩:=dw.1 hm;exact HF x ab e }
    ·exact {
      le:=ak.eg
      nX:=ak.eB
      pg:=λx ab=>by
       rcases cU.1 ab with rfl | ab;·exact .inl ⟨⟨l,.loop (eT .ready none)⟩,by simp,rfl⟩
       ·rcases ak.own x ab with U | U
        ·obtain⟨y,aE,e⟩:=dw.1 U;exact .inl ⟨y,by simp[aE],e⟩
        ·exact .inr U
      cp:=λb ag br=>by
       have mu:b≠l:=λe=>br ⟨l,.loop (eT .ready none)⟩ (by simp) e.symm;rw[hV mu,ak.cp b ag (λhm=>by
        obtain⟨y,aE,e⟩:=dw.1 hm;exact br y (by simp[aE]) e)]
       exact hV mu
      out:=⟨ak.out.1,ak.out.2⟩
      sz:=by have:=ak.sz;simpa using this }
   intro e cn ja qM;cases e with
   |normal=>obtain⟨oh,oi,iE,ms,⟨qL,ak⟩,⟨ng,lE,st,aK⟩⟩:=qM;obtain⟨fV,aL,be,bT⟩:=fin cn ja oh oi ng lE none ⟨qL,ak.gh st⟩;exact⟨_,fV,aL,_,_,_,rfl,.inl ⟨rfl,_,rfl,aK⟩,be,bT⟩
   |exit id=>obtain⟨oh,oi,iE,ms,⟨qL,ak⟩,⟨ng,lE,st,aK⟩⟩:=qM;obtain⟨fV,aL,be,bT⟩:=fin cn ja oh oi ng lE (some (.exit id)) ⟨qL,ak.gh st⟩;exact⟨_,fV,aL,_,_,_,rfl,.inr ⟨rfl,.exit id,_,_,rfl,rfl,aK⟩,be,bT⟩
   |goto id=>obtain⟨oh,oi,iE,ms,⟨qL,ak⟩,⟨ng,lE,st,aK⟩⟩:=qM;obtain⟨fV,aL,be,bT⟩:=fin cn ja oh oi ng lE (some (.goto id)) ⟨qL,ak.gh st⟩;exact⟨_,fV,aL,_,_,_,rfl,.inr ⟨rfl,.goto id,_,_,rfl,rfl,aK⟩,be,bT⟩
   |ret=>obtain⟨oh,oi,iE,ms,⟨qL,ak⟩,⟨ng,lE,st,aK⟩⟩:=qM;obtain⟨fV,aL,be,bT⟩:=fin cn ja oh oi ng lE (some .ret) ⟨qL,ak.gh st⟩;exact⟨_,fV,aL,_,_,_,rfl,.inr ⟨rfl,.ret,_,_,rfl,rfl,aK⟩,be,bT⟩
   |panic sd=>exact qM.elim| outgrown=>exact qM.elim
 obtain⟨j2,r9⟩:=OJ l B' HB aE ct (⟨l,.loop (eT .ready none)⟩::M1) (λ_ _ h=>h) ⟨M1,rfl,start⟩;have hF:=r9 gl sq.holds;have aS:=b1 aM.ah OH;refine⟨l,[pj w.heap.size],gl,{ target:=.fn (.func g) cap,args:=#[.func (.yield l) #[] #[]] },gl,g,(.func (.yield l) #[] #[]::cap.toList).toArray,gl,?_,?_,λ_ _=>trivial,?_,(λh=>by cases h),?_⟩
 ·have Cc:(dV X).round=none:=hb;rw[Cc];exact run_enterLoop_outer fn a.tmps ps cV body
 ·show(Deferred.ofValue (a.eval f) (#[Operand.const (.func (.yield l) #[] #[])].map a.eval)).run X.P gl=_;rw[aS];simp[Deferred.ofValue,Act.eval]
 ·simp only[invoke];rw[show #[Value.func (.yield l) #[] #[]]++cap=(.func (.yield l) #[] #[]::cap.toList).toArray from by apply dT;simp];exact j2 _ _
 ·refine(BC (X:=X) hF _).mono ?_;rintro e ja⟨v,I',M',rfl,aK,kH,dy⟩;have qN:=sq.after (Mr:=[]) (by simp) kH dy;rw[hd]at qN;have hle:=dy.le;rcases aK with⟨cQ,rfl,OR⟩ | ⟨ex,c,cQ,aB,rfl,OS⟩
  ·refine⟨none,_,run_endLoop (kH.m ⟨l,.loop (eT .ready none)⟩ (by simp)) (by simp[eT]),?_⟩;exact⟨F,C,I',cQ,⟨β,qN.wF⟩,done I' cQ hle OR⟩
  ·refine⟨some c,_,run_endLoop (kH.m ⟨l,.loop (eT .done (some c))⟩ (by simp)) (by simp[eT]),?_⟩;obtain⟨br,aj⟩:=stop ex I' cQ hle OS;cases ex with
   |normal=>exact(br rfl).elim| exit id=>cases aB;exact wpIn_exit ⟨F,C,I',cQ,⟨β,qN.wF⟩,aj⟩| goto id=>cases aB;exact wpIn_goto ⟨F,C,I',cQ,⟨β,qN.wF⟩,aj⟩| ret=>cases aB;exact wpIn_ret ⟨F,C,I',cQ,⟨β,qN.wF⟩,aj⟩
end
structure bh where
 a:Option Nat
 n:Nat
 c:Nat
 cur:List Value
def bh.val(o:bh):Value:=.slice (o.a.map λg=>⟨g,0,none⟩) o.n o.c
def bh.bF(o:bh)(e:Nat):List aC:=match o.a with
 |some g=>[⟨g,.cells o.cur.toArray e (0,0)⟩]| none=>[]
structure bh.ok(o:bh)(size:Nat)(xs:List Value):Prop where
 len:xs.length=o.n*size
 nil:o.a=none->o.n=0/\o.c=0
 cap:∀ g,o.a=some g->o.cur.length=o.c*size/\o.n<=o.c/\o.c<=maxLen/\o.cur.take (o.n*size)=xs
section
variable{P:Program}{w:World}
def OT(t u ty e:Nat)(i:TypeInfo)(z:Value)(aq:P.underlying t=some (.slice e))(hu:P.underlying u=some i')(j':∀ k,i'≠.int k)(hi:P.info? e=some i)(a2:i.zero=some z)(mv:z.cells.size=i.size)
  {os:bh} (bm:os.ok i.size xs) (aw:∀ g,os.a=some g->w.heap[g]?=some (.cells os.cur.toArray e (0,0)))
  {x:Value} (hm:0<m) (au:news.length=m*i.size) (U:∀ v∈news,v.oneCell'=true)
  (hlen:∀ w',(Builtin.lenOf x).run P w'=.ok m w') (ej:∀ w':World,w'.heap=w.heap->(Builtin.firstCells i.size m x).run P w'=.ok news.toArray w')
  (cR:os.n+m<=maxLen) (bU:(os.n+m)*i.bytes<=140737488355328) :
  ∃ (g c:Nat) (cur:List Value) (w':World),(Builtin.append_ #[t,u] ty #[os.val,x]).run P w=.ok (.slice (some ⟨g,0,none⟩) (os.n+m) c) w'/\cur.length=c*i.size/\os.n+m<=c/\c<=maxLen/\cur.take ((os.n+m)*i.size)=xs++news /\
   ((os.a=some g/\w'=w.setRow g cur.toArray)\/(g=w.heap.size/\w'=w.drew.alloc (.cells cur.toArray e (0,0)))):=by
 obtain⟨a,n,c,cur⟩:=os;have Cd:(xs++news).length=(n+m)*i.size:=by rw[cP,bm.len,au,h9]
 have HG:∀ cp,(xs++news++(Builtin.zeroCells z.cells (grownCap w (n+m) cp e-(n+m))).toList).length=grownCap w (n+m) cp e*i.size/\n+m<=grownCap w (n+m) cp e/\grownCap w (n+m) cp e<=maxLen /\
   (xs++news++(Builtin.zeroCells z.cells (grownCap w (n+m) cp e-(n+m))).toList).take ((n+m)*i.size)=xs++news:=by
  intro cp;have eD:=grownCap_ge w (n+m) cp e;have hG:grownCap w (n+m) cp e<=maxLen:=grownCap_le_maxLen w (n+m) cp e cR;refine⟨?_,eD,hG,?_⟩;·rw[cP,Cd,qI,size_zeroCells,mv,<-h9];congr 1;omega
  ·rw[<-Cd];exact zj
 have wJ:(match i' with | .int _=>true | _=>false)=false:=by cases i'<;>first | rfl | exact(j' _ rfl).elim
 have nh:n+m<=9223372036854775807:=by simp only[maxLen]at cR;exact cR
 cases a with
 |none=>
  obtain⟨mw,ue⟩:=bm.nil rfl;simp only at mw ue;subst mw;subst ue;have ab:xs=[]:=h7 (by simpa using bm.len);subst ab;simp only[dd,lC]at *;have aD:0<m:=hm;have aF:m≠0:=by omega
  have wK:¬ (9223372036854775807<(m:Int)):=by omega
  have wL:¬ (281474976710656<Builtin.nextslicecap m 0*i.bytes):=by rw[nextslicecap_zero aD];omega
  have az:=ej w.drew rfl;obtain⟨aI,aQ,bG,eU⟩:=HG 0;refine⟨w.heap.size,grownCap w m 0 e,_,w.drew.alloc (.cells (news++(Builtin.zeroCells z.cells (grownCap w m 0 e-m)).toList).toArray e),?_,aI,aQ,bG,eU,.inr ⟨rfl,rfl⟩⟩;simp[bh.val,Builtin.append_,run_underlying aq,run_underlying hu,sizeOf,typeInfo,zeroValue,hi,a2,hlen,aF,wK,wL,Question.forced,run_firstCells_none,az,newRow,grownCap];congr 2;apply dT;simp
 |some g=>
  obtain⟨dM,iF,hG,wM⟩:=bm.cap g rfl;have Ce:=aw g rfl;simp only at dM iF hG wM Ce;by_cases my:n+m<=c
  ·have fy:n*i.size+news.length<=cur.length:=by rw[au,dM,<-h9];exact jX _ my
   have g3:=run_storeCells_at P g (n*i.size) e news 0 cur.toArray w Ce (by simpa using fy) U;simp only[mW]at g3;refine⟨g,c,cur.take (n*i.size)++news++cur.drop (n*i.size+news.length),_,?_,?_,my,hG,?_,.inl ⟨rfl,rfl⟩⟩;·have az:=ej w rfl;simp[bh.val,Builtin.append_,run_underlying aq,run_underlying hu,sizeOf,typeInfo,hi,hlen,my,az,Addr.add_lit,g3]
   ·simp only[cP,kW,pD];omega
   ·rw[wM,<-Cd];exact zj
  ·have aF:¬ (n+m<=c):=by omega
   have wK:¬ (9223372036854775807<((n:Int)+(m:Int))):=by omega
   have wL:¬ (281474976710656<Builtin.nextslicecap (n+m) c*i.bytes):=by have:=growslice_fits (by omega:c<n+m) bU;omega
   have az:=ej w.drew rfl;have OU:∀ j v,xs[j]?=some v->w.drew.cell? ((⟨g,0,none⟩:Addr).add j)=some v:=by
    intro j v ap;have OV:w.drew.heap[g]?=some (.cells cur.toArray e (0,0)):=Ce;rw[cY _ rfl,pq OV];rw[<-wM,hW]at ap;split at ap;·simpa using ap
    ·cases ap
   have OW:=run_firstCells_some (P:=P) w.drew i.size n ⟨g,0,none⟩ n c xs bm.len OU;obtain⟨aI,aQ,bG,eU⟩:=HG c;refine⟨w.heap.size,grownCap w (n+m) c e,_,w.drew.alloc (.cells (xs++news++(Builtin.zeroCells z.cells (grownCap w (n+m) c e-(n+m))).toList).toArray e),?_,aI,aQ,bG,eU,.inr ⟨rfl,rfl⟩⟩;simp[bh.val,Builtin.append_,run_underlying aq,run_underlying hu,sizeOf,typeInfo,zeroValue,hi,a2,hlen,aF,wK,wL,Question.forced,az,OW,newRow,grownCap];congr 2;apply dT;simp
end
section
variable{X:bO}{β:Nat->Nat}{a:Act}{w:World}{F:Fr}{C:b6}{I:aG}{M:List aC}{o:Oper}{K:dE}
def Cf(aA:bV X.P X.E)(ar:o.op=.call { callee:=.builtin .append,args:=#[s,x],argTypes:=#[t,u] })(ao:∀ d,o.dst=some d->d<X.n)
 (aq:X.E t=some cA) (cZ:cA.bc=.slice e) (hu:X.E u=some iC) (di:∀ k,iC.bc≠.int k) (he:X.E e=some av)
  (os:bh) (bm:os.ok av.size xs) (an:a' F s=.val os.val)
 (ab:a' F x=.val oe) (hm:0<m) (au:news.length=m*av.size) (U:eP news=true)
  (hlen:∀ w',(Builtin.lenOf oe).run X.P w'=.ok m w') (ej:∀ w,cL I M w->(Builtin.firstCells av.size m oe).run X.P w=.ok news.toArray w)
 (aZ:M.Perm (os.bF e++Mr)) (cR:os.n+m<=maxLen) (bU:(os.n+m)*av.bytes<=140737488355328)
  (k:∀ (g c:Nat) (cur:List Value),I g=none->cur.length=c*av.size->os.n+m<=c->c<=maxLen->cur.take ((os.n+m)*av.size)=xs++news ->
   K (put o.dst (.val (.slice (some ⟨g,0,none⟩) (os.n+m) c)) F) C I (⟨g,.cells cur.toArray e (0,0)⟩::Mr)):a9 X o F C I M K:=by
 refine⟨λa w Q ⟨β,h'⟩=>?_⟩;have aM:bE X β a w F C I (os.bF e++Mr):=h'.gh (.perm aZ .refl);obtain⟨inf,z,hi,ec,gK,fD,g1⟩:=(aA _ _ he).inf;obtain⟨d,dv,dN⟩:=(aA _ _ hu).dr;obtain⟨kX,oj,kY⟩:=(aA _ _ aq).dr;have pF:kX=.slice e:=by rw[cZ]at kY;cases kX<;>simp_all[dh]
 subst pF;have mv:z.cells.size=inf.size:=by rw[ec,<-(aA _ _ he).len,<-g1];simp
 rw[<-ec]at bm au ej;obtain⟨g,c,cur,w',dg,aI,aQ,bG,eU,nj⟩:=OT (P:=X.P) (w:=w) t u o.type e inf z oj dv (λk b2=>di k (by rw[<-dN,b2];rfl)) hi fD mv bm (λg aw=>aM.holds.m ⟨g,.cells os.cur.toArray e (0,0)⟩ (by simp[bh.bF,aw])) (x:=oe) hm au (tM U) hlen (λw' OX=>ej w' (h'.holds.heap OX)) cR (by rw[gK];exact bU);rw[ec]at aI eU;have OY:I g=none:=by
  rcases nj with⟨aw,_⟩ | ⟨rfl,_⟩;·exact aM.holds.d ⟨g,.cells os.cur.toArray e (0,0)⟩ (by simp[bh.bF,aw])
  ·cases a7:I w.heap.size with
   |none=>rfl| some jD=>have:=aM.holds.i _ _ a7;simp at this
 have es:=b1 aM.ah an;have ex:=b1 aM.ah ab;refine fC (by rw[ar];simp) (v:=.slice (some ⟨g,0,none⟩) (os.n+m) c) (w':=w') ?_ ⟨_,_,_,_,⟨β,bE.put (x:=.val (.slice (some ⟨g,0,none⟩) (os.n+m) c)) ?_ ao rfl⟩,k g c cur OY aI aQ bG eU⟩
 ·unfold execOp;simp only[ar,resolve,invoke,builtin,bo,bR,bd,od,cC,lD,es,ex,dg]
 ·rcases nj with⟨aw,rfl⟩ | ⟨rfl,rfl⟩
  ·have ag:os.bF e=[⟨g,.cells os.cur.toArray e (0,0)⟩]:=by simp[bh.bF,aw]
   rw[ag]at aM;exact aM.qm (pre:=[]) (post:=Mr) rfl
  ·have aa:bE X β a w.drew F C I (os.bF e++Mr):=aM.world rfl;have ak:=aa.j1 (.cells cur.toArray e (0,0));refine ak.gh (.sub ?_ .refl);exact List.Sublist.cons_cons _ (jA _ _)
def a9.append(aA:bV X.P X.E)(ar:o.op=.call { callee:=.builtin .append,args:=#[s,x],argTypes:=#[t,t] })(ao:∀ d,o.dst=some d->d<X.n)
 (aq:X.E t=some cA) (cZ:cA.bc=.slice e) (he:X.E e=some av)
  (os:bh) (bm:os.ok av.size xs) (an:a' F s=.val os.val)
 (ab:a' F x=.val (.slice (some ad) m c')) (hm:0<m) (aF:cx I M ad (m*av.size) news) (U:eP news=true)
 (aZ:M.Perm (os.bF e++Mr)) (cR:os.n+m<=maxLen) (bU:(os.n+m)*av.bytes<=140737488355328)
  (k:∀ (g c:Nat) (cur:List Value),cur.length=c*av.size->os.n+m<=c->c<=maxLen->cur.take ((os.n+m)*av.size)=xs++news ->
   K (put o.dst (.val (.slice (some ⟨g,0,none⟩) (os.n+m) c)) F) C I (⟨g,.cells cur.toArray e (0,0)⟩::Mr)):a9 X o F C I M K:=by
 refine Cf aA ar ao aq cZ aq (λk=>by rw[cZ];simp) he os bm an ab hm ?_ U (λ_=>rfl) (λw hw=>?_) aZ cR bU (λg c cur _=>k g c cur)
 ·obtain⟨_,_,_,_,_,_,h⟩:=aF;exact h
 ·obtain⟨cX,cs,T,ah,gJ,af,au⟩:=aF;refine run_firstCells_some (P:=X.P) w av.size m ad m c' news au λj v ap=>?_;rw[cY _ cX,pq (gJ.heap hw)];rw[<-af,hW]at ap;split at ap
  ·rw[l8]at ap;simpa using ap
  ·cases ap
def a9.OZ(aA:bV X.P X.E)(ar:o.op=.call { callee:=.builtin .append,args:=#[s,x],argTypes:=#[t,t] })(ao:∀ d,o.dst=some d->d<X.n)
 (aq:X.E t=some cA) (cZ:cA.bc=.slice e) (he:X.E e=some av)
  (os:bh) (bm:os.ok av.size xs) (an:a' F s=.val os.val)
 (ab:a' F x=.val (.slice (some ad) m c')) (hm:0<m) (aF:cx I M ad (m*av.size) news) (U:eP news=true)
 (aZ:M.Perm (os.bF e++Mr)) (cR:os.n+m<=maxLen) (bU:(os.n+m)*av.bytes<=140737488355328)
  (k:∀ (g c:Nat) (cur:List Value),I g=none->cur.length=c*av.size->os.n+m<=c->c<=maxLen->cur.take ((os.n+m)*av.size)=xs++news ->
   K (put o.dst (.val (.slice (some ⟨g,0,none⟩) (os.n+m) c)) F) C I (⟨g,.cells cur.toArray e (0,0)⟩::Mr)):a9 X o F C I M K:=by
 refine Cf aA ar ao aq cZ aq (λk=>by rw[cZ];simp) he os bm an ab hm ?_ U (λ_=>rfl) (λw hw=>?_) aZ cR bU k
 ·obtain⟨_,_,_,_,_,_,h⟩:=aF;exact h
 ·obtain⟨cX,cs,T,ah,gJ,af,au⟩:=aF;refine run_firstCells_some (P:=X.P) w av.size m ad m c' news au λj v ap=>?_;rw[cY _ cX,pq (gJ.heap hw)];rw[<-af,hW]at ap;split at ap
  ·rw[l8]at ap;simpa using ap
  ·cases ap
def gQ(s:ByteArray):List Value:=s.data.toList.map λb=>.int .u8 b.toNat
def a9.O0(aA:bV X.P X.E)(ar:o.op=.call { callee:=.builtin .append,args:=#[s,x],argTypes:=#[t,u] })(ao:∀ d,o.dst=some d->d<X.n)
 (aq:X.E t=some cA) (cZ:cA.bc=.slice e) (hu:X.E u=some iC) (di:iC.bc=.string) (he:X.E e=some av) (bW:av.size=1)
  (os:bh) (bm:os.ok av.size xs) (an:a' F s=.val os.val)
  {str:ByteArray} (ab:a' F x=.val (.string str)) (hm:0<str.size)
 (aZ:M.Perm (os.bF e++Mr)) (cR:os.n+str.size<=maxLen) (bU:(os.n+str.size)*av.bytes<=140737488355328)
  (k:∀ (g c:Nat) (cur:List Value),cur.length=c*av.size->os.n+str.size<=c->c<=maxLen->cur.take ((os.n+str.size)*av.size)=xs++gQ str ->
   K (put o.dst (.val (.slice (some ⟨g,0,none⟩) (os.n+str.size) c)) F) C I (⟨g,.cells cur.toArray e (0,0)⟩::Mr)):a9 X o F C I M K:=by
 refine Cf aA ar ao aq cZ hu (λk=>by rw[di];simp) he os bm an ab hm ?_ ?_ (λ_=>rfl) (λw hw=>?_) aZ cR bU (λg c cur _=>k g c cur)
 ·simp[gQ,bW]
 ·refine eO.2 λv af=>?_;obtain⟨b,_,rfl⟩:=dw.1 af;rfl
 ·simp only[Builtin.firstCells,bR];congr 1;apply dT;have ax:str.extract 0 str.size=str:=by apply nV;simp[yF]
  simp[gQ,ax]
end
section
variable{X:bO}{F:Fr}{C:b6}{I:aG}{M:List aC}{o:Oper}{K:dE}
def O1(aq:P.underlying t=some (.array 4 e))(he:P.underlying e=some (.int k)){inf:TypeInfo}(hi:P.info? e=some inf)(an:inf.size=1)(dp bK cm cn jE cR bU dZ:Int)(w:World) :
  (Op.equal t (.agg #[.int k dp,.int k bK,.int k cm,.int k cn]) (.agg #[.int k jE,.int k cR,.int k bU,.int k dZ])).run P w=.ok (dp == jE&&(bK == cR&&(cm == bU&&cn == dZ))) w:=by
 have HH:∀ (xs:Array Value) (i:Nat) (v:Value) (w:World),xs[i]?=some v->(part e xs i).run P w=.ok v w:=λxs i v w h=>by
  have vQ:(isAgg e).run P w=.ok false w:=by unfold isAgg;simp[run_underlying he]
  unfold part;simp[vQ,sizeOf,typeInfo,hi,an,h]
 have hint:∀ (d:Nat) (x y:Int) (w:World),(Op.equalIn (d+1) e (.int k x) (.int k y)).run P w=.ok (x == y) w:=λd x y w=>by simp[Op.equalIn,run_underlying he]
 have key:∀ m,(∀ (x y:Int) (w:World),(Op.equalIn m e (.int k x) (.int k y)).run P w=.ok (x == y) w)->(Op.equalIn (m+1) t (.agg #[.int k dp,.int k bK,.int k cm,.int k cn]) (.agg #[.int k jE,.int k cR,.int k bU,.int k dZ])).run P w=.ok (dp == jE&&(bK == cR&&(cm == bU&&cn == dZ))) w:=λm hint=>by
  rw[Op.equalIn];simp only[bo,run_underlying aq,bd,sizeOf,typeInfo,hi,run_program,bR,an];simp only[Hw];have al:List.range' 0 ([:4]:Std.Legacy.Range).size=[0,1,2,3]:=by decide
  rw[al];have pa:=λ(i:Nat) (v:Value) (w:World)=>HH #[.int k dp,.int k bK,.int k cm,.int k cn] i v w;have zn:=λ(i:Nat) (v:Value) (w:World)=>HH #[.int k jE,.int k cR,.int k bU,.int k dZ] i v w;simp only[List.forIn_cons,List.forIn_nil,bo];rw[pa (0*1) (.int k dp) w rfl];simp only[bd,bo];rw[zn (0*1) (.int k jE) w rfl];simp only[bd,bo];rw[hint];simp only[bd];cases(dp == jE);·simp
  simp only[nW,gG,g9,bR,bd,bo];rw[pa (1*1) (.int k bK) w rfl];simp only[bd,bo];rw[zn (1*1) (.int k cR) w rfl];simp only[bd,bo];rw[hint];simp only[bd];cases(bK == cR);·simp
  simp only[nW,gG,g9,bR,bd,bo];rw[pa (2*1) (.int k cm) w rfl];simp only[bd,bo];rw[zn (2*1) (.int k bU) w rfl];simp only[bd,bo];rw[hint];simp only[bd];cases(cm == bU);·simp
  simp only[nW,gG,g9,bR,bd,bo];rw[pa (3*1) (.int k cn) w rfl];simp only[bd,bo];rw[zn (3*1) (.int k dZ) w rfl];simp only[bd,bo];rw[hint];simp only[bd];cases(cn == dZ);·simp
  simp
 exact key 9999 (hint 9998)
def eI.HI{E:Env}(aA:bV P E)(aq:E t=some cA)(cZ:cA.bc=.array 4 e)(he:E e=some av)(iG:av.bc=.int k)(aw:P.eqGuardType P.depth t=false){dp bK cm cn jE cR bU dZ:Int}{V:Value->Prop}
  (h:V (.bool (dp == jE&&(bK == cR&&(cm == bU&&cn == dZ))))):eI P .eql t x y (.val (.agg #[.int k dp,.int k bK,.int k cm,.int k cn])) (.val (.agg #[.int k jE,.int k cR,.int k bU,.int k dZ])) V other:=by
 obtain⟨d,dv,dN⟩:=(aA _ _ aq).dr;obtain⟨mz,O2,O3⟩:=(aA _ _ he).dr;obtain⟨inf,z,hi,ec,_⟩:=(aA _ _ he).inf;have U:d=.array 4 e:=by rw[cZ]at dN;cases d<;>simp_all[dh]
 have aa:mz=.int k:=by rw[iG]at O3;cases mz<;>simp_all[dh]
 subst U;subst aa;have e6:inf.size=1:=by rw[ec];exact(aA _ _ he).Br (by rw[iG];rfl)
 refine .mk _ _ _ rfl rfl (λw=>?_) h;simp only[bo,run_eqGuard_agg (hm:=aw),bd,binOp,O1 dv O2 hi e6,bR]
def eI.concat{a b:ByteArray}(an:a.size+b.size<=9223372036854775807){V:Value->Prop}(h:V (.string (a++b))):eI P .add t x y (.val (.string a)) (.val (.string b)) V other:=by refine .mk _ _ _ rfl rfl (λw=>?_) h;simp only[bo,BB,bd,binOp,run_string_add_sum _ _ _ an,bR]
end
section
variable{X:bO}{β:Nat->Nat}{a:Act}{w:World}{F:Fr}{C:b6}{I:aG}{M:List aC}{o:Oper}{K:dE}
def bE.HJ{n:Nat}{jD:Obj}{w':World}(h:bE X β a w F C I (⟨n,jD⟩::M))(an:w'.heap.size=w.heap.size)(ag:∀ b,b≠n->w'.heap[b]?=w.heap[b]?)(ar:iS w w'):bE X β a w' F C I M:=by
 have dF:(⟨n,jD⟩:aC)∈(⟨n,jD⟩:aC)::M:=by simp
 have bI:=h.holds.bH;simp only[cC,kB]at bI;exact {
  size:=h.size
  defers:=h.defers.mono λr al=>by have br:n≠r:=al.cM _ dF;refine { al with at_:=?_,cM:=λx ab=>al.cM x (by simp[ab]) };rw[ag r (l' br)];exact al.at_
  holds:={
   i:=λb o fO=>by rw[ag b (λe=>by have:=h.holds.d _ dF;simp only at this;rw[e,this]at fO;cases fO)];exact h.holds.i b o fO
   m:=λx ab=>by rw[ag _ (λe=>bI.1 (dw.2 ⟨x,ab,e⟩))];exact h.holds.m x (by simp[ab])
   d:=λx ab=>h.holds.d x (by simp[ab])
   bH:=bI.2 }
  ah:=h.ah
  bq:=λs cs h3=>by have m7:=h.bq s cs h3;have br:n≠β s:=m7.cM _ dF;obtain⟨T,bJ⟩:=m7.at_;refine { m7 with at_:=⟨T,?_⟩,cM:=λx ab=>m7.cM x (by simp[ab]) };rw[ag _ (l' br)];exact bJ
  inj:=h.inj
  eg:=h.eg
  eB:=h.eB
  own:=λx ab=>h.own x (by simp[ab])
  cp:=λb a0 az=>by
   rw[ag b (λe=>by
    rcases h.own _ dF with U | U;·simp only at U;exact az (e ▸ U)
    ·simp only at U;omega)]
   exact h.cp b a0 az
  out:=h.out.trans ar
  sz:=by rw[an];exact h.sz }
def O4(w:World)(p:Addr)(n:Nat):(w.freeze p n).heap.size=w.heap.size:=by
 unfold World.freeze;split<;>simp
def O5(w:World)(p:Addr)(n:Nat):iS w (w.freeze p n):=by
 unfold World.freeze;split<;>exact⟨rfl,rfl⟩
def O6(w:World)(p:Addr)(n b:Nat)(h:b≠p.block):(w.freeze p n).heap[b]?=w.heap[b]?:=by
 unfold World.freeze;split
 ·rfl
 ·simp only[Array.getElem?_modify];rw[cd (l' h)]
def a9.Cg(aA:bV X.P X.E){p n:Operand}(ar:o.op=.call { callee:=.builtin .unsafeString,args:=#[p,n],argTypes:=#[nd,it] })(ao:∀ d,o.dst=some d->d<X.n)
 (aq:X.E nd=some cA) (cZ:cA.bc=.pointer e) (he:X.E e=some av) (iG:av.size=1)
 {l:List UInt8} (aK:a' F p=.val (.pointer (some ⟨g,0,none⟩))) (aF:a' F n=.val (.int .i64 l.length)) (aD:l≠[]) (Ch:l.length<=9223372036854775807)
 (aZ:M.Perm (⟨g,.cells cs e (0,0)⟩::Mr)) (h3:cs.toList.take l.length=l.map λb=>.int .u8 b.toNat)
  (h:K (put o.dst (.val (.string ⟨l.toArray⟩)) F) C I Mr):a9 X o F C I M K:=by
 refine⟨λa w Q ⟨β,h'⟩=>?_⟩;have aM:bE X β a w F C I (⟨g,.cells cs e (0,0)⟩::Mr):=h'.gh (.perm aZ .refl);have aw:w.heap[g]?=some (.cells cs e (0,0)):=aM.holds.m ⟨g,.cells cs e (0,0)⟩ (by simp);obtain⟨d,dv,dN⟩:=(aA _ _ aq).dr;have U:d=.pointer e:=by rw[cZ]at dN;cases d<;>simp_all[dh]
 subst U;obtain⟨inf,z,hi,ec,_⟩:=(aA _ _ he).inf;have aB:X.P.cellsOf e=1:=by simp[Program.cellsOf,hi,ec,iG]
 have hlen:l.length<=cs.size:=by have:=congrArg List.length h3;simp only[kW,j9,qI]at this;omega
 have dg:=Lib.run_unsafeString_row (P:=X.P) w nd it o.type e dv aB g cs.size (by simp[World.shape?,aw]) l aD hlen Ch (λj x ap=>by
  rw[cY _ rfl,pq aw];have aa:(cs.toList.take l.length)[j]?=some (.int .u8 x.toNat):=by rw[h3];simp[ap]
  rw[hW]at aa;split at aa;·simpa using aa
  ·cases aa)
 have Ci:=b1 aM.ah aK;have cW:=b1 aM.ah aF;refine fC (by rw[ar];simp) (v:=.string ⟨l.toArray⟩) (w':=w.freeze ⟨g,0,none⟩ l.length) ?_ ⟨_,_,_,_,⟨β,bE.put (x:=.val (.string ⟨l.toArray⟩)) (aM.HJ (O4 _ _ _) (λb ag=>O6 _ _ _ _ ag) (O5 _ _ _)) ao rfl⟩,h⟩;unfold execOp;simp only[ar,resolve,invoke,builtin,bo,bR,bd,od,cC,lD,Ci,cW,dg]
def a9.HK{p n:Operand}(ar:o.op=.call { callee:=.builtin .unsafeString,args:=#[p,n],argTypes:=#[nd,it] })(ao:∀ d,o.dst=some d->d<X.n)
  {q:Option Addr} (aK:a' F p=.val (.pointer q)) (aF:a' F n=.val (.int .i64 0)) (h:K (put o.dst (.val (.string .empty)) F) C I M):a9 X o F C I M K:=by
 refine⟨λa w Q ⟨β,aM⟩=>?_⟩;have Ci:=b1 aM.ah aK;have cW:=b1 aM.ah aF;refine qn aM ao (by rw[ar];simp) ?_ h;unfold execOp;simp only[ar,resolve,invoke,builtin,bo,bR,bd,od,cC,lD,Ci,cW,Lib.run_unsafeString_none]
def a9.HL(aA:bV X.P X.E)(ar:o.op=.call { callee:=.builtin .copy,args:=#[x,y],argTypes:=#[t,u] })(ao:∀ d,o.dst=some d->d<X.n)
 (aq:X.E t=some cA) (cZ:cA.bc=.slice e) (he:X.E e=some av) (iG:av.size=1)
 {off dl HM:Nat} {s:ByteArray} (ab:a' F x=.val (.slice (some ⟨g,off,none⟩) dl HM)) (aE:a' F y=.val (.string s)) (hle:s.size<=dl) (fy:off+s.size<=cs.size)
 (aZ:M.Perm (⟨g,.cells cs T (0,0)⟩::Mr))
  (h:K (put o.dst (.val (.int .i64 s.size)) F) C I (⟨g,.cells (bt cs.toList off (gQ s)).toArray T (0,0)⟩::Mr)):a9 X o F C I M K:=by
 refine⟨λa w Q ⟨β,h'⟩=>?_⟩;have aM:bE X β a w F C I (⟨g,.cells cs T (0,0)⟩::Mr):=h'.gh (.perm aZ .refl);have aw:w.heap[g]?=some (.cells cs T (0,0)):=aM.holds.m ⟨g,.cells cs T (0,0)⟩ (by simp);obtain⟨d,dv,dN⟩:=(aA _ _ aq).dr;have U:d=.slice e:=by rw[cZ]at dN;cases d<;>simp_all[dh]
 subst U;obtain⟨inf,z,hi,ec,_⟩:=(aA _ _ he).inf;have au:(gQ s).length=s.size:=by simp[gQ]
 have U:∀ v∈gQ s,v.oneCell'=true:=λv af=>by obtain⟨b,_,rfl⟩:=dw.1 af;rfl
 have g3:=run_storeCells_at X.P g off T (gQ s) 0 cs w aw (by rw[au];simpa using fy) U;simp only[mW]at g3;have O7:Nat.min s.size dl=s.size:=qi hle;have az:(Builtin.firstCells inf.size s.size (.string s)).run X.P w=.ok (gQ s).toArray w:=Hy w inf.size s;have ex:=b1 aM.ah ab;have nk:=b1 aM.ah aE;have kZ:=aM.qm (pre:=[]) (post:=Mr) (cs':=(bt cs.toList off (gQ s)).toArray) rfl;refine fC (by rw[ar];simp) (v:=.int .i64 s.size) (w':=w.setRow g (bt cs.toList off (gQ s)).toArray) ?_ ⟨_,_,_,_,⟨β,bE.put (x:=.val (.int .i64 s.size)) kZ ao rfl⟩,h⟩;have dg:(Builtin.copy_ #[t,u] o.type #[.slice (some ⟨g,off,none⟩) dl HM,.string s]).run X.P w=.ok (.int .i64 s.size) (w.setRow g (bt cs.toList off (gQ s)).toArray):=by simp[Builtin.copy_,run_underlying dv,Builtin.lenOf,O7,sizeOf,typeInfo,hi,az,g3,bt,goInt]
 unfold execOp;simp only[ar,resolve,invoke,builtin,bo,bR,bd,od,cC,lD,ex,nk,dg]
end
structure ee(I:aG)(a:Option Addr)(n c size b:Nat)(vs:List Value):Prop where
 len:vs.length=n*size
 cap:n<=c/\n*b<=140737488355328
 rd:n=0\/∃ ad,a=some ad/\ad.spot=none/\∃ cs T ah,I ad.block=some (.cells cs T ah)/\(cs.toList.drop ad.off).take (n*size)=vs
def ee.mono{n:Nat}(h:ee I a n c size b vs)(a7:∀ b o,I b=some o->I' b=some o):ee I' a n c size b vs:=
 ⟨h.len,h.cap,h.rd.imp id λ⟨ad,U,aa,cs,T,ah,ak,aL⟩=>⟨ad,U,aa,cs,T,ah,a7 _ _ ak,aL⟩⟩
def ee.idx{n:Nat}(h:ee I a n c size b vs)(ap:j<n) :
  ∃ ad,a=some ad/\∀ M,cx I M (ad.add (j*size)) size ((vs.drop (j*size)).take size):=by
 obtain⟨au,_,aD | ⟨ad,aN,an,cs,T,ah,a7,af⟩⟩:=h
 ·omega
 ·refine⟨ad,aN,λM=>?_⟩;have hle:j*size+size<=n*size:=by have:=jX size (show j+1<=n from ap);rw[h9,sp]at this;exact this
  refine⟨by rw[cY _ an],cs,T,ah,.inl (by rw[cY _ an];exact a7),?_,?_⟩;·rw[cY _ an,<-af,wB,B8,ub];congr 1;omega
  ·rw[kW,pD,au];omega
def ee.one{n:Nat}{f:α->Value}{l:List α}(h:ee I a n c 1 b (l.map f))(ap:j<n)(iB:j<l.length) :
  ∃ ad,a=some ad/\∀ M,cx I M (ad.add (j*1)) 1 [f l[j]]:=by
 obtain⟨ad,U,aa⟩:=h.idx ap;refine⟨ad,U,λM=>?_⟩;have:=aa M;rw[mr,<-List.map_drop,<-List.map_take,fe iB,pC,pE]at this;rw[mr];exact this
def zo{α:Type}(f:α->List Value)(size:Nat)(az:∀ x,(f x).length=size):∀ (l:List α) (j:Nat) (ap:j<l.length),((l.flatMap f).drop (j*size)).take size=f l[j]
 |x::l,0,_=>by simp only[qJ,sm,List.drop_zero,si];rw[<-az x];exact zj
 |x::l,j+1,ap=>by have aX:=zo f size az l j (by simpa using ap);simp only[qJ,B4];rw[<-aX,show(j+1)*size=(f x).length+j*size from by rw[az,h9];omega,Hx]
def hf{α:Type}(f:α->List Value)(size:Nat)(az:∀ x,(f x).length=size):∀ (l:List α),(l.flatMap f).length=l.length*size
 |[]=>by simp
 |x::l=>by simp[hf f size az l,az x,h9];omega
def ee.row{n:Nat}{f:α->List Value}(az:∀ x,(f x).length=size){l:List α}(h:ee I a n c size b (l.flatMap f))(ap:j<n)(iB:j<l.length) :
  ∃ ad,a=some ad/\∀ M,cx I M (ad.add (j*size)) size (f l[j]):=by
 obtain⟨ad,U,aa⟩:=h.idx ap;refine⟨ad,U,λM=>?_⟩;have:=aa M;rwa [zo f size az l j iB]at this
def cx.part{M:List aC}{a:Addr}{n k:Nat}(h:cx I M a n vs)(aj:k+m<=n):cx I M (a.add k) m ((vs.drop k).take m):=by
 obtain⟨an,cs,T,ah,U,aa,ak⟩:=h;refine⟨by rw[cY _ an],cs,T,ah,by rw[cY _ an];exact U,?_,?_⟩
 ·rw[cY _ an,<-aa,wB,B8,ub];congr 1;omega
 ·rw[kW,pD,ak];omega
structure aH where
 k:Int
 dY:Int
 s1:Int
 s2:Int
 gx:Int
 t:ByteArray
 lo:Int
 hi:Int
 ka:Option Addr
 kn:Nat
 h2:Nat
 kids:List Int
def aH.cells(d:aH):List Value:=[.int .u8 d.k,.int .u64 d.dY,.int .u64 d.s1,.int .u64 d.s2,.int .u64 d.gx,.string d.t,.int .i64 d.lo,.int .i64 d.hi,.slice d.ka d.kn d.h2]
def aH.val(d:aH):Value:=.agg #[.int .u8 d.k,.int .u64 d.dY,.int .u64 d.s1,.int .u64 d.s2,.int .u64 d.gx,.string d.t,.int .i64 d.lo,.int .i64 d.hi,.slice d.ka d.kn d.h2]
def fG(x:Int):Prop:=-9223372036854775808<=x/\x<=9223372036854775807
def eu(x:Int):Prop:=0<=x/\x<18446744073709551616
structure aH.ok(I:aG)(d:aH):Prop where
 k:0<=d.k/\d.k<256
 dY:eu d.dY
 s1:eu d.s1
 s2:eu d.s2
 gx:eu d.gx
 t:d.t.size<=9223372036854775807
 lo:fG d.lo
 hi:fG d.hi
 aV:ee I d.ka d.kn d.h2 1 8 (d.kids.map (.int .i64 ·))
 kids:∀ x∈d.kids,fG x
def aH.da(d:aH):d.cells.length=9:=rfl
def aH.ok.kn{d:aH}(h:d.ok I):d.kids.length=d.kn:=by have:=h.aV.len;simpa using this
structure cc where
 ae:List aH
 a:Option Addr
 n:Nat
 c:Nat
 root:Int
def cc.cells(t:cc):List Value:=[.slice t.a t.n t.c,.int .i64 t.root]
def cc.val(t:cc):Value:=.agg #[.slice t.a t.n t.c,.int .i64 t.root]
structure cc.ok(I:aG)(t:cc):Prop where
 aV:ee I t.a t.n t.c 9 96 (t.ae.flatMap aH.cells)
 ae:∀ d∈t.ae,d.ok I
 root:fG t.root
def cc.ok.n{t:cc}(h:t.ok I):t.ae.length=t.n:=by have:=h.aV.len;rw[hf _ 9 aH.da]at this;omega
structure aT where
 name:ByteArray
 t:cc
def aT.cells(d:aT):List Value:=[.string d.name,.slice d.t.a d.t.n d.t.c,.int .i64 d.t.root]
structure aT.ok(I:aG)(d:aT):Prop where
 name:d.name.size<=140737488355328
 t:d.t.ok I
def aT.da(d:aT):d.cells.length=3:=rfl
structure cO where
 ds:List aT
 a:Option Addr
 n:Nat
 c:Nat
def cO.val(g:cO):Value:=.agg #[.slice g.a g.n g.c]
structure cO.ok(I:aG)(g:cO):Prop where
 aV:ee I g.a g.n g.c 3 48 (g.ds.flatMap aT.cells)
 ds:∀ d∈g.ds,d.ok I
def cO.ok.n{g:cO}(h:g.ok I):g.ds.length=g.n:=by have:=h.aV.len;rw[hf _ 3 aT.da]at this;omega
def aH.ok.mono{d:aH}(h:d.ok I)(a7:∀ b o,I b=some o->I' b=some o):d.ok I':={ h with aV:=h.aV.mono a7 }
def cc.ok.mono{t:cc}(h:t.ok I)(a7:∀ b o,I b=some o->I' b=some o):t.ok I':=⟨h.aV.mono a7,λd ao=>(h.ae d ao).mono a7,h.root⟩
def aT.ok.mono{d:aT}(h:d.ok I)(a7:∀ b o,I b=some o->I' b=some o):d.ok I':=⟨h.name,h.t.mono a7⟩
def cO.ok.mono{g:cO}(h:g.ok I)(a7:∀ b o,I b=some o->I' b=some o):g.ok I':=⟨h.aV.mono a7,λd ao=>(h.ds d ao).mono a7⟩
def wrap_i64{x:Int}(h:fG x):IntKind.i64.wrap x=x:=by obtain⟨U,aa⟩:=h;unfold IntKind.wrap;simp only[IntKind.bits,IntKind.signed];simp;omega
open Go Go.Proofs
def aJ(t n:Nat)(a b:Option cF):Option cF:=bif Nat.blt t n then a else b
def lF(n:Nat):Option cF:=some ⟨1,8,[.pointer none],.pointer n⟩
def hg(n:Nat):Option cF:=some ⟨1,24,[.slice none 0 0],.slice n⟩
def bu:Option cF:=some ⟨1,8,[.nilFunc],.other⟩
def Cj:Option cF:=some ⟨1,8,[.int .i64 0],.int .i64⟩
def Ck:Option cF:=some ⟨1,1,[.int .u8 0],.int .u8⟩
def HN:Option cF:=some ⟨4,24,[.int .i64 0,.int .i64 0,.bool false,.int .u8 0],.struct [(2,0),(3,1),(4,2),(6,3)]⟩
def HO:Option cF:=some ⟨1,16,[.string ⟨#[]⟩],.string⟩
def Cl:Option cF:=some ⟨1,8,[.int .u64 0],.int .u64⟩
def Cm:Option cF:=some ⟨1,4,[.int .i32 0],.int .i32⟩
def HP:Option cF:=some ⟨1,24,[.slice none 0 0],.struct [(28,0)]⟩
def HQ:Option cF:=some ⟨2,32,[.slice none 0 0,.int .i64 0],.struct [(45,0),(3,1)]⟩
def HR:Option cF:=some ⟨3,40,[.bool false,.int .i64 0,.slice none 0 0],.struct [(4,0),(3,1),(51,2)]⟩
def HS:Option cF:=some ⟨9,96,[.int .u8 0,.int .u64 0,.int .u64 0,.int .u64 0,.int .u64 0,.string ⟨#[]⟩,.int .i64 0,.int .i64 0,.slice none 0 0],.struct [(5,0),(69,1),(9,5),(3,6),(3,7),(70,8)]⟩
def HT:Option cF:=some ⟨2,32,[.pointer none,.slice none 0 0],.struct [(172,0),(37,1)]⟩
def HU:Option cF:=some ⟨10,88,[.int .u8 0,.int .i64 0,.int .i64 0,.string ⟨#[]⟩,.int .u64 0,.int .u64 0,.int .u64 0,.int .u64 0,.int .i64 0,.int .i64 0],.struct [(5,0),(3,1),(3,2),(9,3),(69,4),(3,8),(3,9)]⟩
def HV:Option cF:=some ⟨2,16,[.int .i64 0,.int .i64 0],.struct [(3,0),(3,1)]⟩
def HW:Option cF:=some ⟨3,24,[.int .i64 0,.int .i64 0,.bool false],.struct [(3,0),(3,1),(4,2)]⟩
def HX:Option cF:=some ⟨4,40,[.pointer none,.pointer none,.pointer none,.string ⟨#[]⟩],.struct [(17,0),(17,1),(17,2),(9,3)]⟩
def su:Env:=λt=>bif Nat.blt t 325 then(aJ t 162 (aJ t 81 (aJ t 40 (aJ t 20 (aJ t 10 (aJ t 5 (aJ t 2 (aJ t 1 none bu) (aJ t 3 Cj (aJ t 4 Cj (some ⟨1,1,[.bool false],.bool⟩)))) (aJ t 7 Ck (aJ t 8 HN (aJ t 9 HN HO)))) (aJ t 15 (aJ t 12 HO (aJ t 13 Cl (some ⟨2,24,[.string ⟨#[]⟩,.int .u64 0],.struct [(9,0),(12,1)]⟩))) (aJ t 17 (aJ t 16 (lF 314) (lF 317)) (aJ t 18 (lF 324) (some ⟨1,8,[.pointer none],.struct [(17,0)]⟩))))) (aJ t 30 (aJ t 25 (aJ t 22 (aJ t 21 (some ⟨1,16,[.nilIface],.other⟩) Cm) bu) (aJ t 27 (aJ t 26 (some ⟨4,32,[.int .i64 0,.int .i64 0,.int .i64 0,.int .i64 0],.array 4 3⟩) (hg 25)) (aJ t 28 bu (aJ t 29 (hg 66) HP)))) (aJ t 35 (aJ t 32 (aJ t 31 HP bu) (aJ t 33 Cj (aJ t 34 none bu))) (aJ t 37 bu (aJ t 38 (hg 5) bu))))) (aJ t 60 (aJ t 50 (aJ t 45 (aJ t 42 (aJ t 41 Cl none) bu) (aJ t 47 (aJ t 46 (hg 72) HQ) (aJ t 48 HQ (aJ t 49 (lF 100) none)))) (aJ t 55 (aJ t 52 (aJ t 51 bu (hg 59)) (aJ t 53 HR (aJ t 54 HR none))) (aJ t 57 bu (aJ t 58 bu (some ⟨3,32,[.string ⟨#[]⟩,.int .i64 0,.int .i64 0],.struct [(9,0),(3,1),(3,2)]⟩))))) (aJ t 70 (aJ t 65 (aJ t 62 bu (aJ t 63 (lF 115) (aJ t 64 none bu))) (aJ t 67 (some ⟨3,48,[.string ⟨#[]⟩,.slice none 0 0,.int .i64 0],.struct [(9,0),(47,1)]⟩) (aJ t 68 Cl (some ⟨4,32,[.int .u64 0,.int .u64 0,.int .u64 0,.int .u64 0],.array 4 67⟩)))) (aJ t 75 (aJ t 72 (aJ t 71 (hg 3) HS) (aJ t 73 HS bu)) (aJ t 78 bu (aJ t 79 bu (aJ t 80 (some ⟨4,56,[.string ⟨#[]⟩,.string ⟨#[]⟩,.int .i64 0,.string ⟨#[]⟩],.struct [(9,0),(9,1),(3,2),(9,3)]⟩) (hg 79)))))))) (aJ t 121 (aJ t 101 (aJ t 91 (aJ t 86 (aJ t 83 (aJ t 82 bu none) (aJ t 84 bu (aJ t 85 bu none))) bu) (aJ t 96 bu (aJ t 98 (aJ t 97 (hg 9) bu) (aJ t 99 (hg 108) (some ⟨5,112,[.string ⟨#[]⟩,.slice none 0 0,.slice none 0 0,.slice none 0 0,.slice none 0 0],.struct [(9,0),(96,1),(70,2),(45,3),(98,4)]⟩))))) (aJ t 111 (aJ t 106 bu (aJ t 108 (some ⟨4,16,[.int .i64 0,.int .i32 0,.int .u8 0,.int .u8 0],.struct [(2,0),(21,1),(5,2),(5,3)]⟩) (aJ t 109 (hg 107) bu))) (aJ t 116 (aJ t 113 (aJ t 112 bu (hg 47)) (aJ t 114 (hg 163) (some ⟨4,88,[.string ⟨#[]⟩,.slice none 0 0,.slice none 0 0,.slice none 0 0],.struct [(9,0),(30,1),(112,2),(113,3)]⟩))) (aJ t 118 (some ⟨3,24,[.int .i64 0,.int .i64 0,.int .i64 0],.struct [(3,0),(3,1),(3,2)]⟩) bu)))) (aJ t 141 (aJ t 131 (aJ t 126 (aJ t 123 (aJ t 122 bu none) (aJ t 124 bu (aJ t 125 none bu))) (aJ t 128 (aJ t 127 (some ⟨2,16,[.int .i64 0,.int .i64 0],.array 2 3⟩) (hg 126)) bu)) (aJ t 136 (aJ t 133 (aJ t 132 (lF 59) bu) (aJ t 134 (lF 140) (aJ t 135 none bu))) (aJ t 138 (aJ t 137 bu (hg 182)) (aJ t 139 (hg 201) (some ⟨8,160,[.slice none 0 0,.int .i64 0,.int .i64 0,.slice none 0 0,.slice none 0 0,.slice none 0 0,.slice none 0 0,.slice none 0 0],.struct [(137,0),(3,1),(3,2),(45,3),(138,4),(28,5),(137,6),(137,7)]⟩))))) (aJ t 151 (aJ t 146 (aJ t 143 (aJ t 142 bu (some ⟨1,8,[.map none],.map 9 3⟩)) (aJ t 144 none bu)) bu) (aJ t 156 (aJ t 153 bu (aJ t 154 bu (aJ t 155 (some ⟨10,80,[.nilFunc,.nilFunc,.nilFunc,.nilFunc,.nilFunc,.nilFunc,.nilFunc,.nilFunc,.nilFunc,.nilFunc],.array 10 153⟩) bu))) bu))))) (aJ t 243 (aJ t 202 (aJ t 182 (aJ t 172 (aJ t 167 (aJ t 164 (aJ t 163 bu (hg 164)) (aJ t 165 (hg 117) bu)) (aJ t 169 (aJ t 168 bu none) (aJ t 170 bu (aJ t 171 none bu)))) (aJ t 177 (aJ t 174 (aJ t 173 (lF 174) HT) (aJ t 175 HT (some ⟨1,16,[.nilIface],.other⟩))) (aJ t 179 (aJ t 178 none bu) (aJ t 180 bu (aJ t 181 bu HU))))) (aJ t 192 (aJ t 187 (aJ t 184 (aJ t 183 HU bu) bu) (aJ t 189 bu (aJ t 190 HV (aJ t 191 HV (hg 190))))) (aJ t 197 (aJ t 194 bu (aJ t 195 bu (aJ t 196 bu (hg 4)))) (aJ t 199 (aJ t 198 bu none) (aJ t 200 bu (some ⟨5,96,[.int .u8 0,.string ⟨#[]⟩,.slice none 0 0,.slice none 0 0,.slice none 0 0],.struct [(5,0),(9,1),(70,2),(70,3),(37,4)]⟩)))))) (aJ t 222 (aJ t 212 (aJ t 207 (aJ t 204 (aJ t 203 none bu) (aJ t 205 bu (aJ t 206 bu (lF 201)))) (aJ t 209 bu (aJ t 210 bu (aJ t 211 bu (lF 5))))) (aJ t 217 bu (aJ t 219 (aJ t 218 bu (some ⟨20,160,List.replicate 20 (.int .i64 0),.array 10 126⟩)) bu))) (aJ t 232 (aJ t 227 (aJ t 224 (aJ t 223 bu none) (aJ t 225 bu (some ⟨1,24,[.slice none 0 0],.struct [(45,0)]⟩))) (aJ t 229 (aJ t 228 bu (some ⟨10,80,[.nilFunc,.nilFunc,.nilFunc,.nilFunc,.nilFunc,.nilFunc,.nilFunc,.nilFunc,.nilFunc,.nilFunc],.array 10 227⟩)) (aJ t 230 bu (aJ t 231 (lF 226) bu)))) (aJ t 237 (aJ t 234 (aJ t 233 (some ⟨1,8,[.pointer none],.other⟩) bu) (aJ t 235 bu (aJ t 236 bu (some ⟨1,8,[.map none],.map 5 240⟩)))) (aJ t 240 bu (aJ t 241 bu none)))))) (aJ t 284 (aJ t 263 (aJ t 253 bu (aJ t 258 (aJ t 255 bu (aJ t 256 bu (aJ t 257 bu (some ⟨24,24,List.replicate 24 (.int .u8 0),.array 24 5⟩)))) (aJ t 260 bu (aJ t 261 none (aJ t 262 bu HW))))) (aJ t 273 (aJ t 268 (aJ t 265 (aJ t 264 HW (hg 263)) (aJ t 266 (lF 263) bu)) (aJ t 270 (aJ t 269 (some ⟨3,48,[.string ⟨#[]⟩,.string ⟨#[]⟩,.string ⟨#[]⟩],.struct [(9,0),(9,1),(9,2)]⟩) (some ⟨30,480,List.replicate 30 (.string ⟨#[]⟩),.array 10 268⟩)) (aJ t 271 (hg 272) (aJ t 272 bu (some ⟨2,2,[.int .u8 0,.int .u8 0],.array 2 5⟩))))) (aJ t 278 (aJ t 275 (aJ t 274 bu none) (aJ t 276 bu (aJ t 277 bu none))) (aJ t 281 (aJ t 279 bu (aJ t 280 none bu)) (aJ t 282 bu (aJ t 283 bu (some ⟨20,160,List.replicate 20 (.int .u64 0),.array 20 67⟩))))))) (aJ t 304 (aJ t 294 (aJ t 289 (aJ t 286 (aJ t 285 (some ⟨1,4,[.int .u32 0],.int .u32⟩) (some ⟨65,65,List.replicate 65 (.int .u8 0),.array 65 5⟩)) (aJ t 287 bu (aJ t 288 bu (lF 295)))) (aJ t 291 bu (aJ t 292 bu (aJ t 293 bu (some ⟨1,8,[.map none],.map 5 5⟩))))) (aJ t 299 (aJ t 296 (some ⟨6,64,[.string ⟨#[]⟩,.string ⟨#[]⟩,.int .u8 0,.map none,.int .i64 0,.int .i64 0],.struct [(9,0),(9,1),(5,2),(293,3),(3,4),(32,5)]⟩) (aJ t 297 none bu)) (aJ t 301 bu (aJ t 302 bu (aJ t 303 bu (some ⟨3,32,[.int .i64 0,.int .i64 0,.string ⟨#[]⟩],.struct [(3,0),(3,1),(9,2)]⟩)))))) (aJ t 314 (aJ t 309 (aJ t 306 (aJ t 305 (some ⟨9,96,[.int .i64 0,.int .i64 0,.string ⟨#[]⟩,.int .i64 0,.int .i64 0,.string ⟨#[]⟩,.int .i64 0,.int .i64 0,.string ⟨#[]⟩],.array 3 303⟩) bu) (aJ t 307 bu (aJ t 308 bu (some ⟨32,32,List.replicate 32 (.int .u8 0),.array 32 5⟩)))) (aJ t 311 (aJ t 310 (some ⟨64,64,List.replicate 64 (.int .u8 0),.array 64 5⟩) bu) (aJ t 312 none (aJ t 313 bu HX)))) (aJ t 319 (aJ t 316 (aJ t 315 HX (some ⟨0,0,[],.array 0 16⟩)) (aJ t 317 (some ⟨0,0,[],.struct [(315,0)]⟩) (aJ t 318 (some ⟨0,0,[],.struct [(315,0)]⟩) Ck))) (aJ t 322 (aJ t 320 Ck (aJ t 321 bu Cm)) (aJ t 323 Cm (some ⟨11,48,[.int .u64 0,.int .u64 0,.int .u32 0,.int .u8 0,.int .u8 0,.int .u8 0,.int .u8 0,.nilFunc,.pointer none,.int .i32 0,.int .i32 0],.struct [(12,0),(12,1),(284,2),(318,3),(5,4),(5,5),(319,6),(320,7),(211,8),(321,9),(322,10)]⟩)))))))))else none
def a8:bV Tryz.prog su:=NX 325 (λt h=>by
 have aP:Nat.blt t 325=false:=by
  cases ag:Nat.blt t 325 with
  |false=>rfl| true=>exact absurd (bk ag) (by omega)
 simp only[su,aP,bj]) (by kernel_rfl)
def letter(c:UInt8):Bool:=decide (97<=c.toNat/\c.toNat<=122)||(decide (65<=c.toNat/\c.toNat<=90)||decide (c.toNat=95))
def digit(c:UInt8):Bool:=decide (48<=c.toNat/\c.toNat<=57)
def HY(I:aG)(c:UInt8):Spec Tryz.prog 136 [.int .u8 c.toNat] I [] (λv I' M'=>v=.bool (letter c)/\I'=I/\M'=[]):=by
 refine cB [] a8 Tryz.func136 rfl rfl rfl ?_;intro B aD
 repeat' (refine b9.mk (λh=>?_) (λh=>?_))
 all_goals
  refine⟨_,_,.refl,?_⟩;refine⟨?_,rfl,rfl⟩;simp_all[letter]
  all_goals first
   |omega|(rw[rT];simp;omega)
def O8(I:aG)(c:UInt8):Spec Tryz.prog 137 [.int .u8 c.toNat] I [] (λv I' M'=>v=.bool (digit c)/\I'=I/\M'=[]):=by
 refine cB [] a8 Tryz.func137 rfl rfl rfl ?_;intro B aD
 repeat' (refine b9.mk (λh=>?_) (λh=>?_))
 all_goals
  refine⟨_,_,.refl,?_⟩;refine⟨?_,rfl,rfl⟩;simp_all[digit]
  all_goals first
   |omega|(rw[rT];simp;omega)
def sv(s:ByteArray):s.data.toList.length=s.size:=qI
def O9(I:aG)(s:ByteArray)(an:s.size<=140737488355328):Spec Tryz.prog 166 [.string s] I [] (λv I' M'=>v=.string s/\I'=I/\M'=[]):=by
 refine cB [] a8 Tryz.func166 rfl rfl rfl ?_;intro B aD;refine a1.mk (λh=>?_) (λh=>?_)
 ·refine⟨_,_,.refl,?_,rfl,rfl⟩;have U:s.size=0:=by simpa using h
  have:s=.empty:=by apply nV;exact B2 U
  rw[this];rfl
 ·have U:s.size≠0:=by simpa using h
  refine yP.mk s.size s.size rfl rfl (cK _) (by show 1*s.size<=_;omega) (by omega) ?_;refine eA.mk λb ag sw=>?_;refine a9.HL a8 rfl (by simp) (e:=5) rfl rfl rfl rfl rfl rfl (cK _) ?_ (.refl _) ?_;·simp[tJ,madeCells]
  refine c2.mk ⟨b,0,none⟩ 0 rfl rfl (by omega) ?_;refine a9.Cg a8 rfl (by simp) (e:=5) rfl rfl rfl rfl (g:=b) (l:=s.data.toList) rfl ?_ ?_ ?_ (.refl _) ?_ ?_;·show b0.val (.int .i64 (s.size:Int))=b0.val (.int .i64 (s.data.toList.length:Int));rw[sv]
  ·intro e;have:=congrArg List.length e;rw[sv]at this;exact U this
  ·rw[sv];omega
  ·rw[sv];have au:(gQ s).length=s.size:=by simp[gQ]
   simp only[bt];rw[pE,lC,wz (by rw[au];exact cK _),<-au,List.take_length];rfl
  ·exact⟨_,_,.refl,rfl,rfl,rfl⟩
def HZ(I:aG)(s:ByteArray)(an:s.size<=140737488355328):Spec Tryz.prog 138 [.string s] I [] (λv I' M'=>v=.string s/\I'=I/\M'=[]):=by refine cB [] a8 Tryz.func138 rfl rfl rfl ?_;intro B aD;refine aY.mk [] [] _ (.refl _) (O9 I s an) ?_;rintro v I' M' -⟨rfl,rfl,rfl⟩;exact⟨_,_,.refl,rfl,rfl,rfl⟩
def mA(c:UInt8):Bool:=letter c||digit c
def mB(s:ByteArray):Nat:=match s.data.toList with
 |[]=>0| c::r=>bif letter c then 1+(r.takeWhile mA).length else 0
def H0{α:Type}(p:α->Bool):∀ (l:List α) (i:Nat),i<=l.length->(∀ j (h:j<l.length),j<i->p l[j]=true)->(∀ (h:i<l.length),p l[i]=false)->(l.takeWhile p).length=i
 |[],i,h,_,_=>by simp at h;simp[h]
 |x::l,0,_,_,h=>by have:=h (by simp);simp only[si]at this;simp[this]
 |x::l,i+1,hi,U,aa=>by have ab:=U 0 (by simp) (by omega);simp only[si]at ab;have aX:=H0 p l i (by simpa using hi) (λj ap zg=>by have:=U (j+1) (by simpa using ap) (by omega);simpa using this) (λh=>by have:=aa (by simpa using h);simpa using this);simp[ab,aX]
def O'{s:ByteArray}(aD:0<s.size)(au:letter s[0]=true)(U:1<=i)(hi:i<=s.size)(aN:∀ j (h:j<s.size),1<=j->j<i->mA s[j]=true)(ag:∀ (h:i<s.size),mA s[i]=false):mB s=i:=by
 have get:∀ j (h:j<s.size),s[j]=s.data.toList[j]'(by rw[sv];exact h):=λj h=>rfl;unfold mB;have hlen:=sv s;cases ao:s.data.toList with
 |nil=>rw[ao]at hlen;simp at hlen;omega
 |cons c r=>
  have g:∀ j (h:j<s.size),s[j]=(c::r)[j]'(by rw[<-ao,hlen];exact h):=λj h=>by rw[get j h];simp only[ao]
  rw[ao]at hlen;have aB:letter c=true:=by rw[g 0 aD]at au;simpa using au
  simp only[aB,bn];simp only[c8]at hlen;rw[H0 mA r (i-1) (by omega) (λj ap zg=>by
   have ak:j+1<s.size:=by omega
   have:=aN (j+1) ak (by omega) (by omega);rw[g (j+1) ak]at this;simpa using this) (λh=>by
   have ak:i<s.size:=by omega
   have:=ag ak;rw[g i ak]at this;have e:i=(i-1)+1:=by omega
   rw[List.getElem_cons]at this;rw[dif_neg (by omega)]at this;exact this)]
  omega
def Pa(I:aG)(s:ByteArray)(an:s.size<=140737488355328):Spec Tryz.prog 100 [.string s] I [] (λv I' M'=>v=.string (s.extract 0 (mB s))/\I'=I/\M'=[]):=by
 refine cB [] a8 Tryz.func100 rfl rfl rfl ?_;intro B aD;have cv:∀ {s:ByteArray},mB s=0->s.extract 0 (mB s)=⟨#[]⟩:=λh=>by rw[h];apply nV;simp[yF]
 refine b9.mk (λh=>?_) (λh=>?_)
 ·have U:s≠⟨#[]⟩:=by simpa using h
  have nZ:0<s.size:=by refine Nat.pos_of_ne_zero λe=>U ?_;apply nV;exact B2 e
  refine rX.mk 0 rfl nZ ?_;refine aY.mk [] [] _ (.refl _) (HY I s[0]) ?_;rintro v I' M' -⟨rfl,rfl,rfl⟩;refine a1.mk (λh=>?_) (λh=>?_)
  ·have au:letter s[0]=false:=by simpa using h
   refine⟨_,_,.refl,?_,rfl,rfl⟩;rw[cv]
   ·unfold mB;cases ao:s.data.toList with
    |nil=>rfl
    |cons c r=>
     have:s[0]=c:=by show s.data.toList[0]=c;simp only[ao];rfl
     rw[this]at au;simp[au]
  ·have au:letter s[0]=true:=by simpa using h
   refine fh.inv (ι:=Nat) (λi=>{ b8:=[(0,.val (.string s)),(3,.val (.int .i64 i))],dL:=I' }) (λi=>1<=i/\i<=s.size/\∀ j (h:j<s.size),1<=j->j<i->mA s[j]=true) (λi=>s.size-i) ?_ ?_;·exact⟨1,⟨by omega,by omega,λj _ U aa=>by omega⟩,.refl,y3,.nil⟩
   ·rintro i⟨ec,gK,fD⟩;have next:∀ (a0:i<s.size),mA s[i]=true->(1<=i+1/\i+1<=s.size/\∀ k (h:k<s.size),1<=k->k<i+1->mA s[k]=true)/\s.size-(i+1)<s.size-i:=λa0 aB=>
     ⟨⟨by omega,by omega,λj ap U aa=>by
      by_cases e:j=i;·subst e;exact aB
      ·exact fD j ap U (by omega)⟩,by omega⟩
    have out:(∀ (h:i<s.size),mA s[i]=false)->s.extract 0 i=s.extract 0 (mB s):=λaF=>by rw[O' nZ au ec gK fD aF]
    have bW:(s.extract 0 i).size<=140737488355328:=by rw[ByteArray.size_extract];omega
    have d':IntKind.i64.wrap ((i:Int)+1)=((i+1:Nat):Int):=by rw[wrap_i64 ⟨by omega,by omega⟩];omega
    refine b9.mk (λh=>?_) (λh=>?_)
    ·have a0:i<s.size:=by simpa using h
     refine rX.mk i rfl a0 ?_;refine aY.mk [] [] _ (.refl _) (HY I' s[i]) ?_;rintro v I' M' -⟨rfl,rfl,rfl⟩;refine b9.mk (λh=>?_) (λh=>?_)
     ·refine rX.mk i rfl a0 ?_;refine aY.mk [] [] _ (.refl _) (O8 _ s[i]) ?_;rintro v I' M' -⟨rfl,rfl,rfl⟩;refine a1.mk (λaa=>?_) (λaa=>?_)
      ·refine bp.mk _ d' ?_;exact⟨i+1,next a0 (by simp only[mA];rw[show digit s[i]=true from aa];simp),.refl,y3,.nil⟩
      ·refine h0.mk 0 i rfl rfl (by omega) (by omega) ?_;refine aY.mk [] [] _ (.refl _) (HZ _ _ bW) ?_;rintro v I' M' -⟨rfl,rfl,rfl⟩;refine⟨_,_,.refl,?_,rfl,rfl⟩;rw[<-out λ_=>by simp only[mA];rw[show letter s[i]=false from h,show digit s[i]=false from aa];rfl]
     ·refine bp.mk _ d' ?_;exact⟨i+1,next a0 (by simp only[mA];rw[show letter s[i]=true from h];simp),.refl,y3,.nil⟩
    ·have eD:¬ i<s.size:=by simpa using h
     refine h0.mk 0 i rfl rfl (by omega) (by omega) ?_;refine aY.mk [] [] _ (.refl _) (HZ _ _ bW) ?_;rintro v I' M' -⟨rfl,rfl,rfl⟩;refine⟨_,_,.refl,?_,rfl,rfl⟩;rw[<-out λh=>(eD h).elim]
 ·have U:s=⟨#[]⟩:=by simpa using h
  subst U;refine⟨_,_,.refl,?_,rfl,rfl⟩;rw[cv];rfl
def hH(s:ByteArray):Bool:=decide (s≠⟨#[]⟩)&&(decide (s.size<=32)&&decide (mB s=s.size))
def Pb(s:ByteArray):mB s<=s.size:=by
 unfold mB;have au:=sv s;cases ao:s.data.toList with
 |nil=>simp
 |cons c r=>
  rw[ao]at au;simp only[c8]at au;simp only;cases letter c;·simp
  ·simp only[bn];have:=(List.takeWhile_sublist (p:=mA) (l:=r)).length_le;omega
def Cn(I:aG)(s:ByteArray):Spec Tryz.prog 66 [.string s] I [] (λv I' M'=>v=.bool (hH s)/\I'=I/\M'=[]):=by
 refine cB [] a8 Tryz.func66 rfl rfl rfl ?_;intro B aD;refine b9.mk (λU=>?_) (λU=>?_)
 ·refine b9.mk (λaa=>?_) (λaa=>?_)
  ·have ia:s.size<=32:=by simp at aa;omega
   refine aY.mk [] [] _ (.refl _) (Pa I s (by omega)) ?_;rintro v I' M' -⟨rfl,rfl,rfl⟩;refine⟨_,_,.refl,?_,rfl,rfl⟩;have hle:=Pb s;have ax:(s.extract 0 (mB s)).size=mB s:=by rw[ByteArray.size_extract];omega
   simp_all[hH]
   all_goals omega
  ·refine⟨_,_,.refl,?_,rfl,rfl⟩;simp_all[hH]
   all_goals omega
 ·refine⟨_,_,.refl,?_,rfl,rfl⟩;simp_all[hH]
def k0:List Int:=[0,0,0,0,0,0,0,0,2,-1,2,-1,1,1,1,1,1,1,1,1]
def uf(k:Nat):Int:=k0.getD (k*2) 0
def om(k:Nat):Int:=k0.getD (k*2+1) 0
def k1(I:aG):Prop:=∃ T ah,I 0=some (.cells (k0.map (Value.int .i64)).toArray T ah)
def k1.rd(h:k1 I)(M:List aC)(ap:j<20):cx I M (Addr.add ⟨0,0,none⟩ j) 1 [.int .i64 (k0.getD j 0)]:=by
 obtain⟨T,ah,h⟩:=h;rw[cY _ rfl];refine⟨rfl,_,T,ah,.inl h,?_,rfl⟩;simp only[dd];have:∀ j:Fin 20,(((k0.map (Value.int .i64)).toArray.toList.drop j.val).take 1)=[Value.int .i64 (k0.getD j.val 0)]:=by
  intro j;have U:j.val<(k0.map (Value.int .i64)).length:=by simp[k0]
  rw[Bo,fe U,pC,pE];have aa:j.val<k0.length:=by simp[k0]
  simp[c1,aa]
 exact this ⟨j,ap⟩
def k1.Pc(h:k1 I)(M:List aC)(ap:i+j<20):cx I M ((Addr.add ⟨0,0,none⟩ i).add j) 1 [.int .i64 (k0.getD (i+j) 0)]:=by
 have e:(Addr.add ⟨0,0,none⟩ i).add j=Addr.add ⟨0,0,none⟩ (i+j):=by rw[cY ⟨_,0,none⟩ rfl i,cY _ rfl j,cY _ rfl (i+j)];simp
 rw[e];exact h.rd M ap
def aH.oo(d:aH):Bool:=d.dY == 0&&(d.s1 == 0&&(d.s2 == 0&&d.gx == 0))
def fits(d:aH)(n:Int):Bool:=
 bif decide (10<=d.k)then false else
 bif decide (n<uf d.k.toNat)||(decide (0<=om d.k.toNat)&&decide (om d.k.toNat<n))then false else
 bif decide (d.k=1)then decide (d.t=⟨#[]⟩)&&(decide (d.lo=0)&&decide (d.hi=0))else
 bif decide (d.k=2)then(!(decide (d.t=⟨#[]⟩)||decide (255<d.t.size)))&&(d.oo&&(decide (d.lo=0)&&decide (d.hi=0)))else
 bif decide (d.k=3)||decide (d.k=9)then hH d.t&&(d.oo&&(decide (d.lo=0)&&decide (d.hi=0)))else
 bif decide (d.k=6)then(!(decide (d.lo<0)||(decide (99<d.lo)||(decide (d.hi≠-1)&&(decide (d.hi<d.lo)||decide (99<d.hi))))))&&(d.oo&&decide (d.t=⟨#[]⟩))else
 d.oo&&(decide (d.t=⟨#[]⟩)&&(decide (d.lo=0)&&decide (d.hi=0)))
set_option maxRecDepth 20000 in
def H2(aB:k1 I){d:aH}(ao:d.ok I)(n:Int):Spec Tryz.prog 140 [d.val,.int .i64 n] I [] (λv I' M'=>v=.bool (fits d n)/\I'=I/\M'=[]):=by
 refine cB [] a8 Tryz.func140 rfl rfl rfl ?_;intro B aD;have aj:=ao.k;refine bp.mk d.k (by unfold IntKind.wrap;simp[IntKind.bits,IntKind.signed];omega) ?_;refine a1.mk (λh=>?_) (λh=>?_)
 ·refine⟨_,_,.refl,?_,rfl,rfl⟩;simp at h;simp[fits,h]
 ·have qO:d.k<10:=by simpa using h
  have ap:d.k=((d.k.toNat:Nat):Int):=by omega
  have H3:d.k.toNat<10:=by omega
  refine dt.draw a8 rfl rfl rfl ?_;refine eo.mk d.k.toNat ap H3 ?_;refine eo.mk 0 rfl (by omega) ?_;refine ba.mk [.int .i64 (uf d.k.toNat)] (aB.rd _ (j:=d.k.toNat*2) (by omega)) ?_;refine eo.mk d.k.toNat ap H3 ?_;refine eo.mk 1 rfl (by omega) ?_;refine ba.mk [.int .i64 (om d.k.toNat)] (aB.Pc _ (i:=d.k.toNat*2) (j:=1) (by omega)) ?_
  repeat' first
   |refine b9.mk (λh=>?_) (λh=>?_)| refine a1.mk (λh=>?_) (λh=>?_)| refine eI.HI a8 (e:=67) rfl rfl rfl rfl (by kernel_rfl) ?_|(refine aY.mk [] [] _ (.refl _) (Cn _ _) ?_;rintro v I' M' -⟨rfl,rfl,rfl⟩)
  all_goals refine⟨_,_,.refl,?_⟩
  all_goals refine⟨?_,rfl,rfl⟩
  all_goals clear aB ao ap
  all_goals (first | (simp_all[fits,aH.oo];done) | (simp_all[fits,aH.oo];omega) | (simp_all[fits,aH.oo];rw[rT];simp;omega))
def hh(i:Nat):List Int->List Bool->Option (List Bool)
 |[],s=>some s| k::ks,s=>bif decide (k<0)||(decide ((i:Int)<=k)||s.getD k.toNat false)then none else hh i ks (s.set k.toNat true)
def gm:Nat->List aH->List Bool->Option (List Bool)
 |_,[],s=>some s
 |i,d::ds,s=>bif fits d d.kids.length then(match hh i d.kids s with
  |some bx=>gm (i+1) ds bx| none=>none)else none
def k2(root:Int):Nat->List Bool->Bool
 |_,[]=>true| i,b::s=>bif b == decide ((i:Int)=root)then false else k2 root (i+1) s
def right(t:cc):Bool:=decide (0<=t.root)&&(decide (t.root<t.ae.length)&&(match gm 0 t.ae (List.replicate t.ae.length false)with
 |some s=>k2 t.root 0 s| none=>false))
def H4(v:Value)(n:Nat):rowOf [v] n=List.replicate n v:=by
 apply B6
 ·simp[tJ,madeCells]
 ·intro i U aa;simp[tJ,madeCells,Nat.mod_one]
def qP(b:Nat)(s:List Bool):aC:=⟨b,.cells (s.map Value.bool).toArray 4 (0,0)⟩
def H5{M:List aC}{s:List Bool}(aZ:qP b s∈M)(ap:j<s.length):cx I M ((⟨b,0,none⟩:Addr).add (j*1)) 1 [.bool s[j]]:=by
 rw[cY _ rfl];refine⟨rfl,_,4,(0,0),.inr ⟨_,aZ,rfl,rfl⟩,?_,rfl⟩;have U:j<(s.map Value.bool).length:=by simpa using ap
 simp only[dd,mr];rw[fe U,pC,pE];simp
def Pd(s:List Bool)(j:Nat)(ap:j<s.length)(b:Bool):bt (s.map Value.bool) j [.bool b]=(s.set j b).map Value.bool:=by unfold bt;rw[zl,B1];simp[ap]
def df.add{M:List aC}{o k:Nat}{K:List aC->Prop}(pre post:List aC)(cs:Array Value)(T:Nat)(aZ:M=pre++⟨b,.cells cs T (0,0)⟩::post)(ag:o+k+vs.length<=cs.size)(U:eP vs=true)
  (h:K (pre++⟨b,.cells (bt cs.toList (o+k) vs).toArray T (0,0)⟩::post)):df M ((⟨b,o,none⟩:Addr).add k) vs K:=by
 rw[cY _ rfl];exact .mk pre post cs T aZ rfl ag U h
def ug(aB:k1 I){t:cc}(aq:t.ok I):Spec Tryz.prog 103 [t.val] I [] (λv I' M'=>v=.bool (right t)/\I'=I/\M'=[]):=by
 refine cB [] a8 Tryz.func103 rfl rfl rfl ?_;intro B aD;have aF:=aq.n;have lG:=aq.aV.cap;refine b9.mk (λU=>?_) (λU=>?_)
 ·refine a1.mk (λaa=>?_) (λaa=>?_)
  ·refine⟨_,_,.refl,?_,rfl,rfl⟩;simp at aa;have:¬ t.root<t.ae.length:=by omega
   simp[right,this]
  ·have aI:0<=t.root:=by simpa using U
   have aQ:t.root<t.ae.length:=by simp at aa;omega
   refine yP.mk t.n t.n rfl rfl (cK _) (by show 1*t.n<=_;omega) (by omega) ?_;refine eA.mk λb ag sw=>?_;refine fh.inv (ι:=Nat×List Bool) (λx=>{ b8:=[(1,.ref 1 0),(3,.val (.slice (some ⟨b,0,none⟩) t.n t.n)),(26,.val (.slice t.a t.n t.c)),(27,.val (.int .i64 t.n)),(28,.val (.int .i64 x.1))],cl:=[(1,t.cells)],dL:=I,fg:=[qP b x.2] }) (λx=>x.1<=t.n/\x.2.length=t.n/\gm 0 t.ae (List.replicate t.ae.length false)=gm x.1 (t.ae.drop x.1) x.2) (λx=>t.n-x.1) ?_ ?_;·refine⟨(0,List.replicate t.n false),⟨by omega,by simp,by simp[aF]⟩,?_,m8,.cons rfl .nil⟩;show ht _ _ [⟨b,.cells (rowOf [Value.bool false] (t.n*1)).toArray 4 (0,0)⟩] _ [qP b (List.replicate t.n false)];rw[H4,mr];simp only[qP,List.map_replicate];exact .refl
   ·rintro⟨i,s⟩⟨ec,gK,fD⟩;simp only at ec gK fD;refine a1.mk (λh=>?_) (λh=>?_)
    ·have a0:i<t.n:=by simpa using h
     have cJ:i<t.ae.length:=by omega
     obtain⟨ad,dH,cj⟩:=aq.aV.row aH.da a0 cJ;have gn:=aq.ae t.ae[i] (et cJ);have gJ:=gn.kn;have hj:t.ae.drop i=t.ae[i]::t.ae.drop (i+1):=fe cJ;refine c2.mk ad i dH rfl a0 ?_;refine ba.mk t.ae[i].cells (cj _) ?_;refine aY.mk [] [qP b s] _ (.refl _) (H2 aB gn t.ae[i].kn) ?_;rintro v I' M' -⟨rfl,rfl,rfl⟩;refine a1.mk (λak=>?_) (λak=>?_)
     ·refine⟨_,_,.sub (fa _) .refl,?_,rfl,rfl⟩;have az:fits t.ae[i] t.ae[i].kids.length=false:=by rw[gJ];simpa using ak
      have:right t=false:=by unfold right;rw[fD,hj];simp[gm,az]
      rw[this]
     ·have az:fits t.ae[i] t.ae[i].kids.length=true:=by rw[gJ];simpa using ak
      refine fh.inv (ι:=Nat×List Bool) (λx=>{ b8:=[(1,.ref 1 0),(3,.val (.slice (some ⟨b,0,none⟩) t.n t.n)),(4,.val (.int .i64 i)),(26,.val (.slice t.a t.n t.c)),(27,.val (.int .i64 t.n)),(28,.val (.int .i64 i)),(40,.val (.slice t.ae[i].ka t.ae[i].kn t.ae[i].h2)),(41,.val (.int .i64 t.ae[i].kn)),(42,.val (.int .i64 x.1))],cl:=[(1,t.cells)],dL:=I',fg:=[qP b x.2] }) (λx=>x.1<=t.ae[i].kn/\x.2.length=t.n/\hh i t.ae[i].kids s=hh i (t.ae[i].kids.drop x.1) x.2) (λx=>t.ae[i].kn-x.1) ?_ ?_;·exact⟨(0,s),⟨by omega,gK,rfl⟩,.refl,y5,.cons rfl .nil⟩
      ·rintro⟨j,bx⟩⟨Co,wN,uh⟩;simp only at Co wN uh;refine a1.mk (λh=>?_) (λh=>?_)
       ·have fk:j<t.ae[i].kn:=by simpa using h
        have hI:j<t.ae[i].kids.length:=by omega
        obtain⟨lH,lI,lJ⟩:=gn.aV.one fk hI;refine c2.mk lH j lI rfl fk ?_;refine ba.mk [.int .i64 t.ae[i].kids[j]] (lJ _) ?_;have oq:t.ae[i].kids.drop j=t.ae[i].kids[j]::t.ae[i].kids.drop (j+1):=fe hI;have bad:(decide (t.ae[i].kids[j]<0)||(decide ((i:Int)<=t.ae[i].kids[j])||bx.getD t.ae[i].kids[j].toNat false))=true->right t=false:=λag=>by unfold right;rw[fD,hj];simp only[gm,az,bn,uh,oq,hh,ag];simp
        refine b9.mk (λaL=>?_) (λaL=>?_)
        ·refine b9.mk (λbe=>?_) (λbe=>?_)
         ·simp only[nb,Int.not_lt,Int.not_le]at aL be;have sy:t.ae[i].kids[j]=((t.ae[i].kids[j].toNat:Nat):Int):=by omega
          have dI:t.ae[i].kids[j].toNat<t.n:=by omega
          have pG:t.ae[i].kids[j].toNat<bx.length:=by omega
          refine c2.mk ⟨b,0,none⟩ t.ae[i].kids[j].toNat rfl sy dI ?_;refine ba.mk [.bool bx[t.ae[i].kids[j].toNat]] (H5 (by simp) pG) ?_;refine a1.mk (λbT=>?_) (λbT=>?_);·refine⟨_,_,.sub (fa _) .refl,?_,rfl,rfl⟩;rw[bad];simp[c1,pG,bT]
          ·refine c2.mk ⟨b,0,none⟩ t.ae[i].kids[j].toNat rfl sy dI ?_;refine df.add [] [] _ 4 rfl ?_ rfl ?_
           ·simp only[mU,j9];show 0+t.ae[i].kids[j].toNat*1+1<=_;omega
           have d':IntKind.i64.wrap ((j:Int)+1)=((j+1:Nat):Int):=by rw[wrap_i64 ⟨by omega,by have:=gn.aV.cap;omega⟩];omega
           refine bp.mk _ d' ?_;refine⟨(j+1,bx.set t.ae[i].kids[j].toNat true),⟨⟨by omega,by simp[wN],?_⟩,by show _<_;simp only;omega⟩,?_,y5,.cons rfl .nil⟩
           ·simp only;rw[uh,oq];have aR:(decide (t.ae[i].kids[j]<0)||(decide ((i:Int)<=t.ae[i].kids[j])||bx.getD t.ae[i].kids[j].toNat false))=false:=by
             have ax:¬ t.ae[i].kids[j]<0:=by omega
             have aS:¬ (i:Int)<=t.ae[i].kids[j]:=by omega
             simp[ax,aS,c1,pG,show bx[t.ae[i].kids[j].toNat]=false from bT]
            simp only[hh,aR,bj]
           ·have e:=Pd bx t.ae[i].kids[j].toNat pG true;simp only[qP];rw[<-e];simp only[dd,mr];exact .refl
         ·refine⟨_,_,.sub (fa _) .refl,?_,rfl,rfl⟩;rw[bad];simp at be;simp[be]
        ·refine⟨_,_,.sub (fa _) .refl,?_,rfl,rfl⟩;rw[bad];simp at aL;simp[aL]
       ·have fk:¬ j<t.ae[i].kn:=by simpa using h
        have sA:t.ae[i].kids.drop j=[]:=iZ (by omega);have d':IntKind.i64.wrap ((i:Int)+1)=((i+1:Nat):Int):=by rw[wrap_i64 ⟨by omega,by omega⟩];omega
        refine bp.mk _ d' ?_;refine⟨(i+1,bx),⟨⟨by omega,wN,?_⟩,by show _<_;simp only;omega⟩,.refl,m8,.cons rfl .nil⟩;simp only;rw[fD,hj];simp only[gm,az,bn,uh,sA,hh]
    ·have eD:¬ i<t.n:=by simpa using h
     have eC:t.ae.drop i=[]:=iZ (by omega);have e':gm 0 t.ae (List.replicate t.ae.length false)=some s:=by rw[fD,eC];rfl
     have al:right t=k2 t.root 0 s:=by unfold right;rw[e'];simp[aI,aQ]
     refine fh.inv (ι:=Nat) (λm=>{ b8:=[(1,.ref 1 0),(64,.val (.slice (some ⟨b,0,none⟩) t.n t.n)),(65,.val (.int .i64 t.n)),(66,.val (.int .i64 m))],cl:=[(1,t.cells)],dL:=I,fg:=[qP b s] }) (λm=>m<=t.n/\k2 t.root 0 s=k2 t.root m (s.drop m)) (λm=>t.n-m) ?_ ?_;·exact⟨0,⟨by omega,rfl⟩,.refl,ei,.cons rfl .nil⟩
     ·rintro m⟨H6,ot⟩;refine a1.mk (λh=>?_) (λh=>?_)
      ·have H7:m<t.n:=by simpa using h
       have H8:m<s.length:=by omega
       have k3:s.drop m=s[m]::s.drop (m+1):=fe H8;refine c2.mk ⟨b,0,none⟩ m rfl rfl H7 ?_;refine ba.mk [.bool s[m]] (H5 (by simp) H8) ?_;refine a1.mk (λer=>?_) (λer=>?_)
       ·refine⟨_,_,.sub (fa _) .refl,?_,rfl,rfl⟩;have:right t=false:=by rw[al,ot,k3];simp only[k2,show(s[m] == decide ((m:Int)=t.root))=true from er,bn]
        rw[this]
       ·have d':IntKind.i64.wrap ((m:Int)+1)=((m+1:Nat):Int):=by rw[wrap_i64 ⟨by omega,by omega⟩];omega
        refine bp.mk _ d' ?_;refine⟨m+1,⟨⟨by omega,?_⟩,by omega⟩,.refl,ei,.cons rfl .nil⟩;rw[ot,k3];simp only[k2,show(s[m] == decide ((m:Int)=t.root))=false from er,bj]
      ·have H7:¬ m<t.n:=by simpa using h
       have k3:s.drop m=[]:=iZ (by omega);refine⟨_,_,.sub (fa _) .refl,?_,rfl,rfl⟩;rw[al,ot,k3];rfl
 ·refine⟨_,_,.refl,?_,rfl,rfl⟩;have:¬ 0<=t.root:=by simp at U;omega
  simp[right,this]
def qQ(b:Nat)(s:List Int):aC:=⟨b,.cells (s.map (Value.int .i64)).toArray 3 (0,0)⟩
def Pe{M:List aC}{s:List Int}(aZ:qQ b s∈M)(ap:j<s.length):cx I M ((⟨b,0,none⟩:Addr).add (j*1)) 1 [.int .i64 s[j]]:=by
 rw[cY _ rfl];refine⟨rfl,_,3,(0,0),.inr ⟨_,aZ,rfl,rfl⟩,?_,rfl⟩;have U:j<(s.map (Value.int .i64)).length:=by simpa using ap
 simp only[dd,mr];rw[fe U,pC,pE];simp
def zp{M:List aC}{s:List Int}{v:Int}(ap:j<s.length)(af:s[j]=v)(aZ:qQ b s∈M):cx I M ((⟨b,0,none⟩:Addr).add (j*1)) 1 [.int .i64 v]:=af ▸ Pe aZ ap
def H9(s:List Int)(j:Nat)(ap:j<s.length)(b:Int):bt (s.map (Value.int .i64)) j [.int .i64 b]=(s.set j b).map (Value.int .i64):=by unfold bt;rw[zl,B1];simp[ap]
def Pf(aB:k1 I){t:cc}(aq:t.ok I):Spec Tryz.prog 154 [t.val] I [] (λv I' M'=>v=.int .i64 (bif right t then(t.n:Int)else 0)/\I'=I/\M'=[]):=by
 refine cB [] a8 Tryz.func154 rfl rfl rfl ?_;intro B aD;refine aY.mk [] [] _ (.refl _) (ug aB aq) ?_;rintro v I' M' -⟨rfl,rfl,rfl⟩;refine a1.mk (λh=>?_) (λh=>?_)
 ·refine⟨_,_,.refl,?_,rfl,rfl⟩;rw[show right t=false by simpa using h];rfl
 ·refine⟨_,_,.refl,?_,rfl,rfl⟩;rw[show right t=true by simpa using h];rfl
def H'{i:Nat}:∀ {ks:List Int} {s bx:List Bool},hh i ks s=some bx->∀ k∈ks,0<=k/\k<i
 |[],s,bx,_,k,aj=>by cases aj
 |x::ks,s,bx,h,k,aj=>by
  unfold hh at h;cases ag:(decide (x<0)||(decide ((i:Int)<=x)||s.getD x.toNat false))with
  |true=>rw[ag]at h;cases h
  |false=>
   rw[ag]at h;simp only[mq,nb]at ag;rcases cU.1 aj with rfl | aj;·omega
   ·exact H' h k aj
def Ia:∀ {i:Nat} {ds:List aH} {s bx:List Bool},gm i ds s=some bx->∀ j (h:j<ds.length),∀ k∈ds[j].kids,0<=k/\k<(i+j:Nat)
 |i,[],s,bx,_,j,ap,_,_=>by cases ap
 |i,d::ds,s,bx,h,j,ap,k,aj=>by
  unfold gm at h;cases az:fits d d.kids.length with
  |false=>rw[az]at h;cases h
  |true=>
   rw[az]at h;simp only[bn]at h;cases ar:hh i d.kids s with
   |none=>rw[ar]at h;cases h
   |some s1=>
    rw[ar]at h;cases j with
    |zero=>exact H' ar k (by simpa using aj)| succ j=>have:=Ia h j (by simpa using ap) k (by simpa using aj);omega
def ou{t:cc}(h:right t=true):∀ j (ap:j<t.ae.length),∀ k∈t.ae[j].kids,0<=k/\k<j:=by
 unfold right at h;simp only[bs]at h;obtain⟨_,_,h⟩:=h;split at h
 ·rename_i s an;intro j ap k aj;have:=Ia an j ap k aj;omega
 ·cases h
def Cp{t:cc}(h:right t=true):0<=t.root/\t.root<t.ae.length:=by unfold right at h;simp only[bs,e3]at h;exact⟨h.1,h.2.1⟩
def wO(dO:List Int):List Int->Int->Int
 |[],m=>m| k::ks,m=>wO dO ks (max m (dO.getD k.toNat 0))
def ov:Nat->List aH->List Int->List Int
 |_,[],dO=>dO| i,d::ds,dO=>ov (i+1) ds (dO.set i (wO dO d.kids 0+1))
def depth(t:cc):Int:=bif right t then(ov 0 t.ae (List.replicate t.ae.length 0)).getD t.root.toNat 0 else 0
def Pg(aB:k1 I){t:cc}(aq:t.ok I):Spec Tryz.prog 104 [t.val] I [] (λv I' M'=>v=.int .i64 (depth t)/\I'=I/\M'=[]):=by
 refine cB [] a8 Tryz.func104 rfl rfl rfl ?_;intro B aD;have aF:=aq.n;have lG:=aq.aV.cap;refine aY.mk [] [] _ (.refl _) (ug aB aq) ?_;rintro v I' M' -⟨rfl,rfl,rfl⟩;refine a1.mk (λh=>?_) (λh=>?_)
 ·refine⟨_,_,.refl,?_,rfl,rfl⟩;simp[depth,show right t=false by simpa using h]
 ·have al:right t=true:=by simpa using h
  have ui:=ou al;obtain⟨aI,aQ⟩:=Cp al;refine yP.mk t.n t.n rfl rfl (cK _) (by show 8*t.n<=_;omega) (by omega) ?_;refine eA.mk λb ag sw=>?_;refine fh.inv (ι:=Nat×List Int) (λx=>{ b8:=[(1,.ref 1 0),(3,.val (.slice (some ⟨b,0,none⟩) t.n t.n)),(16,.val (.slice t.a t.n t.c)),(17,.val (.int .i64 t.n)),(18,.val (.int .i64 x.1))],cl:=[(1,t.cells)],dL:=I',fg:=[qQ b x.2] }) (λx=>x.1<=t.n/\x.2.length=t.n/\(∀ j,0<=x.2.getD j 0/\x.2.getD j 0<=x.1)/\(∀ j,x.1<=j->x.2.getD j 0=0)/\ov 0 t.ae (List.replicate t.ae.length 0)=ov x.1 (t.ae.drop x.1) x.2) (λx=>t.n-x.1) ?_ ?_
  ·have z:∀ j,(List.replicate t.n (0:Int)).getD j 0=0:=λj=>by
    by_cases ap:j<t.n<;>simp[c1,ap]
   refine⟨(0,List.replicate t.n 0),⟨by omega,by simp,λj=>by rw[z];simp,λj _=>z j,by simp[aF]⟩,?_,m8,.cons rfl .nil⟩;show ht _ _ [⟨b,.cells (rowOf [Value.int .i64 0] (t.n*1)).toArray 3 (0,0)⟩] _ [qQ b (List.replicate t.n 0)];rw[H4,mr];simp only[qQ,List.map_replicate];exact .refl
  ·rintro⟨i,dO⟩⟨ec,gK,fD,g1,r8⟩;simp only at ec gK fD g1 r8;refine a1.mk (λh=>?_) (λh=>?_)
   ·have a0:i<t.n:=by simpa using h
    have cJ:i<t.ae.length:=by omega
    obtain⟨ad,dH,cj⟩:=aq.aV.row aH.da a0 cJ;have gn:=aq.ae t.ae[i] (et cJ);have gJ:=gn.kn;have hj:t.ae.drop i=t.ae[i]::t.ae.drop (i+1):=fe cJ;refine c2.mk ad i dH rfl a0 ?_;refine ba.mk t.ae[i].cells (cj _) ?_;refine fh.inv (ι:=Nat×Int) (λx=>{ b8:=[(1,.ref 1 0),(3,.val (.slice (some ⟨b,0,none⟩) t.n t.n)),(4,.val (.int .i64 i)),(16,.val (.slice t.a t.n t.c)),(17,.val (.int .i64 t.n)),(18,.val (.int .i64 i)),(24,.val (.slice t.ae[i].ka t.ae[i].kn t.ae[i].h2)),(25,.val (.int .i64 t.ae[i].kn)),(26,.val (.int .i64 x.1))],cl:=[(1,t.cells)],dL:=I',fg:=[qQ b (dO.set i x.2)] }) (λx=>x.1<=t.ae[i].kn/\0<=x.2/\x.2<=i/\wO dO t.ae[i].kids 0=wO dO (t.ae[i].kids.drop x.1) x.2) (λx=>t.ae[i].kn-x.1) ?_ ?_
    ·refine⟨(0,0),⟨by omega,by omega,by simp,rfl⟩,?_,y5,.cons rfl .nil⟩;have e:dO.set i 0=dO:=by
      have U:=g1 i (cK _);rw[c1]at U;apply wA;intro j;rw[kV];split
      ·rename_i e;subst e;have:i<dO.length:=by omega
       simp[this]at U |-;exact U.symm
      ·rfl
     simp only;rw[e];exact .refl
    ·rintro⟨j,m⟩⟨Co,wN,uh,Cq⟩;simp only at Co wN uh Cq;refine a1.mk (λh=>?_) (λh=>?_)
     ·have fk:j<t.ae[i].kn:=by simpa using h
      have hI:j<t.ae[i].kids.length:=by omega
      obtain⟨lH,lI,lJ⟩:=gn.aV.one fk hI;have oq:t.ae[i].kids.drop j=t.ae[i].kids[j]::t.ae[i].kids.drop (j+1):=fe hI;have aj:=ui i cJ t.ae[i].kids[j] (et hI);have sy:t.ae[i].kids[j]=((t.ae[i].kids[j].toNat:Nat):Int):=by omega
      have dI:t.ae[i].kids[j].toNat<t.n:=by omega
      refine c2.mk lH j lI rfl fk ?_;refine ba.mk [.int .i64 t.ae[i].kids[j]] (lJ _) ?_;refine dt.draw a8 rfl rfl rfl ?_;have ek:i<(dO.set i m).length:=by simp;omega
      have pG:t.ae[i].kids[j].toNat<(dO.set i m).length:=by simp;omega
      have Cr:(dO.set i m)[i]=m:=by simp
      have fP:(dO.set i m)[t.ae[i].kids[j].toNat]=dO.getD t.ae[i].kids[j].toNat 0:=by
       have br:i≠t.ae[i].kids[j].toNat:=by omega
       have eE:t.ae[i].kids[j].toNat<dO.length:=by omega
       rw[List.getElem_set,cd br];simp[c1,eE]
      refine c2.mk ⟨b,0,none⟩ i rfl rfl a0 ?_;refine ba.mk [.int .i64 m] (zp ek Cr (by simp)) ?_;refine c2.mk ⟨b,0,none⟩ t.ae[i].kids[j].toNat rfl sy dI ?_;refine ba.mk [.int .i64 (dO.getD t.ae[i].kids[j].toNat 0)] (zp pG fP (by simp)) ?_;refine c2.mk ⟨b,0,none⟩ i rfl rfl a0 ?_;refine df.add [] [] _ 3 rfl ?_ rfl ?_;·simp only[mU,j9];show 0+i*1+1<=_;simp;omega
      have d':IntKind.i64.wrap ((j:Int)+1)=((j+1:Nat):Int):=by rw[wrap_i64 ⟨by omega,by have:=gn.aV.cap;omega⟩];omega
      refine bp.mk _ d' ?_;have Xw:=fD t.ae[i].kids[j].toNat;refine⟨(j+1,max m (dO.getD t.ae[i].kids[j].toNat 0)),⟨⟨by omega,by simp only;omega,by simp only;omega,?_⟩,by show _<_;simp only;omega⟩,?_,y5,.cons rfl .nil⟩;·simp only;rw[Cq,oq];rfl
      ·have e:=H9 (dO.set i m) i ek (max m (dO.getD t.ae[i].kids[j].toNat 0));simp only[qQ];rw[List.set_set]at e;rw[<-e];simp only[dd,mr];exact .refl
     ·have fk:¬ j<t.ae[i].kn:=by simpa using h
      have sA:t.ae[i].kids.drop j=[]:=iZ (by omega);have hm:wO dO t.ae[i].kids 0=m:=by rw[Cq,sA];rfl
      have ek:i<(dO.set i m).length:=by simp;omega
      have Cr:(dO.set i m)[i]=m:=by simp
      have Cs:IntKind.i64.wrap (m+1)=m+1:=wrap_i64 ⟨by omega,by omega⟩;have d':IntKind.i64.wrap ((i:Int)+1)=((i+1:Nat):Int):=by rw[wrap_i64 ⟨by omega,by omega⟩];omega
      refine c2.mk ⟨b,0,none⟩ i rfl rfl a0 ?_;refine ba.mk [.int .i64 m] (zp ek Cr (by simp)) ?_;refine bp.mk _ Cs ?_;refine c2.mk ⟨b,0,none⟩ i rfl rfl a0 ?_;refine df.add [] [] _ 3 rfl ?_ rfl ?_;·simp only[mU,j9];show 0+i*1+1<=_;omega
      refine bp.mk _ d' ?_;refine⟨(i+1,dO.set i (m+1)),⟨⟨by omega,by simp[gK],?_,?_,?_⟩,by show _<_;simp only;omega⟩,?_,m8,.cons rfl .nil⟩
      ·intro q;have Ph:=fD q;simp only[c1,kV]at Ph |-;split
       ·rename_i e;subst e;have:i<dO.length:=by omega
        simp[this];omega
       ·omega
      ·intro q aR;have Ib:=g1 q (by omega);simp only at aR;simp only[c1,kV]at Ib |-;rw[cd (by omega)];exact Ib
      ·simp only;rw[r8,hj];simp only[ov,hm]
      ·have e:=H9 (dO.set i m) i ek (m+1);simp only[qQ];rw[List.set_set]at e;rw[<-e];simp only[dd,mr];exact .refl
   ·have eD:¬ i<t.n:=by simpa using h
    have eC:t.ae.drop i=[]:=iZ (by omega);have e':ov 0 t.ae (List.replicate t.ae.length 0)=dO:=by rw[r8,eC];rfl
    have nl:t.root=((t.root.toNat:Nat):Int):=by omega
    have mC:t.root.toNat<dO.length:=by omega
    refine c2.mk ⟨b,0,none⟩ t.root.toNat rfl nl (by omega) ?_;refine ba.mk [.int .i64 dO[t.root.toNat]] (zp mC rfl (by simp)) ?_;refine⟨_,_,.sub (fa _) .refl,?_,rfl,rfl⟩;have:depth t=dO[t.root.toNat]:=by unfold depth;rw[al,e'];simp[c1,mC]
    rw[this];rfl
def jF(t:cc):Bool:=decide (t.n<=1024)&&(right t&&decide (depth t<=32))
def Pj(aB:k1 I){t:cc}(aq:t.ok I):Spec Tryz.prog 72 [t.val] I [] (λv I' M'=>v=.bool (jF t)/\I'=I/\M'=[]):=by
 refine cB [] a8 Tryz.func72 rfl rfl rfl ?_;intro B aD;refine b9.mk (λU=>?_) (λU=>?_)
 ·refine aY.mk [] [] _ (.refl _) (ug aB aq) ?_;rintro v I' M' -⟨rfl,rfl,rfl⟩;refine b9.mk (λaa=>?_) (λaa=>?_)
  ·refine aY.mk [] [] _ (.refl _) (Pg aB aq) ?_;rintro v I' M' -⟨rfl,rfl,rfl⟩;refine⟨_,_,.refl,?_,rfl,rfl⟩;have ib:t.n<=1024:=by simp at U;omega
   simp[jF,ib,aa]
  ·refine⟨_,_,.refl,?_,rfl,rfl⟩;have ia:right t=false:=aa;simp[jF,ia]
 ·refine⟨_,_,.refl,?_,rfl,rfl⟩;have ib:¬ t.n<=1024:=by simp at U;omega
  simp[jF,ib]
def lK{α:Type}(z:α)(f:aH->(Int->α)->α):List aH->List α->List α
 |[],acc=>acc| d::ds,acc=>lK z f ds (acc++[f d λk=>acc.getD k.toNat z])
section
variable{α:Type}{z:α}{f:aH->(Int->α)->α}
def Ct:∀ (ds:List aH) (acc:List α) (j:Nat),j<acc.length->(lK z f ds acc)[j]?=acc[j]?
 |[],acc,j,_=>rfl| d::ds,acc,j,h=>by rw[lK,Ct ds _ j (by simp;omega),kA h]
def Ic:∀ (ds:List aH) (acc:List α) (j:Nat) (h:j<ds.length),(lK z f ds acc)[acc.length+j]?=some (f ds[j] λk=>((lK z f ds acc).take (acc.length+j)).getD k.toNat z)
 |d::ds,acc,0,_=>by
  rw[lK,mW,Ct ds _ acc.length (by simp)];simp only[List.getElem?_concat_length,si,hr];congr 1;funext k;have:(lK z f ds (acc++[f d λk=>acc.getD k.toNat z])).take acc.length=acc:=by
   apply wA;intro i;rw[hW];split;·rename_i hi;rw[Ct ds _ i (by simp;omega),kA hi]
   ·rw[tE (by omega)]
  rw[this]
 |d::ds,acc,j+1,h=>by have:=Ic ds (acc++[f d λk=>acc.getD k.toNat z]) j (by simpa using h);rw[lK];simp only[cP,c8,gP,dd,B4]at this |-;rw[show acc.length+(j+1)=acc.length+1+j from by omega];exact this
def qR(z:α)(f:aH->(Int->α)->α)(ae:List aH)(k:Int):α:=(lK z f ae []).getD k.toNat z
def Ie(az:∀ d g dA,(∀ k∈d.kids,g k=dA k)->f d g=f d dA){t:cc}(al:right t=true)(ap:j<t.ae.length):qR z f t.ae j=f t.ae[j] (qR z f t.ae):=by have h:=Ic (z:=z) (f:=f) t.ae [] j ap;simp only[gP,dd]at h;unfold qR;rw[c1,show((j:Int).toNat)=j from by omega,h,hs];refine az _ _ _ λk aj=>?_;have:=ou al j ap k aj;rw[c1,c1,hW,ck (by omega)]
end
def free(g:Nat->Nat)(s:List Bool):Nat->Nat
 |0=>0| i+1=>free g s i+(bif s.getD i false then 0 else g i)
def If{g:Nat->Nat}{s:List Bool}{k:Nat}:∀ {i:Nat},i<=k->free g (s.set k true) i=free g s i
 |0,_=>rfl| i+1,h=>by unfold free;rw[If (by omega)];simp only[c1,kV];rw[cd (by omega)]
def Ig{g:Nat->Nat}{s:List Bool}{k:Nat}(an:s.getD k false=false)(au:k<s.length):∀ {i:Nat},k<i->free g (s.set k true) i+g k=free g s i
 |i+1,h=>by
  unfold free;by_cases e:i=k;·subst e;rw[If (cK _),an];simp[c1,au]
  ·have:=Ig (g:=g) an au (i:=i) (by omega);simp only[c1,kV]at this |-;rw[cd (by omega)];omega
def jb(g:Int->Nat)(ks:List Int):Nat:=(ks.map g).sum
def Ih{g:Nat->Nat}{i:Nat}:∀ {ks:List Int} {s bx:List Bool},hh i ks s=some bx->i<=s.length->bx.length=s.length/\free g bx i+jb (λk=>g k.toNat) ks=free g s i
 |[],s,bx,h,_=>by simp only[hh,hr]at h;subst h;exact⟨rfl,rfl⟩
 |x::ks,s,bx,h,au=>by
  unfold hh at h;cases ag:(decide (x<0)||(decide ((i:Int)<=x)||s.getD x.toNat false))with
  |true=>rw[ag]at h;cases h| false=>rw[ag]at h;simp only[mq,nb]at ag;obtain⟨U,aa,ak⟩:=ag;obtain⟨ax,aS⟩:=Ih (g:=g) h (by simpa using au);have b5:=Ig (g:=g) ak (by omega) (i:=i) (by omega);refine⟨by simpa using ax,?_⟩;simp only[jb,cC,jB]at aS |-;omega
def Ii{g:Nat->Nat}{c:aH->Nat}:∀ {ds:List aH} {i:Nat} {s bx:List Bool},gm i ds s=some bx->i+ds.length<=s.length->(∀ j (h:j<ds.length),g (i+j)<=c ds[j]+jb (λk=>g k.toNat) ds[j].kids) -> bx.length=s.length/\free g bx (i+ds.length)<=free g s i+(ds.map c).sum
 |[],i,s,bx,h,_,_=>by simp only[gm,hr]at h;subst h;simp
 |d::ds,i,s,bx,h,au,aw=>by
  unfold gm at h;cases az:fits d d.kids.length with
  |false=>rw[az]at h;cases h
  |true=>
   rw[az]at h;simp only[bn]at h;cases ar:hh i d.kids s with
   |none=>rw[ar]at h;cases h
   |some s1=>
    rw[ar]at h;simp only[c8]at au;obtain⟨ax,aS⟩:=Ih (g:=g) ar (by omega);obtain⟨b5,ea⟩:=Ii (g:=g) (c:=c) h (by omega) (λj ap=>by
     have:=aw (j+1) (by simp;omega);simp only[B4]at this;rw[show i+1+j=i+(j+1)from by omega];exact this)
    have aD:=aw 0 (by simp);simp only[mW,si]at aD;refine⟨by omega,?_⟩;have mD:free g s1 (i+1)<=free g s1 i+g i:=by
     show free g s1 i+_<=_;cases s1.getD i false<;>simp
    simp only[c8,cC,jB];rw[show i+(ds.length+1)=i+1+ds.length from by omega];omega
def Ij{root:Int}:∀ {s:List Bool} {i:Nat},k2 root i s=true->∀ j,j<s.length->(i+j:Nat)=root->s.getD j false=false
 |b::s,i,h,j,ap,e=>by
  unfold k2 at h;cases ag:(b == decide ((i:Int)=root))with
  |true=>rw[ag]at h;cases h
  |false=>
   rw[ag]at h;cases j with
   |zero=>
    have:decide ((i:Int)=root)=true:=by simpa using e
    rw[this]at ag;simpa using ag
   |succ j=>have:=Ij (i:=i+1) h j (by simpa using ap) (by omega);simpa using this
def Ik{g:Nat->Nat}{s:List Bool}{k:Nat}(aj:s.getD k false=false):∀ {n:Nat},k<n->g k<=free g s n
 |n+1,h=>by
  unfold free;by_cases e:n=k;·subst e;rw[aj];simp
  ·have:=Ik (g:=g) aj (n:=n) (by omega);omega
def Il{t:cc}(al:right t=true){g:Int->Nat}{c:aH->Nat}(h:∀ j (ap:j<t.ae.length),g j<=c t.ae[j]+jb g t.ae[j].kids):g t.root<=(t.ae.map c).sum:=by
 have Cu:=Cp al;have aj:=ou al;unfold right at al;simp only[bs]at al;obtain⟨_,_,al⟩:=al;split at al
 ·rename_i s an;obtain⟨ax,aS⟩:=Ii (g:=λk=>g k) (c:=c) an (by simp) (λj ap=>by refine iQ (by rw[dd];exact h j ap) (Nat.le_of_eq ?_);congr 1;unfold jb;congr 1;refine ua λk fP=>?_;have:=aj j ap k fP;rw[sj this.1]);simp only[List.length_replicate,dd]at ax aS;have a2:=Ij al t.root.toNat (by omega) (by omega);have:=Ik (g:=λk=>g k) a2 (n:=t.ae.length) (by omega);rw[sj Cu.1]at this;simp only[free]at aS;omega
 ·cases al
def Im{t:cc}(al:right t=true)(ap:j<t.ae.length):fits t.ae[j] t.ae[j].kids.length=true:=by
 have aux:∀ {ds:List aH} {i:Nat} {s bx:List Bool},gm i ds s=some bx->∀ j (h:j<ds.length),fits ds[j] ds[j].kids.length=true:=by
  intro ds
  induction ds with
  |nil=>intro i s bx _ j ap;cases ap
  |cons d ds aX=>
   intro i s bx h j ap;unfold gm at h;cases az:fits d d.kids.length with
   |false=>rw[az]at h;cases h
   |true=>
    rw[az]at h;simp only[bn]at h;cases ar:hh i d.kids s with
    |none=>rw[ar]at h;cases h
    |some s1=>
     rw[ar]at h;cases j with
     |zero=>exact az| succ j=>exact aX h j (by simpa using ap)
 unfold right at al;simp only[bs]at al;obtain⟨_,_,al⟩:=al;split at al
 ·rename_i s an;exact aux an j ap
 ·cases al
def Pk(t u ty e:Nat)(i:TypeInfo)(aq:P.underlying t=some (.slice e))(hu:P.underlying u=some i')(j':∀ k,i'≠.int k)(hi:P.info? e=some i)
 {n:Nat} (iF:n<=c) (aD:(∃ b c,oe=.slice b 0 c)\/oe=.string .empty):(Builtin.append_ #[t,u] ty #[.slice sa n c,oe]).run P w=.ok (.slice sa n c) w:=by
 have wJ:(match i' with | .int _=>true | _=>false)=false:=by cases i'<;>first | rfl | exact(j' _ rfl).elim
 rcases aD with⟨b,c',rfl⟩ | rfl
 ·cases b<;>cases sa<;>simp[Builtin.append_,run_underlying aq,run_underlying hu,sizeOf,typeInfo,hi,wJ,Builtin.lenOf,iF,Builtin.firstCells,Builtin.zeroCells,loadCells,loadCellsFrom,storeCells]
 ·cases sa<;>simp[Builtin.append_,run_underlying aq,run_underlying hu,sizeOf,typeInfo,hi,wJ,Builtin.lenOf,iF,Builtin.firstCells,loadCells,storeCells]
section
variable{X:bO}{β:Nat->Nat}{a:Act}{w:World}{F:Fr}{C:b6}{I:aG}{M:List aC}{o:Oper}{K:dE}
def a9.bin{op:BinOp}(ar:o.op=.binOp op t x y cD)(ao:∀ d,o.dst=some d->d<X.n){q:Value}(ab:a' F x=.val p)(aE:a' F y=.val q)
  (aw:∀ w,(eqGuard op t x y p q).run X.P w=.ok () w) (al:∀ w,cL I M w->(binOp op t p q).run X.P w=.ok v w) (h:K (put o.dst (.val v) F) C I M):a9 X o F C I M K:=by
 refine⟨λac w Q ⟨β,aM⟩=>?_⟩;have ex:=b1 aM.ah ab;have nk:=b1 aM.ah aE;refine qn aM ao (by rw[ar];simp) ?_ h;unfold execOp;simp only[ar,bo,ex,nk,aw,bd,al w aM.holds,bR]
def a9.conv{s:Nat}(ar:o.op=.convert s t x)(ao:∀ d,o.dst=some d->d<X.n)(ab:a' F x=.val p)
  (al:∀ w,cL I M w->(convert s t p).run X.P w=.ok v w) (h:K (put o.dst (.val v) F) C I M):a9 X o F C I M K:=by
 refine⟨λac w Q ⟨β,aM⟩=>?_⟩;have ex:=b1 aM.ah ab;refine qn aM ao (by rw[ar];simp) ?_ h;unfold execOp;simp only[ar,bo,ex,bd,al w aM.holds,bR]
def a9.un{op:UnOp}(ar:o.op=.unOp op t x)(ao:∀ d,o.dst=some d->d<X.n)(ab:a' F x=.val p)
  (al:∀ w,cL I M w->(Op.unary op p).run X.P w=.ok v w) (h:K (put o.dst (.val v) F) C I M):a9 X o F C I M K:=by
 refine⟨λac w Q ⟨β,aM⟩=>?_⟩;have ex:=b1 aM.ah ab;refine qn aM ao (by rw[ar];simp) ?_ h;unfold execOp;simp only[ar,bo,ex,bd,al w aM.holds,bR]
def fz(x:Int):Int:=IntKind.u64.wrap (BitVec.ofInt 64 IntKind.u64.max ^^^ BitVec.ofInt 64 x).toNat
def a9.wP(ar:o.op=.unOp .xor t x)(ao:∀ d,o.dst=some d->d<X.n){n:Int}(ab:a' F x=.val (.int .u64 n))(h:K (put o.dst (.val (.int .u64 (fz n))) F) C I M):a9 X o F C I M K:=
 .un ar ao ab (λw _=>rfl) h
def a9.Cv(aA:bV X.P X.E)(ar:o.op=.call { callee:=.builtin .append,args:=#[s,x],argTypes:=#[t,u] })(ao:∀ d,o.dst=some d->d<X.n)
 (aq:X.E t=some cA) (cZ:cA.bc=.slice e) (hu:X.E u=some iC) (di:∀ k,iC.bc≠.int k) (he:X.E e=some av)
 {n:Nat} (an:a' F s=.val (.slice sa n c)) (iF:n<=c)
 (ab:a' F x=.val oe) (aD:(∃ b c,oe=.slice b 0 c)\/oe=.string .empty)
  (h:K (put o.dst (.val (.slice sa n c)) F) C I M):a9 X o F C I M K:=by
 refine⟨λa w Q ⟨β,aM⟩=>?_⟩;obtain⟨inf,z,hi,ec,gK,fD,g1⟩:=(aA _ _ he).inf;obtain⟨d,dv,dN⟩:=(aA _ _ hu).dr;obtain⟨kX,oj,kY⟩:=(aA _ _ aq).dr;have pF:kX=.slice e:=by rw[cZ]at kY;cases kX<;>simp_all[dh]
 subst pF;have dg:=Pk (w:=w) t u o.type e inf oj dv (λk b2=>di k (by rw[<-dN,b2];rfl)) hi (sa:=sa) iF aD;have es:=b1 aM.ah an;have ex:=b1 aM.ah ab;refine qn aM ao (by rw[ar];simp) ?_ h;unfold execOp;simp only[ar,resolve,invoke,builtin,bo,bR,bd,od,cC,lD,es,ex,dg]
def Io(op:BinOp)(t:Nat)(x y:Operand)(p q:Option Addr)(P:Program)(w:World):(eqGuard op t x y (.pointer p) (.pointer q)).run P w=.ok () w:=by
 unfold eqGuard;cases op<;>rfl
def a9.zq(aA:bV X.P X.E)(ar:o.op=.binOp .eql t x y cD)(ao:∀ d,o.dst=some d->d<X.n)(aq:X.E t=some cA)(cZ:cA.bc=.pointer e)
  {p:Option Addr} (ab:a' F x=.val (.pointer p)) (aE:a' F y=.val (.pointer none)) (h:K (put o.dst (.val (.bool p.isNone)) F) C I M):a9 X o F C I M K:=by
 obtain⟨d,dv,dN⟩:=(aA _ _ aq).dr;have U:d=.pointer e:=by rw[cZ]at dN;cases d<;>simp_all[dh]
 subst U;exact .bin ar ao ab aE (λw=>Io ..) (λw _=>run_eql_pointer_nil w t p (by simp[Program.pointee,dv])) h
def a9.Ip(aA:bV X.P X.E)(ar:o.op=.binOp .neq t x y cD)(ao:∀ d,o.dst=some d->d<X.n){Pl:cF}(aq:X.E t=some cA)(cZ:cA.bc=.pointer e)(he:X.E e=some Pl)
  {p:Addr} (ab:a' F x=.val (.pointer (some p))) (aE:a' F y=.val (.pointer (some p))) (h:K (put o.dst (.val (.bool false)) F) C I M):a9 X o F C I M K:=by
 obtain⟨d,dv,dN⟩:=(aA _ _ aq).dr;have U:d=.pointer e:=by rw[cZ]at dN;cases d<;>simp_all[dh]
 subst U;obtain⟨inf,z,hi,_⟩:=(aA _ _ he).inf;exact .bin ar ao ab aE (λw=>Io ..) (λw _=>Lib.run_neq_ptr_same w p dv hi) h
end
def Iq{f:Nat}{fn:Func}{e:Array Value->Sem Value}{args:List Value}{M:List aC}(az:P.funcs[f]?=some fn)(zr:(fn.name == "runtime.NumGoroutine")=false)
  (ag:fn.body.isNone=true) (aF:Extern.findNext fn=none) (he:Extern.find fn=some e) (al:∀ w,(e args.toArray).run P w=.ok v w):Spec P f args I M λr I' M'=>r=v/\I'=I/\M'=M:=by
 refine .inr λw hw=>⟨v,w,I,M,?_,⟨rfl,rfl,rfl⟩,hw,λ_ _ h=>h,λ_ _ h=>.inl h,λx ab=>.inl ⟨x,ab,rfl⟩,λ_ _ _=>rfl,.refl _,cK _⟩;rw[run_callFunc_extern az zr ag aF he,al];rfl
def qS(l:List UInt8):List Value:=l.map λb=>.int .u8 b.toNat
structure dj where
 used:Bool
 os:bh
 bz:List UInt8
def dj.bF(b:Nat)(x:dj):aC:=⟨b,.cells #[.pointer (bif x.used then some ⟨b,0,none⟩else none),x.os.val] 174 (0,0)⟩
def dj.M(b:Nat)(x:dj):List aC:=x.bF b::x.os.bF 5
structure dj.ok(x:dj):Prop where
 os:x.os.ok 1 (qS x.bz)
 ne:∀ g,x.os.a=some g->x.bz≠[]
def dj.new:dj:=⟨false,⟨none,0,0,[]⟩,[]⟩
def dj.zs:dj.new.ok:=⟨⟨rfl,λ_=>⟨rfl,rfl⟩,λg h=>by cases h⟩,λg h=>by cases h⟩
def dj.ok.n{x:dj}(h:x.ok):x.os.n=x.bz.length:=by have:=h.os.len;simp[qS]at this;omega
def ptr(b:Nat):Value:=.pointer (some ⟨b,0,none⟩)
def dk{M:List aC}{cs:List Value}(aZ:(⟨b,.cells cs.toArray T (0,0)⟩:aC)∈M){k n:Nat}(h:k+n<=cs.length):cx I M ((⟨b,0,none⟩:Addr).add k) n ((cs.drop k).take n):=by
 rw[cY _ rfl];refine⟨rfl,_,T,(0,0),.inr ⟨_,aZ,rfl,rfl⟩,?_,?_⟩
 ·simp
 ·simp;omega
def Cw{M:List aC}(v:Value):Spec Tryz.prog 172 [v] I M λr I' M'=>r=v/\I'=I/\M'=M:=
 Iq Tryz.func172 (by kernel_rfl) (by kernel_rfl) (by kernel_rfl) (e:=Extern.AbiNoEscape.same) (by kernel_rfl) (λw=>Lib.run_noEscape w _)
def Ir{M:List aC}(s:ByteArray)(c:UInt8):Spec Tryz.prog 242 [.string s,.int .u8 c.toNat] I M λr I' M'=>r=.int .i64 (Lib.indexByte s.data.toList c)/\I'=I/\M'=M:=
 Iq Tryz.func242 (by kernel_rfl) (by kernel_rfl) (by kernel_rfl) (e:=Extern.BytealgIndexByte.indexByte) (by kernel_rfl) (λw=>by
  have:=Lib.run_indexByteString (P:=Tryz.prog) s (c.toNat:Int) w;simpa using this)
def Pm(s:ByteArray)(c:UInt8):Spec Tryz.prog 220 [.string s,.int .u8 c.toNat] I [] λr I' M'=>r=.int .i64 (Lib.indexByte s.data.toList c)/\I'=I/\M'=[]:=by refine cB [] a8 Tryz.func220 rfl rfl rfl ?_;intro B aD;refine aY.mk [] [] _ (.refl _) (Ir s c) ?_;rintro v I' M' -⟨rfl,rfl,rfl⟩;exact⟨_,_,.refl,rfl,rfl,rfl⟩
def Is(s:ByteArray)(c:UInt8):Spec Tryz.prog 199 [.string s,.int .u8 c.toNat] I [] λr I' M'=>r=.int .i64 (Lib.indexByte s.data.toList c)/\I'=I/\M'=[]:=by refine cB [] a8 Tryz.func199 rfl rfl rfl ?_;intro B aD;refine aY.mk [] [] _ (.refl _) (Pm s c) ?_;rintro v I' M' -⟨rfl,rfl,rfl⟩;exact⟨_,_,.refl,rfl,rfl,rfl⟩
def zt{M:List aC}(h:cL I M w){ah:Nat×Nat}(aZ:(⟨b,.cells cs T ah⟩:aC)∈M):w.shape? b=some (T,cs.size):=by have:=h.m _ aZ;simp only at this;simp[World.shape?,this]
def It(b:Nat)(x:dj):Spec Tryz.prog 152 [ptr b] I [x.bF b] λr I' M'=>r=.tuple #[]/\I'=I/\M'=[{ x with used:=true:dj }.bF b]:=by
 obtain⟨used,os,bz⟩:=x;obtain⟨inf,z,hi,ec,_⟩:=(a8 174 _ rfl).inf;refine cB [] a8 Tryz.func152 rfl rfl rfl ?_;intro B aD;cases used with
 |false=>refine ba.mk [.pointer none] (dk (cs:=[.pointer none,os.val]) (k:=0) (n:=1) (T:=174) (ju.2 rfl) (by simp)) ?_;refine .other (a9.zq a8 rfl (by simp) rfl rfl rfl rfl ?_);refine a1.mk (λ_=>?_) (λh=>by cases h);refine a9.conv rfl (by simp) rfl (λw hw=>Lib.run_to_unsafe (t:=174) (e:=174) (cells:=2) w ⟨b,0,none⟩ (by kernel_rfl) (by kernel_rfl) (j:=inf) hi (by rw[ec];decide) (zt (cs:=#[.pointer none,os.val]) hw (ju.2 rfl)) (by simp)) ?_;refine aY.mk [dj.bF b ⟨false,os,bz⟩] [] _ (by simp) (Cw _) ?_;rintro v I' M' -⟨rfl,rfl,rfl⟩;refine a9.conv rfl (by simp) rfl (λw hw=>Lib.run_from_unsafe (u:=174) (e:=174) (cells:=2) w ⟨b,0,none⟩ (by kernel_rfl) (by kernel_rfl) (j:=inf) hi (zt (cs:=#[.pointer none,os.val]) hw (ju.2 rfl)) (by kernel_rfl)) ?_;refine df.add [] [] _ _ rfl (bk rfl) rfl ?_;exact⟨_,_,.refl,rfl,rfl,rfl⟩
 |true=>refine ba.mk [ptr b] (dk (cs:=[ptr b,os.val]) (k:=0) (n:=1) (T:=174) (ju.2 rfl) (by simp)) ?_;refine .other (a9.zq a8 rfl (by simp) rfl rfl rfl rfl ?_);refine a1.mk (λh=>by cases h) (λ_=>?_);refine ba.mk [ptr b] (dk (cs:=[ptr b,os.val]) (k:=0) (n:=1) (T:=174) (ju.2 rfl) (by simp)) ?_;refine .other (a9.Ip a8 rfl (by simp) rfl rfl rfl rfl rfl ?_);refine a1.mk (λh=>by cases h) (λ_=>?_);exact⟨_,_,.refl,rfl,rfl,rfl⟩
def jG(b:Nat){x:dj}(ab:x.ok)(c:UInt8)(au:x.bz.length<70368744177664):Spec Tryz.prog 207 [ptr b,.int .u8 c.toNat] I (x.M b)
  λr I' M'=>r=.nilIface/\I'=I/\∃ y:dj,y.ok/\y.bz=x.bz++[c]/\M'=y.M b:=by
 refine cB [] a8 Tryz.func207 rfl rfl rfl ?_;intro B aD;have aF:=ab.n;refine aY.mk [x.bF b] (x.os.bF 5) _ (.refl _) (It b x) ?_;rintro v I' M' -⟨rfl,rfl,rfl⟩;refine ba.mk [x.os.val] (dk (cs:=[ptr b,x.os.val]) (k:=1) (n:=1) (T:=174) (.head _) (by simp)) ?_;refine eA.mk λg aw pH=>?_;refine a9.append a8 rfl (by simp) (e:=5) rfl rfl rfl x.os (xs:=qS x.bz) ab.os rfl (m:=1) rfl (news:=[.int .u8 c.toNat]) (by decide) ?_ rfl (Mr:=[⟨g,.cells #[.int .u8 c.toNat] 5 (0,0)⟩,{ x with used:=true:dj }.bF b]) ?_ ?_ ?_ ?_
 ·exact dk (cs:=[.int .u8 c.toNat]) (k:=0) (n:=1) (T:=5) (.head _) (by simp)
 ·exact gk (l₁:=[_,_]) (l₂:=x.os.bF 5)
 ·simp only[maxLen];omega
 ·show(x.os.n+1)*1<=_;omega
 ·intro dA c' cur U aa ak aL;refine df.add [⟨dA,.cells cur.toArray 5 (0,0)⟩,⟨g,.cells #[.int .u8 c.toNat] 5 (0,0)⟩] [] _ _ rfl (bk rfl) rfl ?_;refine⟨_,_,.perm (M1:=[⟨g,.cells #[.int .u8 c.toNat] 5 (0,0)⟩]++dj.M b ⟨true,⟨some dA,x.os.n+1,c',cur⟩,x.bz++[c]⟩) ?_ (.sub (jA _ _) .refl),rfl,rfl,_,?_,rfl,rfl⟩
  ·exact gk (l₁:=[_]) (l₂:=[_,_])
  ·refine⟨⟨?_,λh=>by simp at h,?_⟩,by simp⟩
   ·simp[qS,aF]
   ·intro aQ jc;refine⟨U,aa,ak,?_⟩;rw[aL];simp[qS]
def nm(b:Nat){x:dj}(ab:x.ok)(s:ByteArray)(au:x.bz.length+s.size<=70368744177664):Spec Tryz.prog 110 [ptr b,.string s] I (x.M b)
  λr I' M'=>r=.tuple #[.int .i64 s.size,.nilIface]/\I'=I/\∃ y:dj,y.ok/\y.bz=x.bz++s.data.toList/\M'=y.M b:=by
 refine cB [] a8 Tryz.func110 rfl rfl rfl ?_;intro B aD;have aF:=ab.n;refine aY.mk [x.bF b] (x.os.bF 5) _ (.refl _) (It b x) ?_;rintro v I' M' -⟨rfl,rfl,rfl⟩;refine ba.mk [x.os.val] (dk (cs:=[ptr b,x.os.val]) (k:=1) (n:=1) (T:=174) (.head _) (by simp)) ?_;by_cases an:s.size=0
 ·have he:s=.empty:=nV (B2 an);subst he;have iF:x.os.n<=x.os.c:=by
   cases aN:x.os.a with
   |none=>obtain⟨U,aa⟩:=ab.os.nil aN;omega
   |some g=>exact(ab.os.cap g aN).2.1
  refine a9.Cv a8 rfl (by simp) (e:=5) rfl rfl rfl (by simp) rfl rfl iF rfl (.inr rfl) ?_;refine df.add [] (x.os.bF 5) _ _ rfl (bk rfl) rfl ?_;exact⟨_,_,.refl,rfl,rfl,⟨true,x.os,x.bz⟩,⟨ab.os,ab.ne⟩,by simp,rfl⟩
 ·refine a9.O0 a8 rfl (by simp) (e:=5) rfl rfl rfl rfl rfl rfl x.os (xs:=qS x.bz) ab.os rfl rfl (by omega) (Mr:=[{ x with used:=true:dj }.bF b]) (gk (l₁:=[_])) ?_ ?_ ?_
  ·simp only[maxLen];omega
  ·show(x.os.n+s.size)*1<=_;omega
  ·intro dA c' cur U aa ak aL;refine df.add [⟨dA,.cells cur.toArray 5 (0,0)⟩] [] _ _ rfl (bk rfl) rfl ?_;refine⟨_,_,.perm (M1:=dj.M b ⟨true,⟨some dA,x.os.n+s.size,c',cur⟩,x.bz++s.data.toList⟩) ?_ .refl,rfl,rfl,_,?_,rfl,rfl⟩
   ·exact gk (l₁:=[_]) (l₂:=[_])
   ·refine⟨⟨?_,λh=>by simp at h,?_⟩,λg _ h=>?_⟩
    ·simp[qS,aF]
    ·intro aQ jc;refine⟨U,aa,ak,?_⟩;rw[aL];simp[qS,gQ]
    ·have be:=congrArg List.length (List.append_eq_nil_iff.1 h).2;exact an (by simpa using be)
def pI(b:Nat){x:dj}(ab:x.ok)(au:x.bz.length<=70368744177664):Spec Tryz.prog 112 [ptr b] I (x.M b)
  λr I' M'=>r=.string ⟨x.bz.toArray⟩/\I'=I/\M'=[]:=by
 refine cB [] a8 Tryz.func112 rfl rfl rfl ?_;intro B aD;have aF:=ab.n;obtain⟨used,⟨a,n,c,cur⟩,bz⟩:=x;simp only at aF au;subst aF;refine dt.draw a8 rfl rfl rfl ?_;cases a with
 |none=>obtain⟨U,aa⟩:=ab.os.nil rfl;simp only at U aa;have wQ:bz=[]:=h7 U;subst wQ;subst aa;refine ba.mk [.slice none 0 0] (dk (cs:=[.pointer (bif used then some ⟨b,0,none⟩else none),.slice none 0 0]) (k:=1) (n:=1) (T:=174) (.head _) (by simp)) ?_;refine ba.mk [.slice none 0 0] (dk (cs:=[.pointer (bif used then some ⟨b,0,none⟩else none),.slice none 0 0]) (k:=1) (n:=1) (T:=174) (.head _) (by simp)) ?_;refine a9.HK rfl (by simp) rfl rfl ?_;exact⟨_,_,.sub (fa _) .refl,rfl,rfl,rfl⟩
 |some g=>
  obtain⟨U,aa,ak,aL⟩:=ab.os.cap g rfl;have br:=ab.ne g rfl;simp only at U aa ak aL br;have nZ:bz.length≠0:=λh=>br (h7 h);refine ba.mk [.slice (some ⟨g,0,none⟩) bz.length c] (dk (cs:=[.pointer (bif used then some ⟨b,0,none⟩else none),.slice (some ⟨g,0,none⟩) bz.length c]) (k:=1) (n:=1) (T:=174) (.head _) (by simp)) ?_;refine qk.mk (by omega) ?_;refine ba.mk [.slice (some ⟨g,0,none⟩) bz.length c] (dk (cs:=[.pointer (bif used then some ⟨b,0,none⟩else none),.slice (some ⟨g,0,none⟩) bz.length c]) (k:=1) (n:=1) (T:=174) (.head _) (by simp)) ?_;refine a9.Cg a8 rfl (by simp) (e:=5) rfl rfl rfl rfl (l:=bz) (g:=g) (cs:=cur.toArray) rfl rfl br (by omega) (Mr:=[dj.bF b ⟨used,⟨some g,bz.length,c,cur⟩,bz⟩]) (gk (l₁:=[_]) (l₂:=[_])) ?_ ?_;·rw[mr]at aL;exact aL
  ·exact⟨_,_,.sub (fa _) .refl,rfl,rfl,rfl⟩
def sB(c:UInt8)(left:ByteArray):Bool:=decide ((32:Int)<=c.toNat)&&(decide ((c.toNat:Int)<=126)&&(!decide ((c.toNat:Int)=92)&&decide (Lib.indexByte left.data.toList c<0)))
def Pn(c:UInt8)(left:ByteArray):Spec Tryz.prog 252 [.int .u8 c.toNat,.string left] I [] λr I' M'=>r=.bool (sB c left)/\I'=I/\M'=[]:=by
 refine cB [] a8 Tryz.func252 rfl rfl rfl ?_;intro B aD;refine b9.mk (λU=>?_) (λU=>?_)
 ·refine b9.mk (λaa=>?_) (λaa=>?_)
  ·refine b9.mk (λak=>?_) (λak=>?_)
   ·refine aY.mk [] [] _ (.refl _) (Is left c) ?_;rintro v I' M' -⟨rfl,rfl,rfl⟩;refine⟨_,_,.refl,?_,rfl,rfl⟩;simp only[sB,U,aa,ak,zk]
   ·refine⟨_,_,.refl,?_,rfl,rfl⟩;simp only[sB,U,aa,ak,zk,nW,B9]
  ·refine⟨_,_,.refl,?_,rfl,rfl⟩;simp only[sB,U,aa,zk,nW,B9]
 ·refine⟨_,_,.refl,?_,rfl,rfl⟩;simp only[sB,U,zk,nW,B9]
def uj:ByteArray:=⟨#[48,49,50,51,52,53,54,55,56,57,97,98,99,100,101,102]⟩
def qT(n:Nat):UInt8:=uj.data.toList.getD n 0
def ic(c:UInt8)(left:ByteArray):List UInt8:=
 bif sB c left then [c]else
 bif decide ((c.toNat:Int)=10)then [92,110]else
 bif decide ((c.toNat:Int)=13)then [92,114]else
 bif decide ((c.toNat:Int)=9)then [92,116]else
 bif decide ((c.toNat:Int)=92)||decide ((0:Int)<=Lib.indexByte left.data.toList c)then [92,c]else [92,120,qT (c.toNat/16),qT (c.toNat%16)]
def wR(c:UInt8)(left:ByteArray):(ic c left).length<=4:=by
 unfold ic;cases sB c left<;>cases decide ((c.toNat:Int)=10)<;>cases decide ((c.toNat:Int)=13)<;>cases decide ((c.toNat:Int)=9)<;>cases(decide ((c.toNat:Int)=92)||decide ((0:Int)<=Lib.indexByte left.data.toList c))<;>simp
def Po:∀ n:Nat,n<256->IntKind.u8.wrap ((BitVec.ofInt 8 (n:Int)) &&& (BitVec.ofInt 8 15)).toNat=((n%16:Nat):Int):=by decide +kernel
def Iu(ap:j<uj.size):uj[j]=qT j:=by have:j<uj.data.toList.length:=ap;simp only[qT,c1,h8 this,hs];rfl
def zu(b:Nat){x:dj}(ab:x.ok)(c:UInt8)(left:ByteArray)(au:x.bz.length<=70368744177600):Spec Tryz.prog 245 [ptr b,.int .u8 c.toNat,.string left] I (x.M b)
  λr I' M'=>I'=I/\∃ y:dj,y.ok/\y.bz=x.bz++ic c left/\M'=y.M b:=by
 refine cB [] a8 Tryz.func245 rfl rfl rfl ?_;intro B aD;refine aY.mk [] (x.M b) _ (.refl _) (Pn c left) ?_;rintro v I' M' -⟨rfl,rfl,rfl⟩;refine a1.mk (λU=>?_) (λU=>?_)
 ·refine aY.mk (x.M b) [] _ (by simp) (jG b ab c (by omega)) ?_;rintro v I' M' -⟨rfl,rfl,y,aE,ev,rfl⟩;refine⟨_,_,.refl,rfl,y,aE,?_,by simp⟩;rw[ev,ic,U];rfl
 ·refine a1.mk (λaa=>?_) (λaa=>?_)
  ·refine aY.mk (x.M b) [] _ (by simp) (nm b ab _ (by show _+2<=_;omega)) ?_;rintro v I' M' -⟨rfl,rfl,y,aE,ev,rfl⟩;refine⟨_,_,.refl,rfl,y,aE,?_,by simp⟩;rw[ev,ic,U,aa];rfl
  ·refine a1.mk (λak=>?_) (λak=>?_)
   ·refine aY.mk (x.M b) [] _ (by simp) (nm b ab _ (by show _+2<=_;omega)) ?_;rintro v I' M' -⟨rfl,rfl,y,aE,ev,rfl⟩;refine⟨_,_,.refl,rfl,y,aE,?_,by simp⟩;rw[ev,ic,U,aa,ak];rfl
   ·refine a1.mk (λaL=>?_) (λaL=>?_)
    ·refine aY.mk (x.M b) [] _ (by simp) (nm b ab _ (by show _+2<=_;omega)) ?_;rintro v I' M' -⟨rfl,rfl,y,aE,ev,rfl⟩;refine⟨_,_,.refl,rfl,y,aE,?_,by simp⟩;rw[ev,ic,U,aa,ak,aL];rfl
    ·have two:∀ (ct:aG),(decide ((c.toNat:Int)=92)||decide ((0:Int)<=Lib.indexByte left.data.toList c))=true->ic c left=[92,c]:=λ_ h=>by rw[ic,U,aa,ak,aL,h];rfl
     have other:(decide ((c.toNat:Int)=92)||decide ((0:Int)<=Lib.indexByte left.data.toList c))=false->ic c left=[92,120,qT (c.toNat/16),qT (c.toNat%16)]:=λh=>by rw[ic,U,aa,ak,aL,h];rfl
     have aB:=c.toNat_lt;refine b9.mk (λbe=>?_) (λbe=>?_)
     ·refine aY.mk [] (x.M b) _ (.refl _) (Is left c) ?_;rintro v I' M' -⟨rfl,rfl,rfl⟩;refine a1.mk (λbT=>?_) (λbT=>?_)
      ·refine aY.mk (x.M b) [] _ (by simp) (jG b ab 92 (by omega)) ?_;rintro v I' M' -⟨rfl,rfl,y,aE,ev,rfl⟩;refine aY.mk (y.M b) [] _ (by simp) (jG b aE c (by rw[ev];simp;omega)) ?_;rintro v I' M' -⟨rfl,rfl,z,a2,mE,rfl⟩;refine⟨_,_,.refl,rfl,z,a2,?_,by simp⟩;rw[mE,ev,two I' (by rw[be];exact bT)];simp
      ·refine aY.mk (x.M b) [] _ (by simp) (nm b ab _ (by show _+2<=_;omega)) ?_;rintro v I' M' -⟨rfl,rfl,y,aE,ev,rfl⟩;have Iv:y.bz.length=x.bz.length+2:=by rw[ev];simp
       refine yO.mk 4 rfl ?_;refine rX.mk (s:=uj) (c.toNat/16) ?_ (by show _<16;omega) ?_
       ·show(c.toNat:Int).fdiv (2^(min 4 (IntKind.u8.bits)))=_;have Pp:((2:Int)^(min 4 IntKind.u8.bits))=16:=by decide
        rw[Pp,B3 _ (by omega)];omega
       rw[Iu];refine aY.mk (y.M b) [] _ (by simp) (jG b aE (qT (c.toNat/16)) (by omega)) ?_;rintro v I' M' -⟨rfl,rfl,z,a2,mE,rfl⟩;have zv:z.bz.length=x.bz.length+3:=by rw[mE];simp;omega
       refine rX.mk (s:=uj) (c.toNat%16) (Po c.toNat aB) (by show _<16;omega) ?_;rw[Iu];refine aY.mk (z.M b) [] _ (by simp) (jG b a2 (qT (c.toNat%16)) (by omega)) ?_;rintro v I' M' -⟨rfl,rfl,u,hu,pJ,rfl⟩;refine⟨_,_,.refl,rfl,u,hu,?_,by simp⟩;rw[pJ,mE,ev,other (by rw[be];exact bT)];simp
     ·refine aY.mk (x.M b) [] _ (by simp) (jG b ab 92 (by omega)) ?_;rintro v I' M' -⟨rfl,rfl,y,aE,ev,rfl⟩;refine aY.mk (y.M b) [] _ (by simp) (jG b aE c (by rw[ev];simp;omega)) ?_;rintro v I' M' -⟨rfl,rfl,z,a2,mE,rfl⟩;refine⟨_,_,.refl,rfl,z,a2,?_,by simp⟩;rw[mE,ev,two I' (by rw[be];rfl)];simp
def ie(n:Nat):List UInt8:=bif Nat.blt n 10 then [UInt8.ofNat (48+n)]else [UInt8.ofNat (48+n/10),UInt8.ofNat (48+n%10)]
def qU(n:Nat):ByteArray:=⟨(ie n).toArray⟩
def Iw:ByteArray:=⟨((List.range 10).map (λn=>UInt8.ofNat (48+n))++(List.range 26).map (λn=>UInt8.ofNat (97+n))).toArray⟩
def Ix:ByteArray:=⟨((List.range 100).flatMap λn=>[UInt8.ofNat (48+n/10),UInt8.ofNat (48+n%10)]).toArray⟩
def Pq:∀ n:Fin 10,(Iw.extract n.val (n.val+1)).data.toList=ie n.val:=by decide +kernel
def Pr:∀ n:Fin 100,10<=n.val->(Ix.extract (n.val*2) (n.val*2+2)).data.toList=ie n.val:=by decide +kernel
def uk{a b:ByteArray}(h:a.data.toList=b.data.toList):a=b:=nV (dT h)
def wS(n:Nat):(ie n).length<=2:=by
 unfold ie;cases Nat.blt n 10<;>simp
set_option maxRecDepth 20000 in
def Ps(n:Nat)(aF:n<100):Spec Tryz.prog 203 [.int .i64 n] I [] λr I' M'=>r=.string (qU n)/\I'=I/\M'=[]:=by
 refine cB [] a8 Tryz.func203 rfl rfl rfl ?_;intro B aD;refine a1.mk (λh=>?_) (λh=>?_)
 ·have a0:n<10:=by simp at h;omega
  refine bp.mk ((n+1:Nat):Int) (by rw[wrap_i64 ⟨by omega,by omega⟩];omega) ?_;refine h0.mk n (n+1) rfl rfl (by omega) (by show _<=36;omega) ?_;refine⟨_,_,.refl,?_,rfl,rfl⟩;have:Iw.extract n (n+1)=qU n:=uk (Pq ⟨n,a0⟩);rw[<-this];rfl
 ·have eD:10<=n:=by simp at h;omega
  refine bp.mk ((n*2:Nat):Int) (by rw[wrap_i64 ⟨by omega,by omega⟩];omega) ?_;refine bp.mk ((n*2:Nat):Int) (by rw[wrap_i64 ⟨by omega,by omega⟩];omega) ?_;refine bp.mk ((n*2+2:Nat):Int) (by rw[wrap_i64 ⟨by omega,by omega⟩];omega) ?_;refine h0.mk (n*2) (n*2+2) rfl rfl (by omega) (by show _<=200;omega) ?_;refine⟨_,_,.refl,?_,rfl,rfl⟩;have:Ix.extract (n*2) (n*2+2)=qU n:=uk (Pr ⟨n,aF⟩ eD);rw[<-this];rfl
def Pt(n:Nat)(aF:n<100):Spec Tryz.prog 186 [.int .i64 n,.int .i64 10] I [] λr I' M'=>r=.string (qU n)/\I'=I/\M'=[]:=by refine cB [] a8 Tryz.func186 rfl rfl rfl ?_;intro B aD;refine a1.mk (λh=>?_) (λh=>by cases h);refine b9.mk (λh=>?_) (λh=>by simp at h;try omega);refine a1.mk (λh=>?_) (λh=>by simp at h;try omega);refine aY.mk [] [] _ (.refl _) (Ps n aF) ?_;rintro v I' M' -⟨rfl,rfl,rfl⟩;exact⟨_,_,.refl,rfl,rfl,rfl⟩
def Pu(n:Nat)(aF:n<100):Spec Tryz.prog 173 [.int .i64 n] I [] λr I' M'=>r=.string (qU n)/\I'=I/\M'=[]:=by refine cB [] a8 Tryz.func173 rfl rfl rfl ?_;intro B aD;refine aY.mk [] [] _ (.refl _) (Pt n aF) ?_;rintro v I' M' -⟨rfl,rfl,rfl⟩;exact⟨_,_,.refl,rfl,rfl,rfl⟩
def Pv(n:Nat)(aF:n<100):Spec Tryz.prog 153 [.int .i64 n] I [] λr I' M'=>r=.string (qU n)/\I'=I/\M'=[]:=by refine cB [] a8 Tryz.func153 rfl rfl rfl ?_;intro B aD;refine aY.mk [] [] _ (.refl _) (Pu n aF) ?_;rintro v I' M' -⟨rfl,rfl,rfl⟩;exact⟨_,_,.refl,rfl,rfl,rfl⟩
def zw(n:Nat)(aF:n<100):Spec Tryz.prog 111 [.int .i64 n] I [] λr I' M'=>r=.string (qU n)/\I'=I/\M'=[]:=by refine cB [] a8 Tryz.func111 rfl rfl rfl ?_;intro B aD;refine aY.mk [] [] _ (.refl _) (Pv n aF) ?_;rintro v I' M' -⟨rfl,rfl,rfl⟩;exact⟨_,_,.refl,rfl,rfl,rfl⟩
def ew(node qV:Int):Bool:=
 bif decide (node=5)then decide (qV=5)else
 bif decide (node=4)||(decide (node=7)||decide (node=8))then decide (qV=4)||decide (qV=5)else
 bif decide (node=6)then decide (qV=4)||(decide (qV=5)||(decide (qV=6)||(decide (qV=7)||decide (qV=8))))else false
def Cx(a b:Int):Spec Tryz.prog 209 [.int .u8 a,.int .u8 b] I [] λr I' M'=>r=.bool (ew a b)/\I'=I/\M'=[]:=by
 refine cB [] a8 Tryz.func209 rfl rfl rfl ?_;intro B aD;refine a1.mk (λU=>?_) (λU=>?_)
 ·refine⟨_,_,.refl,?_,rfl,rfl⟩;simp only[ew,U];rfl
 ·have two:∀ (ct:aG) (h:(decide (a=4)||(decide (a=7)||decide (a=8)))=true),ew a b=(decide (b=4)||decide (b=5)):=λ_ h=>by simp only[ew,U,h];rfl
  have Cy:(decide (a=4)||(decide (a=7)||decide (a=8)))=true->b9 (decide (b=4)) false (qx [] I [] λI' M'=>Value.bool (decide (b=5))=.bool (ew a b)/\I'=I/\M'=[]) (qx [] I [] λI' M'=>Value.bool true=.bool (ew a b)/\I'=I/\M'=[]):=λh=>by
   refine b9.mk (λaL=>?_) (λaL=>?_);·refine⟨_,_,.refl,?_,rfl,rfl⟩;rw[two I h,aL];rfl
   ·refine⟨_,_,.refl,?_,rfl,rfl⟩;rw[two I h,aL];rfl
  refine a1.mk (λaa=>?_) (λaa=>?_);·refine a1.mk (λ_=>?_) (λh=>by rw[aa]at h;cases h);exact Cy (by rw[aa];rfl)
  ·refine a1.mk (λak=>?_) (λak=>?_)
   ·refine a1.mk (λ_=>?_) (λh=>by rw[ak]at h;cases h);exact Cy (by rw[ak];simp)
   ·refine a1.mk (λaL=>?_) (λaL=>?_)
    ·exact Cy (by rw[aL];simp)
    ·have hw:ew a b=(bif decide (a=6)then decide (b=4)||(decide (b=5)||(decide (b=6)||(decide (b=7)||decide (b=8))))else false):=by simp only[ew,U,aa,ak,aL];rfl
     refine a1.mk (λbe=>?_) (λbe=>?_)
     ·rw[be]at hw;simp only[bn]at hw;refine b9.mk (λcH=>?_) (λcH=>?_)
      ·refine b9.mk (λcz=>?_) (λcz=>?_)
       ·refine b9.mk (λeZ=>?_) (λeZ=>?_)
        ·refine b9.mk (λjd=>?_) (λjd=>?_)
         ·refine⟨_,_,.refl,?_,rfl,rfl⟩;rw[hw,cH,cz,eZ,jd];rfl
         ·refine⟨_,_,.refl,?_,rfl,rfl⟩;rw[hw,cH,cz,eZ,jd];rfl
        ·refine⟨_,_,.refl,?_,rfl,rfl⟩;rw[hw,cH,cz,eZ];rfl
       ·refine⟨_,_,.refl,?_,rfl,rfl⟩;rw[hw,cH,cz];rfl
      ·refine⟨_,_,.refl,?_,rfl,rfl⟩;rw[hw,cH];rfl
     ·refine⟨_,_,.refl,?_,rfl,rfl⟩;rw[hw,be];rfl
def wrap_u64(x:Int):eu (IntKind.u64.wrap x):=by unfold IntKind.wrap eu;simp only[IntKind.bits,IntKind.signed];simp;omega
def wrap_u8(x:Int):0<=IntKind.u8.wrap x/\IntKind.u8.wrap x<256:=by unfold IntKind.wrap;simp only[IntKind.bits,IntKind.signed];simp;omega
def Iy{x:Int}(h:eu x):IntKind.u64.wrap x=x:=by obtain⟨U,aa⟩:=h;unfold IntKind.wrap;simp only[IntKind.bits,IntKind.signed];simp;omega
def lL(I:aG)(deb:List Int):Prop:=deb.length=64/\(∀ x∈deb,0<=x/\x<256)/\∃ T ah,I 6=some (.cells (deb.map (Value.int .u8)).toArray T ah)
def lL.rd(h:lL I deb)(M:List aC)(ap:j<64):cx I M (Addr.add ⟨6,0,none⟩ (j*1)) 1 [.int .u8 (deb.getD j 0)]:=by
 obtain⟨au,_,T,ah,h⟩:=h;rw[cY _ rfl];refine⟨rfl,_,T,ah,.inl h,?_,rfl⟩;have U:j<(deb.map (Value.int .u8)).length:=by simp[au,ap]
 have aa:j<deb.length:=by omega
 simp only[dd,mr];rw[fe U,pC,pE];simp[c1,aa]
def lL.at(h:lL I deb)(j:Nat):0<=deb.getD j 0/\deb.getD j 0<256:=by
 rw[c1];by_cases ap:j<deb.length
 ·rw[h8 ap];exact h.2.1 _ (et ap)
 ·simp[ap]
def wT(x y:Int):Int:=IntKind.u64.wrap (BitVec.ofInt 64 x &&& BitVec.ofInt 64 y).toNat
def mF(x:Int):Int:=IntKind.u64.wrap (wT x (IntKind.u64.wrap (0-x))*285870213051353865)
def nn(deb:List Int)(x:Int):Int:=bif decide (x=0)then 64 else deb.getD ((mF x).toNat/2^58) 0
def Pw(h:lL I deb)(x:Int):0<=nn deb x/\nn deb x<256:=by
 unfold nn;cases decide (x=0)
 ·exact h.at _
 ·simp
def Px(ag:lL I deb)(x:Int):Spec Tryz.prog 244 [.int .u64 x] I [] λr I' M'=>r=.int .i64 (nn deb x)/\I'=I/\M'=[]:=by
 refine cB [] a8 Tryz.func244 rfl rfl rfl ?_;intro B aD;refine a1.mk (λh=>?_) (λh=>?_)
 ·refine⟨_,_,.refl,?_,rfl,rfl⟩;simp only[nn,h];rfl
 ·have aN:=wrap_u64 (wT x (IntKind.u64.wrap (0-x))*285870213051353865);refine bp.mk _ rfl ?_;refine bp.mk (mF x) rfl ?_;refine yO.mk 58 rfl ?_;have ax:((2:Int)^(min 58 IntKind.u64.bits))=2^58:=by decide
  rw[ax];obtain⟨wU,wV⟩:=aN;have aS:(mF x).fdiv (2^58)=(((mF x).toNat/2^58:Nat):Int):=by rw[B3 _ (by decide)];have:mF x=((mF x).toNat:Int):=(sj wU).symm;omega
  rw[aS];have ap:(mF x).toNat/2^58<64:=by have:mF x<18446744073709551616:=wV;omega
  refine eo.mk ((mF x).toNat/2^58) rfl ap ?_;refine ba.mk [.int .u8 (deb.getD ((mF x).toNat/2^58) 0)] (ag.rd _ ap) ?_;have ao:=ag.at ((mF x).toNat/2^58);refine bp.mk (deb.getD ((mF x).toNat/2^58) 0) (wrap_i64 ⟨by omega,by omega⟩) ?_;refine⟨_,_,.refl,?_,rfl,rfl⟩;simp only[nn,h];rfl
def Py(a b c d:Int):Nat->List Value
 |0=>[.int .u64 (a),.int .u64 (b),.int .u64 (c),.int .u64 (d)]| 1=>[.int .u64 (fz a),.int .u64 (b),.int .u64 (c),.int .u64 (d)]| 2=>[.int .u64 (fz a),.int .u64 (fz b),.int .u64 (c),.int .u64 (d)]| 3=>[.int .u64 (fz a),.int .u64 (fz b),.int .u64 (fz c),.int .u64 (d)]| _=>[.int .u64 (fz a),.int .u64 (fz b),.int .u64 (fz c),.int .u64 (fz d)]
def Pz(a b c d:Int):Spec Tryz.prog 241 [.agg #[.int .u64 a,.int .u64 b,.int .u64 c,.int .u64 d]] I [] λr I' M'=>r=.agg #[.int .u64 (fz a),.int .u64 (fz b),.int .u64 (fz c),.int .u64 (fz d)]/\I'=I/\M'=[]:=by
 refine cB [] a8 Tryz.func241 rfl rfl rfl ?_;intro B aD;refine fh.inv (ι:=Nat) (λi=>{ b8:=[(1,.ref 1 0),(2,.ref 2 0),(5,.val (.agg #[.int .u64 a,.int .u64 b,.int .u64 c,.int .u64 d])),(6,.val (.int .i64 i))],cl:=[(1,Py a b c d i),(2,[.int .u64 0,.int .u64 0,.int .u64 0,.int .u64 0])],dL:=I }) (λi=>i<=4) (λi=>4-i) ?_ ?_
 ·exact⟨0,by simp,.refl,ei,.cons rfl (.cons rfl .nil)⟩
 ·intro i hi
  match i,hi with
  |0,_=>refine a1.mk (λ_=>?_) (λh=>by simp at h);refine eo.mk 0 rfl (by decide) ?_;refine a9.wP rfl (by simp) rfl ?_;refine eo.mk 0 rfl (by decide) ?_;refine bp.mk 1 (by decide) ?_;exact⟨1,⟨by simp,by simp⟩,.refl,ei,.cons rfl (.cons rfl .nil)⟩| 1,_=>refine a1.mk (λ_=>?_) (λh=>by simp at h);refine eo.mk 1 rfl (by decide) ?_;refine a9.wP rfl (by simp) rfl ?_;refine eo.mk 1 rfl (by decide) ?_;refine bp.mk 2 (by decide) ?_;exact⟨2,⟨by simp,by simp⟩,.refl,ei,.cons rfl (.cons rfl .nil)⟩| 2,_=>refine a1.mk (λ_=>?_) (λh=>by simp at h);refine eo.mk 2 rfl (by decide) ?_;refine a9.wP rfl (by simp) rfl ?_;refine eo.mk 2 rfl (by decide) ?_;refine bp.mk 3 (by decide) ?_;exact⟨3,⟨by simp,by simp⟩,.refl,ei,.cons rfl (.cons rfl .nil)⟩| 3,_=>refine a1.mk (λ_=>?_) (λh=>by simp at h);refine eo.mk 3 rfl (by decide) ?_;refine a9.wP rfl (by simp) rfl ?_;refine eo.mk 3 rfl (by decide) ?_;refine bp.mk 4 (by decide) ?_;exact⟨4,⟨by simp,by simp⟩,.refl,ei,.cons rfl (.cons rfl .nil)⟩| 4,_=>refine a1.mk (λh=>by simp at h) (λ_=>?_);exact⟨_,_,.refl,rfl,rfl,rfl⟩
def PA:Spec Tryz.prog 218 [] I [] λr I' M'=>r=.agg #[.int .u64 (fz 0),.int .u64 (fz 0),.int .u64 (fz 0),.int .u64 (fz 0)]/\I'=I/\M'=[]:=by refine cB [] a8 Tryz.func218 rfl rfl rfl ?_;intro B aD;refine aY.mk [] [] _ (.refl _) (Pz 0 0 0 0) ?_;rintro v I' M' -⟨rfl,rfl,rfl⟩;exact⟨_,_,.refl,rfl,rfl,rfl⟩
def Cz(I:aG)(b:Nat)(o:Obj):ins I b o b=some o:=by simp[ins]
def CA(ag:I b=none):∀ c p,I c=some p->ins I b o c=some p:=by
 intro c p h;unfold ins;cases e:Nat.beq c b with
 |false=>exact h| true=>have:=cb e;subst this;rw[ag]at h;cases h
def PB{x y:Int}(ab:eu x)(aE:eu y):wT x y=((x.toNat &&& y.toNat:Nat):Int):=by
 obtain⟨x,rfl⟩:=ob ab.1;obtain⟨y,rfl⟩:=ob aE.1;have U:x<18446744073709551616:=by have:=ab.2;omega
 have aa:y<18446744073709551616:=by have:=aE.2;omega
 have e:∀ z:Nat,z<18446744073709551616->(BitVec.ofInt 64 (z:Int)).toNat=z:=λz a2=>by rw[BitVec.toNat_ofInt];omega
 unfold wT;rw[B7,e x U,e y aa,Iy]
 ·simp
 ·have:=Nat.and_le_left (n:=x) (m:=y);exact⟨by omega,by omega⟩
def qW(x:Int):Int:=wT x (IntKind.u64.wrap (x-1))
def sC(n:Nat):Nat:=((List.range 64).filter n.testBit).length
def PC(n:Nat):sC n<=64:=by have:=vE n.testBit (List.range 64);simpa[sC]using this
def PD{x:Int}(ab:eu x)(aD:x≠0):eu (qW x)/\sC (qW x).toNat<sC x.toNat:=by
 obtain⟨n,rfl⟩:=ob ab.1;have U:n<18446744073709551616:=by have:=ab.2;omega
 have nZ:0<n:=by omega
 have an:eu ((n:Int)-1):=⟨by omega,by omega⟩;have e:qW (n:Int)=((n &&& (n-1):Nat):Int):=by unfold qW;rw[Iy an,PB ab an];congr 2;omega
 have hle:n &&& (n-1)<=n-1:=Nat.and_le_right;refine⟨by rw[e];exact⟨by omega,by omega⟩,?_⟩;rw[e];simp only[ll];unfold sC;have hJ:List.Sublist ((List.range 64).filter (n &&& (n-1)).testBit) ((List.range 64).filter n.testBit):=by
  have:(List.range 64).filter (n &&& (n-1)).testBit=((List.range 64).filter n.testBit).filter (n-1).testBit:=by rw[List.filter_filter];congr 1;funext i;rw[Nat.testBit_and,Bool.and_comm]
  rw[this];exact List.filter_sublist
 rcases Nat.lt_or_eq_of_le hJ.length_le with h | h
 ·exact h
 ·exfalso;have PE:=hJ.eq_of_length h;have:n &&& (n-1)=n:=by
   apply Nat.eq_of_testBit_eq;intro i;by_cases hi:i<64
   ·have hm:i∈(List.range 64).filter (n &&& (n-1)).testBit ↔ i∈(List.range 64).filter n.testBit:=by rw[PE]
    simp only[vJ,jY,hi,true_and]at hm;cases U:(n &&& (n-1)).testBit i<;>cases aa:n.testBit i<;>simp_all
   ·have aa:2^64<=2^i:=Nat.pow_le_pow_right (by omega) (by omega);rw[Nat.testBit_lt_two_pow (by omega),Nat.testBit_lt_two_pow (by omega)]
  omega
def byteOf(deb:List Int)(i:Nat)(w:Int):UInt8:=UInt8.ofNat (IntKind.u8.wrap ((i:Int)*64+nn deb w)).toNat
def PF(deb:List Int)(i:Nat)(w:Int):((byteOf deb i w).toNat:Int)=IntKind.u8.wrap ((i:Int)*64+nn deb w):=by have:=wrap_u8 ((i:Int)*64+nn deb w);unfold byteOf;rw[UInt8.toNat_ofNat'];omega
def np(deb:List Int)(i:Nat):Nat->Int->List UInt8
 |0,_=>[]| f+1,w=>bif decide (w=0)then []else byteOf deb i w::np deb i f (qW w)
def fl(deb:List Int):Nat->List Int->List UInt8
 |_,[]=>[]| i,w::ws=>np deb i 64 w++fl deb (i+1) ws
def Iz(deb:List Int)(i:Nat):∀ f w,(np deb i f w).length<=f
 |0,_=>by simp[np]
 |f+1,w=>by
  unfold np;have:=Iz deb i f (qW w);cases decide (w=0)<;>simp
  exact this
def CB(deb:List Int):∀ ws i,(fl deb i ws).length<=64*ws.length
 |[],_=>by simp[fl]
 |w::ws,i=>by have U:=Iz deb i 64 w;have aa:=CB deb ws (i+1);simp only[fl,cP,c8];omega
def mG(l:List UInt8):List (List Value):=l.map λc=>[.int .u8 c.toNat]
def um(a b c d:Int):List Value:=[.int .u64 a,.int .u64 b,.int .u64 c,.int .u64 d]
def PG(a b c d:Int):Spec Tryz.prog 253 [.agg #[.int .u64 a,.int .u64 b,.int .u64 c,.int .u64 d]] I [] λr I' M'=>∃ g,r=.func (.func 258) #[] #[ptr g]/\I' g=some (.cells (um a b c d).toArray 69 (0,0))/\(∀ b o,I b=some o->I' b=some o)/\M'=[]:=by refine cB [1] a8 Tryz.func253 rfl rfl rfl ?_;intro B aD;refine eA.mk λg aw pH=>?_;exact⟨_,_,.vN rfl (by simp) .refl,g,rfl,Cz ..,CA aw,rfl⟩
def PH(sD:lL I deb){a b c:Int}(wW:∀ x∈[a,b,c,d],eu x)(aw:I g=some (.cells (um a b c d).toArray 69 (0,0))) :
  Iter Tryz.prog 258 [ptr g] I (mG (fl deb 0 [a,b,c,d])):=by
 intro l R nf qX cg M0 qY h';refine wc [] a8 Tryz.func258 rfl rfl rfl ?_;intro B aD;have cj:∀ (ct:aG) (M:List aC),(∀ b o,I b=some o->ct b=some o)->cx ct M ⟨g,0,none⟩ 4 (um a b c d):=λct M h=>⟨rfl,_,_,_,.inl (h _ _ aw),rfl,rfl⟩;refine ba.mk _ (cj _ _ qY) ?_;refine fh.inv (ι:=Nat×Nat×aG×List aC) (λx=>{ b8:=[(0,.val (.func (.yield l) #[] #[])),(5,.val (.agg (um a b c d).toArray)),(6,.val (.int .i64 x.1))],dL:=x.2.2.1,fg:=x.2.2.2 }) (λx=>x.1<=4/\(∀ b o,I b=some o->x.2.2.1 b=some o)/\R x.2.1 x.2.2.1 x.2.2.2/\x.2.1<=(fl deb 0 [a,b,c,d]).length/\(fl deb 0 [a,b,c,d]).drop x.2.1=fl deb x.1 ([a,b,c,d].drop x.1)) (λx=>4-x.1) ?_ ?_
 ·exact⟨(0,0,cg,M0),⟨by simp,qY,h',by simp,rfl⟩,.refl,lx,.nil⟩
 ·rintro⟨i,k,ct,M1⟩⟨hi,ch,gR,dI,eF⟩;simp only at hi ch gR dI eF;refine a1.mk (λh=>?_) (λh=>?_)
  ·have a0:i<4:=by simp at h;omega
   have cJ:i < [a,b,c,d].length:=a0;refine eo.mk i rfl a0 ?_;have qZ:pack false ((((um a b c d).toArray).toList.drop (i*1)).take 1)=.int .u64 [a,b,c,d][i]:=by
    match i,a0 with
    |0,_=>rfl| 1,_=>rfl| 2,_=>rfl| 3,_=>rfl
   have hj:[a,b,c,d].drop i=[a,b,c,d][i]::[a,b,c,d].drop (i+1):=fe cJ;refine fh.inv (ι:=Int×Nat×Nat×aG×List aC) (λx=>{ b8:=[(0,.val (.func (.yield l) #[] #[])),(3,.val (.int .i64 i)),(4,.val (.int .u64 x.1)),(5,.val (.agg (um a b c d).toArray)),(6,.val (.int .i64 i))],dL:=x.2.2.2.1,fg:=x.2.2.2.2 }) (λx=>eu x.1/\sC x.1.toNat<=x.2.1/\(∀ b o,I b=some o->x.2.2.2.1 b=some o)/\R x.2.2.1 x.2.2.2.1 x.2.2.2.2/\x.2.2.1<=(fl deb 0 [a,b,c,d]).length/\(fl deb 0 [a,b,c,d]).drop x.2.2.1=np deb i x.2.1 x.1++fl deb (i+1) ([a,b,c,d].drop (i+1))) (λx=>sC x.1.toNat) ?_ ?_
   ·refine⟨([a,b,c,d][i],64,k,ct,M1),⟨wW _ (et cJ),PC _,ch,gR,dI,?_⟩,.refl,.cons .refl (.cons .refl (.cons ?_ (y3))),.nil⟩
    ·simp only;rw[eF,hj];rfl
    ·simp only;rw[<-qZ];exact .refl
   ·rintro⟨w,f,k,ct,M1⟩⟨hw,az,ch,gR,dI,eF⟩;simp only at hw az ch gR dI eF;refine a1.mk (λh=>?_) (λh=>?_)
    ·have zx:w≠0:=by simpa using h
     obtain⟨CC,IA⟩:=PD hw zx;obtain⟨f,rfl⟩:∃ sE,f=sE+1:=⟨f-1,by omega⟩;have ag:np deb i (f+1) w=byteOf deb i w::np deb i f (qW w):=by simp[np,zx]
     rw[ag,qK]at eF;have aj:k<(fl deb 0 [a,b,c,d]).length:=by apply Nat.lt_of_not_le;intro hle;rw[iZ hle]at eF;cases eF
     have gn:=fe aj;rw[eF]at gn;obtain⟨uo,pK⟩:=List.cons.inj gn;have CD:k<(mG (fl deb 0 [a,b,c,d])).length:=by simpa[mG]using aj
     have af:(mG (fl deb 0 [a,b,c,d]))[k]=[.int .u8 (IntKind.u8.wrap ((i:Int)*64+nn deb w))]:=by simp only[mG,sk,<-uo,PF]
     have IB:lL ct deb:=by obtain⟨eL,eV,T,ah,fW⟩:=sD;exact⟨eL,eV,T,ah,ch _ _ fW⟩
     have Xx:=Pw IB w;refine bp.mk ((i:Int)*64) (wrap_i64 ⟨by omega,by omega⟩) ?_;refine aY.mk [] M1 _ (.refl _) (Px IB w) ?_;rintro v I' M' -⟨rfl,rfl,rfl⟩;refine bp.mk ((i:Int)*64+nn deb w) (wrap_i64 ⟨by omega,by omega⟩) ?_;refine bp.mk _ rfl ?_;refine a9.yield rfl (by simp) rfl rfl ?_;have aE:=qX k CD I' M1 ch gR;rw[af]at aE;refine zm.mk M1 [] _ (by simp) aE ?_;rintro v du cQ hK (⟨rfl,kZ⟩ | ⟨rfl,ab⟩);·refine a1.mk (λh=>by simp at h) (λ_=>?_);refine bp.mk _ rfl ?_;exact⟨(qW w,f,k+1,du,cQ),⟨⟨CC,by simp only;omega,λb o h=>hK b o (ch b o h),kZ,aj,pK.symm⟩,by simp only;exact IA⟩,.perm (by simp) .refl,m8,.nil⟩
     ·refine a1.mk (λ_=>?_) (λh=>by simp at h);exact⟨_,_,.perm (by simp) .refl,.inr ab⟩
    ·have zx:w=0:=by simpa using h
     have d':IntKind.i64.wrap ((i:Int)+1)=((i+1:Nat):Int):=by rw[wrap_i64 ⟨by omega,by omega⟩];omega
     refine bp.mk _ d' ?_;have ag:np deb i f w=[]:=by cases f<;>simp[np,zx]
     rw[ag,lC]at eF;exact⟨(i+1,k,ct,M1),⟨⟨by simp only;omega,ch,gR,dI,eF⟩,by simp only;omega⟩,.refl,lx,.nil⟩
  ·have g1:i=4:=by simp at h;omega
   subst g1;refine⟨_,_,.refl,.inl ?_⟩;have h6:(fl deb 0 [a,b,c,d]).drop k=[]:=by rw[eF];rfl
   have sF:k=(mG (fl deb 0 [a,b,c,d])).length:=by have:=B5.1 h6;simp only[mG,j9];omega
   rw[<-sF];exact gR
def nq(l:List (UInt8×UInt8))(b:UInt8):List (UInt8×UInt8):=match l.getLast? with
 |some p=>bif decide ((p.2.toNat:Int)+1=b.toNat)then l.dropLast++[(p.1,b)]else l++[(b,b)]| none=>[(b,b)]
def jH(l:List UInt8):List (UInt8×UInt8):=l.foldl nq []
def fX(p:UInt8×UInt8):List Value:=[.int .u8 p.1.toNat,.int .u8 p.2.toNat]
def jI(l:List (UInt8×UInt8)):List Value:=l.flatMap fX
def zy(l:List (UInt8×UInt8)):(jI l).length=l.length*2:=hf fX 2 (λ_=>rfl) l
def PI(l:List (UInt8×UInt8))(b:UInt8):(nq l b).length<=l.length+1:=by
 unfold nq;split
 ·rename_i p h;cases decide ((p.2.toNat:Int)+1=b.toNat)<;>simp
 ·simp
def IC(l:List UInt8):(jH l).length<=l.length:=by
 have:∀ (l:List UInt8) (acc:List (UInt8×UInt8)),(l.foldl nq acc).length<=acc.length+l.length:=by
  intro l
  induction l with
  |nil=>intro acc;simp| cons b l aX=>intro acc;have U:=aX (nq acc b);have aa:=PI acc b;simp only[vI,c8];omega
 simpa[jH]using this l []
def q0:((⟨b,0,none⟩:Addr).add i).add j=(⟨b,0,none⟩:Addr).add (i+j):=by rw[cY ⟨_,0,none⟩ rfl i,cY _ rfl j,cY _ rfl (i+j)];simp
def ig{M:List aC}{cs:List Value}(aZ:(⟨b,.cells cs.toArray T (0,0)⟩:aC)∈M)(h:cs[i+j]?=some v):cx I M (((⟨b,0,none⟩:Addr).add i).add j) 1 [v]:=by obtain⟨au,rfl⟩:=gf.1 h;have:=dk (I:=I) aZ (k:=i+j) (n:=1) (by omega);rw[fe au,pC,pE]at this;rw[q0];exact this
def ID(pre:List Value)(u v z:Value)(rest:List Value)(k:Nat)(aj:k=pre.length+1):bt (pre++([u,v]++rest)) k [z]=pre++([u,z]++rest):=by
 subst aj;unfold bt;have ax:(pre++([u,v]++rest)).take (pre.length+1)=pre++[u]:=by rw[show pre++([u,v]++rest)=(pre++[u])++(v::rest)from by simp];exact nc (by simp)
 have aS:(pre++([u,v]++rest)).drop (pre.length+1+[z].length)=rest:=by rw[show pre++([u,v]++rest)=(pre++[u,v])++rest from by simp];exact List.drop_left' (by simp)
 rw[ax,aS];simp
def CE{os:bh}{aV:List (UInt8×UInt8)}{x:UInt8}(db:os.ok 2 (jI aV)){cur:List Value}(U:cur.length=c*2)(aa:os.n+1<=c)(ak:c<=maxLen)(aL:cur.take ((os.n+1)*2)=jI aV++fX (x,x)) :
  bh.ok ⟨some g,os.n+1,c,cur⟩ 2 (jI (aV++[(x,x)])):=by
 have wX:jI (aV++[(x,x)])=jI aV++fX (x,x):=by simp[jI]
 have au:=db.len;refine⟨?_,(λh=>by cases h),λbG je=>⟨U,aa,ak,by rw[wX];exact aL⟩⟩;rw[wX,cP,au];simp[fX];omega
def PJ(l:List UInt8)(x:UInt8):jH (l++[x])=nq (jH l) x:=by simp[jH]
def PK(sD:lL I deb){a b c:Int}(wW:∀ x∈[a,b,c,d],eu x):Spec Tryz.prog 246 [.agg #[.int .u64 a,.int .u64 b,.int .u64 c,.int .u64 d]] I []
  λr I' M'=>(∀ b o,I b=some o->I' b=some o)/\∃ os:bh,r=os.val/\os.ok 2 (jI (jH (fl deb 0 [a,b,c,d])))/\M'=os.bF 272:=by
 refine cB [3] a8 Tryz.func246 rfl rfl rfl ?_;intro B aD;refine eA.mk λg aw pH=>?_;refine aY.mk [] [⟨g,.cells #[.slice none 0 0] 270 (0,0)⟩] _ (.refl _) (PG a b c d) ?_;rintro v ct M1 -⟨aI,rfl,gp,ch,rfl⟩;have PL:lL ct deb:=by obtain⟨eL,eV,T,ah,fW⟩:=sD;exact⟨eL,eV,T,ah,ch _ _ fW⟩
 have cN:=CB deb [a,b,c,d] 0;refine dt.range a8 rfl rfl rfl .refl (PH PL wW gp) (λvs h=>?_) (λk I' M'=>(∀ b o,ct b=some o->I' b=some o)/\∃ os:bh,os.ok 2 (jI (jH ((fl deb 0 [a,b,c,d]).take k)))/\M'=⟨g,.cells #[os.val] 270 (0,0)⟩::os.bF 272) (λ_ _ _=>False) ⟨λ_ _ h=>h,⟨none,0,0,[]⟩,⟨rfl,λ_=>⟨rfl,rfl⟩,λg h=>by cases h⟩,rfl⟩ ?_ ?_ (λ_ _ _ _ h=>h.elim)
 ·obtain⟨c,_,rfl⟩:=dw.1 h;rfl
 ·rintro k aj I' M' -⟨fY,os,db,rfl⟩l B aD hE;have PM:k<(fl deb 0 [a,b,c,d]).length:=by simpa[mG]using aj
  generalize Xy:fl deb 0 [a,b,c,d]=L at *;generalize ab:L[k]=x;have af:(mG L)[k]=[.int .u8 x.toNat]:=by simp[mG,ab]
  rw[af];have wM:jH (L.take (k+1))=nq (jH (L.take k)) x:=by rw[l7 PM,ab,PJ]
  rw[wM];have mC:(jH (L.take k)).length<=256:=by have U:=IC (L.take k);have aa:=zi k L;simp only[c8,gP]at cN;omega
  generalize kN:jH (L.take k)=aV at *;have jJ:=x.toNat_lt;obtain⟨sG,n,cT,cur⟩:=os;have aF:aV.length=n:=by have:=db.len;rw[zy]at this;simp only at this;omega
  cases sG with
  |none=>
   obtain⟨ax,aS⟩:=db.nil rfl;simp only at ax aS;subst ax;subst aS;have nl:aV=[]:=h7 aF;have kb:nq aV x=aV++[(x,x)]:=by rw[nl];rfl
   refine ba.mk [.slice none 0 0] (dk (cs:=[.slice none 0 0]) (k:=0) (n:=1) (T:=270) (.head _) (by simp)) ?_;refine bp.mk (-1) (by decide) ?_;refine b9.mk (λh=>by simp at h) (λ_=>?_);refine ba.mk [.slice none 0 0] (dk (cs:=[.slice none 0 0]) (k:=0) (n:=1) (T:=270) (.head _) (by simp)) ?_;refine eA.mk λaQ jc IE=>?_;refine a9.append a8 rfl (by simp) (e:=272) rfl rfl rfl (⟨none,0,0,cur⟩:bh) db rfl (m:=1) rfl (news:=fX (x,x)) (by decide) (dk (cs:=fX (x,x)) (k:=0) (n:=2) (T:=272) (.head _) (by simp[fX])) rfl (Mr:=[⟨aQ,.cells (fX (x,x)).toArray 272 (0,0)⟩,⟨g,.cells #[.slice none 0 0] 270 (0,0)⟩]) (gk (l₁:=[_,_])) (by simp only[maxLen];omega) (by show(_+1)*2<=_;simp only;omega) ?_;intro dA c' fZ eL eV fW g4;refine df.mk [⟨dA,.cells fZ.toArray 272 (0,0)⟩,⟨aQ,.cells (fX (x,x)).toArray 272 (0,0)⟩] [] _ _ rfl rfl (bk rfl) rfl ?_;refine⟨_,_,.perm (M1:=[⟨aQ,.cells (fX (x,x)).toArray 272 (0,0)⟩]++(⟨g,.cells #[bh.val ⟨some dA,(⟨none,0,0,cur⟩:bh).n+1,c',fZ⟩] 270 (0,0)⟩::bh.bF ⟨some dA,(⟨none,0,0,cur⟩:bh).n+1,c',fZ⟩ 272)) (gk (l₁:=[_]) (l₂:=[_,_])) (.sub (jA _ _) .refl),fY,⟨some dA,(⟨none,0,0,cur⟩:bh).n+1,c',fZ⟩,?_,rfl⟩;rw[kb];exact CE db eL eV fW g4
  |some bC=>
   obtain⟨dM,iF,hG,ey⟩:=db.cap bC rfl;simp only at dM iF hG ey;refine ba.mk [.slice (some ⟨bC,0,none⟩) n cT] (dk (cs:=[.slice (some ⟨bC,0,none⟩) n cT]) (k:=0) (n:=1) (T:=270) (.head _) (by simp)) ?_;refine bp.mk ((n:Int)-1) (wrap_i64 ⟨by omega,by omega⟩) ?_;refine b9.mk (λU=>?_) (λU=>?_)
   ·have nZ:1<=n:=by simp at U;omega
    obtain⟨nr,p,rfl⟩:∃ nr p,aV=nr++[p]:=by
     rcases List.eq_nil_or_concat aV with h | ⟨r,p,h⟩;·subst h;simp at aF;omega
     ·exact⟨r,p,by simpa using h⟩
    have mw:nr.length=n-1:=by simp at aF;omega
    have fm:(jI nr).length=(n-1)*2:=by rw[zy,mw]
    obtain⟨rest,ih⟩:∃ rest,cur=jI nr++([.int .u8 p.1.toNat,.int .u8 p.2.toNat]++rest):=by refine⟨cur.drop (n*2),?_⟩;have aa:=qH (n*2) cur;rw[ey]at aa;rw[<-aa,List.drop_left' (by rw[zy,aF])];simp[jI,fX]
    have CF:cur[(n-1)*2+1*1]?=some (.int .u8 p.2.toNat):=by rw[ih,<-fm,j8 (by omega)];simp
    have IF:=p.2.toNat_lt;refine ba.mk [.slice (some ⟨bC,0,none⟩) n cT] (dk (cs:=[.slice (some ⟨bC,0,none⟩) n cT]) (k:=0) (n:=1) (T:=270) (.head _) (by simp)) ?_;refine c2.mk ⟨bC,0,none⟩ (n-1) rfl (by omega) (by omega) ?_;refine eo.mk 1 rfl (by decide) ?_;refine ba.mk [.int .u8 p.2.toNat] (ig (b:=bC) (cs:=cur) (T:=272) (by simp[bh.bF]) CF) ?_;refine bp.mk (p.2.toNat:Int) (wrap_i64 ⟨by omega,by omega⟩) ?_;refine bp.mk ((p.2.toNat:Int)+1) (wrap_i64 ⟨by omega,by omega⟩) ?_;refine bp.mk (x.toNat:Int) (wrap_i64 ⟨by omega,by omega⟩) ?_;have kb:nq (nr++[p]) x=bif decide ((p.2.toNat:Int)+1=x.toNat)then nr++[(p.1,x)]else nr++[p]++[(x,x)]:=by simp[nq]
    refine a1.mk (λaa=>?_) (λaa=>?_)
    ·rw[aa]at kb;refine ba.mk [.slice (some ⟨bC,0,none⟩) n cT] (dk (cs:=[.slice (some ⟨bC,0,none⟩) n cT]) (k:=0) (n:=1) (T:=270) (.head _) (by simp)) ?_;refine c2.mk ⟨bC,0,none⟩ (n-1) rfl (by omega) (by omega) ?_;refine eo.mk 1 rfl (by decide) ?_;rw[q0];refine df.add [⟨g,.cells #[.slice (some ⟨bC,0,none⟩) n cT] 270 (0,0)⟩] [] cur.toArray _ rfl ?_ rfl ?_
     ·simp only[mU];show 0+((n-1)*2+1)+1<=_;omega
     ·refine⟨_,_,.refl,fY,⟨some bC,n,cT,bt cur (0+((n-1)*2+1*1)) [.int .u8 x.toNat]⟩,?_,rfl⟩;have cX:bt cur (0+((n-1)*2+1*1)) [.int .u8 x.toNat]=jI nr++([.int .u8 p.1.toNat,.int .u8 x.toNat]++rest):=by rw[ih];exact ID _ _ _ _ _ _ (by omega)
      rw[kb,cX];have wX:jI (nr++[(p.1,x)])=jI nr++[.int .u8 p.1.toNat,.int .u8 x.toNat]:=by simp[jI,fX]
      refine⟨?_,(λh=>by cases h),λbG je=>⟨?_,iF,hG,?_⟩⟩;·simp only[bn];rw[wX,cP,fm];simp;omega
      ·simp only;rw[<-dM,ih];simp
      ·simp only[bn];rw[wX,<-hc];refine nc ?_;rw[cP,fm];simp;omega
    ·rw[aa]at kb;simp only[bj]at kb;refine ba.mk [.slice (some ⟨bC,0,none⟩) n cT] (dk (cs:=[.slice (some ⟨bC,0,none⟩) n cT]) (k:=0) (n:=1) (T:=270) (.head _) (by simp)) ?_;refine eA.mk λaQ jc IE=>?_;refine a9.append a8 rfl (by simp) (e:=272) rfl rfl rfl (⟨some bC,n,cT,cur⟩:bh) db rfl (m:=1) rfl (news:=fX (x,x)) (by decide) (dk (cs:=fX (x,x)) (k:=0) (n:=2) (T:=272) (.head _) (by simp[fX])) rfl (Mr:=[⟨aQ,.cells (fX (x,x)).toArray 272 (0,0)⟩,⟨g,.cells #[.slice (some ⟨bC,0,none⟩) n cT] 270 (0,0)⟩]) (gk (l₁:=[_,_])) (by simp only[maxLen];omega) (by show(_+1)*2<=_;simp only;omega) ?_;intro dA c' fZ eL eV fW g4;refine df.mk [⟨dA,.cells fZ.toArray 272 (0,0)⟩,⟨aQ,.cells (fX (x,x)).toArray 272 (0,0)⟩] [] _ _ rfl rfl (bk rfl) rfl ?_;refine⟨_,_,.perm (M1:=[⟨aQ,.cells (fX (x,x)).toArray 272 (0,0)⟩]++(⟨g,.cells #[bh.val ⟨some dA,(⟨some bC,n,cT,cur⟩:bh).n+1,c',fZ⟩] 270 (0,0)⟩::bh.bF ⟨some dA,(⟨some bC,n,cT,cur⟩:bh).n+1,c',fZ⟩ 272)) (gk (l₁:=[_]) (l₂:=[_,_])) (.sub (jA _ _) .refl),fY,⟨some dA,(⟨some bC,n,cT,cur⟩:bh).n+1,c',fZ⟩,?_,rfl⟩;rw[kb];exact CE db eL eV fW g4
   ·have mw:n=0:=by simp at U;omega
    have nl:aV=[]:=h7 (by omega);have kb:nq aV x=aV++[(x,x)]:=by rw[nl];rfl
    refine ba.mk [.slice (some ⟨bC,0,none⟩) n cT] (dk (cs:=[.slice (some ⟨bC,0,none⟩) n cT]) (k:=0) (n:=1) (T:=270) (.head _) (by simp)) ?_;refine eA.mk λaQ jc IE=>?_;refine a9.append a8 rfl (by simp) (e:=272) rfl rfl rfl (⟨some bC,n,cT,cur⟩:bh) db rfl (m:=1) rfl (news:=fX (x,x)) (by decide) (dk (cs:=fX (x,x)) (k:=0) (n:=2) (T:=272) (.head _) (by simp[fX])) rfl (Mr:=[⟨aQ,.cells (fX (x,x)).toArray 272 (0,0)⟩,⟨g,.cells #[.slice (some ⟨bC,0,none⟩) n cT] 270 (0,0)⟩]) (gk (l₁:=[_,_])) (by simp only[maxLen];omega) (by show(_+1)*2<=_;simp only;omega) ?_;intro dA c' fZ eL eV fW g4;refine df.mk [⟨dA,.cells fZ.toArray 272 (0,0)⟩,⟨aQ,.cells (fX (x,x)).toArray 272 (0,0)⟩] [] _ _ rfl rfl (bk rfl) rfl ?_;refine⟨_,_,.perm (M1:=[⟨aQ,.cells (fX (x,x)).toArray 272 (0,0)⟩]++(⟨g,.cells #[bh.val ⟨some dA,(⟨some bC,n,cT,cur⟩:bh).n+1,c',fZ⟩] 270 (0,0)⟩::bh.bF ⟨some dA,(⟨some bC,n,cT,cur⟩:bh).n+1,c',fZ⟩ 272)) (gk (l₁:=[_]) (l₂:=[_,_])) (.sub (jA _ _) .refl),fY,⟨some dA,(⟨some bC,n,cT,cur⟩:bh).n+1,c',fZ⟩,?_,rfl⟩;rw[kb];exact CE db eL eV fW g4
 ·rintro I' M' -⟨fY,os,db,rfl⟩;refine ba.mk [os.val] (dk (cs:=[os.val]) (k:=0) (n:=1) (T:=270) (.head _) (by simp)) ?_;refine⟨_,_,.sub (List.sublist_cons_self _ _) .refl,λb o h=>fY _ _ (ch _ _ h),os,rfl,?_,rfl⟩;have:(fl deb 0 [a,b,c,d]).take (mG (fl deb 0 [a,b,c,d])).length=fl deb 0 [a,b,c,d]:=kU (by simp[mG]);rw[this]at db;exact db
def bh.ok.row{M:List aC}{os:bh}{f:α->List Value}(az:∀ x,(f x).length=size)(aD:0<size){l:List α}(h:os.ok size (l.flatMap f))(aZ:∀ x∈os.bF e,x∈M)(ap:j<l.length) :
  ∃ ad,os.a.map (λg=>(⟨g,0,none⟩:Addr))=some ad/\cx I M (ad.add (j*size)) size (f l[j]):=by
 have aF:l.length=os.n:=by have U:=h.len;rw[hf f size az]at U;exact Nat.eq_of_mul_eq_mul_right aD U
 cases aN:os.a with
 |none=>have:=(h.nil aN).1;omega
 |some g=>
  obtain⟨U,aa,ak,aL⟩:=h.cap g aN;refine⟨⟨g,0,none⟩,rfl,?_⟩;have hle:j*size+size<=os.n*size:=by have:=jX size (show j+1<=os.n by omega);rw[h9,sp]at this;exact this
  have dM:os.n*size<=os.cur.length:=by rw[U];exact jX _ aa
  have:=dk (I:=I) (M:=M) (b:=g) (T:=e) (cs:=os.cur) (aZ _ (by simp[bh.bF,aN])) (k:=j*size) (n:=size) (by omega);have ax:(os.cur.drop (j*size)).take size=f l[j]:=by rw[<-zo f size az l j ap,<-aL,wB,ub];congr 1;omega
  rw[ax]at this;exact this
def sH:ByteArray:=⟨#[34]⟩
def ow:ByteArray:=⟨#[93,45,94]⟩
def wY(s:ByteArray):List UInt8:=[34]++s.data.toList.flatMap (ic · sH)++[34]
def strOf(l:List UInt8):ByteArray:=⟨l.toArray⟩
def wZ{α β:Type}(f:α->List β)(m:Nat)(az:∀ x,(f x).length<=m):∀ l:List α,(l.flatMap f).length<=m*l.length
 |[]=>by simp
 |x::l=>by have U:=wZ f m az l;have aa:=az x;simp only[qJ,cP,c8,Nat.mul_add];omega
def IG(s:ByteArray)(an:s.size<=1099511627776):Spec Tryz.prog 228 [.string s] I [] λr I' M'=>r=.string (strOf (wY s))/\I'=I/\M'=[]:=by
 refine cB [3] a8 Tryz.func228 rfl rfl rfl ?_;intro B aD;refine eA.mk λb ag sw=>?_;refine aY.mk (dj.new.M b) [] _ (.refl _) (jG b dj.zs 34 (by decide)) ?_;rintro v I' M' -⟨rfl,rfl,n9,dF,uq,rfl⟩;refine fh.inv (ι:=Nat×dj) (λp=>{ b8:=[(0,.val (.string s)),(3,.val (ptr b)),(4,.val (.int .i64 p.1))],dL:=I',fg:=p.2.M b }) (λp=>p.1<=s.size/\p.2.ok/\p.2.bz=[34]++(s.data.toList.take p.1).flatMap (ic · sH)) (λp=>s.size-p.1) ?_ ?_
 ·exact⟨(0,n9),⟨by simp,dF,by simp[uq,dj.new]⟩,.perm (by simp) .refl,lx,.nil⟩
 ·rintro⟨i,x⟩⟨hi,ab,jf⟩;simp only at hi ab jf;have hlen:x.bz.length<=1+4*i:=by rw[jf];have:=wZ (ic · sH) 4 (λc=>wR c sH) (s.data.toList.take i);have aa:=zi i s.data.toList;simp only[cP,c8,gP];omega
  refine a1.mk (λh=>?_) (λh=>?_)
  ·have a0:i<s.size:=by simpa using h
   have cJ:i<s.data.toList.length:=a0;refine rX.mk i rfl a0 ?_;refine aY.mk (x.M b) [] _ (by simp) (zu b ab s[i] sH (by omega)) ?_;rintro v I' M' -⟨rfl,y,aE,ev,rfl⟩;have d':IntKind.i64.wrap ((i:Int)+1)=((i+1:Nat):Int):=by rw[wrap_i64 ⟨by omega,by omega⟩];omega
   refine bp.mk _ d' ?_;refine⟨(i+1,y),⟨⟨by simp only;omega,aE,?_⟩,by simp only;omega⟩,.perm (by simp) .refl,lx,.nil⟩;simp only;rw[ev,jf,l7 cJ,oc,hc];congr 1;simp;rfl
  ·have eD:s.size<=i:=by simpa using h
   have e':s.data.toList.take i=s.data.toList:=kU eD;refine aY.mk (x.M b) [] _ (by simp) (jG b ab 34 (by omega)) ?_;rintro v I' M' -⟨rfl,rfl,y,aE,ev,rfl⟩;refine aY.mk (y.M b) [] _ (by simp) (pI b aE (by rw[ev];simp;omega)) ?_;rintro v I' M' -⟨rfl,rfl,rfl⟩;refine⟨_,_,.refl,?_,rfl,by simp⟩;rw[ev,jf,e'];rfl
def ns(p:UInt8×UInt8):List UInt8:=
 ic p.1 ow++((bif decide (1<IntKind.u8.wrap ((p.2.toNat:Int)-p.1.toNat))then [45]else [])++(bif !decide ((p.2.toNat:Int)=p.1.toNat)then ic p.2 ow else []))
def q1(deb:List Int)(a b c d:Int):List UInt8:=
 bif (a == fz 0&&(b == fz 0&&(c == fz 0&&d == fz 0)))then [46]else [91]++(jH (fl deb 0 [a,b,c,d])).flatMap ns++[93]
def IH(p:UInt8×UInt8):(ns p).length<=9:=by
 have U:=wR p.1 ow;have aa:=wR p.2 ow;unfold ns;cases decide (1<IntKind.u8.wrap ((p.2.toNat:Int)-p.1.toNat))<;>cases decide ((p.2.toNat:Int)=p.1.toNat)<;>simp<;>omega
def II(deb:List Int)(a b c d:Int):(jH (fl deb 0 [a,b,c,d])).length<=256:=by have U:=CB deb [a,b,c,d] 0;have aa:=IC (fl deb 0 [a,b,c,d]);simp only[c8,gP]at U;omega
def PN(deb:List Int)(a b c d:Int):(q1 deb a b c d).length<=2306:=by
 have U:=II deb a b c d;have aa:=wZ ns 9 IH (jH (fl deb 0 [a,b,c,d]));unfold q1;cases(a == fz 0&&(b == fz 0&&(c == fz 0&&d == fz 0)))
 ·simp only[bj,cP,c8,gP];omega
 ·simp
def PO(sD:lL I deb){a b c:Int}(wW:∀ x∈[a,b,c,d],eu x):Spec Tryz.prog 229 [.agg #[.int .u64 a,.int .u64 b,.int .u64 c,.int .u64 d]] I []
  λr I' M'=>r=.string (strOf (q1 deb a b c d))/\(∀ b o,I b=some o->I' b=some o)/\M'=[]:=by
 refine cB [3] a8 Tryz.func229 rfl rfl rfl ?_;intro B aD;refine dt.draw a8 rfl rfl rfl ?_;refine iX.mk _ PA ?_;rintro v I' M' -⟨rfl,rfl,rfl⟩;refine eI.HI a8 (e:=67) rfl rfl rfl rfl (by kernel_rfl) ?_;refine a1.mk (λh=>?_) (λh=>?_)
 ·refine⟨_,_,.refl,?_,λ_ _ h=>h,rfl⟩;simp only[q1,h];rfl
 ·refine eA.mk λg aw pH=>?_;refine aY.mk (dj.new.M g) [] _ (.refl _) (jG g dj.zs 91 (by decide)) ?_;rintro v I' M' -⟨rfl,rfl,n9,dF,uq,rfl⟩;refine aY.mk [] (n9.M g) _ (by simp) (PK sD wW) ?_;rintro v ct M1 -⟨ch,os,rfl,db,rfl⟩;have mC:=II deb a b c d;have dM:q1 deb a b c d=[91]++(jH (fl deb 0 [a,b,c,d])).flatMap ns++[93]:=by simp only[q1,h];rfl
  generalize kN:jH (fl deb 0 [a,b,c,d])=aV at *;have aF:aV.length=os.n:=by have:=db.len;rw[zy]at this;omega
  refine fh.inv (ι:=Nat×dj) (λp=>{ b8:=[(3,.val (ptr g)),(11,.val os.val),(12,.val (.int .i64 os.n)),(13,.val (.int .i64 p.1))],dL:=ct,fg:=p.2.M g++os.bF 272 }) (λp=>p.1<=os.n/\p.2.ok/\p.2.bz=[91]++(aV.take p.1).flatMap ns) (λp=>os.n-p.1) ?_ ?_;·exact⟨(0,n9),⟨by simp,dF,by simp[uq,dj.new]⟩,.perm (by simpa using gk) .refl,ei,.nil⟩
  ·rintro⟨i,x⟩⟨hi,ab,jf⟩;simp only at hi ab jf;have hlen:x.bz.length<=1+9*i:=by rw[jf];have:=wZ ns 9 IH (aV.take i);have aa:=zi i aV;simp only[cP,c8,gP];omega
   refine a1.mk (λh=>?_) (λh=>?_)
   ·have a0:i<os.n:=by simpa using h
    have cJ:i<aV.length:=by omega
    obtain⟨ad,dH,cj⟩:=bh.ok.row (I:=ct) (M:=x.M g++os.bF 272) (f:=fX) (λ_=>rfl) (by decide) db (e:=272) (λy aE=>by simp[aE]) cJ;refine c2.mk ad i dH rfl a0 ?_;refine ba.mk _ cj ?_;generalize aK:aV[i]=p;refine eo.mk 0 rfl (by decide) ?_;refine aY.mk (x.M g) (os.bF 272) _ (.refl _) (zu g ab p.1 ow (by omega)) ?_;rintro v I' M' -⟨rfl,y,aE,ev,rfl⟩;have Iv:y.bz.length<=5+9*i:=by rw[ev,cP];have:=wR p.1 ow;omega
    refine eo.mk 1 rfl (by decide) ?_;refine eo.mk 0 rfl (by decide) ?_;refine bp.mk _ rfl ?_;refine a1.mk (λcH=>?_) (λcH=>?_)
    ·refine aY.mk (y.M g) (os.bF 272) _ (by simp) (jG g aE 45 (by omega)) ?_;rintro v I' M' -⟨rfl,rfl,u,hu,pJ,rfl⟩;have IJ:u.bz.length<=6+9*i:=by rw[pJ];simp;omega
     refine eo.mk 1 rfl (by decide) ?_;refine eo.mk 0 rfl (by decide) ?_;refine a1.mk (λcz=>?_) (λcz=>?_)
     ·refine eo.mk 1 rfl (by decide) ?_;refine aY.mk (u.M g) (os.bF 272) _ (by simp) (zu g hu p.2 ow (by omega)) ?_;rintro v I' M' -⟨rfl,z,a2,mE,rfl⟩;have d':IntKind.i64.wrap ((i:Int)+1)=((i+1:Nat):Int):=by rw[wrap_i64 ⟨by omega,by omega⟩];omega
      refine bp.mk _ d' ?_;refine⟨(i+1,z),⟨⟨by simp only;omega,a2,?_⟩,by simp only;omega⟩,.perm (by simp) .refl,ei,.nil⟩;simp only;rw[mE,pJ,ev,jf,l7 cJ,oc,aK];simp[ns,cH,cz]
     ·have d':IntKind.i64.wrap ((i:Int)+1)=((i+1:Nat):Int):=by rw[wrap_i64 ⟨by omega,by omega⟩];omega
      refine bp.mk _ d' ?_;refine⟨(i+1,u),⟨⟨by simp only;omega,hu,?_⟩,by simp only;omega⟩,.perm (by simp) .refl,ei,.nil⟩;simp only;rw[pJ,ev,jf,l7 cJ,oc,aK];simp[ns,cH,cz]
    ·refine eo.mk 1 rfl (by decide) ?_;refine eo.mk 0 rfl (by decide) ?_;refine a1.mk (λcz=>?_) (λcz=>?_)
     ·refine eo.mk 1 rfl (by decide) ?_;refine aY.mk (y.M g) (os.bF 272) _ (by simp) (zu g aE p.2 ow (by omega)) ?_;rintro v I' M' -⟨rfl,z,a2,mE,rfl⟩;have d':IntKind.i64.wrap ((i:Int)+1)=((i+1:Nat):Int):=by rw[wrap_i64 ⟨by omega,by omega⟩];omega
      refine bp.mk _ d' ?_;refine⟨(i+1,z),⟨⟨by simp only;omega,a2,?_⟩,by simp only;omega⟩,.perm (by simp) .refl,ei,.nil⟩;simp only;rw[mE,ev,jf,l7 cJ,oc,aK];simp[ns,cH,cz]
     ·have d':IntKind.i64.wrap ((i:Int)+1)=((i+1:Nat):Int):=by rw[wrap_i64 ⟨by omega,by omega⟩];omega
      refine bp.mk _ d' ?_;refine⟨(i+1,y),⟨⟨by simp only;omega,aE,?_⟩,by simp only;omega⟩,.perm (by simp) .refl,ei,.nil⟩;simp only;rw[ev,jf,l7 cJ,oc,aK];simp[ns,cH,cz]
   ·have eD:os.n<=i:=by simpa using h
    have e':aV.take i=aV:=kU (by omega);refine aY.mk (x.M g) (os.bF 272) _ (.refl _) (jG g ab 93 (by omega)) ?_;rintro v I' M' -⟨rfl,rfl,y,aE,ev,rfl⟩;refine aY.mk (y.M g) (os.bF 272) _ (.refl _) (pI g aE (by rw[ev];simp;omega)) ?_;rintro v I' M' -⟨rfl,rfl,rfl⟩;refine⟨_,_,.sub (fa _) .refl,?_,ch,rfl⟩;rw[ev,jf,e',dM];rfl
end Go.V
