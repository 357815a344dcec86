/- Part 2 of what the proofs of this seat share: the executor, data in memory, walks.
-/
import Derived.Test.YtafmlpfnapaghaaGreatDoorK1
import Derived.Lib.UnsafeStr
import Derived.Test.YtafmlpfnapaghaaGreatDoorProg
import Derived.KernelRfl
import Derived.Lib.Builder
import Derived.Lib.Bytealg
import Derived.Laws.Pointers
import Derived.Laws.StructEq
set_option linter.all false
set_option maxHeartbeats 4000000
namespace Go.V
open Go
def bJ:=@List.getElem_mem
def cz:=@List.length_append
def ev:=@List.getElem?_eq_getElem
def dX:=@List.take_of_length_le
def en:=@Int.eq_ofNat_of_zero_le
def cW:=@List.nil_sublist
def cT:=@List.length_map
def e':=@List.sublist_append_right
def db:=@List.append_nil
def cM:=@Nat.zero_add
def dI:=@List.length_nil
def hZ:=@List.eq_nil_of_length_eq_zero
def gQ:=@List.perm_append_comm
def fx:=@List.append_assoc
def fH:=@List.length_take
def iW:=@List.drop_eq_nil_of_le
def jF:=@List.flatMap_append
def iz:=@List.getElem?_set
def fh:=@Nat.mul_one
def hO:=@List.nil_append
def pI:=@List.getElem?_append_right
def nq:=@List.take_succ_cons
def mh:=@List.flatMap_cons
def rA:=@decide_eq_false_iff_not
def jj:=@List.map_nil
def kj:=@Bool.true_and
def qB:=@Bool.or_eq_false_iff
def rB:=@List.take_append_drop
def n3:=@List.length_drop
def mi:=@List.take_zero
def Aq:=@List.set_eq_take_append_cons_drop
def rC:=@List.map_congr_left
def oO:=@List.cons_append
def oP:=@List.getElem_map
def rD:=@List.length_take_le
def nr:=@Bool.false_and
def vp:=@List.getElem_cons_zero
def pJ:=@List.take_left'
def n4:=@List.sum_cons
def rE:=@List.ext_getElem
def lG:=@Nat.add_mul
def xb:=@List.eq_nil_or_concat
def vq:=@Array.length_toList
def CD:=@List.take_append_of_le_length
def qC:=@List.drop_zero
def yz:=@List.length_replicate
def Fa:=@Array.eq_empty_of_size_eq_zero
def vr:=@List.map_toArray
def yA:=@Int.toNat_of_nonneg
def yB:=@List.map_replicate
def CE:=@World.putObj_heap_same
def qD:=@Nat.one_mul
def yC:=@List.ext_getElem?
def Mm:=@Std.Legacy.Range.forIn_eq_forIn_range'
def xd:=@List.take_take
def ID:=@Int.fdiv_eq_ediv_of_nonneg
def xe:=@Nat.zero_mul
def Ar:=@List.drop_take
def IE:=@ByteArray.size_extract
def CF:=@List.drop_left'
def CG:=@List.take_left
def Mn:=@List.getElem_cons_succ
def Mo:=@Nat.testBit_lt_two_pow
def Mp:=@List.sublist_cons_self
def CH:=@List.map_set
def CI:=@List.set_set
def IF:=@List.getElem_set
def IG:=@BitVec.toNat_and
def IH:=@Nat.lt_of_not_le
def Mq:=@Nat.pow_le_pow_right
def Ms:=@List.drop_eq_nil_iff
def Th:=@List.drop_length_add_append
def Mt:=@List.filter_sublist
def Ti:=@Lib.run_firstCells_string
def Mu:=@List.take_length
def Mv:=@List.forIn_cons
def Mw:=@List.drop_drop
def II:=@Nat.mul_add
variable{P:Program}{a sa:Option Addr}{w:World}{c g m t u e c' b tG it T size j i bh:Nat}{X:cO}{F:Fr}{C:c8}{I I':aT}{K:List aD->Prop}{o:Obj}{f x s y:Operand}{vs xs news:List Value}{n5:TypeDesc}{dr ns aO:dW}{vt p v:Value}{Mr:List aD}{ad:Addr}{k:IntKind}{other:Prop}{cs:Array Value}{α:Type}{deb:List Int}{d:Int}
def Tj{ru:Fence}{n:Nat}{Q:Exit->Act->World->Prop}{a:Act}{c:Code}(J:Nat->Nat->Act->World->Prop)
  (first:c.wpIn ru n P (λe ch w'=>match e with
   | .goto l=>∃ m,J l m ch w'| e=>Q e ch w') a w)
  (pass:∀ l m a w,J l m a w->∃ rest,findLabel c l=some rest/\rest.wpIn ru n P (λe ch w'=>match e with
   | .goto dy=>∃ m',m'<m/\J dy m' ch w'| e=>Q e ch w') a w):(Code.scope c).wpIn ru n P Q a w:=by
 intro b k cs iw ah ag;have cF:step P (lone (b.atR a (.code (.scope c)::k)) cs w)=.next (lone (b.atR a (.code c::.inScope c::k)) cs w):=
  step_lone_go (by simp[stepG,stepG.exec,Frame.atR])
 have s1:∀ a w,step P (lone (b.atR a (.inScope c::k)) cs w)=.next (lone (b.atR a k) cs w):=λa w=>
  step_lone_go (by simp[stepG,stepG.exec,Frame.atR])
 have ae:∀ id,exitTo id (.inScope c::k)=exitTo id k:=λid=>by simp[exitTo]
 have fin:∀ {m:Machine} {e:Exit} {jB:Act} {jC:World},(∀ l,e≠.goto l)->ArrivesIn (Machine.fenced P ru) P m b (.inScope c::k) cs e jB jC->ArrivesIn (Machine.fenced P ru) P m b k cs e jB jC:=by
  intro m e jB jC bB ix;cases e with
  |normal=>exact StepsIn.trans ix (.one (fenced_calm ah ag rfl) (s1 _ _))| exit id=>exact⟨λeQ af=>ix.1 eQ (by rw[ae];exact af),λgP af=>ix.2 gP (by rw[ae];exact af)⟩| goto l=>exact(bB l rfl).elim| ret=>exact ix| panic EX=>exact ix| outgrown=>exact ix
 have key:∀ m l a w,J l m a w->∀ rest,findLabel c l=some rest->∃ e ch w',Q e ch w'/\ArrivesIn (Machine.fenced P ru) P (lone (b.atR a (.code rest::.inScope c::k)) cs w) b k cs e ch w':=by
  intro m
  induction m using Nat.strongRecOn with
  |_ m a8=>
   intro l a w bg rest yD;obtain⟨CJ,au,hw⟩:=pass l m a w bg;rw[yD]at au;cases au;obtain⟨e,jB,jC,a0,ix⟩:=hw b (.inScope c::k) cs iw ah ag;cases e with
   |goto dy=>
    obtain⟨m',ax,CK⟩:=a0;obtain⟨CJ,sJ,_⟩:=pass dy m' jB jC CK;have ao:gotoIn dy (.inScope c::k)=some (.code CJ::.inScope c::k):=by simp[gotoIn,sJ]
    obtain⟨ES,ET,EU,EV,EW⟩:=a8 m' ax dy jB jC CK CJ sJ;exact⟨ES,ET,EU,EV,.of_steps (ix.1 _ ao) EW⟩
   |normal=>exact⟨_,jB,jC,a0,fin (by simp) ix⟩| exit id=>exact⟨_,jB,jC,a0,fin (by simp) ix⟩| ret=>exact⟨_,jB,jC,a0,fin (by simp) ix⟩| panic EX=>exact⟨_,jB,jC,a0,fin (by simp) ix⟩| outgrown=>exact⟨_,jB,jC,a0,fin (by simp) ix⟩
 have av:(lone (b.atR a (.code (.scope c)::k)) cs w).fenced P ru:=fenced_calm ah ag rfl;obtain⟨e,jB,jC,a0,ix⟩:=first b (.inScope c::k) cs iw ah ag
 cases e with
 |goto dy=>
  obtain⟨m',CK⟩:=a0;obtain⟨CJ,sJ,_⟩:=pass dy m' jB jC CK;have ao:gotoIn dy (.inScope c::k)=some (.code CJ::.inScope c::k):=by simp[gotoIn,sJ]
  obtain⟨ES,ET,EU,EV,EW⟩:=key m' dy jB jC CK CJ sJ;exact⟨ES,ET,EU,EV,.of_steps (.head av cF (ix.1 _ ao)) EW⟩
 |normal=>exact⟨_,jB,jC,a0,.of_steps (.one av cF) (fin (by simp) ix)⟩| exit id=>exact⟨_,jB,jC,a0,.of_steps (.one av cF) (fin (by simp) ix)⟩| ret=>exact⟨_,jB,jC,a0,.of_steps (.one av cF) (fin (by simp) ix)⟩| panic EX=>exact⟨_,jB,jC,a0,.of_steps (.one av cF) (fin (by simp) ix)⟩| outgrown=>exact⟨_,jB,jC,a0,.of_steps (.one av cF) (fin (by simp) ix)⟩
def IJ(N:Nat->fZ)(K:j6):j6
 | .goto l=>N l| e=>K e
def cr.scope{c:Code}{M:List aD}{K:j6}(aR:cX X.P X.E)(bM:codeOk X.n c=true){ι:Type}(b4:ι->tC)(vu:ι->Nat)(inv:ι->Prop)(μ:ι->Nat)(rest:Nat->Code)(yD:∀ i,inv i->findLabel c (vu i)=some (rest (vu i))/\codeOk X.n (rest (vu i))=true)(first:V X c F C I M (IJ (λl=>n1 X.cp b4 λj=>inv j/\vu j=l) K))(pass:∀ i,inv i->V X (rest (vu i)) (pA (b4 i).a4) (pB (b4 i).cl) (b4 i).br (b4 i).bO (IJ (λl=>n1 X.cp b4 λj=>(inv j/\vu j=l)/\μ j<μ i) K)) :
  cr X (.scope c) F C I M K:=by
 refine⟨λa w a5=>?_⟩;let J (l m:Nat) (a:Act) (w:World):Prop:=∃ i,inv i/\vu i=l/\μ i=m/\Rel X a w (pA (b4 i).a4) (pB (b4 i).cl) (b4 i).br (b4 i).bO
 have yp:∀ {p:ι->Prop} {l:Nat} {a w},(∀ i,p i->inv i/\vu i=l)->Sat X (n1 X.cp b4 p) a w->∃ i,p i/\J l (μ i) a w:=by rintro p l a w aN⟨F,C,I,M,⟨β,ag⟩,⟨j,rv,hw,bs,lC⟩⟩;exact⟨j,rv,j,(aN j rv).1,(aN j rv).2,rfl,β,(ag.base bs lC).jg hw⟩
 refine Tj J (wpIn_mono (qv aR c bM a5 first) ?_) ?_
 ·intro e a w h;cases e with
  |goto l=>obtain⟨j,aj,bg⟩:=yp (p:=λj=>inv j/\vu j=l) (l:=l) (λ_ h=>h) h;exact⟨_,bg⟩
  |_=>exact h
 ·rintro l m a w⟨i,hi,rfl,rfl,ag⟩;obtain⟨U,ab⟩:=yD i hi;refine⟨_,U,wpIn_mono (qv aR _ ab ag (pass i hi)) ?_⟩;intro e a w h;cases e with
  |goto dy=>obtain⟨j,aj,bg⟩:=yp (p:=λj=>(inv j/\vu j=dy)/\μ j<μ i) (l:=dy) (λ_ h=>h.1) h;exact⟨_,aj.2,bg⟩
  |_=>exact h
def Fb(P:Program)(l:Nat)(args:List Value)(I:aT)(M:List aD)(post:Value->aT->List aD->Prop):Prop:=
 ∀ w,ef I M w->∃ f tmps assign body,(Instr.yield l args.toArray).run P w=.ok (.round l f tmps assign body) w /\ RoundIn Fence.wide 0 P l f tmps assign body w λe w'=>∃ v I' M',e=.returned v/\post v I' M'/\ef I' M' w'/\Kept I M w I' M' w'
inductive IK(P:Program)(l:Nat)(args:List Value)(I:aT)(M:List aD)(K:Value->aT->List aD->Prop):Prop
 |mk(ez Mr:List aD)(post:Value->aT->List aD->Prop)(aV:M.Perm (ez++Mr))(ar:Fb P l args I ez post)(k:∀ v I' M',(∀ b o,I b=some o->I' b=some o)->post v I' M'->K v I' (M'++Mr))
def bk.yield{o:Oper}{M:List aD}{K:fZ}{args:Array Operand}{eJ:Array TypeId}{l:Nat}(aP:o.op=.call { callee:=.value f,args,argTypes:=eJ })(al:∀ d,o.dst=some d->d<X.n)(au:bY F f=.val (.func (.yield l) #[] #[]))(ib:l8 F args.toList=some vs)
  (h:IK X.P l vs I M λv I' M'=>K (put o.dst (.val v) F) C I' M'):bk X o F C I M K:=by
 refine⟨λa w Q ⟨β,a5⟩=>?_⟩;obtain⟨ez,Mr,post,aV,ar,af⟩:=h;obtain⟨fn,tmps,assign,body,aA,ag⟩:=ar w (a5.holds.part aV);have aF:=sB a5.an ib;have dZ:args.map a.eval=vs.toArray:=by apply gF;simpa using aF
 have a7:=dx a5.an au;obtain⟨dst,op,ty,pos,after,guard⟩:=o;simp only at aP;subst aP;refine⟨λ_ _=>trivial,?_⟩;rw[H8 _ _ _ (by simp)];have fm:(execOp a.eval ⟨dst,.call { callee:=.value f,args,argTypes:=eJ },ty,pos,after,guard⟩).run X.P w=.ok (.round l fn tmps assign body) w:=by simp only[execOp,resolve,a7,Deferred.ofValue,b8,c3,bU,dZ,invoke];simpa using aA
 rw[fm,Oper.uponIn_round];refine⟨(λh=>by cases h),?_⟩;have gP:RoundIn (gG X) (0-1) X.P l fn tmps assign body w _:=ag;refine gP.mono ?_;rintro e w'⟨v,I',M',rfl,aN,qs,cb⟩;exact⟨_,_,_,_,⟨β,(a5.after aV qs cb).put (x:=.val v) al rfl⟩,af v I' M' cb.le aN⟩
def Iter(P:Program)(g:Nat)(cap:List Value)(I:aT)(oQ:List (List Value)):Prop:=
 ∀ (l:Nat) (R:Nat->aT->List aD->Prop) (tH:aT->List aD->Prop),(∀ k (af:k<oQ.length) I' M',(∀ b o,I b=some o->I' b=some o)->R k I' M'->Fb P l oQ[k] I' M' λv Fc mj=>(v=.bool true/\R (k+1) Fc mj)\/(v=.bool false/\tH Fc mj)) -> ∀ dM M0,(∀ b o,I b=some o->dM b=some o)->R 0 dM M0->wX P g (.func (.yield l) #[] #[]::cap) dM M0 λ_ I' M'=>R oQ.length I' M'\/tH I' M'
def Fe:List Nat->List Value->Fr->Fr
 |t::ps,v::vs,F=>Fe ps vs (fA F t (.val v))| _,_,F=>F
def adL(cp:List Nat)(N:aT->List aD->Prop)(tH:tB->aT->List aD->Prop):j6:=λex F C I M=>match ex with
 | .normal=>ve cp I M N| ex=>ve cp I M (tH ex)
def CL:tB->Option Code
 | .normal=>none| .exit id=>some (.exit id)| .goto l=>some (.goto l)| .ret=>some .ret
section
variable{X:cO}{β:Nat->Nat}{a:Act}{w:World}{F:Fr}{C:c8}{I:aT}{M:List aD}
def Tk:∀ (ps:List Nat) (vs:List Value) (F:Fr) (tmps:Array Value),(∀ t∈ps,t<tmps.size)->(∀ t,eI β (F t) (tmps.getD t undef)) ->
  let r:=(ps.zip vs).foldl (λ(tmps:Array Value) (p:Nat×Value)=>tmps.setIfInBounds p.1 p.2) tmps
  r.size=tmps.size/\∀ t,eI β (Fe ps vs F t) (r.getD t undef)
 |[],vs,F,tmps,_,h=>⟨rfl,h⟩| t::ps,[],F,tmps,_,h=>⟨rfl,h⟩
 |t::ps,v::vs,F,tmps,aN,h=>by
  have U:∀ s,eI β (fA F t (.val v) s) ((tmps.setIfInBounds t v).getD s undef):=λs=>by have:=LZ (β:=β) (F:=F) (a:=⟨tmps,[]⟩) h (d:=t) (x:=.val v) (v:=v) (aN t (by simp)) rfl s;exact this
  have a8:=Tk ps vs (fA F t (.val v)) (tmps.setIfInBounds t v) (λs ar=>by simpa using aN s (by simp[ar])) U;simp only[List.zip_cons_cons,qm,Fe];exact⟨by simpa using a8.1,a8.2⟩
def cP.Tl(h:cP X β a w F C I M):cP X β { a with defers:=wZ w.heap.size::a.defers } (w.alloc (.deferred (some []))) F C I M where
 size:=h.size
 defers:=by
  obtain⟨aJ,U,ab,ak⟩:=h.defers;refine⟨w.heap.size::aJ,by simp[U],?_,?_⟩;·rw[nR];refine⟨λhm=>?_,ab⟩;have:=(l6.1 (ak _ hm).at_).1;omega
  ·intro r ag;rcases ea.1 ag with rfl | ag
   ·exact⟨LX w _,h.sz,h.holds.rq,h.holds.qq⟩
   ·exact(ak r ag).alloc _
 holds:=h.holds.alloc _
 an:=h.an
 cf s cs ar:=(h.cf s cs ar).alloc _
 inj:=h.inj
 hL:=h.hL
 hl:=h.hl
 own:=h.own
 dL:=L1 h.dL h.sz _
 out:=h.out
 sz:=by have:=h.sz;simp;omega
def cP.Ff{n:Nat}{o':Obj}(h:cP X β a w F C I (⟨n,o⟩::M)):cP X β a (w.putObj n o') F C I M:=by
 have fv:(⟨n,o⟩:aD)∈(⟨n,o⟩:aD)::M:=by simp
 have bW:=h.holds.bE;simp only[cZ,nR]at bW;exact {
  size:=h.size
  defers:=h.defers.mono λr ag=>by have bB:n≠r:=ag.eM _ fv;refine { ag with at_:=?_,eM:=λx ae=>ag.eM x (by simp[ae]) };rw[mJ (rm bB)];exact ag.at_
  holds:={
   i:=λb o jy=>by rw[mJ (λe=>by have:=h.holds.d _ fv;simp only at this;rw[e,this]at jy;cases jy)];exact h.holds.i b o jy
   m:=λx ae=>by rw[mJ (λe=>bW.1 (dB.2 ⟨x,ae,e⟩))];exact h.holds.m x (by simp[ae])
   d:=λx ae=>h.holds.d x (by simp[ae])
   bE:=bW.2 }
  an:=h.an
  cf:=λs cs ar=>by have ah:=h.cf s cs ar;have bB:n≠β s:=ah.eM _ fv;obtain⟨T,bA⟩:=ah.at_;refine { ah with at_:=⟨T,?_⟩,eM:=λx ae=>ah.eM x (by simp[ae]) };rw[mJ (rm bB)];exact bA
  inj:=h.inj
  hL:=h.hL
  hl:=h.hl
  own:=λx ae=>h.own x (by simp[ae])
  dL:=λb ah au=>by
   rw[mJ (λe=>by
    rcases h.own _ fv with U | U;·simp only at U;exact au (e ▸ U)
    ·simp only at U;omega)]
   exact h.dL b ah au
  out:=h.out.trans (Ic _ _ _)
  sz:=by have:=h.sz;simpa using this }
def cr.range{K:j6}{ps:Array Nat}{ff body:Code}{cap:Array Value}{oQ:List (List Value)}(aR:cX X.P X.E)(iw:X.ro=none)(bM:(codeOk X.n ff&&(codeOk X.n body&&ps.toList.all (λt=>Nat.blt t X.n)))=true)(adM:bY F f=.val (.func (.func g) #[] cap)){bR:aT}{M1:List aD}(adN:hk X.cp I M bR M1)(adO:Iter X.P g cap.toList bR oQ)(hlen:∀ vs∈oQ,vs.length=ps.size)(R:Nat->aT->List aD->Prop)(tH:tB->aT->List aD->Prop)(start:R 0 bR M1)(round:∀ k (af:k<oQ.length) I' M',(∀ b o,bR b=some o->I' b=some o)->R k I' M'->∀ l B av j7,V ⟨X.P,X.E,X.gv,X.n,B,av,I',M'.map (·.num),some l⟩ ff (Fe ps.toList oQ[k] F) (λ_=>none) I' M' (Al (λF C I M=>V ⟨X.P,X.E,X.gv,X.n,B,j7,I',M'.map (·.num),some l⟩ body F C I M (adL (M'.map (·.num)) (R (k+1)) tH)) (λ_ _ _ _ _=>False)))(done:∀ I' M',(∀ b o,bR b=some o->I' b=some o)->R oQ.length I' M'->K .normal F C I' M')(stop:∀ ex I' M',(∀ b o,bR b=some o->I' b=some o)->tH ex I' M'->ex≠.normal/\K ex F C I' M') :
  cr X (.rangeFunc f ps ff body) F C I M K:=by
 refine⟨λa w ⟨β,k8⟩=>?_⟩;have a5:=k8.jg adN;simp only[b']at bM;obtain⟨Tm,eX,Mx⟩:=bM;refine wpIn_rangeFunc λfn _=>?_;let hP (s:LoopState) (pG:Option Code):Loop:={ state:=s,pending:=pG,fn:=fn,tmps:=a.tmps,params:=ps,assign:=ff,body:=body,defers:=w.heap.size }
 let l:=w.heap.size+1
 let hC:World:=(w.alloc (.deferred (some []))).alloc (.loop (hP .ready none))
 have As:=a5.Tl.pu (.loop (hP .ready none));have ay:(w.alloc (.deferred (some []))).heap.size=l:=by simp[l]
 rw[ay]at As;let My (k:Nat) (I':aT) (M':List aD):Prop:=∃ ew,M'=⟨l,.loop (hP .ready none)⟩::ew/\R k I' ew
 let Tn (I':aT) (M':List aD):Prop:=∃ ex c ew,CL ex=some c/\M'=⟨l,.loop (hP .done (some c))⟩::ew/\tH ex I' ew
 have aA:∀ k (af:k<oQ.length) I' M',(∀ b o,bR b=some o->I' b=some o)->My k I' M'->Fb X.P l oQ[k] I' M' λv Fc mj=>(v=.bool true/\My (k+1) Fc mj)\/(v=.bool false/\Tn Fc mj):=by
  rintro k af I' _ hle⟨ew,rfl,adP⟩W gi;have Fg:W.heap[l]?=some (.loop (hP .ready none)):=gi.m ⟨l,.loop (hP .ready none)⟩ (by simp);have ax:l<W.heap.size:=(l6.1 Fg).1;have bW:=gi.bE;simp only[cZ,nR]at bW;have IL:I' l=none:=gi.d ⟨l,.loop (hP .ready none)⟩ (by simp);refine⟨_,_,_,_,run_yield Fg (by simpa using hlen _ (bJ af)),?_⟩;have xf:((hP LoopState.ready none).params.zip oQ[k].toArray).foldl (λtmps (x:Nat×Value)=>match x with | (t,a)=>tmps.setIfInBounds t a) (hP LoopState.ready none).tmps=(ps.toList.zip oQ[k]).foldl (λ(tmps:Array Value) (p:Nat×Value)=>tmps.setIfInBounds p.1 p.2) a.tmps:=by rw[<-LS];simp[hP]
  have n6:=Tk (β:=β) ps.toList oQ[k] F a.tmps (λt aq=>by
   have:=et.1 Mx t aq;rw[a5.size];exact b9 this) a5.an
  rw[<-xf]at n6;refine roundIn_of_wpIn (F:=Fence.wide) (n:=0) trivial ?_;let vv:cO:=⟨X.P,X.E,X.gv,X.n,W.heap.size,W,I',ew.map (·.num),some l⟩
  let j7:=W.putObj l (.loop (hP .busy none))
  let Fh:cO:=⟨X.P,X.E,X.gv,X.n,W.heap.size,j7,I',ew.map (·.num),some l⟩
  have ai:=round k af I' ew hle adP l W.heap.size W j7;have EY:cP vv β { tmps:=((hP LoopState.ready none).params.zip oQ[k].toArray).foldl (λtmps (x:Nat×Value)=>match x with | (t,a)=>tmps.setIfInBounds t a) (hP LoopState.ready none).tmps,defers:=[] } W (Fe ps.toList oQ[k] F) (λ_=>none) I' ew:={
   size:=n6.1.trans a5.size
   defers:=⟨[],rfl,Cm,λr ag=>by cases ag⟩
   holds:=⟨gi.i,λx ae=>gi.m x (by simp[ae]),λx ae=>gi.d x (by simp[ae]),bW.2⟩
   an:=n6.2
   cf:=λs cs ar=>by cases ar
   inj:=λs b3 U=>by simp at U
   hL:=λb o ah=>ah
   hl:=λb o ah=>.inl ah
   own:=λx ae=>.inl (dB.2 ⟨x,ae,rfl⟩)
   dL:=λb ah au=>rfl
   out:=.refl _
   sz:=b2 _ }
  have Ip:=qv (X:=vv) aR ff Tm ⟨β,EY⟩ ai;refine wpIn_mono (Q:=mc vv _) Ip ?_;intro e ca f' ar;cases e with
  |exit id=>obtain⟨_,_,_,_,_,af⟩:=ar;exact af.elim
  |goto id=>obtain⟨_,_,_,_,_,af⟩:=ar;exact af.elim
  |ret=>obtain⟨_,_,_,_,_,af⟩:=ar;exact af.elim
  |panic EX=>exact ar.elim| outgrown=>exact ar.elim
  |normal=>
   obtain⟨kG,adQ,dG,qE,⟨To,gI⟩,Ij⟩:=ar;have yE:f'.heap[l]?=some (.loop (hP .ready none)):=by rw[gI.dL l ax bW.1];exact Fg
   refine⟨_,run_beginRound yE rfl,?_⟩;have adR:dG l=none:=by
    cases cg:dG l with
    |none=>rfl
    |some o=>
     rcases gI.hl _ _ cg with U | U;·rw[show vv.dM=I' from rfl,IL]at U;cases U
     ·exact absurd U (Nat.not_le.2 ax)
   have adS:∀ x∈qE,x.num≠l:=λx ae e=>by
    rcases gI.own x ae with U | U;·rw[e]at U;exact bW.1 U
    ·rw[e]at U;exact absurd U (Nat.not_le.2 ax)
   have pH:cP Fh To ca (f'.putObj l (.loop (hP .busy none))) kG adQ dG qE:={
    size:=gI.size
    defers:=by obtain⟨aJ,a6,bb,b0⟩:=gI.defers;refine⟨aJ,a6,bb,λr lD=>?_⟩;have ag:=b0 r lD;refine { at_:=?_,base:=ag.base,jw:=ag.jw,eM:=ag.eM };rw[mJ (λe=>by have U:=ag.at_;rw[e,yE]at U;cases U)];exact ag.at_
    holds:={
     i:=λb o jy=>by rw[mJ (λe=>by rw[e,adR]at jy;cases jy)];exact gI.holds.i b o jy
     m:=λx ae=>by rw[mJ (adS x ae)];exact gI.holds.m x ae
     d:=gI.holds.d
     bE:=gI.holds.bE }
    an:=gI.an
    cf:=λs cs ar=>by have ah:=gI.cf s cs ar;obtain⟨T,bA⟩:=ah.at_;refine { at_:=⟨T,?_⟩,base:=ah.base,jw:=ah.jw,eM:=ah.eM };rw[mJ (λe=>by rw[e,yE]at bA;cases bA)];exact bA
    inj:=gI.inj
    hL:=gI.hL
    hl:=gI.hl
    own:=gI.own
    dL:=λb ah au=>by
     by_cases e:b=l;·subst e;rw[CE (l6.1 yE).1];exact(CE ax).symm
     ·rw[mJ e];show _=(W.putObj l (.loop (hP .busy none))).heap[b]?;rw[mJ e];exact gI.dL b ah au
    out:=⟨gI.out.1,gI.out.2⟩
    sz:=by have:=gI.sz;simpa using this }
   have adT:=qv (X:=Fh) aR body eX ⟨To,pH⟩ Ij;refine wpIn_mono (Q:=mc Fh _) adT ?_;have fin:∀ (dz:Act) (iX:World) (vw:Fr) (vx:c8) (gJ:aT) (sK:List aD) (jump:Option Code),Rel Fh dz iX vw vx gJ sK->∃ hf,(Instr.endRound l jump).run X.P iX=.ok (.bool jump.isNone) hf /\
     ef gJ (⟨l,.loop (hP (if jump.isNone then .ready else .done) jump)⟩::sK) hf/\Kept I' (⟨l,.loop (hP .ready none)⟩::ew) W gJ (⟨l,.loop (hP (if jump.isNone then .ready else .done) jump)⟩::sK) hf:=by
    rintro dz iX vw vx gJ sK jump⟨yF,ak⟩;have At:iX.heap[l]?=some (.loop (hP .busy none)):=by rw[ak.dL l ax bW.1];exact CE ax
    have Tp:gJ l=none:=by
     cases cg:gJ l with
     |none=>rfl
     |some o=>
      rcases ak.hl _ _ cg with U | U;·rw[show Fh.dM=I' from rfl,IL]at U;cases U
      ·exact absurd U (Nat.not_le.2 ax)
    have Tq:∀ x∈sK,x.num≠l:=λx ae e=>by
     rcases ak.own x ae with U | U;·rw[e]at U;exact bW.1 U
     ·rw[e]at U;exact absurd U (Nat.not_le.2 ax)
    refine⟨_,run_endRound jump At,?_,?_⟩
    ·exact {
      i:=λb o jy=>by rw[mJ (λe=>by rw[e,Tp]at jy;cases jy)];exact ak.holds.i b o jy
      m:=λx ae=>by
       rcases ea.1 ae with rfl | ae;·exact CE (l6.1 At).1
       ·rw[mJ (Tq x ae)];exact ak.holds.m x ae
      d:=λx ae=>by
       rcases ea.1 ae with rfl | ae;·exact Tp
       ·exact ak.holds.d x ae
      bE:=by
       simp only[cZ,nR];refine⟨λhm=>?_,ak.holds.bE⟩;obtain⟨x,ae,e⟩:=dB.1 hm;exact Tq x ae e }
    ·exact {
      le:=ak.hL
      sw:=ak.hl
      tu:=λx ae=>by
       rcases ea.1 ae with rfl | ae;·exact .inl ⟨⟨l,.loop (hP .ready none)⟩,by simp,rfl⟩
       ·rcases ak.own x ae with U | U
        ·obtain⟨y,aA,e⟩:=dB.1 U;exact .inl ⟨y,by simp[aA],e⟩
        ·exact .inr U
      dL:=λb ah bB=>by
       have nt:b≠l:=λe=>bB ⟨l,.loop (hP .ready none)⟩ (by simp) e.symm;rw[mJ nt,ak.dL b ah (λhm=>by
        obtain⟨y,aA,e⟩:=dB.1 hm;exact bB y (by simp[aA]) e)]
       exact mJ nt
      out:=⟨ak.out.1,ak.out.2⟩
      sz:=by have:=ak.sz;simpa using this }
   intro e dz iX yG;cases e with
   |normal=>obtain⟨vw,vx,gJ,sK,⟨yF,ak⟩,⟨qF,rF,Au,aN⟩⟩:=yG;obtain⟨hf,aL,bm,b5⟩:=fin dz iX vw vx qF rF none ⟨yF,ak.jg Au⟩;exact⟨_,hf,aL,_,_,_,rfl,.inl ⟨rfl,_,rfl,aN⟩,bm,b5⟩
   |exit id=>obtain⟨vw,vx,gJ,sK,⟨yF,ak⟩,⟨qF,rF,Au,aN⟩⟩:=yG;obtain⟨hf,aL,bm,b5⟩:=fin dz iX vw vx qF rF (some (.exit id)) ⟨yF,ak.jg Au⟩;exact⟨_,hf,aL,_,_,_,rfl,.inr ⟨rfl,.exit id,_,_,rfl,rfl,aN⟩,bm,b5⟩
   |goto id=>obtain⟨vw,vx,gJ,sK,⟨yF,ak⟩,⟨qF,rF,Au,aN⟩⟩:=yG;obtain⟨hf,aL,bm,b5⟩:=fin dz iX vw vx qF rF (some (.goto id)) ⟨yF,ak.jg Au⟩;exact⟨_,hf,aL,_,_,_,rfl,.inr ⟨rfl,.goto id,_,_,rfl,rfl,aN⟩,bm,b5⟩
   |ret=>obtain⟨vw,vx,gJ,sK,⟨yF,ak⟩,⟨qF,rF,Au,aN⟩⟩:=yG;obtain⟨hf,aL,bm,b5⟩:=fin dz iX vw vx qF rF (some .ret) ⟨yF,ak.jg Au⟩;exact⟨_,hf,aL,_,_,_,rfl,.inr ⟨rfl,.ret,_,_,rfl,rfl,aN⟩,bm,b5⟩
   |panic EX=>exact yG.elim| outgrown=>exact yG.elim
 obtain⟨py,Aj⟩:=adO l My Tn aA bR (⟨l,.loop (hP .ready none)⟩::M1) (λ_ _ h=>h) ⟨M1,rfl,start⟩;have kk:=Aj hC As.holds;have a7:=dx a5.an adM;refine⟨l,[wZ w.heap.size],hC,{ target:=.fn (.func g) cap,args:=#[.func (.yield l) #[] #[]] },hC,g,(.func (.yield l) #[] #[]::cap.toList).toArray,hC,?_,?_,λ_ _=>trivial,?_,(λh=>by cases h),?_⟩
 ·have Mz:(gG X).round=none:=iw;rw[Mz];exact run_enterLoop_outer fn a.tmps ps ff body
 ·show(Deferred.ofValue (a.eval f) (#[Operand.const (.func (.yield l) #[] #[])].map a.eval)).run X.P hC=_;rw[a7];simp[Deferred.ofValue,Act.eval]
 ·simp only[invoke];rw[show #[Value.func (.yield l) #[] #[]]++cap=(.func (.yield l) #[] #[]::cap.toList).toArray from by apply gF;simp];exact py _ _
 ·refine(L4 (X:=X) kk _).mono ?_;rintro e iX⟨v,I',M',rfl,aN,qs,cb⟩;have vy:=As.after (Mr:=[]) (by simp) qs cb;rw[db]at vy;have hle:=cb.le;rcases aN with⟨ew,rfl,adU⟩ | ⟨ex,c,ew,aC,rfl,adV⟩
  ·refine⟨none,_,run_endLoop (qs.m ⟨l,.loop (hP .ready none)⟩ (by simp)) (by simp[hP]),?_⟩;exact⟨F,C,I',ew,⟨β,vy.Ff⟩,done I' ew hle adU⟩
  ·refine⟨some c,_,run_endLoop (qs.m ⟨l,.loop (hP .done (some c))⟩ (by simp)) (by simp[hP]),?_⟩;obtain⟨bB,af⟩:=stop ex I' ew hle adV;cases ex with
   |normal=>exact(bB rfl).elim| exit id=>cases aC;exact wpIn_exit ⟨F,C,I',ew,⟨β,vy.Ff⟩,af⟩| goto id=>cases aC;exact wpIn_goto ⟨F,C,I',ew,⟨β,vy.Ff⟩,af⟩| ret=>cases aC;exact wpIn_ret ⟨F,C,I',ew,⟨β,vy.Ff⟩,af⟩
end
structure aY where
 a:Option Nat
 n:Nat
 c:Nat
 cur:List Value
def aY.val(o:aY):Value:=.slice (o.a.map λg=>⟨g,0,none⟩) o.n o.c
def aY.aw(o:aY)(e:Nat):List aD:=match o.a with
 |some g=>[⟨g,.cells o.cur.toArray e (0,0)⟩]| none=>[]
structure aY.ok(o:aY)(size:Nat)(xs:List Value):Prop where
 len:xs.length=o.n*size
 nil:o.a=none->o.n=0/\o.c=0
 cap:∀ g,o.a=some g->o.cur.length=o.c*size/\o.n<=o.c/\o.c<=maxLen/\o.cur.take (o.n*size)=xs
section
variable{P:Program}{w:World}
def adW(t u ty e:Nat)(i:TypeInfo)(z:Value)(aq:P.underlying t=some (.slice e))(hu:P.underlying u=some n5)(pK:∀ k,n5≠.int k)(hi:P.info? e=some i)(a2:i.zero=some z)(yH:z.cells.size=i.size)
  {os:aY} (bM:os.ok i.size xs) (ao:∀ g,os.a=some g->w.heap[g]?=some (.cells os.cur.toArray e (0,0)))
  {x:Value} (hm:0<m) (ay:news.length=m*i.size) (U:∀ v∈news,v.oneCell'=true)
  (hlen:∀ w',(Builtin.lenOf x).run P w'=.ok m w') (gK:∀ w':World,w'.heap=w.heap->(Builtin.firstCells i.size m x).run P w'=.ok news.toArray w')
  (b1:os.n+m<=maxLen) (cc:(os.n+m)*i.bytes<=140737488355328) :
  ∃ (g c:Nat) (cur:List Value) (w':World),(Builtin.append_ #[t,u] ty #[os.val,x]).run P w=.ok (.slice (some ⟨g,0,none⟩) (os.n+m) c) w'/\cur.length=c*i.size/\os.n+m<=c/\c<=maxLen/\cur.take ((os.n+m)*i.size)=xs++news /\
   ((os.a=some g/\w'=w.setRow g cur.toArray)\/(g=w.heap.size/\w'=w.drew.alloc (.cells cur.toArray e (0,0)))):=by
 obtain⟨a,n,c,cur⟩:=os;have MA:(xs++news).length=(n+m)*i.size:=by rw[cz,bM.len,ay,lG]
 have Tr:∀ dL,(xs++news++(Builtin.zeroCells z.cells (grownCap w (n+m) dL e-(n+m))).toList).length=grownCap w (n+m) dL e*i.size/\n+m<=grownCap w (n+m) dL e/\grownCap w (n+m) dL e<=maxLen /\
   (xs++news++(Builtin.zeroCells z.cells (grownCap w (n+m) dL e-(n+m))).toList).take ((n+m)*i.size)=xs++news:=by
  intro dL;have bS:=grownCap_ge w (n+m) dL e;have kJ:grownCap w (n+m) dL e<=maxLen:=grownCap_le_maxLen w (n+m) dL e b1;refine⟨?_,bS,kJ,?_⟩;·rw[cz,MA,vq,size_zeroCells,yH,<-lG];congr 1;omega
  ·rw[<-MA];exact CG
 have Fi:(match n5 with | .int _=>true | _=>false)=false:=by cases n5<;>first | rfl | exact(pK _ rfl).elim
 have jG:n+m<=9223372036854775807:=by simp only[maxLen]at b1;exact b1
 cases a with
 |none=>
  obtain⟨kK,Av⟩:=bM.nil rfl;simp only at kK Av;subst kK;subst Av;have ae:xs=[]:=hZ (by simpa using bM.len);subst ae;simp only[cM,hO]at *;have av:0<m:=hm;have az:m≠0:=by omega
  have Fj:¬ (9223372036854775807<(m:Int)):=by omega
  have Fk:¬ (281474976710656<Builtin.nextslicecap m 0*i.bytes):=by rw[nextslicecap_zero av];omega
  have au:=gK w.drew rfl;obtain⟨a6,bb,b0,fy⟩:=Tr 0;refine⟨w.heap.size,grownCap w m 0 e,_,w.drew.alloc (.cells (news++(Builtin.zeroCells z.cells (grownCap w m 0 e-m)).toList).toArray e),?_,a6,bb,b0,fy,.inr ⟨rfl,rfl⟩⟩;simp[aY.val,Builtin.append_,run_underlying aq,run_underlying hu,sizeOf,typeInfo,zeroValue,hi,a2,hlen,az,Fj,Fk,Question.forced,run_firstCells_none,au,newRow,grownCap];congr 2;apply gF;simp
 |some g=>
  obtain⟨cv,ml,kJ,j8⟩:=bM.cap g rfl;have MB:=ao g rfl;simp only at cv ml kJ j8 MB;by_cases xg:n+m<=c
  ·have ga:n*i.size+news.length<=cur.length:=by rw[ay,cv,<-lG];exact rl _ xg
   have dc:=run_storeCells_at P g (n*i.size) e news 0 cur.toArray w MB (by simpa using ga) U;simp only[nT]at dc;refine⟨g,c,cur.take (n*i.size)++news++cur.drop (n*i.size+news.length),_,?_,?_,xg,kJ,?_,.inl ⟨rfl,rfl⟩⟩;·have au:=gK w rfl;simp[aY.val,Builtin.append_,run_underlying aq,run_underlying hu,sizeOf,typeInfo,hi,hlen,xg,au,Addr.add_lit,dc]
   ·simp only[cz,fH,n3];omega
   ·rw[j8,<-MA];exact CG
  ·have az:¬ (n+m<=c):=by omega
   have Fj:¬ (9223372036854775807<((n:Int)+(m:Int))):=by omega
   have Fk:¬ (281474976710656<Builtin.nextslicecap (n+m) c*i.bytes):=by have:=growslice_fits (by omega:c<n+m) cc;omega
   have au:=gK w.drew rfl;have adX:∀ j v,xs[j]?=some v->w.drew.cell? ((⟨g,0,none⟩:Addr).add j)=some v:=by
    intro j v aj;have Aw:w.drew.heap[g]?=some (.cells cur.toArray e (0,0)):=MB;rw[dF _ rfl,u' Aw];rw[<-j8,kA]at aj;split at aj;·simpa using aj
    ·cases aj
   have rG:=run_firstCells_some (P:=P) w.drew i.size n ⟨g,0,none⟩ n c xs bM.len adX;obtain⟨a6,bb,b0,fy⟩:=Tr c;refine⟨w.heap.size,grownCap w (n+m) c e,_,w.drew.alloc (.cells (xs++news++(Builtin.zeroCells z.cells (grownCap w (n+m) c e-(n+m))).toList).toArray e),?_,a6,bb,b0,fy,.inr ⟨rfl,rfl⟩⟩;simp[aY.val,Builtin.append_,run_underlying aq,run_underlying hu,sizeOf,typeInfo,zeroValue,hi,a2,hlen,az,Fj,Fk,Question.forced,au,rG,newRow,grownCap];congr 2;apply gF;simp
end
section
variable{X:cO}{β:Nat->Nat}{a:Act}{w:World}{F:Fr}{C:c8}{I:aT}{M:List aD}{o:Oper}{K:fZ}
def MC(aR:cX X.P X.E)(aP:o.op=.call { callee:=.builtin .append,args:=#[s,x],argTypes:=#[t,u] })(al:∀ d,o.dst=some d->d<X.n)
 (aq:X.E t=some dr) (eo:dr.bH=.slice e) (hu:X.E u=some ns) (fL:∀ k,ns.bH≠.int k) (he:X.E e=some aO)
  (os:aY) (bM:os.ok aO.size xs) (ar:bY F s=.val os.val)
 (ae:bY F x=.val vt) (hm:0<m) (ay:news.length=m*aO.size) (U:gh news=true)
  (hlen:∀ w',(Builtin.lenOf vt).run X.P w'=.ok m w') (gK:∀ w,ef I M w->(Builtin.firstCells aO.size m vt).run X.P w=.ok news.toArray w)
 (aV:M.Perm (os.aw e++Mr)) (b1:os.n+m<=maxLen) (cc:(os.n+m)*aO.bytes<=140737488355328)
  (k:∀ (g c:Nat) (cur:List Value),I g=none->cur.length=c*aO.size->os.n+m<=c->c<=maxLen->cur.take ((os.n+m)*aO.size)=xs++news ->
   K (put o.dst (.val (.slice (some ⟨g,0,none⟩) (os.n+m) c)) F) C I (⟨g,.cells cur.toArray e (0,0)⟩::Mr)):bk X o F C I M K:=by
 refine⟨λa w Q ⟨β,k8⟩=>?_⟩;have a5:cP X β a w F C I (os.aw e++Mr):=k8.jg (.perm aV .refl);obtain⟨inf,z,hi,e3,hA,hB,kg⟩:=(aR _ _ he).inf;obtain⟨d,fp,eY⟩:=(aR _ _ hu).fl;obtain⟨jH,pL,qG⟩:=(aR _ _ aq).fl;have xh:jH=.slice e:=by rw[eo]at qG;cases jH<;>simp_all[fe]
 subst xh;have yH:z.cells.size=inf.size:=by rw[e3,<-(aR _ _ he).len,<-kg];simp
 rw[<-e3]at bM ay gK;obtain⟨g,c,cur,w',fm,a6,bb,b0,fy,kL⟩:=adW (P:=X.P) (w:=w) t u o.type e inf z pL fp (λk c0=>fL k (by rw[<-eY,c0];rfl)) hi hB yH bM (λg ao=>a5.holds.m ⟨g,.cells os.cur.toArray e (0,0)⟩ (by simp[aY.aw,ao])) (x:=vt) hm ay (Ab U) hlen (λw' adY=>gK w' (k8.holds.heap adY)) b1 (by rw[hA];exact cc);rw[e3]at a6 fy;have adZ:I g=none:=by
  rcases kL with⟨ao,_⟩ | ⟨rfl,_⟩;·exact a5.holds.d ⟨g,.cells os.cur.toArray e (0,0)⟩ (by simp[aY.aw,ao])
  ·cases cg:I w.heap.size with
   |none=>rfl| some mm=>have:=a5.holds.i _ _ cg;simp at this
 have es:=dx a5.an ar;have ex:=dx a5.an ae;refine j3 (by rw[aP];simp) (v:=.slice (some ⟨g,0,none⟩) (os.n+m) c) (w':=w') ?_ ⟨_,_,_,_,⟨β,cP.put (x:=.val (.slice (some ⟨g,0,none⟩) (os.n+m) c)) ?_ al rfl⟩,k g c cur adZ a6 bb b0 fy⟩
 ·unfold execOp;simp only[aP,resolve,invoke,builtin,b8,c3,bU,vr,cZ,jj,es,ex,fm]
 ·rcases kL with⟨ao,rfl⟩ | ⟨rfl,rfl⟩
  ·have ah:os.aw e=[⟨g,.cells os.cur.toArray e (0,0)⟩]:=by simp[aY.aw,ao]
   rw[ah]at a5;exact a5.yi (pre:=[]) (post:=Mr) rfl
  ·have ab:cP X β a w.drew F C I (os.aw e++Mr):=a5.world rfl;have ak:=ab.pu (.cells cur.toArray e (0,0));refine ak.jg (.sub ?_ .refl);exact List.Sublist.cons_cons _ (e' _ _)
def bk.append(aR:cX X.P X.E)(aP:o.op=.call { callee:=.builtin .append,args:=#[s,x],argTypes:=#[t,t] })(al:∀ d,o.dst=some d->d<X.n)
 (aq:X.E t=some dr) (eo:dr.bH=.slice e) (he:X.E e=some aO)
  (os:aY) (bM:os.ok aO.size xs) (ar:bY F s=.val os.val)
 (ae:bY F x=.val (.slice (some ad) m c')) (hm:0<m) (az:bq I M ad (m*aO.size) news) (U:gh news=true)
 (aV:M.Perm (os.aw e++Mr)) (b1:os.n+m<=maxLen) (cc:(os.n+m)*aO.bytes<=140737488355328)
  (k:∀ (g c:Nat) (cur:List Value),cur.length=c*aO.size->os.n+m<=c->c<=maxLen->cur.take ((os.n+m)*aO.size)=xs++news ->
   K (put o.dst (.val (.slice (some ⟨g,0,none⟩) (os.n+m) c)) F) C I (⟨g,.cells cur.toArray e (0,0)⟩::Mr)):bk X o F C I M K:=by
 refine MC aR aP al aq eo aq (λk=>by rw[eo];simp) he os bM ar ae hm ?_ U (λ_=>rfl) (λw hw=>?_) aV b1 cc (λg c cur _=>k g c cur)
 ·obtain⟨_,_,_,_,_,_,h⟩:=az;exact h
 ·obtain⟨c4,cs,T,an,eR,ai,ay⟩:=az;refine run_firstCells_some (P:=X.P) w aO.size m ad m c' news ay λj v aj=>?_;rw[dF _ c4,u' (eR.heap hw)];rw[<-ai,kA]at aj;split at aj
  ·rw[oG]at aj;simpa using aj
  ·cases aj
def bk.sL(aR:cX X.P X.E)(aP:o.op=.call { callee:=.builtin .append,args:=#[s,x],argTypes:=#[t,t] })(al:∀ d,o.dst=some d->d<X.n)
 (aq:X.E t=some dr) (eo:dr.bH=.slice e) (he:X.E e=some aO)
  (os:aY) (bM:os.ok aO.size xs) (ar:bY F s=.val os.val)
 (ae:bY F x=.val (.slice (some ad) m c')) (hm:0<m) (az:bq I M ad (m*aO.size) news) (U:gh news=true)
 (aV:M.Perm (os.aw e++Mr)) (b1:os.n+m<=maxLen) (cc:(os.n+m)*aO.bytes<=140737488355328)
  (k:∀ (g c:Nat) (cur:List Value),I g=none->cur.length=c*aO.size->os.n+m<=c->c<=maxLen->cur.take ((os.n+m)*aO.size)=xs++news ->
   K (put o.dst (.val (.slice (some ⟨g,0,none⟩) (os.n+m) c)) F) C I (⟨g,.cells cur.toArray e (0,0)⟩::Mr)):bk X o F C I M K:=by
 refine MC aR aP al aq eo aq (λk=>by rw[eo];simp) he os bM ar ae hm ?_ U (λ_=>rfl) (λw hw=>?_) aV b1 cc k
 ·obtain⟨_,_,_,_,_,_,h⟩:=az;exact h
 ·obtain⟨c4,cs,T,an,eR,ai,ay⟩:=az;refine run_firstCells_some (P:=X.P) w aO.size m ad m c' news ay λj v aj=>?_;rw[dF _ c4,u' (eR.heap hw)];rw[<-ai,kA]at aj;split at aj
  ·rw[oG]at aj;simpa using aj
  ·cases aj
def kM(s:ByteArray):List Value:=s.data.toList.map λb=>.int .u8 b.toNat
def bk.ad0(aR:cX X.P X.E)(aP:o.op=.call { callee:=.builtin .append,args:=#[s,x],argTypes:=#[t,u] })(al:∀ d,o.dst=some d->d<X.n)
 (aq:X.E t=some dr) (eo:dr.bH=.slice e) (hu:X.E u=some ns) (fL:ns.bH=.string) (he:X.E e=some aO) (cQ:aO.size=1)
  (os:aY) (bM:os.ok aO.size xs) (ar:bY F s=.val os.val)
  {str:ByteArray} (ae:bY F x=.val (.string str)) (hm:0<str.size)
 (aV:M.Perm (os.aw e++Mr)) (b1:os.n+str.size<=maxLen) (cc:(os.n+str.size)*aO.bytes<=140737488355328)
  (k:∀ (g c:Nat) (cur:List Value),cur.length=c*aO.size->os.n+str.size<=c->c<=maxLen->cur.take ((os.n+str.size)*aO.size)=xs++kM str ->
   K (put o.dst (.val (.slice (some ⟨g,0,none⟩) (os.n+str.size) c)) F) C I (⟨g,.cells cur.toArray e (0,0)⟩::Mr)):bk X o F C I M K:=by
 refine MC aR aP al aq eo hu (λk=>by rw[fL];simp) he os bM ar ae hm ?_ ?_ (λ_=>rfl) (λw hw=>?_) aV b1 cc (λg c cur _=>k g c cur)
 ·simp[kM,cQ]
 ·refine et.2 λv ai=>?_;obtain⟨b,_,rfl⟩:=dB.1 ai;rfl
 ·simp only[Builtin.firstCells,c3];congr 1;apply gF;have aF:str.extract 0 str.size=str:=by apply qo;simp[Ci]
  simp[kM,aF]
end
section
variable{X:cO}{F:Fr}{C:c8}{I:aT}{M:List aD}{o:Oper}{K:fZ}
def Ts(aq:P.underlying t=some (.array 4 e))(he:P.underlying e=some (.int k)){inf:TypeInfo}(hi:P.info? e=some inf)(ar:inf.size=1)(dE ca dC dz dO b1 cc gR:Int)(w:World) :
  (Op.equal t (.agg #[.int k dE,.int k ca,.int k dC,.int k dz]) (.agg #[.int k dO,.int k b1,.int k cc,.int k gR])).run P w=.ok (dE == dO&&(ca == b1&&(dC == cc&&dz == gR))) w:=by
 have Fl:∀ (xs:Array Value) (i:Nat) (v:Value) (w:World),xs[i]?=some v->(part e xs i).run P w=.ok v w:=λxs i v w h=>by
  have Aa:(isAgg e).run P w=.ok false w:=by unfold isAgg;simp[run_underlying he]
  unfold part;simp[Aa,sizeOf,typeInfo,hi,ar,h]
 have hint:∀ (d:Nat) (x y:Int) (w:World),(Op.equalIn (d+1) e (.int k x) (.int k y)).run P w=.ok (x == y) w:=λd x y w=>by simp[Op.equalIn,run_underlying he]
 have key:∀ m,(∀ (x y:Int) (w:World),(Op.equalIn m e (.int k x) (.int k y)).run P w=.ok (x == y) w)->(Op.equalIn (m+1) t (.agg #[.int k dE,.int k ca,.int k dC,.int k dz]) (.agg #[.int k dO,.int k b1,.int k cc,.int k gR])).run P w=.ok (dE == dO&&(ca == b1&&(dC == cc&&dz == gR))) w:=λm hint=>by
  rw[Op.equalIn];simp only[b8,run_underlying aq,bU,sizeOf,typeInfo,hi,run_program,c3,ar];simp only[Mm];have ag:List.range' 0 ([:4]:Std.Legacy.Range).size=[0,1,2,3]:=by decide
  rw[ag];have pa:=λ(i:Nat) (v:Value) (w:World)=>Fl #[.int k dE,.int k ca,.int k dC,.int k dz] i v w;have Ax:=λ(i:Nat) (v:Value) (w:World)=>Fl #[.int k dO,.int k b1,.int k cc,.int k gR] i v w;simp only[Mv,List.forIn_nil,b8];rw[pa (0*1) (.int k dE) w rfl];simp only[bU,b8];rw[Ax (0*1) (.int k dO) w rfl];simp only[bU,b8];rw[hint];simp only[bU];cases(dE == dO);·simp
  simp only[nS,jX,kB,c3,bU,b8];rw[pa (1*1) (.int k ca) w rfl];simp only[bU,b8];rw[Ax (1*1) (.int k b1) w rfl];simp only[bU,b8];rw[hint];simp only[bU];cases(ca == b1);·simp
  simp only[nS,jX,kB,c3,bU,b8];rw[pa (2*1) (.int k dC) w rfl];simp only[bU,b8];rw[Ax (2*1) (.int k cc) w rfl];simp only[bU,b8];rw[hint];simp only[bU];cases(dC == cc);·simp
  simp only[nS,jX,kB,c3,bU,b8];rw[pa (3*1) (.int k dz) w rfl];simp only[bU,b8];rw[Ax (3*1) (.int k gR) w rfl];simp only[bU,b8];rw[hint];simp only[bU];cases(dz == gR);·simp
  simp
 exact key 9999 (hint 9998)
def cx.IM{E:Env}(aR:cX P E)(aq:E t=some dr)(eo:dr.bH=.array 4 e)(he:E e=some aO)(jI:aO.bH=.int k)(ao:P.eqGuardType P.depth t=false){dE ca dC dz dO b1 cc gR:Int}{V:Value->Prop}
  (h:V (.bool (dE == dO&&(ca == b1&&(dC == cc&&dz == gR))))):cx P .eql t x y (.val (.agg #[.int k dE,.int k ca,.int k dC,.int k dz])) (.val (.agg #[.int k dO,.int k b1,.int k cc,.int k gR])) V other:=by
 obtain⟨d,fp,eY⟩:=(aR _ _ aq).fl;obtain⟨nu,Ay,Fm⟩:=(aR _ _ he).fl;obtain⟨inf,z,hi,e3,_⟩:=(aR _ _ he).inf;have U:d=.array 4 e:=by rw[eo]at eY;cases d<;>simp_all[fe]
 have ab:nu=.int k:=by rw[jI]at Fm;cases nu<;>simp_all[fe]
 subst U;subst ab;have eu:inf.size=1:=by rw[e3];exact(aR _ _ he).EJ (by rw[jI];rfl)
 refine .mk _ _ _ rfl rfl (λw=>?_) h;simp only[b8,run_eqGuard_agg (hm:=ao),bU,binOp,Ts fp Ay hi eu,c3]
def cx.concat{a b:ByteArray}(ar:a.size+b.size<=9223372036854775807){V:Value->Prop}(h:V (.string (a++b))):cx P .add t x y (.val (.string a)) (.val (.string b)) V other:=by refine .mk _ _ _ rfl rfl (λw=>?_) h;simp only[b8,L3,bU,binOp,run_string_add_sum _ _ _ ar,c3]
end
section
variable{X:cO}{β:Nat->Nat}{a:Act}{w:World}{F:Fr}{C:c8}{I:aT}{M:List aD}{o:Oper}{K:fZ}
def cP.Tt{n:Nat}{mm:Obj}{w':World}(h:cP X β a w F C I (⟨n,mm⟩::M))(ar:w'.heap.size=w.heap.size)(ah:∀ b,b≠n->w'.heap[b]?=w.heap[b]?)(aP:nW w w'):cP X β a w' F C I M:=by
 have fv:(⟨n,mm⟩:aD)∈(⟨n,mm⟩:aD)::M:=by simp
 have bW:=h.holds.bE;simp only[cZ,nR]at bW;exact {
  size:=h.size
  defers:=h.defers.mono λr ag=>by have bB:n≠r:=ag.eM _ fv;refine { ag with at_:=?_,eM:=λx ae=>ag.eM x (by simp[ae]) };rw[ah r (rm bB)];exact ag.at_
  holds:={
   i:=λb o jy=>by rw[ah b (λe=>by have:=h.holds.d _ fv;simp only at this;rw[e,this]at jy;cases jy)];exact h.holds.i b o jy
   m:=λx ae=>by rw[ah _ (λe=>bW.1 (dB.2 ⟨x,ae,e⟩))];exact h.holds.m x (by simp[ae])
   d:=λx ae=>h.holds.d x (by simp[ae])
   bE:=bW.2 }
  an:=h.an
  cf:=λs cs mS=>by have qw:=h.cf s cs mS;have bB:n≠β s:=qw.eM _ fv;obtain⟨T,bA⟩:=qw.at_;refine { qw with at_:=⟨T,?_⟩,eM:=λx ae=>qw.eM x (by simp[ae]) };rw[ah _ (rm bB)];exact bA
  inj:=h.inj
  hL:=h.hL
  hl:=h.hl
  own:=λx ae=>h.own x (by simp[ae])
  dL:=λb ax au=>by
   rw[ah b (λe=>by
    rcases h.own _ fv with U | U;·simp only at U;exact au (e ▸ U)
    ·simp only at U;omega)]
   exact h.dL b ax au
  out:=h.out.trans aP
  sz:=by rw[ar];exact h.sz }
def ad1(w:World)(p:Addr)(n:Nat):(w.freeze p n).heap.size=w.heap.size:=by
 unfold World.freeze;split<;>simp
def ad2(w:World)(p:Addr)(n:Nat):nW w (w.freeze p n):=by
 unfold World.freeze;split<;>exact⟨rfl,rfl⟩
def ad3(w:World)(p:Addr)(n b:Nat)(h:b≠p.block):(w.freeze p n).heap[b]?=w.heap[b]?:=by
 unfold World.freeze;split
 ·rfl
 ·simp only[Array.getElem?_modify];rw[cB (rm h)]
def bk.MD(aR:cX X.P X.E){p n:Operand}(aP:o.op=.call { callee:=.builtin .unsafeString,args:=#[p,n],argTypes:=#[tG,it] })(al:∀ d,o.dst=some d->d<X.n)
 (aq:X.E tG=some dr) (eo:dr.bH=.pointer e) (he:X.E e=some aO) (jI:aO.size=1)
 {l:List UInt8} (aN:bY F p=.val (.pointer (some ⟨g,0,none⟩))) (az:bY F n=.val (.int .i64 l.length)) (av:l≠[]) (ME:l.length<=9223372036854775807)
 (aV:M.Perm (⟨g,.cells cs e (0,0)⟩::Mr)) (mS:cs.toList.take l.length=l.map λb=>.int .u8 b.toNat)
  (h:K (put o.dst (.val (.string ⟨l.toArray⟩)) F) C I Mr):bk X o F C I M K:=by
 refine⟨λa w Q ⟨β,k8⟩=>?_⟩;have a5:cP X β a w F C I (⟨g,.cells cs e (0,0)⟩::Mr):=k8.jg (.perm aV .refl);have ao:w.heap[g]?=some (.cells cs e (0,0)):=a5.holds.m ⟨g,.cells cs e (0,0)⟩ (by simp);obtain⟨d,fp,eY⟩:=(aR _ _ aq).fl;have U:d=.pointer e:=by rw[eo]at eY;cases d<;>simp_all[fe]
 subst U;obtain⟨inf,z,hi,e3,_⟩:=(aR _ _ he).inf;have aC:X.P.cellsOf e=1:=by simp[Program.cellsOf,hi,e3,jI]
 have hlen:l.length<=cs.size:=by have:=congrArg List.length mS;simp only[fH,cT,vq]at this;omega
 have fm:=Lib.run_unsafeString_row (P:=X.P) w tG it o.type e fp aC g cs.size (by simp[World.shape?,ao]) l av hlen ME (λj x aj=>by
  rw[dF _ rfl,u' ao];have ab:(cs.toList.take l.length)[j]?=some (.int .u8 x.toNat):=by rw[mS];simp[aj]
  rw[kA]at ab;split at ab;·simpa using ab
  ·cases ab)
 have MF:=dx a5.an aN;have eZ:=dx a5.an az;refine j3 (by rw[aP];simp) (v:=.string ⟨l.toArray⟩) (w':=w.freeze ⟨g,0,none⟩ l.length) ?_ ⟨_,_,_,_,⟨β,cP.put (x:=.val (.string ⟨l.toArray⟩)) (a5.Tt (ad1 _ _ _) (λb ah=>ad3 _ _ _ _ ah) (ad2 _ _ _)) al rfl⟩,h⟩;unfold execOp;simp only[aP,resolve,invoke,builtin,b8,c3,bU,vr,cZ,jj,MF,eZ,fm]
def bk.Tu{p n:Operand}(aP:o.op=.call { callee:=.builtin .unsafeString,args:=#[p,n],argTypes:=#[tG,it] })(al:∀ d,o.dst=some d->d<X.n)
  {q:Option Addr} (aN:bY F p=.val (.pointer q)) (az:bY F n=.val (.int .i64 0)) (h:K (put o.dst (.val (.string .empty)) F) C I M):bk X o F C I M K:=by
 refine⟨λa w Q ⟨β,a5⟩=>?_⟩;have MF:=dx a5.an aN;have eZ:=dx a5.an az;refine va a5 al (by rw[aP];simp) ?_ h;unfold execOp;simp only[aP,resolve,invoke,builtin,b8,c3,bU,vr,cZ,jj,MF,eZ,Lib.run_unsafeString_none]
def bk.Tv(aR:cX X.P X.E)(aP:o.op=.call { callee:=.builtin .copy,args:=#[x,y],argTypes:=#[t,u] })(al:∀ d,o.dst=some d->d<X.n)
 (aq:X.E t=some dr) (eo:dr.bH=.slice e) (he:X.E e=some aO) (jI:aO.size=1)
 {off dl Tw:Nat} {s:ByteArray} (ae:bY F x=.val (.slice (some ⟨g,off,none⟩) dl Tw)) (aA:bY F y=.val (.string s)) (hle:s.size<=dl) (ga:off+s.size<=cs.size)
 (aV:M.Perm (⟨g,.cells cs T (0,0)⟩::Mr))
  (h:K (put o.dst (.val (.int .i64 s.size)) F) C I (⟨g,.cells (bG cs.toList off (kM s)).toArray T (0,0)⟩::Mr)):bk X o F C I M K:=by
 refine⟨λa w Q ⟨β,k8⟩=>?_⟩;have a5:cP X β a w F C I (⟨g,.cells cs T (0,0)⟩::Mr):=k8.jg (.perm aV .refl);have ao:w.heap[g]?=some (.cells cs T (0,0)):=a5.holds.m ⟨g,.cells cs T (0,0)⟩ (by simp);obtain⟨d,fp,eY⟩:=(aR _ _ aq).fl;have U:d=.slice e:=by rw[eo]at eY;cases d<;>simp_all[fe]
 subst U;obtain⟨inf,z,hi,e3,_⟩:=(aR _ _ he).inf;have ay:(kM s).length=s.size:=by simp[kM]
 have U:∀ v∈kM s,v.oneCell'=true:=λv ai=>by obtain⟨b,_,rfl⟩:=dB.1 ai;rfl
 have dc:=run_storeCells_at X.P g off T (kM s) 0 cs w ao (by rw[ay];simpa using ga) U;simp only[nT]at dc;have MG:Nat.min s.size dl=s.size:=ss hle;have au:(Builtin.firstCells inf.size s.size (.string s)).run X.P w=.ok (kM s).toArray w:=Ti w inf.size s;have ex:=dx a5.an ae;have mX:=dx a5.an aA;have qH:=a5.yi (pre:=[]) (post:=Mr) (cs':=(bG cs.toList off (kM s)).toArray) rfl;refine j3 (by rw[aP];simp) (v:=.int .i64 s.size) (w':=w.setRow g (bG cs.toList off (kM s)).toArray) ?_ ⟨_,_,_,_,⟨β,cP.put (x:=.val (.int .i64 s.size)) qH al rfl⟩,h⟩;have fm:(Builtin.copy_ #[t,u] o.type #[.slice (some ⟨g,off,none⟩) dl Tw,.string s]).run X.P w=.ok (.int .i64 s.size) (w.setRow g (bG cs.toList off (kM s)).toArray):=by simp[Builtin.copy_,run_underlying fp,Builtin.lenOf,MG,sizeOf,typeInfo,hi,au,dc,bG,goInt]
 unfold execOp;simp only[aP,resolve,invoke,builtin,b8,c3,bU,vr,cZ,jj,ex,mX,fm]
end
structure gb(I:aT)(a:Option Addr)(n c size b:Nat)(vs:List Value):Prop where
 len:vs.length=n*size
 cap:n<=c/\n*b<=140737488355328
 rd:n=0\/∃ ad,a=some ad/\ad.spot=none/\∃ cs T an,I ad.block=some (.cells cs T an)/\(cs.toList.drop ad.off).take (n*size)=vs
def gb.mono{n:Nat}(h:gb I a n c size b vs)(cg:∀ b o,I b=some o->I' b=some o):gb I' a n c size b vs:=
 ⟨h.len,h.cap,h.rd.imp id λ⟨ad,U,ab,cs,T,an,ak,aL⟩=>⟨ad,U,ab,cs,T,an,cg _ _ ak,aL⟩⟩
def gb.idx{n:Nat}(h:gb I a n c size b vs)(aj:j<n) :
  ∃ ad,a=some ad/\∀ M,bq I M (ad.add (j*size)) size ((vs.drop (j*size)).take size):=by
 obtain⟨ay,_,av | ⟨ad,aX,ar,cs,T,an,cg,ai⟩⟩:=h
 ·omega
 ·refine⟨ad,aX,λM=>?_⟩;have hle:j*size+size<=n*size:=by have:=rl size (show j+1<=n from aj);rw[lG,qD]at this;exact this
  refine⟨by rw[dF _ ar],cs,T,an,.inl (by rw[dF _ ar];exact cg),?_,?_⟩;·rw[dF _ ar,<-ai,Ar,Mw,xd];congr 1;omega
  ·rw[fH,n3,ay];omega
def gb.one{n:Nat}{f:α->Value}{l:List α}(h:gb I a n c 1 b (l.map f))(aj:j<n)(jA:j<l.length) :
  ∃ ad,a=some ad/\∀ M,bq I M (ad.add (j*1)) 1 [f l[j]]:=by
 obtain⟨ad,U,ab⟩:=h.idx aj;refine⟨ad,U,λM=>?_⟩;have:=ab M;rw[fh,<-List.map_drop,<-List.map_take,dv jA,nq,mi]at this;rw[fh];exact this
def xi{α:Type}(f:α->List Value)(size:Nat)(au:∀ x,(f x).length=size):∀ (l:List α) (j:Nat) (aj:j<l.length),((l.flatMap f).drop (j*size)).take size=f l[j]
 |x::l,0,_=>by simp only[mh,xe,qC,vp];rw[<-au x];exact CG
 |x::l,j+1,aj=>by have a8:=xi f size au l j (by simpa using aj);simp only[mh,Mn];rw[<-a8,show(j+1)*size=(f x).length+j*size from by rw[au,lG];omega,Th]
def gd{α:Type}(f:α->List Value)(size:Nat)(au:∀ x,(f x).length=size):∀ (l:List α),(l.flatMap f).length=l.length*size
 |[]=>by simp
 |x::l=>by simp[gd f size au l,au x,lG];omega
def gb.row{n:Nat}{f:α->List Value}(au:∀ x,(f x).length=size){l:List α}(h:gb I a n c size b (l.flatMap f))(aj:j<n)(jA:j<l.length) :
  ∃ ad,a=some ad/\∀ M,bq I M (ad.add (j*size)) size (f l[j]):=by
 obtain⟨ad,U,ab⟩:=h.idx aj;refine⟨ad,U,λM=>?_⟩;have:=ab M;rwa [xi f size au l j jA]at this
def bq.part{M:List aD}{a:Addr}{n k:Nat}(h:bq I M a n vs)(af:k+m<=n):bq I M (a.add k) m ((vs.drop k).take m):=by
 obtain⟨ar,cs,T,an,U,ab,ak⟩:=h;refine⟨by rw[dF _ ar],cs,T,an,by rw[dF _ ar];exact U,?_,?_⟩
 ·rw[dF _ ar,<-ab,Ar,Mw,xd];congr 1;omega
 ·rw[fH,n3,ak];omega
structure aH where
 k:Int
 cF:Int
 s1:Int
 s2:Int
 dt:Int
 t:ByteArray
 lo:Int
 hi:Int
 eA:Option Addr
 aZ:Nat
 ej:Nat
 kids:List Int
def aH.cells(d:aH):List Value:=[.int .u8 d.k,.int .u64 d.cF,.int .u64 d.s1,.int .u64 d.s2,.int .u64 d.dt,.string d.t,.int .i64 d.lo,.int .i64 d.hi,.slice d.eA d.aZ d.ej]
def aH.val(d:aH):Value:=.agg #[.int .u8 d.k,.int .u64 d.cF,.int .u64 d.s1,.int .u64 d.s2,.int .u64 d.dt,.string d.t,.int .i64 d.lo,.int .i64 d.hi,.slice d.eA d.aZ d.ej]
def iY(x:Int):Prop:=-9223372036854775808<=x/\x<=9223372036854775807
def e5(x:Int):Prop:=0<=x/\x<18446744073709551616
structure aH.ok(I:aT)(d:aH):Prop where
 k:0<=d.k/\d.k<256
 cF:e5 d.cF
 s1:e5 d.s1
 s2:e5 d.s2
 dt:e5 d.dt
 t:d.t.size<=9223372036854775807
 lo:iY d.lo
 hi:iY d.hi
 aJ:gb I d.eA d.aZ d.ej 1 8 (d.kids.map (.int .i64 ·))
 kids:∀ x∈d.kids,iY x
def aH.bI(d:aH):d.cells.length=9:=rfl
def aH.ok.aZ{d:aH}(h:d.ok I):d.kids.length=d.aZ:=by have:=h.aJ.len;simpa using this
structure bx where
 aa:List aH
 a:Option Addr
 n:Nat
 c:Nat
 root:Int
def bx.cells(t:bx):List Value:=[.slice t.a t.n t.c,.int .i64 t.root]
def bx.val(t:bx):Value:=.agg #[.slice t.a t.n t.c,.int .i64 t.root]
structure bx.ok(I:aT)(t:bx):Prop where
 aJ:gb I t.a t.n t.c 9 96 (t.aa.flatMap aH.cells)
 aa:∀ d∈t.aa,d.ok I
 root:iY t.root
def bx.ok.n{t:bx}(h:t.ok I):t.aa.length=t.n:=by have:=h.aJ.len;rw[gd _ 9 aH.bI]at this;omega
structure aK where
 name:ByteArray
 t:bx
def aK.cells(d:aK):List Value:=[.string d.name,.slice d.t.a d.t.n d.t.c,.int .i64 d.t.root]
structure aK.ok(I:aT)(d:aK):Prop where
 name:d.name.size<=140737488355328
 t:d.t.ok I
def aK.bI(d:aK):d.cells.length=3:=rfl
structure bP where
 ds:List aK
 a:Option Addr
 n:Nat
 c:Nat
def bP.val(g:bP):Value:=.agg #[.slice g.a g.n g.c]
structure bP.ok(I:aT)(g:bP):Prop where
 aJ:gb I g.a g.n g.c 3 48 (g.ds.flatMap aK.cells)
 ds:∀ d∈g.ds,d.ok I
def bP.ok.n{g:bP}(h:g.ok I):g.ds.length=g.n:=by have:=h.aJ.len;rw[gd _ 3 aK.bI]at this;omega
def aH.ok.mono{d:aH}(h:d.ok I)(cg:∀ b o,I b=some o->I' b=some o):d.ok I':={ h with aJ:=h.aJ.mono cg }
def bx.ok.mono{t:bx}(h:t.ok I)(cg:∀ b o,I b=some o->I' b=some o):t.ok I':=⟨h.aJ.mono cg,λd al=>(h.aa d al).mono cg,h.root⟩
def aK.ok.mono{d:aK}(h:d.ok I)(cg:∀ b o,I b=some o->I' b=some o):d.ok I':=⟨h.name,h.t.mono cg⟩
def bP.ok.mono{g:bP}(h:g.ok I)(cg:∀ b o,I b=some o->I' b=some o):g.ok I':=⟨h.aJ.mono cg,λd al=>(h.ds d al).mono cg⟩
def wrap_i64{x:Int}(h:iY x):IntKind.i64.wrap x=x:=by obtain⟨U,ab⟩:=h;unfold IntKind.wrap;simp only[IntKind.bits,IntKind.signed];simp;omega
open Go Go.Proofs
def bc(t n:Nat)(a b:Option dW):Option dW:=bif Nat.blt t n then a else b
def vz(n:Nat):Option dW:=some ⟨1,8,[.pointer none],.pointer n⟩
def oR(n:Nat):Option dW:=some ⟨1,24,[.slice none 0 0],.slice n⟩
def cJ:Option dW:=some ⟨1,8,[.nilFunc],.other⟩
def Tx:Option dW:=some ⟨1,8,[.int .i64 0],.int .i64⟩
def MH:Option dW:=some ⟨1,1,[.int .u8 0],.int .u8⟩
def Ty:Option dW:=some ⟨1,16,[.string ⟨#[]⟩],.string⟩
def MI:Option dW:=some ⟨1,8,[.int .u64 0],.int .u64⟩
def Tz:Option dW:=some ⟨2,24,[.string ⟨#[]⟩,.int .u64 0],.struct [(9,0),(12,1)]⟩
def TA:Option dW:=some ⟨1,8,[.pointer none],.struct [(17,0)]⟩
def MJ:Option dW:=some ⟨1,4,[.int .i32 0],.int .i32⟩
def TB:Option dW:=some ⟨4,32,[.int .u64 0,.int .u64 0,.int .u64 0,.int .u64 0],.array 4 57⟩
def TC:Option dW:=some ⟨64,64,List.replicate 64 (.bool false),.array 64 4⟩
def TD:Option dW:=some ⟨64,512,List.replicate 64 (.int .u64 0),.array 64 57⟩
def TE:Option dW:=some ⟨66,528,[.int .i64 0,.int .u64 0,.int .u64 0,.int .u64 0,.int .u64 0,.int .u64 0,.int .u64 0,.int .u64 0,.int .u64 0,.int .u64 0,.int .u64 0,.int .u64 0,.int .u64 0,.int .u64 0,.int .u64 0,.int .u64 0,.int .u64 0,.int .u64 0,.int .u64 0,.int .u64 0,.int .u64 0,.int .u64 0,.int .u64 0,.int .u64 0,.int .u64 0,.int .u64 0,.int .u64 0,.int .u64 0,.int .u64 0,.int .u64 0,.int .u64 0,.int .u64 0,.int .u64 0,.int .u64 0,.int .u64 0,.int .u64 0,.int .u64 0,.int .u64 0,.int .u64 0,.int .u64 0,.int .u64 0,.int .u64 0,.int .u64 0,.int .u64 0,.int .u64 0,.int .u64 0,.int .u64 0,.int .u64 0,.int .u64 0,.int .u64 0,.int .u64 0,.int .u64 0,.int .u64 0,.int .u64 0,.int .u64 0,.int .u64 0,.int .u64 0,.int .u64 0,.int .u64 0,.int .u64 0,.int .u64 0,.int .u64 0,.int .u64 0,.int .u64 0,.int .u64 0,.int .u64 0],.struct [(3,0),(84,1),(57,65)]⟩
def TF:Option dW:=some ⟨8,160,[.slice none 0 0,.int .i64 0,.int .i64 0,.slice none 0 0,.slice none 0 0,.slice none 0 0,.slice none 0 0,.slice none 0 0],.struct [(95,0),(3,1),(3,2),(44,3),(96,4),(22,5),(95,6),(95,7)]⟩
def MK:Option dW:=some ⟨3,3,[.bool false,.bool false,.bool false],.struct [(4,0),(4,1),(4,2)]⟩
def TG:Option dW:=some ⟨5,96,[.int .u8 0,.string ⟨#[]⟩,.slice none 0 0,.slice none 0 0,.slice none 0 0],.struct [(5,0),(9,1),(25,2),(25,3),(171,4)]⟩
def TH:Option dW:=some ⟨1,24,[.slice none 0 0],.struct [(44,0)]⟩
def lH:Env:=λt=>bif Nat.blt t 309 then(bc t 154 (bc t 77 (bc t 38 (bc t 19 (bc t 9 (bc t 4 (bc t 2 (bc t 1 none cJ) Tx) (bc t 6 (bc t 5 (some ⟨1,1,[.bool false],.bool⟩) MH) (bc t 7 MH (some ⟨4,24,[.int .i64 0,.int .i64 0,.bool false,.int .u8 0],.struct [(2,0),(3,1),(4,2),(6,3)]⟩)))) (bc t 14 (bc t 11 Ty (bc t 12 Ty (bc t 13 MI Tz))) (bc t 16 (bc t 15 Tz (vz 298)) (bc t 17 (vz 301) (bc t 18 (vz 308) TA))))) (bc t 28 (bc t 23 (bc t 21 (bc t 20 TA (some ⟨1,16,[.nilIface],.other⟩)) (bc t 22 MJ (oR 48))) (bc t 25 (some ⟨1,24,[.slice none 0 0],.struct [(22,0)]⟩) (bc t 26 (oR 3) (some ⟨5,48,[.int .u8 0,.int .u8 0,.int .i64 0,.slice none 0 0,.int .i64 0],.struct [(5,0),(5,1),(3,2),(25,3),(3,4)]⟩)))) (bc t 33 (bc t 30 cJ (bc t 31 (oR 27) cJ)) (bc t 35 (bc t 34 none cJ) (bc t 36 cJ (bc t 37 Tx none)))))) (bc t 57 (bc t 47 (bc t 42 (bc t 40 cJ (bc t 41 cJ (oR 46))) (bc t 44 cJ (bc t 45 (oR 61) (some ⟨2,32,[.slice none 0 0,.int .i64 0],.struct [(44,0),(3,1)]⟩)))) (bc t 52 (bc t 49 (some ⟨3,48,[.string ⟨#[]⟩,.slice none 0 0,.int .i64 0],.struct [(9,0),(46,1)]⟩) cJ) cJ)) (bc t 67 (bc t 62 (bc t 59 (bc t 58 MI TB) (bc t 60 TB (some ⟨9,96,[.int .u8 0,.int .u64 0,.int .u64 0,.int .u64 0,.int .u64 0,.string ⟨#[]⟩,.int .i64 0,.int .i64 0,.slice none 0 0],.struct [(5,0),(59,1),(9,5),(3,6),(3,7),(25,8)]⟩))) (bc t 64 (bc t 63 none cJ) (bc t 65 TC (bc t 66 TC cJ)))) (bc t 72 (bc t 69 (bc t 68 cJ none) (bc t 70 cJ (bc t 71 none cJ))) (bc t 74 cJ (bc t 75 (oR 76) (bc t 76 cJ (oR 4)))))))) (bc t 115 (bc t 96 (bc t 86 (bc t 81 (bc t 79 (bc t 78 cJ (oR 25)) (bc t 80 none cJ)) (bc t 83 cJ (bc t 84 TD (bc t 85 TD TE)))) (bc t 91 (bc t 88 (bc t 87 TE none) cJ) (bc t 93 (bc t 92 (vz 98) none) (bc t 94 cJ (bc t 95 cJ (oR 123)))))) (bc t 105 (bc t 100 (bc t 98 (bc t 97 (oR 173) TF) (bc t 99 TF cJ)) cJ) (bc t 110 cJ (bc t 112 (bc t 111 (oR 146) none) (bc t 113 cJ (bc t 114 none cJ)))))) (bc t 134 (bc t 124 (bc t 119 (bc t 117 cJ (bc t 118 cJ none)) (bc t 121 cJ (bc t 122 (some ⟨1,8,[.map none],.map 9 3⟩) (some ⟨10,88,[.int .u8 0,.int .i64 0,.int .i64 0,.string ⟨#[]⟩,.int .u64 0,.int .u64 0,.int .u64 0,.int .u64 0,.int .i64 0,.int .i64 0],.struct [(5,0),(3,1),(3,2),(9,3),(59,4),(3,8),(3,9)]⟩)))) (bc t 129 (bc t 126 (bc t 125 none cJ) cJ) (bc t 131 cJ (bc t 132 cJ (bc t 133 cJ (oR 159)))))) (bc t 144 (bc t 139 (bc t 136 (bc t 135 none cJ) cJ) cJ) (bc t 149 (bc t 146 (bc t 145 cJ MK) (bc t 147 MK (bc t 148 cJ none))) (bc t 151 cJ (bc t 152 cJ (bc t 153 none cJ)))))))) (bc t 231 (bc t 192 (bc t 173 (bc t 163 (bc t 158 cJ (bc t 160 (bc t 159 cJ MK) (bc t 161 none cJ))) (bc t 168 (bc t 165 cJ (bc t 166 cJ (bc t 167 (some ⟨10,80,[.nilFunc,.nilFunc,.nilFunc,.nilFunc,.nilFunc,.nilFunc,.nilFunc,.nilFunc,.nilFunc,.nilFunc],.array 10 165⟩) cJ))) (bc t 170 cJ (bc t 171 cJ (bc t 172 (oR 5) TG))))) (bc t 182 (bc t 177 (bc t 175 (bc t 174 TG none) cJ) (bc t 179 (bc t 178 cJ (vz 173)) cJ)) (bc t 187 (bc t 184 (bc t 183 (some ⟨2,16,[.int .i64 0,.int .i64 0],.array 2 3⟩) (some ⟨20,160,List.replicate 20 (.int .i64 0),.array 10 182⟩)) (bc t 185 cJ (bc t 186 none cJ))) (bc t 189 cJ (bc t 190 cJ (bc t 191 (some ⟨1,8,[.map none],.map 5 194⟩) cJ)))))) (bc t 211 (bc t 201 (bc t 196 (bc t 194 cJ (bc t 195 cJ none)) (bc t 198 (bc t 197 none cJ) (bc t 199 none (bc t 200 cJ TH)))) (bc t 206 (bc t 203 (bc t 202 TH cJ) (bc t 204 (some ⟨10,80,[.nilFunc,.nilFunc,.nilFunc,.nilFunc,.nilFunc,.nilFunc,.nilFunc,.nilFunc,.nilFunc,.nilFunc],.array 10 202⟩) (bc t 205 cJ (vz 201)))) (bc t 208 (bc t 207 cJ (vz 5)) (bc t 209 (vz 210) (some ⟨2,32,[.pointer none,.slice none 0 0],.struct [(208,0),(171,1)]⟩))))) (bc t 221 (bc t 216 (bc t 213 (some ⟨1,16,[.nilIface],.other⟩) (bc t 214 none cJ)) (bc t 218 (bc t 217 cJ (oR 9)) cJ)) (bc t 226 cJ (bc t 228 (bc t 227 (oR 228) cJ) (bc t 229 (some ⟨2,2,[.int .u8 0,.int .u8 0],.array 2 5⟩) cJ)))))) (bc t 270 (bc t 250 (bc t 240 (bc t 235 (bc t 233 (bc t 232 none cJ) (bc t 234 cJ none)) (bc t 237 (bc t 236 cJ none) cJ)) (bc t 245 cJ (bc t 247 (some ⟨3,24,[.int .i64 0,.int .i64 0,.bool false],.struct [(3,0),(3,1),(4,2)]⟩) (bc t 248 (oR 246) (bc t 249 (vz 246) cJ))))) (bc t 260 (bc t 255 (bc t 252 (bc t 251 cJ (some ⟨3,48,[.string ⟨#[]⟩,.string ⟨#[]⟩,.string ⟨#[]⟩],.struct [(9,0),(9,1),(9,2)]⟩)) (bc t 253 (some ⟨30,480,List.replicate 30 (.string ⟨#[]⟩),.array 10 251⟩) (bc t 254 (some ⟨1,8,[.pointer none],.other⟩) cJ))) (bc t 257 cJ (bc t 258 (vz 264) cJ))) (bc t 265 (bc t 262 cJ (bc t 263 (some ⟨1,8,[.map none],.map 5 5⟩) (some ⟨6,64,[.string ⟨#[]⟩,.string ⟨#[]⟩,.int .u8 0,.map none,.int .i64 0,.int .i64 0],.struct [(9,0),(9,1),(5,2),(262,3),(3,4),(36,5)]⟩))) (bc t 267 (bc t 266 none cJ) cJ)))) (bc t 289 (bc t 279 (bc t 274 cJ (bc t 276 cJ (bc t 277 (some ⟨3,32,[.int .i64 0,.int .i64 0,.string ⟨#[]⟩],.struct [(3,0),(3,1),(9,2)]⟩) (bc t 278 (some ⟨9,96,[.int .i64 0,.int .i64 0,.string ⟨#[]⟩,.int .i64 0,.int .i64 0,.string ⟨#[]⟩,.int .i64 0,.int .i64 0,.string ⟨#[]⟩],.array 3 276⟩) MI)))) (bc t 284 (bc t 281 (bc t 280 cJ (some ⟨1,4,[.int .u32 0],.int .u32⟩)) (bc t 282 none cJ)) (bc t 286 (bc t 285 (some ⟨64,64,List.replicate 64 (.int .u8 0),.array 64 5⟩) cJ) (bc t 287 (some ⟨24,24,List.replicate 24 (.int .u8 0),.array 24 5⟩) (bc t 288 cJ none))))) (bc t 299 (bc t 294 (bc t 291 cJ (bc t 292 (some ⟨20,160,List.replicate 20 (.int .u64 0),.array 20 57⟩) (bc t 293 (some ⟨65,65,List.replicate 65 (.int .u8 0),.array 65 5⟩) cJ))) (bc t 296 cJ (bc t 297 (some ⟨32,32,List.replicate 32 (.int .u8 0),.array 32 5⟩) (some ⟨4,40,[.pointer none,.pointer none,.pointer none,.string ⟨#[]⟩],.struct [(17,0),(17,1),(17,2),(9,3)]⟩)))) (bc t 304 (bc t 301 (bc t 300 (some ⟨0,0,[],.array 0 16⟩) (some ⟨0,0,[],.struct [(299,0)]⟩)) (bc t 302 (some ⟨0,0,[],.struct [(299,0)]⟩) MH)) (bc t 306 (bc t 305 cJ MJ) (bc t 307 MJ (some ⟨11,48,[.int .u64 0,.int .u64 0,.int .u32 0,.int .u8 0,.int .u8 0,.int .u8 0,.int .u8 0,.nilFunc,.pointer none,.int .i32 0,.int .i32 0],.struct [(12,0),(12,1),(280,2),(302,3),(5,4),(5,5),(303,6),(304,7),(207,8),(305,9),(306,10)]⟩)))))))))else none
def aI:cX Tryz.prog lH:=ac1 309 (λt h=>by
 have aG:Nat.blt t 309=false:=by
  cases ah:Nat.blt t 309 with
  |false=>rfl| true=>exact absurd (b9 ah) (by omega)
 simp only[lH,aG,bz]) (by kernel_rfl)
def letter(c:UInt8):Bool:=decide (97<=c.toNat/\c.toNat<=122)||(decide (65<=c.toNat/\c.toNat<=90)||decide (c.toNat=95))
def digit(c:UInt8):Bool:=decide (48<=c.toNat/\c.toNat<=57)
def TI(I:aT)(c:UInt8):Spec Tryz.prog 133 [.int .u8 c.toNat] I [] (λv I' M'=>v=.bool (letter c)/\I'=I/\M'=[]):=by
 refine bn [] aI Tryz.func133 rfl rfl rfl ?_;intro B av
 repeat' (refine a9.mk (λh=>?_) (λh=>?_))
 all_goals
  refine⟨_,_,.refl,?_⟩;refine⟨?_,rfl,rfl⟩;simp_all[letter]
  all_goals first
   |omega|(rw[l7];simp;omega)
def ad4(I:aT)(c:UInt8):Spec Tryz.prog 134 [.int .u8 c.toNat] I [] (λv I' M'=>v=.bool (digit c)/\I'=I/\M'=[]):=by
 refine bn [] aI Tryz.func134 rfl rfl rfl ?_;intro B av
 repeat' (refine a9.mk (λh=>?_) (λh=>?_))
 all_goals
  refine⟨_,_,.refl,?_⟩;refine⟨?_,rfl,rfl⟩;simp_all[digit]
  all_goals first
   |omega|(rw[l7];simp;omega)
def Az(s:ByteArray):s.data.toList.length=s.size:=vq
def ad5(I:aT)(s:ByteArray)(ar:s.size<=140737488355328):Spec Tryz.prog 131 [.string s] I [] (λv I' M'=>v=.string s/\I'=I/\M'=[]):=by
 refine bn [] aI Tryz.func131 rfl rfl rfl ?_;intro B av;refine aB.mk (λh=>?_) (λh=>?_)
 ·refine⟨_,_,.refl,?_,rfl,rfl⟩;have U:s.size=0:=by simpa using h
  have:s=.empty:=by apply qo;exact Fa U
  rw[this];rfl
 ·have U:s.size≠0:=by simpa using h
  refine mO.mk s.size s.size rfl rfl (b2 _) (by show 1*s.size<=_;omega) (by omega) ?_;refine bL.mk λb ah jJ=>?_;refine bk.Tv aI rfl (by simp) (e:=5) rfl rfl rfl rfl rfl rfl (b2 _) ?_ (.refl _) ?_;·simp[w0,madeCells]
  refine aW.mk ⟨b,0,none⟩ 0 rfl rfl (by omega) ?_;refine bk.MD aI rfl (by simp) (e:=5) rfl rfl rfl rfl (g:=b) (l:=s.data.toList) rfl ?_ ?_ ?_ (.refl _) ?_ ?_;·show de.val (.int .i64 (s.size:Int))=de.val (.int .i64 (s.data.toList.length:Int));rw[Az]
  ·intro e;have:=congrArg List.length e;rw[Az]at this;exact U this
  ·rw[Az];omega
  ·rw[Az];have ay:(kM s).length=s.size:=by simp[kM]
   simp only[bG];rw[mi,hO,CD (by rw[ay];exact b2 _),<-ay,Mu];rfl
  ·exact⟨_,_,.refl,rfl,rfl,rfl⟩
def TJ(I:aT)(s:ByteArray)(ar:s.size<=140737488355328):Spec Tryz.prog 104 [.string s] I [] (λv I' M'=>v=.string s/\I'=I/\M'=[]):=by refine bn [] aI Tryz.func104 rfl rfl rfl ?_;intro B av;refine aU.mk [] [] _ (.refl _) (ad5 I s ar) ?_;rintro v I' M' -⟨rfl,rfl,rfl⟩;exact⟨_,_,.refl,rfl,rfl,rfl⟩
def lI(c:UInt8):Bool:=letter c||digit c
def lJ(s:ByteArray):Nat:=match s.data.toList with
 |[]=>0| c::r=>bif letter c then 1+(r.takeWhile lI).length else 0
def TK{α:Type}(p:α->Bool):∀ (l:List α) (i:Nat),i<=l.length->(∀ j (h:j<l.length),j<i->p l[j]=true)->(∀ (h:i<l.length),p l[i]=false)->(l.takeWhile p).length=i
 |[],i,h,_,_=>by simp at h;simp[h]
 |x::l,0,_,_,h=>by have:=h (by simp);simp only[vp]at this;simp[this]
 |x::l,i+1,hi,U,ab=>by have ae:=U 0 (by simp) (by omega);simp only[vp]at ae;have a8:=TK p l i (by simpa using hi) (λj aj sI=>by have:=U (j+1) (by simpa using aj) (by omega);simpa using this) (λh=>by have:=ab (by simpa using h);simpa using this);simp[ae,a8]
def TL{s:ByteArray}(av:0<s.size)(ay:letter s[0]=true)(U:1<=i)(hi:i<=s.size)(aX:∀ j (h:j<s.size),1<=j->j<i->lI s[j]=true)(ah:∀ (h:i<s.size),lI s[i]=false):lJ s=i:=by
 have get:∀ j (h:j<s.size),s[j]=s.data.toList[j]'(by rw[Az];exact h):=λj h=>rfl;unfold lJ;have hlen:=Az s;cases al:s.data.toList with
 |nil=>rw[al]at hlen;simp at hlen;omega
 |cons c r=>
  have g:∀ j (h:j<s.size),s[j]=(c::r)[j]'(by rw[<-al,hlen];exact h):=λj h=>by rw[get j h];simp only[al]
  rw[al]at hlen;have aC:letter c=true:=by rw[g 0 av]at ay;simpa using ay
  simp only[aC,bt];simp only[cS]at hlen;rw[TK lI r (i-1) (by omega) (λj aj sI=>by
   have ak:j+1<s.size:=by omega
   have:=aX (j+1) ak (by omega) (by omega);rw[g (j+1) ak]at this;simpa using this) (λh=>by
   have ak:i<s.size:=by omega
   have:=ah ak;rw[g i ak]at this;have e:i=(i-1)+1:=by omega
   rw[List.getElem_cons]at this;rw[dif_neg (by omega)]at this;exact this)]
  omega
def ad6(I:aT)(s:ByteArray)(ar:s.size<=140737488355328):Spec Tryz.prog 109 [.string s] I [] (λv I' M'=>v=.string (s.extract 0 (lJ s))/\I'=I/\M'=[]):=by
 refine bn [] aI Tryz.func109 rfl rfl rfl ?_;intro B av;have c9:∀ {s:ByteArray},lJ s=0->s.extract 0 (lJ s)=⟨#[]⟩:=λh=>by rw[h];apply qo;simp[Ci]
 refine a9.mk (λh=>?_) (λh=>?_)
 ·have U:s≠⟨#[]⟩:=by simpa using h
  have g2:0<s.size:=by refine Nat.pos_of_ne_zero λe=>U ?_;apply qo;exact Fa e
  refine sv.mk 0 rfl g2 ?_;refine aU.mk [] [] _ (.refl _) (TI I s[0]) ?_;rintro v I' M' -⟨rfl,rfl,rfl⟩;refine aB.mk (λh=>?_) (λh=>?_)
  ·have ay:letter s[0]=false:=by simpa using h
   refine⟨_,_,.refl,?_,rfl,rfl⟩;rw[c9]
   ·unfold lJ;cases al:s.data.toList with
    |nil=>rfl
    |cons c r=>
     have:s[0]=c:=by show s.data.toList[0]=c;simp only[al];rfl
     rw[this]at ay;simp[ay]
  ·have ay:letter s[0]=true:=by simpa using h
   refine bu.inv (ι:=Nat) (λi=>{ a4:=[(0,.val (.string s)),(3,.val (.int .i64 i))],br:=I' }) (λi=>1<=i/\i<=s.size/\∀ j (h:j<s.size),1<=j->j<i->lI s[j]=true) (λi=>s.size-i) ?_ ?_;·exact⟨1,⟨by omega,by omega,λj _ U ab=>by omega⟩,.refl,ih,.nil⟩
   ·rintro i⟨e3,hA,hB⟩;have next:∀ (ax:i<s.size),lI s[i]=true->(1<=i+1/\i+1<=s.size/\∀ k (h:k<s.size),1<=k->k<i+1->lI s[k]=true)/\s.size-(i+1)<s.size-i:=λax aC=>
     ⟨⟨by omega,by omega,λj aj U ab=>by
      by_cases e:j=i;·subst e;exact aC
      ·exact hB j aj U (by omega)⟩,by omega⟩
    have out:(∀ (h:i<s.size),lI s[i]=false)->s.extract 0 i=s.extract 0 (lJ s):=λaz=>by rw[TL g2 ay e3 hA hB az]
    have cQ:(s.extract 0 i).size<=140737488355328:=by rw[IE];omega
    have eT:IntKind.i64.wrap ((i:Int)+1)=((i+1:Nat):Int):=by rw[wrap_i64 ⟨by omega,by omega⟩];omega
    refine a9.mk (λh=>?_) (λh=>?_)
    ·have ax:i<s.size:=by simpa using h
     refine sv.mk i rfl ax ?_;refine aU.mk [] [] _ (.refl _) (TI I' s[i]) ?_;rintro v I' M' -⟨rfl,rfl,rfl⟩;refine a9.mk (λh=>?_) (λh=>?_)
     ·refine sv.mk i rfl ax ?_;refine aU.mk [] [] _ (.refl _) (ad4 _ s[i]) ?_;rintro v I' M' -⟨rfl,rfl,rfl⟩;refine aB.mk (λab=>?_) (λab=>?_)
      ·refine aQ.mk _ eT ?_;exact⟨i+1,next ax (by simp only[lI];rw[show digit s[i]=true from ab];simp),.refl,ih,.nil⟩
      ·refine jv.mk 0 i rfl rfl (by omega) (by omega) ?_;refine aU.mk [] [] _ (.refl _) (TJ _ _ cQ) ?_;rintro v I' M' -⟨rfl,rfl,rfl⟩;refine⟨_,_,.refl,?_,rfl,rfl⟩;rw[<-out λ_=>by simp only[lI];rw[show letter s[i]=false from h,show digit s[i]=false from ab];rfl]
     ·refine aQ.mk _ eT ?_;exact⟨i+1,next ax (by simp only[lI];rw[show letter s[i]=true from h];simp),.refl,ih,.nil⟩
    ·have bS:¬ i<s.size:=by simpa using h
     refine jv.mk 0 i rfl rfl (by omega) (by omega) ?_;refine aU.mk [] [] _ (.refl _) (TJ _ _ cQ) ?_;rintro v I' M' -⟨rfl,rfl,rfl⟩;refine⟨_,_,.refl,?_,rfl,rfl⟩;rw[<-out λh=>(bS h).elim]
 ·have U:s=⟨#[]⟩:=by simpa using h
  subst U;refine⟨_,_,.refl,?_,rfl,rfl⟩;rw[c9];rfl
def h0(s:ByteArray):Bool:=decide (s≠⟨#[]⟩)&&(decide (s.size<=32)&&decide (lJ s=s.size))
def TM(s:ByteArray):lJ s<=s.size:=by
 unfold lJ;have ay:=Az s;cases al:s.data.toList with
 |nil=>simp
 |cons c r=>
  rw[al]at ay;simp only[cS]at ay;simp only;cases letter c;·simp
  ·simp only[bt];have:=(List.takeWhile_sublist (p:=lI) (l:=r)).length_le;omega
def ML(I:aT)(s:ByteArray):Spec Tryz.prog 81 [.string s] I [] (λv I' M'=>v=.bool (h0 s)/\I'=I/\M'=[]):=by
 refine bn [] aI Tryz.func81 rfl rfl rfl ?_;intro B av;refine a9.mk (λU=>?_) (λU=>?_)
 ·refine a9.mk (λab=>?_) (λab=>?_)
  ·have gx:s.size<=32:=by simp at ab;omega
   refine aU.mk [] [] _ (.refl _) (ad6 I s (by omega)) ?_;rintro v I' M' -⟨rfl,rfl,rfl⟩;refine⟨_,_,.refl,?_,rfl,rfl⟩;have hle:=TM s;have aF:(s.extract 0 (lJ s)).size=lJ s:=by rw[IE];omega
   simp_all[h0]
   all_goals omega
  ·refine⟨_,_,.refl,?_,rfl,rfl⟩;simp_all[h0]
   all_goals omega
 ·refine⟨_,_,.refl,?_,rfl,rfl⟩;simp_all[h0]
def mo:List Int:=[0,0,0,0,0,0,0,0,2,-1,2,-1,1,1,1,1,1,1,1,1]
def xj(k:Nat):Int:=mo.getD (k*2) 0
def tI(k:Nat):Int:=mo.getD (k*2+1) 0
def qI(I:aT):Prop:=∃ T an,I 0=some (.cells (mo.map (Value.int .i64)).toArray T an)
def qI.rd(h:qI I)(M:List aD)(aj:j<20):bq I M (Addr.add ⟨0,0,none⟩ j) 1 [.int .i64 (mo.getD j 0)]:=by
 obtain⟨T,an,h⟩:=h;rw[dF _ rfl];refine⟨rfl,_,T,an,.inl h,?_,rfl⟩;simp only[cM];have:∀ j:Fin 20,(((mo.map (Value.int .i64)).toArray.toList.drop j.val).take 1)=[Value.int .i64 (mo.getD j.val 0)]:=by
  intro j;have U:j.val<(mo.map (Value.int .i64)).length:=by simp[mo]
  rw[Cj,dv U,nq,mi];have ab:j.val<mo.length:=by simp[mo]
  simp[bV,ab]
 exact this ⟨j,aj⟩
def qI.ad7(h:qI I)(M:List aD)(aj:i+j<20):bq I M ((Addr.add ⟨0,0,none⟩ i).add j) 1 [.int .i64 (mo.getD (i+j) 0)]:=by
 have e:(Addr.add ⟨0,0,none⟩ i).add j=Addr.add ⟨0,0,none⟩ (i+j):=by rw[dF ⟨_,0,none⟩ rfl i,dF _ rfl j,dF _ rfl (i+j)];simp
 rw[e];exact h.rd M aj
def aH.oS(d:aH):Bool:=d.cF == 0&&(d.s1 == 0&&(d.s2 == 0&&d.dt == 0))
def fits(d:aH)(n:Int):Bool:=
 bif decide (10<=d.k)then false else
 bif decide (n<xj d.k.toNat)||(decide (0<=tI d.k.toNat)&&decide (tI d.k.toNat<n))then false else
 bif decide (d.k=1)then decide (d.t=⟨#[]⟩)&&(decide (d.lo=0)&&decide (d.hi=0))else
 bif decide (d.k=2)then(!(decide (d.t=⟨#[]⟩)||decide (255<d.t.size)))&&(d.oS&&(decide (d.lo=0)&&decide (d.hi=0)))else
 bif decide (d.k=3)||decide (d.k=9)then h0 d.t&&(d.oS&&(decide (d.lo=0)&&decide (d.hi=0)))else
 bif decide (d.k=6)then(!(decide (d.lo<0)||(decide (99<d.lo)||(decide (d.hi≠-1)&&(decide (d.hi<d.lo)||decide (99<d.hi))))))&&(d.oS&&decide (d.t=⟨#[]⟩))else
 d.oS&&(decide (d.t=⟨#[]⟩)&&(decide (d.lo=0)&&decide (d.hi=0)))
set_option maxRecDepth 20000 in
def TN(aC:qI I){d:aH}(al:d.ok I)(n:Int):Spec Tryz.prog 106 [d.val,.int .i64 n] I [] (λv I' M'=>v=.bool (fits d n)/\I'=I/\M'=[]):=by
 refine bn [] aI Tryz.func106 rfl rfl rfl ?_;intro B av;have af:=al.k;refine aQ.mk d.k (by unfold IntKind.wrap;simp[IntKind.bits,IntKind.signed];omega) ?_;refine aB.mk (λh=>?_) (λh=>?_)
 ·refine⟨_,_,.refl,?_,rfl,rfl⟩;simp at h;simp[fits,h]
 ·have rH:d.k<10:=by simpa using h
  have aj:d.k=((d.k.toNat:Nat):Int):=by omega
  have TO:d.k.toNat<10:=by omega
  refine cr.draw aI rfl rfl rfl ?_;refine eb.mk d.k.toNat aj TO ?_;refine eb.mk 0 rfl (by omega) ?_;refine aE.mk [.int .i64 (xj d.k.toNat)] (aC.rd _ (j:=d.k.toNat*2) (by omega)) ?_;refine eb.mk d.k.toNat aj TO ?_;refine eb.mk 1 rfl (by omega) ?_;refine aE.mk [.int .i64 (tI d.k.toNat)] (aC.ad7 _ (i:=d.k.toNat*2) (j:=1) (by omega)) ?_
  repeat' first
   |refine a9.mk (λh=>?_) (λh=>?_)| refine aB.mk (λh=>?_) (λh=>?_)| refine cx.IM aI (e:=57) rfl rfl rfl rfl (by kernel_rfl) ?_|(refine aU.mk [] [] _ (.refl _) (ML _ _) ?_;rintro v I' M' -⟨rfl,rfl,rfl⟩)
  all_goals refine⟨_,_,.refl,?_⟩
  all_goals refine⟨?_,rfl,rfl⟩
  all_goals clear aC al aj
  all_goals (first | (simp_all[fits,aH.oS];done) | (simp_all[fits,aH.oS];omega) | (simp_all[fits,aH.oS];rw[l7];simp;omega))
def iA(i:Nat):List Int->List Bool->Option (List Bool)
 |[],s=>some s| k::ks,s=>bif decide (k<0)||(decide ((i:Int)<=k)||s.getD k.toNat false)then none else iA i ks (s.set k.toNat true)
def gS:Nat->List aH->List Bool->Option (List Bool)
 |_,[],s=>some s
 |i,d::ds,s=>bif fits d d.kids.length then(match iA i d.kids s with
  |some b3=>gS (i+1) ds b3| none=>none)else none
def oT(root:Int):Nat->List Bool->Bool
 |_,[]=>true| i,b::s=>bif b == decide ((i:Int)=root)then false else oT root (i+1) s
def right(t:bx):Bool:=decide (0<=t.root)&&(decide (t.root<t.aa.length)&&(match gS 0 t.aa (List.replicate t.aa.length false)with
 |some s=>oT t.root 0 s| none=>false))
def tJ(v:Value)(n:Nat):rowOf [v] n=List.replicate n v:=by
 apply rE
 ·simp[w0,madeCells]
 ·intro i U ab;simp[w0,madeCells,Nat.mod_one]
def hQ(b:Nat)(s:List Bool):aD:=⟨b,.cells (s.map Value.bool).toArray 4 (0,0)⟩
def AA{M:List aD}{s:List Bool}(aV:hQ b s∈M)(aj:j<s.length):bq I M ((⟨b,0,none⟩:Addr).add (j*1)) 1 [.bool s[j]]:=by
 rw[dF _ rfl];refine⟨rfl,_,4,(0,0),.inr ⟨_,aV,rfl,rfl⟩,?_,rfl⟩;have U:j<(s.map Value.bool).length:=by simpa using aj
 simp only[cM,fh];rw[dv U,nq,mi];simp
def AB(s:List Bool)(j:Nat)(aj:j<s.length)(b:Bool):bG (s.map Value.bool) j [.bool b]=(s.set j b).map Value.bool:=by unfold bG;rw[CH,Aq];simp[aj]
def cu.add{M:List aD}{o k:Nat}(pre post:List aD)(cs:Array Value)(T:Nat)(aV:M=pre++⟨b,.cells cs T (0,0)⟩::post)(ah:o+k+vs.length<=cs.size)(U:gh vs=true)
  (h:K (pre++⟨b,.cells (bG cs.toList (o+k) vs).toArray T (0,0)⟩::post)):cu M ((⟨b,o,none⟩:Addr).add k) vs K:=by
 rw[dF _ rfl];exact .mk pre post cs T aV rfl ah U h
def cu.kN{M:List aD}{o k:Nat}(pre post:List aD)(cs:List Value)(T:Nat)(aV:M=pre++⟨b,.cells cs.toArray T (0,0)⟩::post)(ah:Nat.ble (o+k+vs.length) cs.length=true)(U:gh vs=true)(cs':List Value)(he:bG cs (o+k) vs=cs')(h:K (pre++⟨b,.cells cs'.toArray T (0,0)⟩::post)):cu M ((⟨b,o,none⟩:Addr).add k) vs K:=
 cu.add pre post _ _ aV (by simpa using b9 ah) U (by rw[<-he]at h;exact h)
def xk(aC:qI I){t:bx}(aq:t.ok I):Spec Tryz.prog 77 [t.val] I [] (λv I' M'=>v=.bool (right t)/\I'=I/\M'=[]):=by
 refine bn [] aI Tryz.func77 rfl rfl rfl ?_;intro B av;have az:=aq.n;have gk:=aq.aJ.cap;refine a9.mk (λU=>?_) (λU=>?_)
 ·refine aB.mk (λab=>?_) (λab=>?_)
  ·refine⟨_,_,.refl,?_,rfl,rfl⟩;simp at ab;have:¬ t.root<t.aa.length:=by omega
   simp[right,this]
  ·have a6:0<=t.root:=by simpa using U
   have bb:t.root<t.aa.length:=by simp at ab;omega
   refine mO.mk t.n t.n rfl rfl (b2 _) (by show 1*t.n<=_;omega) (by omega) ?_;refine bL.mk λb ah jJ=>?_;refine bu.inv (ι:=Nat×List Bool) (λx=>{ a4:=[(1,.ref 1 0),(3,.val (.slice (some ⟨b,0,none⟩) t.n t.n)),(26,.val (.slice t.a t.n t.c)),(27,.val (.int .i64 t.n)),(28,.val (.int .i64 x.1))],cl:=[(1,t.cells)],br:=I,bO:=[hQ b x.2] }) (λx=>x.1<=t.n/\x.2.length=t.n/\gS 0 t.aa (List.replicate t.aa.length false)=gS x.1 (t.aa.drop x.1) x.2) (λx=>t.n-x.1) ?_ ?_;·refine⟨(0,List.replicate t.n false),⟨by omega,by simp,by simp[az]⟩,?_,ec,.cons rfl .nil⟩;show hk _ _ [⟨b,.cells (rowOf [Value.bool false] (t.n*1)).toArray 4 (0,0)⟩] _ [hQ b (List.replicate t.n false)];rw[tJ,fh];simp only[hQ,yB];exact .refl
   ·rintro⟨i,s⟩⟨e3,hA,hB⟩;simp only at e3 hA hB;refine aB.mk (λh=>?_) (λh=>?_)
    ·have ax:i<t.n:=by simpa using h
     have bo:i<t.aa.length:=by omega
     obtain⟨ad,ba,a3⟩:=aq.aJ.row aH.bI ax bo;have fz:=aq.aa t.aa[i] (bJ bo);have eR:=fz.aZ;have fO:t.aa.drop i=t.aa[i]::t.aa.drop (i+1):=dv bo;refine aW.mk ad i ba rfl ax ?_;refine aE.mk t.aa[i].cells (a3 _) ?_;refine aU.mk [] [hQ b s] _ (.refl _) (TN aC fz t.aa[i].aZ) ?_;rintro v I' M' -⟨rfl,rfl,rfl⟩;refine aB.mk (λak=>?_) (λak=>?_)
     ·refine⟨_,_,.sub (cW _) .refl,?_,rfl,rfl⟩;have au:fits t.aa[i] t.aa[i].kids.length=false:=by rw[eR];simpa using ak
      have:right t=false:=by unfold right;rw[hB,fO];simp[gS,au]
      rw[this]
     ·have au:fits t.aa[i] t.aa[i].kids.length=true:=by rw[eR];simpa using ak
      refine bu.inv (ι:=Nat×List Bool) (λx=>{ a4:=[(1,.ref 1 0),(3,.val (.slice (some ⟨b,0,none⟩) t.n t.n)),(4,.val (.int .i64 i)),(26,.val (.slice t.a t.n t.c)),(27,.val (.int .i64 t.n)),(28,.val (.int .i64 i)),(40,.val (.slice t.aa[i].eA t.aa[i].aZ t.aa[i].ej)),(41,.val (.int .i64 t.aa[i].aZ)),(42,.val (.int .i64 x.1))],cl:=[(1,t.cells)],br:=I',bO:=[hQ b x.2] }) (λx=>x.1<=t.aa[i].aZ/\x.2.length=t.n/\iA i t.aa[i].kids s=iA i (t.aa[i].kids.drop x.1) x.2) (λx=>t.aa[i].aZ-x.1) ?_ ?_;·exact⟨(0,s),⟨by omega,hA,rfl⟩,.refl,lE,.cons rfl .nil⟩
      ·rintro⟨j,b3⟩⟨AD,tK,yI⟩;simp only at AD tK yI;refine aB.mk (λh=>?_) (λh=>?_)
       ·have eS:j<t.aa[i].aZ:=by simpa using h
        have hR:j<t.aa[i].kids.length:=by omega
        obtain⟨eU,eO,eB⟩:=fz.aJ.one eS hR;refine aW.mk eU j eO rfl eS ?_;refine aE.mk [.int .i64 t.aa[i].kids[j]] (eB _) ?_;have nv:t.aa[i].kids.drop j=t.aa[i].kids[j]::t.aa[i].kids.drop (j+1):=dv hR;have bad:(decide (t.aa[i].kids[j]<0)||(decide ((i:Int)<=t.aa[i].kids[j])||b3.getD t.aa[i].kids[j].toNat false))=true->right t=false:=λah=>by unfold right;rw[hB,fO];simp only[gS,au,bt,yI,nv,iA,ah];simp
        refine a9.mk (λaL=>?_) (λaL=>?_)
        ·refine a9.mk (λbm=>?_) (λbm=>?_)
         ·simp only[rA,Int.not_lt,Int.not_le]at aL bm;have gT:t.aa[i].kids[j]=((t.aa[i].kids[j].toNat:Nat):Int):=by omega
          have bj:t.aa[i].kids[j].toNat<t.n:=by omega
          have gy:t.aa[i].kids[j].toNat<b3.length:=by omega
          refine aW.mk ⟨b,0,none⟩ t.aa[i].kids[j].toNat rfl gT bj ?_;refine aE.mk [.bool b3[t.aa[i].kids[j].toNat]] (AA (by simp) gy) ?_;refine aB.mk (λb5=>?_) (λb5=>?_);·refine⟨_,_,.sub (cW _) .refl,?_,rfl,rfl⟩;rw[bad];simp[bV,gy,b5]
          ·refine aW.mk ⟨b,0,none⟩ t.aa[i].kids[j].toNat rfl gT bj ?_;refine cu.add [] [] _ 4 rfl ?_ rfl ?_
           ·simp only[jZ,cT];show 0+t.aa[i].kids[j].toNat*1+1<=_;omega
           have eT:IntKind.i64.wrap ((j:Int)+1)=((j+1:Nat):Int):=by rw[wrap_i64 ⟨by omega,by have:=fz.aJ.cap;omega⟩];omega
           refine aQ.mk _ eT ?_;refine⟨(j+1,b3.set t.aa[i].kids[j].toNat true),⟨⟨by omega,by simp[tK],?_⟩,by show _<_;simp only;omega⟩,?_,lE,.cons rfl .nil⟩
           ·simp only;rw[yI,nv];have a0:(decide (t.aa[i].kids[j]<0)||(decide ((i:Int)<=t.aa[i].kids[j])||b3.getD t.aa[i].kids[j].toNat false))=false:=by
             have aF:¬ t.aa[i].kids[j]<0:=by omega
             have a7:¬ (i:Int)<=t.aa[i].kids[j]:=by omega
             simp[aF,a7,bV,gy,show b3[t.aa[i].kids[j].toNat]=false from b5]
            simp only[iA,a0,bz]
           ·have e:=AB b3 t.aa[i].kids[j].toNat gy true;simp only[hQ];rw[<-e];simp only[cM,fh];exact .refl
         ·refine⟨_,_,.sub (cW _) .refl,?_,rfl,rfl⟩;rw[bad];simp at bm;simp[bm]
        ·refine⟨_,_,.sub (cW _) .refl,?_,rfl,rfl⟩;rw[bad];simp at aL;simp[aL]
       ·have eS:¬ j<t.aa[i].aZ:=by simpa using h
        have tL:t.aa[i].kids.drop j=[]:=iW (by omega);have eT:IntKind.i64.wrap ((i:Int)+1)=((i+1:Nat):Int):=by rw[wrap_i64 ⟨by omega,by omega⟩];omega
        refine aQ.mk _ eT ?_;refine⟨(i+1,b3),⟨⟨by omega,tK,?_⟩,by show _<_;simp only;omega⟩,.refl,ec,.cons rfl .nil⟩;simp only;rw[hB,fO];simp only[gS,au,bt,yI,tL,iA]
    ·have bS:¬ i<t.n:=by simpa using h
     have gw:t.aa.drop i=[]:=iW (by omega);have eg:gS 0 t.aa (List.replicate t.aa.length false)=some s:=by rw[hB,gw];rfl
     have ag:right t=oT t.root 0 s:=by unfold right;rw[eg];simp[a6,bb]
     refine bu.inv (ι:=Nat) (λm=>{ a4:=[(1,.ref 1 0),(64,.val (.slice (some ⟨b,0,none⟩) t.n t.n)),(65,.val (.int .i64 t.n)),(66,.val (.int .i64 m))],cl:=[(1,t.cells)],br:=I,bO:=[hQ b s] }) (λm=>m<=t.n/\oT t.root 0 s=oT t.root m (s.drop m)) (λm=>t.n-m) ?_ ?_;·exact⟨0,⟨by omega,rfl⟩,.refl,cI,.cons rfl .nil⟩
     ·rintro m⟨aqw,AE⟩;refine aB.mk (λh=>?_) (λh=>?_)
      ·have gz:m<t.n:=by simpa using h
       have jK:m<s.length:=by omega
       have qJ:s.drop m=s[m]::s.drop (m+1):=dv jK;refine aW.mk ⟨b,0,none⟩ m rfl rfl gz ?_;refine aE.mk [.bool s[m]] (AA (by simp) jK) ?_;refine aB.mk (λfw=>?_) (λfw=>?_)
       ·refine⟨_,_,.sub (cW _) .refl,?_,rfl,rfl⟩;have:right t=false:=by rw[ag,AE,qJ];simp only[oT,show(s[m] == decide ((m:Int)=t.root))=true from fw,bt]
        rw[this]
       ·have eT:IntKind.i64.wrap ((m:Int)+1)=((m+1:Nat):Int):=by rw[wrap_i64 ⟨by omega,by omega⟩];omega
        refine aQ.mk _ eT ?_;refine⟨m+1,⟨⟨by omega,?_⟩,by omega⟩,.refl,cI,.cons rfl .nil⟩;rw[AE,qJ];simp only[oT,show(s[m] == decide ((m:Int)=t.root))=false from fw,bz]
      ·have gz:¬ m<t.n:=by simpa using h
       have qJ:s.drop m=[]:=iW (by omega);refine⟨_,_,.sub (cW _) .refl,?_,rfl,rfl⟩;rw[ag,AE,qJ];rfl
 ·refine⟨_,_,.refl,?_,rfl,rfl⟩;have:¬ 0<=t.root:=by simp at U;omega
  simp[right,this]
def eC(b:Nat)(s:List Int):aD:=⟨b,.cells (s.map (Value.int .i64)).toArray 3 (0,0)⟩
def CM{M:List aD}{s:List Int}(aV:eC b s∈M)(aj:j<s.length):bq I M ((⟨b,0,none⟩:Addr).add (j*1)) 1 [.int .i64 s[j]]:=by
 rw[dF _ rfl];refine⟨rfl,_,3,(0,0),.inr ⟨_,aV,rfl,rfl⟩,?_,rfl⟩;have U:j<(s.map (Value.int .i64)).length:=by simpa using aj
 simp only[cM,fh];rw[dv U,nq,mi];simp
def yJ{M:List aD}{s:List Int}{v:Int}(aj:j<s.length)(ai:s[j]=v)(aV:eC b s∈M):bq I M ((⟨b,0,none⟩:Addr).add (j*1)) 1 [.int .i64 v]:=ai ▸ CM aV aj
def AF(s:List Int)(j:Nat)(aj:j<s.length)(b:Int):bG (s.map (Value.int .i64)) j [.int .i64 b]=(s.set j b).map (Value.int .i64):=by unfold bG;rw[CH,Aq];simp[aj]
def ad8(aC:qI I){t:bx}(aq:t.ok I):Spec Tryz.prog 135 [t.val] I [] (λv I' M'=>v=.int .i64 (bif right t then(t.n:Int)else 0)/\I'=I/\M'=[]):=by
 refine bn [] aI Tryz.func135 rfl rfl rfl ?_;intro B av;refine aU.mk [] [] _ (.refl _) (xk aC aq) ?_;rintro v I' M' -⟨rfl,rfl,rfl⟩;refine aB.mk (λh=>?_) (λh=>?_)
 ·refine⟨_,_,.refl,?_,rfl,rfl⟩;rw[show right t=false by simpa using h];rfl
 ·refine⟨_,_,.refl,?_,rfl,rfl⟩;rw[show right t=true by simpa using h];rfl
def TP{i:Nat}:∀ {ks:List Int} {s b3:List Bool},iA i ks s=some b3->∀ k∈ks,0<=k/\k<i
 |[],s,b3,_,k,af=>by cases af
 |x::ks,s,b3,h,k,af=>by
  unfold iA at h;cases ah:(decide (x<0)||(decide ((i:Int)<=x)||s.getD x.toNat false))with
  |true=>rw[ah]at h;cases h
  |false=>
   rw[ah]at h;simp only[qB,rA]at ah;rcases ea.1 af with rfl | af;·omega
   ·exact TP h k af
def TQ:∀ {i:Nat} {ds:List aH} {s b3:List Bool},gS i ds s=some b3->∀ j (h:j<ds.length),∀ k∈ds[j].kids,0<=k/\k<(i+j:Nat)
 |i,[],s,b3,_,j,aj,_,_=>by cases aj
 |i,d::ds,s,b3,h,j,aj,k,af=>by
  unfold gS at h;cases au:fits d d.kids.length with
  |false=>rw[au]at h;cases h
  |true=>
   rw[au]at h;simp only[bt]at h;cases aP:iA i d.kids s with
   |none=>rw[aP]at h;cases h
   |some s1=>
    rw[aP]at h;cases j with
    |zero=>exact TP aP k (by simpa using af)| succ j=>have:=TQ h j (by simpa using aj) k (by simpa using af);omega
def h1{t:bx}(h:right t=true):∀ j (aj:j<t.aa.length),∀ k∈t.aa[j].kids,0<=k/\k<j:=by
 unfold right at h;simp only[b']at h;obtain⟨_,_,h⟩:=h;split at h
 ·rename_i s ar;intro j aj k af;have:=TQ ar j aj k af;omega
 ·cases h
def lK{t:bx}(h:right t=true):0<=t.root/\t.root<t.aa.length:=by unfold right at h;simp only[b',fk]at h;exact⟨h.1,h.2.1⟩
def yK(d':List Int):List Int->Int->Int
 |[],m=>m| k::ks,m=>yK d' ks (max m (d'.getD k.toNat 0))
def qK:Nat->List aH->List Int->List Int
 |_,[],d'=>d'| i,d::ds,d'=>qK (i+1) ds (d'.set i (yK d' d.kids 0+1))
def depth(t:bx):Int:=bif right t then(qK 0 t.aa (List.replicate t.aa.length 0)).getD t.root.toNat 0 else 0
def ad9(aC:qI I){t:bx}(aq:t.ok I):Spec Tryz.prog 105 [t.val] I [] (λv I' M'=>v=.int .i64 (depth t)/\I'=I/\M'=[]):=by
 refine bn [] aI Tryz.func105 rfl rfl rfl ?_;intro B av;have az:=aq.n;have gk:=aq.aJ.cap;refine aU.mk [] [] _ (.refl _) (xk aC aq) ?_;rintro v I' M' -⟨rfl,rfl,rfl⟩;refine aB.mk (λh=>?_) (λh=>?_)
 ·refine⟨_,_,.refl,?_,rfl,rfl⟩;simp[depth,show right t=false by simpa using h]
 ·have ag:right t=true:=by simpa using h
  have lL:=h1 ag;obtain⟨a6,bb⟩:=lK ag;refine mO.mk t.n t.n rfl rfl (b2 _) (by show 8*t.n<=_;omega) (by omega) ?_;refine bL.mk λb ah jJ=>?_;refine bu.inv (ι:=Nat×List Int) (λx=>{ a4:=[(1,.ref 1 0),(3,.val (.slice (some ⟨b,0,none⟩) t.n t.n)),(16,.val (.slice t.a t.n t.c)),(17,.val (.int .i64 t.n)),(18,.val (.int .i64 x.1))],cl:=[(1,t.cells)],br:=I',bO:=[eC b x.2] }) (λx=>x.1<=t.n/\x.2.length=t.n/\(∀ j,0<=x.2.getD j 0/\x.2.getD j 0<=x.1)/\(∀ j,x.1<=j->x.2.getD j 0=0)/\qK 0 t.aa (List.replicate t.aa.length 0)=qK x.1 (t.aa.drop x.1) x.2) (λx=>t.n-x.1) ?_ ?_
  ·have z:∀ j,(List.replicate t.n (0:Int)).getD j 0=0:=λj=>by
    by_cases aj:j<t.n<;>simp[bV,aj]
   refine⟨(0,List.replicate t.n 0),⟨by omega,by simp,λj=>by rw[z];simp,λj _=>z j,by simp[az]⟩,?_,ec,.cons rfl .nil⟩;show hk _ _ [⟨b,.cells (rowOf [Value.int .i64 0] (t.n*1)).toArray 3 (0,0)⟩] _ [eC b (List.replicate t.n 0)];rw[tJ,fh];simp only[eC,yB];exact .refl
  ·rintro⟨i,d'⟩⟨e3,hA,hB,kg,tA⟩;simp only at e3 hA hB kg tA;refine aB.mk (λh=>?_) (λh=>?_)
   ·have ax:i<t.n:=by simpa using h
    have bo:i<t.aa.length:=by omega
    obtain⟨ad,ba,a3⟩:=aq.aJ.row aH.bI ax bo;have fz:=aq.aa t.aa[i] (bJ bo);have eR:=fz.aZ;have fO:t.aa.drop i=t.aa[i]::t.aa.drop (i+1):=dv bo;refine aW.mk ad i ba rfl ax ?_;refine aE.mk t.aa[i].cells (a3 _) ?_;refine bu.inv (ι:=Nat×Int) (λx=>{ a4:=[(1,.ref 1 0),(3,.val (.slice (some ⟨b,0,none⟩) t.n t.n)),(4,.val (.int .i64 i)),(16,.val (.slice t.a t.n t.c)),(17,.val (.int .i64 t.n)),(18,.val (.int .i64 i)),(24,.val (.slice t.aa[i].eA t.aa[i].aZ t.aa[i].ej)),(25,.val (.int .i64 t.aa[i].aZ)),(26,.val (.int .i64 x.1))],cl:=[(1,t.cells)],br:=I',bO:=[eC b (d'.set i x.2)] }) (λx=>x.1<=t.aa[i].aZ/\0<=x.2/\x.2<=i/\yK d' t.aa[i].kids 0=yK d' (t.aa[i].kids.drop x.1) x.2) (λx=>t.aa[i].aZ-x.1) ?_ ?_
    ·refine⟨(0,0),⟨by omega,by omega,by simp,rfl⟩,?_,lE,.cons rfl .nil⟩;have e:d'.set i 0=d':=by
      have U:=kg i (b2 _);rw[bV]at U;apply yC;intro j;rw[iz];split
      ·rename_i e;subst e;have:i<d'.length:=by omega
       simp[this]at U |-;exact U.symm
      ·rfl
     simp only;rw[e];exact .refl
    ·rintro⟨j,m⟩⟨AD,tK,yI,AG⟩;simp only at AD tK yI AG;refine aB.mk (λh=>?_) (λh=>?_)
     ·have eS:j<t.aa[i].aZ:=by simpa using h
      have hR:j<t.aa[i].kids.length:=by omega
      obtain⟨eU,eO,eB⟩:=fz.aJ.one eS hR;have nv:t.aa[i].kids.drop j=t.aa[i].kids[j]::t.aa[i].kids.drop (j+1):=dv hR;have af:=lL i bo t.aa[i].kids[j] (bJ hR);have gT:t.aa[i].kids[j]=((t.aa[i].kids[j].toNat:Nat):Int):=by omega
      have bj:t.aa[i].kids[j].toNat<t.n:=by omega
      refine aW.mk eU j eO rfl eS ?_;refine aE.mk [.int .i64 t.aa[i].kids[j]] (eB _) ?_;refine cr.draw aI rfl rfl rfl ?_;have cd:i<(d'.set i m).length:=by simp;omega
      have gy:t.aa[i].kids[j].toNat<(d'.set i m).length:=by simp;omega
      have AH:(d'.set i m)[i]=m:=by simp
      have e6:(d'.set i m)[t.aa[i].kids[j].toNat]=d'.getD t.aa[i].kids[j].toNat 0:=by
       have bB:i≠t.aa[i].kids[j].toNat:=by omega
       have fP:t.aa[i].kids[j].toNat<d'.length:=by omega
       rw[IF,cB bB];simp[bV,fP]
      refine aW.mk ⟨b,0,none⟩ i rfl rfl ax ?_;refine aE.mk [.int .i64 m] (yJ cd AH (by simp)) ?_;refine aW.mk ⟨b,0,none⟩ t.aa[i].kids[j].toNat rfl gT bj ?_;refine aE.mk [.int .i64 (d'.getD t.aa[i].kids[j].toNat 0)] (yJ gy e6 (by simp)) ?_;refine aW.mk ⟨b,0,none⟩ i rfl rfl ax ?_;refine cu.add [] [] _ 3 rfl ?_ rfl ?_;·simp only[jZ,cT];show 0+i*1+1<=_;simp;omega
      have eT:IntKind.i64.wrap ((j:Int)+1)=((j+1:Nat):Int):=by rw[wrap_i64 ⟨by omega,by have:=fz.aJ.cap;omega⟩];omega
      refine aQ.mk _ eT ?_;have aea:=hB t.aa[i].kids[j].toNat;refine⟨(j+1,max m (d'.getD t.aa[i].kids[j].toNat 0)),⟨⟨by omega,by simp only;omega,by simp only;omega,?_⟩,by show _<_;simp only;omega⟩,?_,lE,.cons rfl .nil⟩;·simp only;rw[AG,nv];rfl
      ·have e:=AF (d'.set i m) i cd (max m (d'.getD t.aa[i].kids[j].toNat 0));simp only[eC];rw[CI]at e;rw[<-e];simp only[cM,fh];exact .refl
     ·have eS:¬ j<t.aa[i].aZ:=by simpa using h
      have tL:t.aa[i].kids.drop j=[]:=iW (by omega);have hm:yK d' t.aa[i].kids 0=m:=by rw[AG,tL];rfl
      have cd:i<(d'.set i m).length:=by simp;omega
      have AH:(d'.set i m)[i]=m:=by simp
      have Fo:IntKind.i64.wrap (m+1)=m+1:=wrap_i64 ⟨by omega,by omega⟩;have eT:IntKind.i64.wrap ((i:Int)+1)=((i+1:Nat):Int):=by rw[wrap_i64 ⟨by omega,by omega⟩];omega
      refine aW.mk ⟨b,0,none⟩ i rfl rfl ax ?_;refine aE.mk [.int .i64 m] (yJ cd AH (by simp)) ?_;refine aQ.mk _ Fo ?_;refine aW.mk ⟨b,0,none⟩ i rfl rfl ax ?_;refine cu.add [] [] _ 3 rfl ?_ rfl ?_;·simp only[jZ,cT];show 0+i*1+1<=_;omega
      refine aQ.mk _ eT ?_;refine⟨(i+1,d'.set i (m+1)),⟨⟨by omega,by simp[hA],?_,?_,?_⟩,by show _<_;simp only;omega⟩,?_,ec,.cons rfl .nil⟩
      ·intro q;have MM:=hB q;simp only[bV,iz]at MM |-;split
       ·rename_i e;subst e;have:i<d'.length:=by omega
        simp[this];omega
       ·omega
      ·intro q a0;have Fp:=kg q (by omega);simp only at a0;simp only[bV,iz]at Fp |-;rw[cB (by omega)];exact Fp
      ·simp only;rw[tA,fO];simp only[qK,hm]
      ·have e:=AF (d'.set i m) i cd (m+1);simp only[eC];rw[CI]at e;rw[<-e];simp only[cM,fh];exact .refl
   ·have bS:¬ i<t.n:=by simpa using h
    have gw:t.aa.drop i=[]:=iW (by omega);have eg:qK 0 t.aa (List.replicate t.aa.length 0)=d':=by rw[tA,gw];rfl
    have g3:t.root=((t.root.toNat:Nat):Int):=by omega
    have dp:t.root.toNat<d'.length:=by omega
    refine aW.mk ⟨b,0,none⟩ t.root.toNat rfl g3 (by omega) ?_;refine aE.mk [.int .i64 d'[t.root.toNat]] (yJ dp rfl (by simp)) ?_;refine⟨_,_,.sub (cW _) .refl,?_,rfl,rfl⟩;have:depth t=d'[t.root.toNat]:=by unfold depth;rw[ag,eg];simp[bV,dp]
    rw[this];rfl
def hD(t:bx):Bool:=decide (t.n<=1024)&&(right t&&decide (depth t<=32))
def aeb(aC:qI I){t:bx}(aq:t.ok I):Spec Tryz.prog 76 [t.val] I [] (λv I' M'=>v=.bool (hD t)/\I'=I/\M'=[]):=by
 refine bn [] aI Tryz.func76 rfl rfl rfl ?_;intro B av;refine a9.mk (λU=>?_) (λU=>?_)
 ·refine aU.mk [] [] _ (.refl _) (xk aC aq) ?_;rintro v I' M' -⟨rfl,rfl,rfl⟩;refine a9.mk (λab=>?_) (λab=>?_)
  ·refine aU.mk [] [] _ (.refl _) (ad9 aC aq) ?_;rintro v I' M' -⟨rfl,rfl,rfl⟩;refine⟨_,_,.refl,?_,rfl,rfl⟩;have jL:t.n<=1024:=by simp at U;omega
   simp[hD,jL,ab]
  ·refine⟨_,_,.refl,?_,rfl,rfl⟩;have gx:right t=false:=ab;simp[hD,gx]
 ·refine⟨_,_,.refl,?_,rfl,rfl⟩;have jL:¬ t.n<=1024:=by simp at U;omega
  simp[hD,jL]
def pM{α:Type}(z:α)(f:aH->(Int->α)->α):List aH->List α->List α
 |[],acc=>acc| d::ds,acc=>pM z f ds (acc++[f d λk=>acc.getD k.toNat z])
section
variable{α:Type}{z:α}{f:aH->(Int->α)->α}
def MN:∀ (ds:List aH) (acc:List α) (j:Nat),j<acc.length->(pM z f ds acc)[j]?=acc[j]?
 |[],acc,j,_=>rfl| d::ds,acc,j,h=>by rw[pM,MN ds _ j (by simp;omega),sq h]
def TR:∀ (ds:List aH) (acc:List α) (j:Nat) (h:j<ds.length),(pM z f ds acc)[acc.length+j]?=some (f ds[j] λk=>((pM z f ds acc).take (acc.length+j)).getD k.toNat z)
 |d::ds,acc,0,_=>by
  rw[pM,nT,MN ds _ acc.length (by simp)];simp only[List.getElem?_concat_length,vp,jY];congr 1;funext k;have:(pM z f ds (acc++[f d λk=>acc.getD k.toNat z])).take acc.length=acc:=by
   apply yC;intro i;rw[kA];split;·rename_i hi;rw[MN ds _ i (by simp;omega),sq hi]
   ·rw[ql (by omega)]
  rw[this]
 |d::ds,acc,j+1,h=>by have:=TR ds (acc++[f d λk=>acc.getD k.toNat z]) j (by simpa using h);rw[pM];simp only[cz,cS,dI,cM,Mn]at this |-;rw[show acc.length+(j+1)=acc.length+1+j from by omega];exact this
def oU(z:α)(f:aH->(Int->α)->α)(aa:List aH)(k:Int):α:=(pM z f aa []).getD k.toNat z
def AI(au:∀ d g dh,(∀ k∈d.kids,g k=dh k)->f d g=f d dh){t:bx}(ag:right t=true)(aj:j<t.aa.length):oU z f t.aa j=f t.aa[j] (oU z f t.aa):=by have h:=TR (z:=z) (f:=f) t.aa [] j aj;simp only[dI,cM]at h;unfold oU;rw[bV,show((j:Int).toNat)=j from by omega,h,je];refine au _ _ _ λk af=>?_;have:=h1 ag j aj k af;rw[bV,bV,kA,cw (by omega)]
end
def free(g:Nat->Nat)(s:List Bool):Nat->Nat
 |0=>0| i+1=>free g s i+(bif s.getD i false then 0 else g i)
def TS{g:Nat->Nat}{s:List Bool}{k:Nat}:∀ {i:Nat},i<=k->free g (s.set k true) i=free g s i
 |0,_=>rfl| i+1,h=>by unfold free;rw[TS (by omega)];simp only[bV,iz];rw[cB (by omega)]
def TT{g:Nat->Nat}{s:List Bool}{k:Nat}(ar:s.getD k false=false)(ay:k<s.length):∀ {i:Nat},k<i->free g (s.set k true) i+g k=free g s i
 |i+1,h=>by
  unfold free;by_cases e:i=k;·subst e;rw[TS (b2 _),ar];simp[bV,ay]
  ·have:=TT (g:=g) ar ay (i:=i) (by omega);simp only[bV,iz]at this |-;rw[cB (by omega)];omega
def eV(g:Int->Nat)(ks:List Int):Nat:=(ks.map g).sum
def TU{g:Nat->Nat}{i:Nat}:∀ {ks:List Int} {s b3:List Bool},iA i ks s=some b3->i<=s.length->b3.length=s.length/\free g b3 i+eV (λk=>g k.toNat) ks=free g s i
 |[],s,b3,h,_=>by simp only[iA,jY]at h;subst h;exact⟨rfl,rfl⟩
 |x::ks,s,b3,h,ay=>by
  unfold iA at h;cases ah:(decide (x<0)||(decide ((i:Int)<=x)||s.getD x.toNat false))with
  |true=>rw[ah]at h;cases h| false=>rw[ah]at h;simp only[qB,rA]at ah;obtain⟨U,ab,ak⟩:=ah;obtain⟨aF,a7⟩:=TU (g:=g) h (by simpa using ay);have bC:=TT (g:=g) ak (by omega) (i:=i) (by omega);refine⟨by simpa using aF,?_⟩;simp only[eV,cZ,n4]at a7 |-;omega
def MO{g:Nat->Nat}{c:aH->Nat}:∀ {ds:List aH} {i:Nat} {s b3:List Bool},gS i ds s=some b3->i+ds.length<=s.length->(∀ j (h:j<ds.length),g (i+j)<=c ds[j]+eV (λk=>g k.toNat) ds[j].kids) -> b3.length=s.length/\free g b3 (i+ds.length)<=free g s i+(ds.map c).sum
 |[],i,s,b3,h,_,_=>by simp only[gS,jY]at h;subst h;simp
 |d::ds,i,s,b3,h,ay,ao=>by
  unfold gS at h;cases au:fits d d.kids.length with
  |false=>rw[au]at h;cases h
  |true=>
   rw[au]at h;simp only[bt]at h;cases aP:iA i d.kids s with
   |none=>rw[aP]at h;cases h
   |some s1=>
    rw[aP]at h;simp only[cS]at ay;obtain⟨aF,a7⟩:=TU (g:=g) aP (by omega);obtain⟨bC,di⟩:=MO (g:=g) (c:=c) h (by omega) (λj aj=>by
     have:=ao (j+1) (by simp;omega);simp only[Mn]at this;rw[show i+1+j=i+(j+1)from by omega];exact this)
    have av:=ao 0 (by simp);simp only[nT,vp]at av;refine⟨by omega,?_⟩;have hE:free g s1 (i+1)<=free g s1 i+g i:=by
     show free g s1 i+_<=_;cases s1.getD i false<;>simp
    simp only[cS,cZ,n4];rw[show i+(ds.length+1)=i+1+ds.length from by omega];omega
def TV{root:Int}:∀ {s:List Bool} {i:Nat},oT root i s=true->∀ j,j<s.length->(i+j:Nat)=root->s.getD j false=false
 |b::s,i,h,j,aj,e=>by
  unfold oT at h;cases ah:(b == decide ((i:Int)=root))with
  |true=>rw[ah]at h;cases h
  |false=>
   rw[ah]at h;cases j with
   |zero=>
    have:decide ((i:Int)=root)=true:=by simpa using e
    rw[this]at ah;simpa using ah
   |succ j=>have:=TV (i:=i+1) h j (by simpa using aj) (by omega);simpa using this
def TW{g:Nat->Nat}{s:List Bool}{k:Nat}(af:s.getD k false=false):∀ {n:Nat},k<n->g k<=free g s n
 |n+1,h=>by
  unfold free;by_cases e:n=k;·subst e;rw[af];simp
  ·have:=TW (g:=g) af (n:=n) (by omega);omega
def MP{t:bx}(ag:right t=true){g:Int->Nat}{c:aH->Nat}(h:∀ j (aj:j<t.aa.length),g j<=c t.aa[j]+eV g t.aa[j].kids):g t.root<=(t.aa.map c).sum:=by
 have rI:=lK ag;have af:=h1 ag;unfold right at ag;simp only[b']at ag;obtain⟨_,_,ag⟩:=ag;split at ag
 ·rename_i s ar;obtain⟨aF,a7⟩:=MO (g:=λk=>g k) (c:=c) ar (by simp) (λj aj=>by refine k5 (by rw[cM];exact h j aj) (Nat.le_of_eq ?_);congr 1;unfold eV;congr 1;refine rC λk e6=>?_;have:=af j aj k e6;rw[yA this.1]);simp only[yz,cM]at aF a7;have a2:=TV ag t.root.toNat (by omega) (by omega);have:=TW (g:=λk=>g k) a2 (n:=t.aa.length) (by omega);rw[yA rI.1]at this;simp only[free]at a7;omega
 ·cases ag
def tM{t:bx}(ag:right t=true)(aj:j<t.aa.length):fits t.aa[j] t.aa[j].kids.length=true:=by
 have aux:∀ {ds:List aH} {i:Nat} {s b3:List Bool},gS i ds s=some b3->∀ j (h:j<ds.length),fits ds[j] ds[j].kids.length=true:=by
  intro ds
  induction ds with
  |nil=>intro i s b3 _ j aj;cases aj
  |cons d ds a8=>
   intro i s b3 h j aj;unfold gS at h;cases au:fits d d.kids.length with
   |false=>rw[au]at h;cases h
   |true=>
    rw[au]at h;simp only[bt]at h;cases aP:iA i d.kids s with
    |none=>rw[aP]at h;cases h
    |some s1=>
     rw[aP]at h;cases j with
     |zero=>exact au| succ j=>exact a8 h j (by simpa using aj)
 unfold right at ag;simp only[b']at ag;obtain⟨_,_,ag⟩:=ag;split at ag
 ·rename_i s ar;exact aux ar j aj
 ·cases ag
def aec(t u ty e:Nat)(i:TypeInfo)(aq:P.underlying t=some (.slice e))(hu:P.underlying u=some n5)(pK:∀ k,n5≠.int k)(hi:P.info? e=some i)
 {n:Nat} (ml:n<=c) (av:(∃ b c,vt=.slice b 0 c)\/vt=.string .empty):(Builtin.append_ #[t,u] ty #[.slice sa n c,vt]).run P w=.ok (.slice sa n c) w:=by
 have Fi:(match n5 with | .int _=>true | _=>false)=false:=by cases n5<;>first | rfl | exact(pK _ rfl).elim
 rcases av with⟨b,c',rfl⟩ | rfl
 ·cases b<;>cases sa<;>simp[Builtin.append_,run_underlying aq,run_underlying hu,sizeOf,typeInfo,hi,Fi,Builtin.lenOf,ml,Builtin.firstCells,Builtin.zeroCells,loadCells,loadCellsFrom,storeCells]
 ·cases sa<;>simp[Builtin.append_,run_underlying aq,run_underlying hu,sizeOf,typeInfo,hi,Fi,Builtin.lenOf,ml,Builtin.firstCells,loadCells,storeCells]
section
variable{X:cO}{β:Nat->Nat}{a:Act}{w:World}{F:Fr}{C:c8}{I:aT}{M:List aD}{o:Oper}{K:fZ}
def bk.bin{op:BinOp}(aP:o.op=.binOp op t x y bh)(al:∀ d,o.dst=some d->d<X.n){q:Value}(ae:bY F x=.val p)(aA:bY F y=.val q)
  (ao:∀ w,(eqGuard op t x y p q).run X.P w=.ok () w) (ag:∀ w,ef I M w->(binOp op t p q).run X.P w=.ok v w) (h:K (put o.dst (.val v) F) C I M):bk X o F C I M K:=by
 refine⟨λac w Q ⟨β,a5⟩=>?_⟩;have ex:=dx a5.an ae;have mX:=dx a5.an aA;refine va a5 al (by rw[aP];simp) ?_ h;unfold execOp;simp only[aP,b8,ex,mX,ao,bU,ag w a5.holds,c3]
def bk.conv{s:Nat}(aP:o.op=.convert s t x)(al:∀ d,o.dst=some d->d<X.n)(ae:bY F x=.val p)
  (ag:∀ w,ef I M w->(convert s t p).run X.P w=.ok v w) (h:K (put o.dst (.val v) F) C I M):bk X o F C I M K:=by
 refine⟨λac w Q ⟨β,a5⟩=>?_⟩;have ex:=dx a5.an ae;refine va a5 al (by rw[aP];simp) ?_ h;unfold execOp;simp only[aP,b8,ex,bU,ag w a5.holds,c3]
def bk.un{op:UnOp}(aP:o.op=.unOp op t x)(al:∀ d,o.dst=some d->d<X.n)(ae:bY F x=.val p)
  (ag:∀ w,ef I M w->(Op.unary op p).run X.P w=.ok v w) (h:K (put o.dst (.val v) F) C I M):bk X o F C I M K:=by
 refine⟨λac w Q ⟨β,a5⟩=>?_⟩;have ex:=dx a5.an ae;refine va a5 al (by rw[aP];simp) ?_ h;unfold execOp;simp only[aP,b8,ex,bU,ag w a5.holds,c3]
def g4(x:Int):Int:=IntKind.u64.wrap (BitVec.ofInt 64 IntKind.u64.max ^^^ BitVec.ofInt 64 x).toNat
def bk.IN(aP:o.op=.unOp .xor t x)(al:∀ d,o.dst=some d->d<X.n){n:Int}(ae:bY F x=.val (.int .u64 n))(h:K (put o.dst (.val (.int .u64 (g4 n))) F) C I M):bk X o F C I M K:=
 .un aP al ae (λw _=>rfl) h
def bk.IP(aR:cX X.P X.E)(aP:o.op=.call { callee:=.builtin .append,args:=#[s,x],argTypes:=#[t,u] })(al:∀ d,o.dst=some d->d<X.n)
 (aq:X.E t=some dr) (eo:dr.bH=.slice e) (hu:X.E u=some ns) (fL:∀ k,ns.bH≠.int k) (he:X.E e=some aO)
 {n:Nat} (ar:bY F s=.val (.slice sa n c)) (ml:n<=c)
 (ae:bY F x=.val vt) (av:(∃ b c,vt=.slice b 0 c)\/vt=.string .empty)
  (h:K (put o.dst (.val (.slice sa n c)) F) C I M):bk X o F C I M K:=by
 refine⟨λa w Q ⟨β,a5⟩=>?_⟩;obtain⟨inf,z,hi,e3,hA,hB,kg⟩:=(aR _ _ he).inf;obtain⟨d,fp,eY⟩:=(aR _ _ hu).fl;obtain⟨jH,pL,qG⟩:=(aR _ _ aq).fl;have xh:jH=.slice e:=by rw[eo]at qG;cases jH<;>simp_all[fe]
 subst xh;have fm:=aec (w:=w) t u o.type e inf pL fp (λk c0=>fL k (by rw[<-eY,c0];rfl)) hi (sa:=sa) ml av;have es:=dx a5.an ar;have ex:=dx a5.an ae;refine va a5 al (by rw[aP];simp) ?_ h;unfold execOp;simp only[aP,resolve,invoke,builtin,b8,c3,bU,vr,cZ,jj,es,ex,fm]
def TX(op:BinOp)(t:Nat)(x y:Operand)(p q:Option Addr)(P:Program)(w:World):(eqGuard op t x y (.pointer p) (.pointer q)).run P w=.ok () w:=by
 unfold eqGuard;cases op<;>rfl
def bk.IQ(aR:cX X.P X.E)(aP:o.op=.binOp .eql t x y bh)(al:∀ d,o.dst=some d->d<X.n)(aq:X.E t=some dr)(eo:dr.bH=.pointer e)
  {p:Option Addr} (ae:bY F x=.val (.pointer p)) (aA:bY F y=.val (.pointer none)) (h:K (put o.dst (.val (.bool p.isNone)) F) C I M):bk X o F C I M K:=by
 obtain⟨d,fp,eY⟩:=(aR _ _ aq).fl;have U:d=.pointer e:=by rw[eo]at eY;cases d<;>simp_all[fe]
 subst U;exact .bin aP al ae aA (λw=>TX ..) (λw _=>run_eql_pointer_nil w t p (by simp[Program.pointee,fp])) h
def bk.TY(aR:cX X.P X.E)(aP:o.op=.binOp .neq t x y bh)(al:∀ d,o.dst=some d->d<X.n){aed:dW}(aq:X.E t=some dr)(eo:dr.bH=.pointer e)(he:X.E e=some aed)
  {p:Addr} (ae:bY F x=.val (.pointer (some p))) (aA:bY F y=.val (.pointer (some p))) (h:K (put o.dst (.val (.bool false)) F) C I M):bk X o F C I M K:=by
 obtain⟨d,fp,eY⟩:=(aR _ _ aq).fl;have U:d=.pointer e:=by rw[eo]at eY;cases d<;>simp_all[fe]
 subst U;obtain⟨inf,z,hi,_⟩:=(aR _ _ he).inf;exact .bin aP al ae aA (λw=>TX ..) (λw _=>Lib.run_neq_ptr_same w p fp hi) h
end
def TZ{f:Nat}{fn:Func}{e:Array Value->Sem Value}{args:List Value}{M:List aD}(au:P.funcs[f]?=some fn)(aee:(fn.name == "runtime.NumGoroutine")=false)
  (ah:fn.body.isNone=true) (az:Extern.findNext fn=none) (he:Extern.find fn=some e) (ag:∀ w,(e args.toArray).run P w=.ok v w):Spec P f args I M λr I' M'=>r=v/\I'=I/\M'=M:=by
 refine .inr λw hw=>⟨v,w,I,M,?_,⟨rfl,rfl,rfl⟩,hw,λ_ _ h=>h,λ_ _ h=>.inl h,λx ae=>.inl ⟨x,ae,rfl⟩,λ_ _ _=>rfl,.refl _,b2 _⟩;rw[run_callFunc_extern au aee ah az he,ag];rfl
def yL(l:List UInt8):List Value:=l.map λb=>.int .u8 b.toNat
structure fQ where
 used:Bool
 os:aY
 bd:List UInt8
def fQ.aw(b:Nat)(x:fQ):aD:=⟨b,.cells #[.pointer (bif x.used then some ⟨b,0,none⟩else none),x.os.val] 210 (0,0)⟩
def fQ.M(b:Nat)(x:fQ):List aD:=x.aw b::x.os.aw 5
structure fQ.ok(x:fQ):Prop where
 os:x.os.ok 1 (yL x.bd)
 ne:∀ g,x.os.a=some g->x.bd≠[]
def fQ.new:fQ:=⟨false,⟨none,0,0,[]⟩,[]⟩
def fQ.IR:fQ.new.ok:=⟨⟨rfl,λ_=>⟨rfl,rfl⟩,λg h=>by cases h⟩,λg h=>by cases h⟩
def fQ.ok.n{x:fQ}(h:x.ok):x.os.n=x.bd.length:=by have:=h.os.len;simp[yL]at this;omega
def ptr(b:Nat):Value:=.pointer (some ⟨b,0,none⟩)
def dj{M:List aD}{cs:List Value}(aV:(⟨b,.cells cs.toArray T (0,0)⟩:aD)∈M){k n:Nat}(h:k+n<=cs.length):bq I M ((⟨b,0,none⟩:Addr).add k) n ((cs.drop k).take n):=by
 rw[dF _ rfl];refine⟨rfl,_,T,(0,0),.inr ⟨_,aV,rfl,rfl⟩,?_,?_⟩
 ·simp
 ·simp;omega
def MQ{M:List aD}(v:Value):Spec Tryz.prog 200 [v] I M λr I' M'=>r=v/\I'=I/\M'=M:=
 TZ Tryz.func200 (by kernel_rfl) (by kernel_rfl) (by kernel_rfl) (e:=Extern.AbiNoEscape.same) (by kernel_rfl) (λw=>Lib.run_noEscape w _)
def T0{M:List aD}(s:ByteArray)(c:UInt8):Spec Tryz.prog 214 [.string s,.int .u8 c.toNat] I M λr I' M'=>r=.int .i64 (Lib.indexByte s.data.toList c)/\I'=I/\M'=M:=
 TZ Tryz.func214 (by kernel_rfl) (by kernel_rfl) (by kernel_rfl) (e:=Extern.BytealgIndexByte.indexByte) (by kernel_rfl) (λw=>by
  have:=Lib.run_indexByteString (P:=Tryz.prog) s (c.toNat:Int) w;simpa using this)
def aef(s:ByteArray)(c:UInt8):Spec Tryz.prog 192 [.string s,.int .u8 c.toNat] I [] λr I' M'=>r=.int .i64 (Lib.indexByte s.data.toList c)/\I'=I/\M'=[]:=by refine bn [] aI Tryz.func192 rfl rfl rfl ?_;intro B av;refine aU.mk [] [] _ (.refl _) (T0 s c) ?_;rintro v I' M' -⟨rfl,rfl,rfl⟩;exact⟨_,_,.refl,rfl,rfl,rfl⟩
def T1(s:ByteArray)(c:UInt8):Spec Tryz.prog 171 [.string s,.int .u8 c.toNat] I [] λr I' M'=>r=.int .i64 (Lib.indexByte s.data.toList c)/\I'=I/\M'=[]:=by refine bn [] aI Tryz.func171 rfl rfl rfl ?_;intro B av;refine aU.mk [] [] _ (.refl _) (aef s c) ?_;rintro v I' M' -⟨rfl,rfl,rfl⟩;exact⟨_,_,.refl,rfl,rfl,rfl⟩
def IS{M:List aD}(h:ef I M w){an:Nat×Nat}(aV:(⟨b,.cells cs T an⟩:aD)∈M):w.shape? b=some (T,cs.size):=by have:=h.m _ aV;simp only at this;simp[World.shape?,this]
def T2(b:Nat)(x:fQ):Spec Tryz.prog 178 [ptr b] I [x.aw b] λr I' M'=>r=.tuple #[]/\I'=I/\M'=[{ x with used:=true:fQ }.aw b]:=by
 obtain⟨used,os,bd⟩:=x;obtain⟨inf,z,hi,e3,_⟩:=(aI 210 _ rfl).inf;refine bn [] aI Tryz.func178 rfl rfl rfl ?_;intro B av;cases used with
 |false=>refine aE.mk [.pointer none] (dj (cs:=[.pointer none,os.val]) (k:=0) (n:=1) (T:=210) (fb.2 rfl) (by simp)) ?_;refine .other (bk.IQ aI rfl (by simp) rfl rfl rfl rfl ?_);refine aB.mk (λ_=>?_) (λh=>by cases h);refine bk.conv rfl (by simp) rfl (λw hw=>Lib.run_to_unsafe (t:=210) (e:=210) (cells:=2) w ⟨b,0,none⟩ (by kernel_rfl) (by kernel_rfl) (j:=inf) hi (by rw[e3];decide) (IS (cs:=#[.pointer none,os.val]) hw (fb.2 rfl)) (by simp)) ?_;refine aU.mk [fQ.aw b ⟨false,os,bd⟩] [] _ (by simp) (MQ _) ?_;rintro v I' M' -⟨rfl,rfl,rfl⟩;refine bk.conv rfl (by simp) rfl (λw hw=>Lib.run_from_unsafe (u:=210) (e:=210) (cells:=2) w ⟨b,0,none⟩ (by kernel_rfl) (by kernel_rfl) (j:=inf) hi (IS (cs:=#[.pointer none,os.val]) hw (fb.2 rfl)) (by kernel_rfl)) ?_;refine cu.add [] [] _ _ rfl (b9 rfl) rfl ?_;exact⟨_,_,.refl,rfl,rfl,rfl⟩
 |true=>refine aE.mk [ptr b] (dj (cs:=[ptr b,os.val]) (k:=0) (n:=1) (T:=210) (fb.2 rfl) (by simp)) ?_;refine .other (bk.IQ aI rfl (by simp) rfl rfl rfl rfl ?_);refine aB.mk (λh=>by cases h) (λ_=>?_);refine aE.mk [ptr b] (dj (cs:=[ptr b,os.val]) (k:=0) (n:=1) (T:=210) (fb.2 rfl) (by simp)) ?_;refine .other (bk.TY aI rfl (by simp) rfl rfl rfl rfl rfl ?_);refine aB.mk (λh=>by cases h) (λ_=>?_);exact⟨_,_,.refl,rfl,rfl,rfl⟩
def oV(b:Nat){x:fQ}(ae:x.ok)(c:UInt8)(ay:x.bd.length<70368744177664):Spec Tryz.prog 196 [ptr b,.int .u8 c.toNat] I (x.M b)
  λr I' M'=>r=.nilIface/\I'=I/\∃ y:fQ,y.ok/\y.bd=x.bd++[c]/\M'=y.M b:=by
 refine bn [] aI Tryz.func196 rfl rfl rfl ?_;intro B av;have az:=ae.n;refine aU.mk [x.aw b] (x.os.aw 5) _ (.refl _) (T2 b x) ?_;rintro v I' M' -⟨rfl,rfl,rfl⟩;refine aE.mk [x.os.val] (dj (cs:=[ptr b,x.os.val]) (k:=1) (n:=1) (T:=210) (.head _) (by simp)) ?_;refine bL.mk λg ao yM=>?_;refine bk.append aI rfl (by simp) (e:=5) rfl rfl rfl x.os (xs:=yL x.bd) ae.os rfl (m:=1) rfl (news:=[.int .u8 c.toNat]) (by decide) ?_ rfl (Mr:=[⟨g,.cells #[.int .u8 c.toNat] 5 (0,0)⟩,{ x with used:=true:fQ }.aw b]) ?_ ?_ ?_ ?_
 ·exact dj (cs:=[.int .u8 c.toNat]) (k:=0) (n:=1) (T:=5) (.head _) (by simp)
 ·exact gQ (l₁:=[_,_]) (l₂:=x.os.aw 5)
 ·simp only[maxLen];omega
 ·show(x.os.n+1)*1<=_;omega
 ·intro dh c' cur U ab ak aL;refine cu.add [⟨dh,.cells cur.toArray 5 (0,0)⟩,⟨g,.cells #[.int .u8 c.toNat] 5 (0,0)⟩] [] _ _ rfl (b9 rfl) rfl ?_;refine⟨_,_,.perm (M1:=[⟨g,.cells #[.int .u8 c.toNat] 5 (0,0)⟩]++fQ.M b ⟨true,⟨some dh,x.os.n+1,c',cur⟩,x.bd++[c]⟩) ?_ (.sub (e' _ _) .refl),rfl,rfl,_,?_,rfl,rfl⟩
  ·exact gQ (l₁:=[_]) (l₂:=[_,_])
  ·refine⟨⟨?_,λh=>by simp at h,?_⟩,by simp⟩
   ·simp[yL,az]
   ·intro bb lM;refine⟨U,ab,ak,?_⟩;rw[aL];simp[yL]
def tN(b:Nat){x:fQ}(ae:x.ok)(s:ByteArray)(ay:x.bd.length+s.size<=70368744177664):Spec Tryz.prog 156 [ptr b,.string s] I (x.M b)
  λr I' M'=>r=.tuple #[.int .i64 s.size,.nilIface]/\I'=I/\∃ y:fQ,y.ok/\y.bd=x.bd++s.data.toList/\M'=y.M b:=by
 refine bn [] aI Tryz.func156 rfl rfl rfl ?_;intro B av;have az:=ae.n;refine aU.mk [x.aw b] (x.os.aw 5) _ (.refl _) (T2 b x) ?_;rintro v I' M' -⟨rfl,rfl,rfl⟩;refine aE.mk [x.os.val] (dj (cs:=[ptr b,x.os.val]) (k:=1) (n:=1) (T:=210) (.head _) (by simp)) ?_;by_cases ar:s.size=0
 ·have he:s=.empty:=qo (Fa ar);subst he;have ml:x.os.n<=x.os.c:=by
   cases aX:x.os.a with
   |none=>obtain⟨U,ab⟩:=ae.os.nil aX;omega
   |some g=>exact(ae.os.cap g aX).2.1
  refine bk.IP aI rfl (by simp) (e:=5) rfl rfl rfl (by simp) rfl rfl ml rfl (.inr rfl) ?_;refine cu.add [] (x.os.aw 5) _ _ rfl (b9 rfl) rfl ?_;exact⟨_,_,.refl,rfl,rfl,⟨true,x.os,x.bd⟩,⟨ae.os,ae.ne⟩,by simp,rfl⟩
 ·refine bk.ad0 aI rfl (by simp) (e:=5) rfl rfl rfl rfl rfl rfl x.os (xs:=yL x.bd) ae.os rfl rfl (by omega) (Mr:=[{ x with used:=true:fQ }.aw b]) (gQ (l₁:=[_])) ?_ ?_ ?_
  ·simp only[maxLen];omega
  ·show(x.os.n+s.size)*1<=_;omega
  ·intro dh c' cur U ab ak aL;refine cu.add [⟨dh,.cells cur.toArray 5 (0,0)⟩] [] _ _ rfl (b9 rfl) rfl ?_;refine⟨_,_,.perm (M1:=fQ.M b ⟨true,⟨some dh,x.os.n+s.size,c',cur⟩,x.bd++s.data.toList⟩) ?_ .refl,rfl,rfl,_,?_,rfl,rfl⟩
   ·exact gQ (l₁:=[_]) (l₂:=[_])
   ·refine⟨⟨?_,λh=>by simp at h,?_⟩,λg _ h=>?_⟩
    ·simp[yL,az]
    ·intro bb lM;refine⟨U,ab,ak,?_⟩;rw[aL];simp[yL,kM]
    ·have bm:=congrArg List.length (List.append_eq_nil_iff.1 h).2;exact ar (by simpa using bm)
def xl(b:Nat){x:fQ}(ae:x.ok)(ay:x.bd.length<=70368744177664):Spec Tryz.prog 157 [ptr b] I (x.M b)
  λr I' M'=>r=.string ⟨x.bd.toArray⟩/\I'=I/\M'=[]:=by
 refine bn [] aI Tryz.func157 rfl rfl rfl ?_;intro B av;have az:=ae.n;obtain⟨used,⟨a,n,c,cur⟩,bd⟩:=x;simp only at az ay;subst az;refine cr.draw aI rfl rfl rfl ?_;cases a with
 |none=>obtain⟨U,ab⟩:=ae.os.nil rfl;simp only at U ab;have nw:bd=[]:=hZ U;subst nw;subst ab;refine aE.mk [.slice none 0 0] (dj (cs:=[.pointer (bif used then some ⟨b,0,none⟩else none),.slice none 0 0]) (k:=1) (n:=1) (T:=210) (.head _) (by simp)) ?_;refine aE.mk [.slice none 0 0] (dj (cs:=[.pointer (bif used then some ⟨b,0,none⟩else none),.slice none 0 0]) (k:=1) (n:=1) (T:=210) (.head _) (by simp)) ?_;refine bk.Tu rfl (by simp) rfl rfl ?_;exact⟨_,_,.sub (cW _) .refl,rfl,rfl,rfl⟩
 |some g=>
  obtain⟨U,ab,ak,aL⟩:=ae.os.cap g rfl;have bB:=ae.ne g rfl;simp only at U ab ak aL bB;have g2:bd.length≠0:=λh=>bB (hZ h);refine aE.mk [.slice (some ⟨g,0,none⟩) bd.length c] (dj (cs:=[.pointer (bif used then some ⟨b,0,none⟩else none),.slice (some ⟨g,0,none⟩) bd.length c]) (k:=1) (n:=1) (T:=210) (.head _) (by simp)) ?_;refine j2.mk (by omega) ?_;refine aE.mk [.slice (some ⟨g,0,none⟩) bd.length c] (dj (cs:=[.pointer (bif used then some ⟨b,0,none⟩else none),.slice (some ⟨g,0,none⟩) bd.length c]) (k:=1) (n:=1) (T:=210) (.head _) (by simp)) ?_;refine bk.MD aI rfl (by simp) (e:=5) rfl rfl rfl rfl (l:=bd) (g:=g) (cs:=cur.toArray) rfl rfl bB (by omega) (Mr:=[fQ.aw b ⟨used,⟨some g,bd.length,c,cur⟩,bd⟩]) (gQ (l₁:=[_]) (l₂:=[_])) ?_ ?_;·rw[fh]at aL;exact aL
  ·exact⟨_,_,.sub (cW _) .refl,rfl,rfl,rfl⟩
def AJ(c:UInt8)(left:ByteArray):Bool:=decide ((32:Int)<=c.toNat)&&(decide ((c.toNat:Int)<=126)&&(!decide ((c.toNat:Int)=92)&&decide (Lib.indexByte left.data.toList c<0)))
def aeg(c:UInt8)(left:ByteArray):Spec Tryz.prog 232 [.int .u8 c.toNat,.string left] I [] λr I' M'=>r=.bool (AJ c left)/\I'=I/\M'=[]:=by
 refine bn [] aI Tryz.func232 rfl rfl rfl ?_;intro B av;refine a9.mk (λU=>?_) (λU=>?_)
 ·refine a9.mk (λab=>?_) (λab=>?_)
  ·refine a9.mk (λak=>?_) (λak=>?_)
   ·refine aU.mk [] [] _ (.refl _) (T1 left c) ?_;rintro v I' M' -⟨rfl,rfl,rfl⟩;refine⟨_,_,.refl,?_,rfl,rfl⟩;simp only[AJ,U,ab,ak,kj]
   ·refine⟨_,_,.refl,?_,rfl,rfl⟩;simp only[AJ,U,ab,ak,kj,nS,nr]
  ·refine⟨_,_,.refl,?_,rfl,rfl⟩;simp only[AJ,U,ab,kj,nS,nr]
 ·refine⟨_,_,.refl,?_,rfl,rfl⟩;simp only[AJ,U,kj,nS,nr]
def yN:ByteArray:=⟨#[48,49,50,51,52,53,54,55,56,57,97,98,99,100,101,102]⟩
def n7(n:Nat):UInt8:=yN.data.toList.getD n 0
def iB(c:UInt8)(left:ByteArray):List UInt8:=
 bif AJ c left then [c]else
 bif decide ((c.toNat:Int)=10)then [92,110]else
 bif decide ((c.toNat:Int)=13)then [92,114]else
 bif decide ((c.toNat:Int)=9)then [92,116]else
 bif decide ((c.toNat:Int)=92)||decide ((0:Int)<=Lib.indexByte left.data.toList c)then [92,c]else [92,120,n7 (c.toNat/16),n7 (c.toNat%16)]
def rJ(c:UInt8)(left:ByteArray):(iB c left).length<=4:=by
 unfold iB;cases AJ c left<;>cases decide ((c.toNat:Int)=10)<;>cases decide ((c.toNat:Int)=13)<;>cases decide ((c.toNat:Int)=9)<;>cases(decide ((c.toNat:Int)=92)||decide ((0:Int)<=Lib.indexByte left.data.toList c))<;>simp
def aeh:∀ n:Nat,n<256->IntKind.u8.wrap ((BitVec.ofInt 8 (n:Int)) &&& (BitVec.ofInt 8 15)).toNat=((n%16:Nat):Int):=by decide +kernel
def T3(aj:j<yN.size):yN[j]=n7 j:=by have:j<yN.data.toList.length:=aj;simp only[n7,bV,ev this,je];rfl
def IT(b:Nat){x:fQ}(ae:x.ok)(c:UInt8)(left:ByteArray)(ay:x.bd.length<=70368744177600):Spec Tryz.prog 226 [ptr b,.int .u8 c.toNat,.string left] I (x.M b)
  λr I' M'=>I'=I/\∃ y:fQ,y.ok/\y.bd=x.bd++iB c left/\M'=y.M b:=by
 refine bn [] aI Tryz.func226 rfl rfl rfl ?_;intro B av;refine aU.mk [] (x.M b) _ (.refl _) (aeg c left) ?_;rintro v I' M' -⟨rfl,rfl,rfl⟩;refine aB.mk (λU=>?_) (λU=>?_)
 ·refine aU.mk (x.M b) [] _ (by simp) (oV b ae c (by omega)) ?_;rintro v I' M' -⟨rfl,rfl,y,aA,gA,rfl⟩;refine⟨_,_,.refl,rfl,y,aA,?_,by simp⟩;rw[gA,iB,U];rfl
 ·refine aB.mk (λab=>?_) (λab=>?_)
  ·refine aU.mk (x.M b) [] _ (by simp) (tN b ae _ (by show _+2<=_;omega)) ?_;rintro v I' M' -⟨rfl,rfl,y,aA,gA,rfl⟩;refine⟨_,_,.refl,rfl,y,aA,?_,by simp⟩;rw[gA,iB,U,ab];rfl
  ·refine aB.mk (λak=>?_) (λak=>?_)
   ·refine aU.mk (x.M b) [] _ (by simp) (tN b ae _ (by show _+2<=_;omega)) ?_;rintro v I' M' -⟨rfl,rfl,y,aA,gA,rfl⟩;refine⟨_,_,.refl,rfl,y,aA,?_,by simp⟩;rw[gA,iB,U,ab,ak];rfl
   ·refine aB.mk (λaL=>?_) (λaL=>?_)
    ·refine aU.mk (x.M b) [] _ (by simp) (tN b ae _ (by show _+2<=_;omega)) ?_;rintro v I' M' -⟨rfl,rfl,y,aA,gA,rfl⟩;refine⟨_,_,.refl,rfl,y,aA,?_,by simp⟩;rw[gA,iB,U,ab,ak,aL];rfl
    ·have two:∀ (bR:aT),(decide ((c.toNat:Int)=92)||decide ((0:Int)<=Lib.indexByte left.data.toList c))=true->iB c left=[92,c]:=λ_ h=>by rw[iB,U,ab,ak,aL,h];rfl
     have other:(decide ((c.toNat:Int)=92)||decide ((0:Int)<=Lib.indexByte left.data.toList c))=false->iB c left=[92,120,n7 (c.toNat/16),n7 (c.toNat%16)]:=λh=>by rw[iB,U,ab,ak,aL,h];rfl
     have aC:=c.toNat_lt;refine a9.mk (λbm=>?_) (λbm=>?_)
     ·refine aU.mk [] (x.M b) _ (.refl _) (T1 left c) ?_;rintro v I' M' -⟨rfl,rfl,rfl⟩;refine aB.mk (λb5=>?_) (λb5=>?_)
      ·refine aU.mk (x.M b) [] _ (by simp) (oV b ae 92 (by omega)) ?_;rintro v I' M' -⟨rfl,rfl,y,aA,gA,rfl⟩;refine aU.mk (y.M b) [] _ (by simp) (oV b aA c (by rw[gA];simp;omega)) ?_;rintro v I' M' -⟨rfl,rfl,z,a2,sM,rfl⟩;refine⟨_,_,.refl,rfl,z,a2,?_,by simp⟩;rw[sM,gA,two I' (by rw[bm];exact b5)];simp
      ·refine aU.mk (x.M b) [] _ (by simp) (tN b ae _ (by show _+2<=_;omega)) ?_;rintro v I' M' -⟨rfl,rfl,y,aA,gA,rfl⟩;have k9:y.bd.length=x.bd.length+2:=by rw[gA];simp
       refine wW.mk 4 rfl ?_;refine sv.mk (s:=yN) (c.toNat/16) ?_ (by show _<16;omega) ?_
       ·show(c.toNat:Int).fdiv (2^(min 4 (IntKind.u8.bits)))=_;have aei:((2:Int)^(min 4 IntKind.u8.bits))=16:=by decide
        rw[aei,ID _ (by omega)];omega
       rw[T3];refine aU.mk (y.M b) [] _ (by simp) (oV b aA (n7 (c.toNat/16)) (by omega)) ?_;rintro v I' M' -⟨rfl,rfl,z,a2,sM,rfl⟩;have IU:z.bd.length=x.bd.length+3:=by rw[sM];simp;omega
       refine sv.mk (s:=yN) (c.toNat%16) (aeh c.toNat aC) (by show _<16;omega) ?_;rw[T3];refine aU.mk (z.M b) [] _ (by simp) (oV b a2 (n7 (c.toNat%16)) (by omega)) ?_;rintro v I' M' -⟨rfl,rfl,u,hu,xm,rfl⟩;refine⟨_,_,.refl,rfl,u,hu,?_,by simp⟩;rw[xm,sM,gA,other (by rw[bm];exact b5)];simp
     ·refine aU.mk (x.M b) [] _ (by simp) (oV b ae 92 (by omega)) ?_;rintro v I' M' -⟨rfl,rfl,y,aA,gA,rfl⟩;refine aU.mk (y.M b) [] _ (by simp) (oV b aA c (by rw[gA];simp;omega)) ?_;rintro v I' M' -⟨rfl,rfl,z,a2,sM,rfl⟩;refine⟨_,_,.refl,rfl,z,a2,?_,by simp⟩;rw[sM,gA,two I' (by rw[bm];rfl)];simp
def hS(n:Nat):List UInt8:=bif Nat.blt n 10 then [UInt8.ofNat (48+n)]else [UInt8.ofNat (48+n/10),UInt8.ofNat (48+n%10)]
def tO(n:Nat):ByteArray:=⟨(hS n).toArray⟩
def T4:ByteArray:=⟨((List.range 10).map (λn=>UInt8.ofNat (48+n))++(List.range 26).map (λn=>UInt8.ofNat (97+n))).toArray⟩
def T5:ByteArray:=⟨((List.range 100).flatMap λn=>[UInt8.ofNat (48+n/10),UInt8.ofNat (48+n%10)]).toArray⟩
def aej:∀ n:Fin 10,(T4.extract n.val (n.val+1)).data.toList=hS n.val:=by decide +kernel
def aek:∀ n:Fin 100,10<=n.val->(T5.extract (n.val*2) (n.val*2+2)).data.toList=hS n.val:=by decide +kernel
def yO{a b:ByteArray}(h:a.data.toList=b.data.toList):a=b:=qo (gF h)
def yP(n:Nat):(hS n).length<=2:=by
 unfold hS;cases Nat.blt n 10<;>simp
set_option maxRecDepth 20000 in
def ael(n:Nat)(az:n<100):Spec Tryz.prog 241 [.int .i64 n] I [] λr I' M'=>r=.string (tO n)/\I'=I/\M'=[]:=by
 refine bn [] aI Tryz.func241 rfl rfl rfl ?_;intro B av;refine aB.mk (λh=>?_) (λh=>?_)
 ·have ax:n<10:=by simp at h;omega
  refine aQ.mk ((n+1:Nat):Int) (by rw[wrap_i64 ⟨by omega,by omega⟩];omega) ?_;refine jv.mk n (n+1) rfl rfl (by omega) (by show _<=36;omega) ?_;refine⟨_,_,.refl,?_,rfl,rfl⟩;have:T4.extract n (n+1)=tO n:=yO (aej ⟨n,ax⟩);rw[<-this];rfl
 ·have bS:10<=n:=by simp at h;omega
  refine aQ.mk ((n*2:Nat):Int) (by rw[wrap_i64 ⟨by omega,by omega⟩];omega) ?_;refine aQ.mk ((n*2:Nat):Int) (by rw[wrap_i64 ⟨by omega,by omega⟩];omega) ?_;refine aQ.mk ((n*2+2:Nat):Int) (by rw[wrap_i64 ⟨by omega,by omega⟩];omega) ?_;refine jv.mk (n*2) (n*2+2) rfl rfl (by omega) (by show _<=200;omega) ?_;refine⟨_,_,.refl,?_,rfl,rfl⟩;have:T5.extract (n*2) (n*2+2)=tO n:=yO (aek ⟨n,az⟩ bS);rw[<-this];rfl
def aem(n:Nat)(az:n<100):Spec Tryz.prog 240 [.int .i64 n,.int .i64 10] I [] λr I' M'=>r=.string (tO n)/\I'=I/\M'=[]:=by refine bn [] aI Tryz.func240 rfl rfl rfl ?_;intro B av;refine aB.mk (λh=>?_) (λh=>by cases h);refine a9.mk (λh=>?_) (λh=>by simp at h;try omega);refine aB.mk (λh=>?_) (λh=>by simp at h;try omega);refine aU.mk [] [] _ (.refl _) (ael n az) ?_;rintro v I' M' -⟨rfl,rfl,rfl⟩;exact⟨_,_,.refl,rfl,rfl,rfl⟩
def aen(n:Nat)(az:n<100):Spec Tryz.prog 239 [.int .i64 n] I [] λr I' M'=>r=.string (tO n)/\I'=I/\M'=[]:=by refine bn [] aI Tryz.func239 rfl rfl rfl ?_;intro B av;refine aU.mk [] [] _ (.refl _) (aem n az) ?_;rintro v I' M' -⟨rfl,rfl,rfl⟩;exact⟨_,_,.refl,rfl,rfl,rfl⟩
def aeo(n:Nat)(az:n<100):Spec Tryz.prog 235 [.int .i64 n] I [] λr I' M'=>r=.string (tO n)/\I'=I/\M'=[]:=by refine bn [] aI Tryz.func235 rfl rfl rfl ?_;intro B av;refine aU.mk [] [] _ (.refl _) (aen n az) ?_;rintro v I' M' -⟨rfl,rfl,rfl⟩;exact⟨_,_,.refl,rfl,rfl,rfl⟩
def IV(n:Nat)(az:n<100):Spec Tryz.prog 228 [.int .i64 n] I [] λr I' M'=>r=.string (tO n)/\I'=I/\M'=[]:=by refine bn [] aI Tryz.func228 rfl rfl rfl ?_;intro B av;refine aU.mk [] [] _ (.refl _) (aeo n az) ?_;rintro v I' M' -⟨rfl,rfl,rfl⟩;exact⟨_,_,.refl,rfl,rfl,rfl⟩
def fI(node sN:Int):Bool:=
 bif decide (node=5)then decide (sN=5)else
 bif decide (node=4)||(decide (node=7)||decide (node=8))then decide (sN=4)||decide (sN=5)else
 bif decide (node=6)then decide (sN=4)||(decide (sN=5)||(decide (sN=6)||(decide (sN=7)||decide (sN=8))))else false
def MR(a b:Int):Spec Tryz.prog 198 [.int .u8 a,.int .u8 b] I [] λr I' M'=>r=.bool (fI a b)/\I'=I/\M'=[]:=by
 refine bn [] aI Tryz.func198 rfl rfl rfl ?_;intro B av;refine aB.mk (λU=>?_) (λU=>?_)
 ·refine⟨_,_,.refl,?_,rfl,rfl⟩;simp only[fI,U];rfl
 ·have two:∀ (bR:aT) (h:(decide (a=4)||(decide (a=7)||decide (a=8)))=true),fI a b=(decide (b=4)||decide (b=5)):=λ_ h=>by simp only[fI,U,h];rfl
  have MS:(decide (a=4)||(decide (a=7)||decide (a=8)))=true->a9 (decide (b=4)) false (ve [] I [] λI' M'=>Value.bool (decide (b=5))=.bool (fI a b)/\I'=I/\M'=[]) (ve [] I [] λI' M'=>Value.bool true=.bool (fI a b)/\I'=I/\M'=[]):=λh=>by
   refine a9.mk (λaL=>?_) (λaL=>?_);·refine⟨_,_,.refl,?_,rfl,rfl⟩;rw[two I h,aL];rfl
   ·refine⟨_,_,.refl,?_,rfl,rfl⟩;rw[two I h,aL];rfl
  refine aB.mk (λab=>?_) (λab=>?_);·refine aB.mk (λ_=>?_) (λh=>by rw[ab]at h;cases h);exact MS (by rw[ab];rfl)
  ·refine aB.mk (λak=>?_) (λak=>?_)
   ·refine aB.mk (λ_=>?_) (λh=>by rw[ak]at h;cases h);exact MS (by rw[ak];simp)
   ·refine aB.mk (λaL=>?_) (λaL=>?_)
    ·exact MS (by rw[aL];simp)
    ·have hw:fI a b=(bif decide (a=6)then decide (b=4)||(decide (b=5)||(decide (b=6)||(decide (b=7)||decide (b=8))))else false):=by simp only[fI,U,ab,ak,aL];rfl
     refine aB.mk (λbm=>?_) (λbm=>?_)
     ·rw[bm]at hw;simp only[bt]at hw;refine a9.mk (λda=>?_) (λda=>?_)
      ·refine a9.mk (λbZ=>?_) (λbZ=>?_)
       ·refine a9.mk (λfG=>?_) (λfG=>?_)
        ·refine a9.mk (λhF=>?_) (λhF=>?_)
         ·refine⟨_,_,.refl,?_,rfl,rfl⟩;rw[hw,da,bZ,fG,hF];rfl
         ·refine⟨_,_,.refl,?_,rfl,rfl⟩;rw[hw,da,bZ,fG,hF];rfl
        ·refine⟨_,_,.refl,?_,rfl,rfl⟩;rw[hw,da,bZ,fG];rfl
       ·refine⟨_,_,.refl,?_,rfl,rfl⟩;rw[hw,da,bZ];rfl
      ·refine⟨_,_,.refl,?_,rfl,rfl⟩;rw[hw,da];rfl
     ·refine⟨_,_,.refl,?_,rfl,rfl⟩;rw[hw,bm];rfl
def wrap_u64(x:Int):e5 (IntKind.u64.wrap x):=by unfold IntKind.wrap e5;simp only[IntKind.bits,IntKind.signed];simp;omega
def wrap_u8(x:Int):0<=IntKind.u8.wrap x/\IntKind.u8.wrap x<256:=by unfold IntKind.wrap;simp only[IntKind.bits,IntKind.signed];simp;omega
def vA{x:Int}(h:e5 x):IntKind.u64.wrap x=x:=by obtain⟨U,ab⟩:=h;unfold IntKind.wrap;simp only[IntKind.bits,IntKind.signed];simp;omega
def rK(I:aT)(deb:List Int):Prop:=deb.length=64/\(∀ x∈deb,0<=x/\x<256)/\∃ T an,I 4=some (.cells (deb.map (Value.int .u8)).toArray T an)
def rK.rd(h:rK I deb)(M:List aD)(aj:j<64):bq I M (Addr.add ⟨4,0,none⟩ (j*1)) 1 [.int .u8 (deb.getD j 0)]:=by
 obtain⟨ay,_,T,an,h⟩:=h;rw[dF _ rfl];refine⟨rfl,_,T,an,.inl h,?_,rfl⟩;have U:j<(deb.map (Value.int .u8)).length:=by simp[ay,aj]
 have ab:j<deb.length:=by omega
 simp only[cM,fh];rw[dv U,nq,mi];simp[bV,ab]
def rK.at(h:rK I deb)(j:Nat):0<=deb.getD j 0/\deb.getD j 0<256:=by
 rw[bV];by_cases aj:j<deb.length
 ·rw[ev aj];exact h.2.1 _ (bJ aj)
 ·simp[aj]
def CN(x y:Int):Int:=IntKind.u64.wrap (BitVec.ofInt 64 x &&& BitVec.ofInt 64 y).toNat
def qL(x:Int):Int:=IntKind.u64.wrap (CN x (IntKind.u64.wrap (0-x))*285870213051353865)
def rL(deb:List Int)(x:Int):Int:=bif decide (x=0)then 64 else deb.getD ((qL x).toNat/2^58) 0
def aep(h:rK I deb)(x:Int):0<=rL deb x/\rL deb x<256:=by
 unfold rL;cases decide (x=0)
 ·exact h.at _
 ·simp
def aeq(ah:rK I deb)(x:Int):Spec Tryz.prog 238 [.int .u64 x] I [] λr I' M'=>r=.int .i64 (rL deb x)/\I'=I/\M'=[]:=by
 refine bn [] aI Tryz.func238 rfl rfl rfl ?_;intro B av;refine aB.mk (λh=>?_) (λh=>?_)
 ·refine⟨_,_,.refl,?_,rfl,rfl⟩;simp only[rL,h];rfl
 ·have aX:=wrap_u64 (CN x (IntKind.u64.wrap (0-x))*285870213051353865);refine aQ.mk _ rfl ?_;refine aQ.mk (qL x) rfl ?_;refine wW.mk 58 rfl ?_;have aF:((2:Int)^(min 58 IntKind.u64.bits))=2^58:=by decide
  rw[aF];obtain⟨CO,Fq⟩:=aX;have a7:(qL x).fdiv (2^58)=(((qL x).toNat/2^58:Nat):Int):=by rw[ID _ (by decide)];have:qL x=((qL x).toNat:Int):=(yA CO).symm;omega
  rw[a7];have aj:(qL x).toNat/2^58<64:=by have:qL x<18446744073709551616:=Fq;omega
  refine eb.mk ((qL x).toNat/2^58) rfl aj ?_;refine aE.mk [.int .u8 (deb.getD ((qL x).toNat/2^58) 0)] (ah.rd _ aj) ?_;have al:=ah.at ((qL x).toNat/2^58);refine aQ.mk (deb.getD ((qL x).toNat/2^58) 0) (wrap_i64 ⟨by omega,by omega⟩) ?_;refine⟨_,_,.refl,?_,rfl,rfl⟩;simp only[rL,h];rfl
def aer(a b c d:Int):Nat->List Value
 |0=>[.int .u64 (a),.int .u64 (b),.int .u64 (c),.int .u64 (d)]| 1=>[.int .u64 (g4 a),.int .u64 (b),.int .u64 (c),.int .u64 (d)]| 2=>[.int .u64 (g4 a),.int .u64 (g4 b),.int .u64 (c),.int .u64 (d)]| 3=>[.int .u64 (g4 a),.int .u64 (g4 b),.int .u64 (g4 c),.int .u64 (d)]| _=>[.int .u64 (g4 a),.int .u64 (g4 b),.int .u64 (g4 c),.int .u64 (g4 d)]
def aes(a b c d:Int):Spec Tryz.prog 212 [.agg #[.int .u64 a,.int .u64 b,.int .u64 c,.int .u64 d]] I [] λr I' M'=>r=.agg #[.int .u64 (g4 a),.int .u64 (g4 b),.int .u64 (g4 c),.int .u64 (g4 d)]/\I'=I/\M'=[]:=by
 refine bn [] aI Tryz.func212 rfl rfl rfl ?_;intro B av;refine bu.inv (ι:=Nat) (λi=>{ a4:=[(1,.ref 1 0),(2,.ref 2 0),(5,.val (.agg #[.int .u64 a,.int .u64 b,.int .u64 c,.int .u64 d])),(6,.val (.int .i64 i))],cl:=[(1,aer a b c d i),(2,[.int .u64 0,.int .u64 0,.int .u64 0,.int .u64 0])],br:=I }) (λi=>i<=4) (λi=>4-i) ?_ ?_
 ·exact⟨0,by simp,.refl,cI,.cons rfl (.cons rfl .nil)⟩
 ·intro i hi
  match i,hi with
  |0,_=>refine aB.mk (λ_=>?_) (λh=>by simp at h);refine eb.mk 0 rfl (by decide) ?_;refine bk.IN rfl (by simp) rfl ?_;refine eb.mk 0 rfl (by decide) ?_;refine aQ.mk 1 (by decide) ?_;exact⟨1,⟨by simp,by simp⟩,.refl,cI,.cons rfl (.cons rfl .nil)⟩| 1,_=>refine aB.mk (λ_=>?_) (λh=>by simp at h);refine eb.mk 1 rfl (by decide) ?_;refine bk.IN rfl (by simp) rfl ?_;refine eb.mk 1 rfl (by decide) ?_;refine aQ.mk 2 (by decide) ?_;exact⟨2,⟨by simp,by simp⟩,.refl,cI,.cons rfl (.cons rfl .nil)⟩| 2,_=>refine aB.mk (λ_=>?_) (λh=>by simp at h);refine eb.mk 2 rfl (by decide) ?_;refine bk.IN rfl (by simp) rfl ?_;refine eb.mk 2 rfl (by decide) ?_;refine aQ.mk 3 (by decide) ?_;exact⟨3,⟨by simp,by simp⟩,.refl,cI,.cons rfl (.cons rfl .nil)⟩| 3,_=>refine aB.mk (λ_=>?_) (λh=>by simp at h);refine eb.mk 3 rfl (by decide) ?_;refine bk.IN rfl (by simp) rfl ?_;refine eb.mk 3 rfl (by decide) ?_;refine aQ.mk 4 (by decide) ?_;exact⟨4,⟨by simp,by simp⟩,.refl,cI,.cons rfl (.cons rfl .nil)⟩| 4,_=>refine aB.mk (λh=>by simp at h) (λ_=>?_);exact⟨_,_,.refl,rfl,rfl,rfl⟩
def aet:Spec Tryz.prog 189 [] I [] λr I' M'=>r=.agg #[.int .u64 (g4 0),.int .u64 (g4 0),.int .u64 (g4 0),.int .u64 (g4 0)]/\I'=I/\M'=[]:=by refine bn [] aI Tryz.func189 rfl rfl rfl ?_;intro B av;refine aU.mk [] [] _ (.refl _) (aes 0 0 0 0) ?_;rintro v I' M' -⟨rfl,rfl,rfl⟩;exact⟨_,_,.refl,rfl,rfl,rfl⟩
def tP(I:aT)(b:Nat)(o:Obj):ins I b o b=some o:=by simp[ins]
def nx(ah:I b=none):∀ c p,I c=some p->ins I b o c=some p:=by
 intro c p h;unfold ins;cases e:Nat.beq c b with
 |false=>exact h| true=>have:=dD e;subst this;rw[ah]at h;cases h
def MT{x y:Int}(ae:e5 x)(aA:e5 y):CN x y=((x.toNat &&& y.toNat:Nat):Int):=by
 obtain⟨x,rfl⟩:=en ae.1;obtain⟨y,rfl⟩:=en aA.1;have U:x<18446744073709551616:=by have:=ae.2;omega
 have ab:y<18446744073709551616:=by have:=aA.2;omega
 have e:∀ z:Nat,z<18446744073709551616->(BitVec.ofInt 64 (z:Int)).toNat=z:=λz a2=>by rw[BitVec.toNat_ofInt];omega
 unfold CN;rw[IG,e x U,e y ab,vA]
 ·simp
 ·have:=Nat.and_le_left (n:=x) (m:=y);exact⟨by omega,by omega⟩
def vB(x:Int):Int:=CN x (IntKind.u64.wrap (x-1))
def AK(n:Nat):Nat:=((List.range 64).filter n.testBit).length
def aeu(n:Nat):AK n<=64:=by have:=to n.testBit (List.range 64);simpa[AK]using this
def aev{x:Int}(ae:e5 x)(av:x≠0):e5 (vB x)/\AK (vB x).toNat<AK x.toNat:=by
 obtain⟨n,rfl⟩:=en ae.1;have U:n<18446744073709551616:=by have:=ae.2;omega
 have g2:0<n:=by omega
 have ar:e5 ((n:Int)-1):=⟨by omega,by omega⟩;have e:vB (n:Int)=((n &&& (n-1):Nat):Int):=by unfold vB;rw[vA ar,MT ae ar];congr 2;omega
 have hle:n &&& (n-1)<=n-1:=Nat.and_le_right;refine⟨by rw[e];exact⟨by omega,by omega⟩,?_⟩;rw[e];simp only[lz];unfold AK;have kl:List.Sublist ((List.range 64).filter (n &&& (n-1)).testBit) ((List.range 64).filter n.testBit):=by
  have:(List.range 64).filter (n &&& (n-1)).testBit=((List.range 64).filter n.testBit).filter (n-1).testBit:=by rw[List.filter_filter];congr 1;funext i;rw[LW,Bool.and_comm]
  rw[this];exact Mt
 rcases Nat.lt_or_eq_of_le kl.length_le with h | h
 ·exact h
 ·exfalso;have pN:=kl.eq_of_length h;have:n &&& (n-1)=n:=by
   apply Nat.eq_of_testBit_eq;intro i;by_cases hi:i<64
   ·have hm:i∈(List.range 64).filter (n &&& (n-1)).testBit ↔ i∈(List.range 64).filter n.testBit:=by rw[pN]
    simp only[qn,kf,hi,true_and]at hm;cases U:(n &&& (n-1)).testBit i<;>cases ab:n.testBit i<;>simp_all
   ·have ab:2^64<=2^i:=Mq (by omega) (by omega);rw[Mo (by omega),Mo (by omega)]
  omega
def byteOf(deb:List Int)(i:Nat)(w:Int):UInt8:=UInt8.ofNat (IntKind.u8.wrap ((i:Int)*64+rL deb w)).toNat
def aew(deb:List Int)(i:Nat)(w:Int):((byteOf deb i w).toNat:Int)=IntKind.u8.wrap ((i:Int)*64+rL deb w):=by have:=wrap_u8 ((i:Int)*64+rL deb w);unfold byteOf;rw[UInt8.toNat_ofNat'];omega
def rM(deb:List Int)(i:Nat):Nat->Int->List UInt8
 |0,_=>[]| f+1,w=>bif decide (w=0)then []else byteOf deb i w::rM deb i f (vB w)
def hg(deb:List Int):Nat->List Int->List UInt8
 |_,[]=>[]| i,w::ws=>rM deb i 64 w++hg deb (i+1) ws
def T6(deb:List Int)(i:Nat):∀ f w,(rM deb i f w).length<=f
 |0,_=>by simp[rM]
 |f+1,w=>by
  unfold rM;have:=T6 deb i f (vB w);cases decide (w=0)<;>simp
  exact this
def MU(deb:List Int):∀ ws i,(hg deb i ws).length<=64*ws.length
 |[],_=>by simp[hg]
 |w::ws,i=>by have U:=T6 deb i 64 w;have ab:=MU deb ws (i+1);simp only[hg,cz,cS];omega
def sO(l:List UInt8):List (List Value):=l.map λc=>[.int .u8 c.toNat]
def xn(a b c d:Int):List Value:=[.int .u64 a,.int .u64 b,.int .u64 c,.int .u64 d]
def aex(a b c d:Int):Spec Tryz.prog 234 [.agg #[.int .u64 a,.int .u64 b,.int .u64 c,.int .u64 d]] I [] λr I' M'=>∃ g,r=.func (.func 237) #[] #[ptr g]/\I' g=some (.cells (xn a b c d).toArray 59 (0,0))/\(∀ b o,I b=some o->I' b=some o)/\M'=[]:=by refine bn [1] aI Tryz.func234 rfl rfl rfl ?_;intro B av;refine bL.mk λg ao yM=>?_;exact⟨_,_,.pt rfl (by simp) .refl,g,rfl,tP ..,nx ao,rfl⟩
def aey(AL:rK I deb){a b c:Int}(g5:∀ x∈[a,b,c,d],e5 x)(ao:I g=some (.cells (xn a b c d).toArray 59 (0,0))) :
  Iter Tryz.prog 237 [ptr g] I (sO (hg deb 0 [a,b,c,d])):=by
 intro l R tH yQ dM M0 xo k8;refine EZ [] aI Tryz.func237 rfl rfl rfl ?_;intro B av;have a3:∀ (bR:aT) (M:List aD),(∀ b o,I b=some o->bR b=some o)->bq bR M ⟨g,0,none⟩ 4 (xn a b c d):=λbR M h=>⟨rfl,_,_,_,.inl (h _ _ ao),rfl,rfl⟩;refine aE.mk _ (a3 _ _ xo) ?_;refine bu.inv (ι:=Nat×Nat×aT×List aD) (λx=>{ a4:=[(0,.val (.func (.yield l) #[] #[])),(5,.val (.agg (xn a b c d).toArray)),(6,.val (.int .i64 x.1))],br:=x.2.2.1,bO:=x.2.2.2 }) (λx=>x.1<=4/\(∀ b o,I b=some o->x.2.2.1 b=some o)/\R x.2.1 x.2.2.1 x.2.2.2/\x.2.1<=(hg deb 0 [a,b,c,d]).length/\(hg deb 0 [a,b,c,d]).drop x.2.1=hg deb x.1 ([a,b,c,d].drop x.1)) (λx=>4-x.1) ?_ ?_
 ·exact⟨(0,0,dM,M0),⟨by simp,xo,k8,by simp,rfl⟩,.refl,cU,.nil⟩
 ·rintro⟨i,k,bR,M1⟩⟨hi,bK,mq,bj,gU⟩;simp only at hi bK mq bj gU;refine aB.mk (λh=>?_) (λh=>?_)
  ·have ax:i<4:=by simp at h;omega
   have bo:i < [a,b,c,d].length:=ax;refine eb.mk i rfl ax ?_;have yR:pack false ((((xn a b c d).toArray).toList.drop (i*1)).take 1)=.int .u64 [a,b,c,d][i]:=by
    match i,ax with
    |0,_=>rfl| 1,_=>rfl| 2,_=>rfl| 3,_=>rfl
   have fO:[a,b,c,d].drop i=[a,b,c,d][i]::[a,b,c,d].drop (i+1):=dv bo;refine bu.inv (ι:=Int×Nat×Nat×aT×List aD) (λx=>{ a4:=[(0,.val (.func (.yield l) #[] #[])),(3,.val (.int .i64 i)),(4,.val (.int .u64 x.1)),(5,.val (.agg (xn a b c d).toArray)),(6,.val (.int .i64 i))],br:=x.2.2.2.1,bO:=x.2.2.2.2 }) (λx=>e5 x.1/\AK x.1.toNat<=x.2.1/\(∀ b o,I b=some o->x.2.2.2.1 b=some o)/\R x.2.2.1 x.2.2.2.1 x.2.2.2.2/\x.2.2.1<=(hg deb 0 [a,b,c,d]).length/\(hg deb 0 [a,b,c,d]).drop x.2.2.1=rM deb i x.2.1 x.1++hg deb (i+1) ([a,b,c,d].drop (i+1))) (λx=>AK x.1.toNat) ?_ ?_
   ·refine⟨([a,b,c,d][i],64,k,bR,M1),⟨g5 _ (bJ bo),aeu _,bK,mq,bj,?_⟩,.refl,.cons .refl (.cons .refl (.cons ?_ (ih))),.nil⟩
    ·simp only;rw[gU,fO];rfl
    ·simp only;rw[<-yR];exact .refl
   ·rintro⟨w,f,k,bR,M1⟩⟨hw,au,bK,mq,bj,gU⟩;simp only at hw au bK mq bj gU;refine aB.mk (λh=>?_) (λh=>?_)
    ·have IW:w≠0:=by simpa using h
     obtain⟨Fs,IX⟩:=aev hw IW;obtain⟨f,rfl⟩:∃ pO,f=pO+1:=⟨f-1,by omega⟩;have ah:rM deb i (f+1) w=byteOf deb i w::rM deb i f (vB w):=by simp[rM,IW]
     rw[ah,oO]at gU;have af:k<(hg deb 0 [a,b,c,d]).length:=by apply IH;intro hle;rw[iW hle]at gU;cases gU
     have fz:=dv af;rw[gU]at fz;obtain⟨ny,eh⟩:=List.cons.inj fz;have fC:k<(sO (hg deb 0 [a,b,c,d])).length:=by simpa[sO]using af
     have ai:(sO (hg deb 0 [a,b,c,d]))[k]=[.int .u8 (IntKind.u8.wrap ((i:Int)*64+rL deb w))]:=by simp only[sO,oP,<-ny,aew]
     have T7:rK bR deb:=by obtain⟨c5,c7,T,an,dS⟩:=AL;exact⟨c5,c7,T,an,bK _ _ dS⟩
     have aqx:=aep T7 w;refine aQ.mk ((i:Int)*64) (wrap_i64 ⟨by omega,by omega⟩) ?_;refine aU.mk [] M1 _ (.refl _) (aeq T7 w) ?_;rintro v I' M' -⟨rfl,rfl,rfl⟩;refine aQ.mk ((i:Int)*64+rL deb w) (wrap_i64 ⟨by omega,by omega⟩) ?_;refine aQ.mk _ rfl ?_;refine bk.yield rfl (by simp) rfl rfl ?_;have aA:=yQ k fC I' M1 bK mq;rw[ai]at aA;refine IK.mk M1 [] _ (by simp) aA ?_;rintro v dG ew ed (⟨rfl,qH⟩ | ⟨rfl,ae⟩);·refine aB.mk (λh=>by simp at h) (λ_=>?_);refine aQ.mk _ rfl ?_;exact⟨(vB w,f,k+1,dG,ew),⟨⟨Fs,by simp only;omega,λb o h=>ed b o (bK b o h),qH,af,eh.symm⟩,by simp only;exact IX⟩,.perm (by simp) .refl,ec,.nil⟩
     ·refine aB.mk (λ_=>?_) (λh=>by simp at h);exact⟨_,_,.perm (by simp) .refl,.inr ae⟩
    ·have IW:w=0:=by simpa using h
     have eT:IntKind.i64.wrap ((i:Int)+1)=((i+1:Nat):Int):=by rw[wrap_i64 ⟨by omega,by omega⟩];omega
     refine aQ.mk _ eT ?_;have ah:rM deb i f w=[]:=by cases f<;>simp[rM,IW]
     rw[ah,hO]at gU;exact⟨(i+1,k,bR,M1),⟨⟨by simp only;omega,bK,mq,bj,gU⟩,by simp only;omega⟩,.refl,cU,.nil⟩
  ·have kg:i=4:=by simp at h;omega
   subst kg;refine⟨_,_,.refl,.inl ?_⟩;have mW:(hg deb 0 [a,b,c,d]).drop k=[]:=by rw[gU];rfl
   have mY:k=(sO (hg deb 0 [a,b,c,d])).length:=by have:=Ms.1 mW;simp only[sO,cT];omega
   rw[<-mY];exact mq
def oW(l:List (UInt8×UInt8))(b:UInt8):List (UInt8×UInt8):=match l.getLast? with
 |some p=>bif decide ((p.2.toNat:Int)+1=b.toNat)then l.dropLast++[(p.1,b)]else l++[(b,b)]| none=>[(b,b)]
def j9(l:List UInt8):List (UInt8×UInt8):=l.foldl oW []
def fR(p:UInt8×UInt8):List Value:=[.int .u8 p.1.toNat,.int .u8 p.2.toNat]
def km(l:List (UInt8×UInt8)):List Value:=l.flatMap fR
def CP(l:List (UInt8×UInt8)):(km l).length=l.length*2:=gd fR 2 (λ_=>rfl) l
def aez(l:List (UInt8×UInt8))(b:UInt8):(oW l b).length<=l.length+1:=by
 unfold oW;split
 ·rename_i p h;cases decide ((p.2.toNat:Int)+1=b.toNat)<;>simp
 ·simp
def T8(l:List UInt8):(j9 l).length<=l.length:=by
 have:∀ (l:List UInt8) (acc:List (UInt8×UInt8)),(l.foldl oW acc).length<=acc.length+l.length:=by
  intro l
  induction l with
  |nil=>intro acc;simp| cons b l a8=>intro acc;have U:=a8 (oW acc b);have ab:=aez acc b;simp only[qm,cS];omega
 simpa[j9]using this l []
def yS:((⟨b,0,none⟩:Addr).add i).add j=(⟨b,0,none⟩:Addr).add (i+j):=by rw[dF ⟨_,0,none⟩ rfl i,dF _ rfl j,dF _ rfl (i+j)];simp
def mZ{M:List aD}{cs:List Value}(aV:(⟨b,.cells cs.toArray T (0,0)⟩:aD)∈M)(h:cs[i+j]?=some v):bq I M (((⟨b,0,none⟩:Addr).add i).add j) 1 [v]:=by obtain⟨ay,rfl⟩:=iO.1 h;have:=dj (I:=I) aV (k:=i+j) (n:=1) (by omega);rw[dv ay,nq,mi]at this;rw[yS];exact this
def T9(pre:List Value)(u v z:Value)(rest:List Value)(k:Nat)(af:k=pre.length+1):bG (pre++([u,v]++rest)) k [z]=pre++([u,z]++rest):=by
 subst af;unfold bG;have aF:(pre++([u,v]++rest)).take (pre.length+1)=pre++[u]:=by rw[show pre++([u,v]++rest)=(pre++[u])++(v::rest)from by simp];exact pJ (by simp)
 have a7:(pre++([u,v]++rest)).drop (pre.length+1+[z].length)=rest:=by rw[show pre++([u,v]++rest)=(pre++[u,v])++rest from by simp];exact CF (by simp)
 rw[aF,a7];simp
def MV{os:aY}{aJ:List (UInt8×UInt8)}{x:UInt8}(bf:os.ok 2 (km aJ)){cur:List Value}(U:cur.length=c*2)(ab:os.n+1<=c)(ak:c<=maxLen)(aL:cur.take ((os.n+1)*2)=km aJ++fR (x,x)) :
  aY.ok ⟨some g,os.n+1,c,cur⟩ 2 (km (aJ++[(x,x)])):=by
 have sP:km (aJ++[(x,x)])=km aJ++fR (x,x):=by simp[km]
 have ay:=bf.len;refine⟨?_,(λh=>by cases h),λb0 oX=>⟨U,ab,ak,by rw[sP];exact aL⟩⟩;rw[sP,cz,ay];simp[fR];omega
def IY(l:List UInt8)(x:UInt8):j9 (l++[x])=oW (j9 l) x:=by simp[j9]
def aeA(AL:rK I deb){a b c:Int}(g5:∀ x∈[a,b,c,d],e5 x):Spec Tryz.prog 227 [.agg #[.int .u64 a,.int .u64 b,.int .u64 c,.int .u64 d]] I []
  λr I' M'=>(∀ b o,I b=some o->I' b=some o)/\∃ os:aY,r=os.val/\os.ok 2 (km (j9 (hg deb 0 [a,b,c,d])))/\M'=os.aw 228:=by
 refine bn [3] aI Tryz.func227 rfl rfl rfl ?_;intro B av;refine bL.mk λg ao yM=>?_;refine aU.mk [] [⟨g,.cells #[.slice none 0 0] 226 (0,0)⟩] _ (.refl _) (aex a b c d) ?_;rintro v bR M1 -⟨a6,rfl,k',bK,rfl⟩;have aeB:rK bR deb:=by obtain⟨c5,c7,T,an,dS⟩:=AL;exact⟨c5,c7,T,an,bK _ _ dS⟩
 have cL:=MU deb [a,b,c,d] 0;refine cr.range aI rfl rfl rfl .refl (aey aeB g5 k') (λvs h=>?_) (λk I' M'=>(∀ b o,bR b=some o->I' b=some o)/\∃ os:aY,os.ok 2 (km (j9 ((hg deb 0 [a,b,c,d]).take k)))/\M'=⟨g,.cells #[os.val] 226 (0,0)⟩::os.aw 228) (λ_ _ _=>False) ⟨λ_ _ h=>h,⟨none,0,0,[]⟩,⟨rfl,λ_=>⟨rfl,rfl⟩,λg h=>by cases h⟩,rfl⟩ ?_ ?_ (λ_ _ _ _ h=>h.elim)
 ·obtain⟨c,_,rfl⟩:=dB.1 h;rfl
 ·rintro k af I' M' -⟨m0,os,bf,rfl⟩l B av j7;have MW:k<(hg deb 0 [a,b,c,d]).length:=by simpa[sO]using af
  generalize aqy:hg deb 0 [a,b,c,d]=L at *;generalize ae:L[k]=x;have ai:(sO L)[k]=[.int .u8 x.toNat]:=by simp[sO,ae]
  rw[ai];have j8:j9 (L.take (k+1))=oW (j9 (L.take k)) x:=by rw[er MW,ae,IY]
  rw[j8];have dp:(j9 (L.take k)).length<=256:=by have U:=T8 (L.take k);have ab:=rD k L;simp only[cS,dI]at cL;omega
  generalize ig:j9 (L.take k)=aJ at *;have e8:=x.toNat_lt;obtain⟨hp,n,eK,cur⟩:=os;have az:aJ.length=n:=by have:=bf.len;rw[CP]at this;simp only at this;omega
  cases hp with
  |none=>
   obtain⟨aF,a7⟩:=bf.nil rfl;simp only at aF a7;subst aF;subst a7;have g3:aJ=[]:=hZ az;have jM:oW aJ x=aJ++[(x,x)]:=by rw[g3];rfl
   refine aE.mk [.slice none 0 0] (dj (cs:=[.slice none 0 0]) (k:=0) (n:=1) (T:=226) (.head _) (by simp)) ?_;refine aQ.mk (-1) (by decide) ?_;refine a9.mk (λh=>by simp at h) (λ_=>?_);refine aE.mk [.slice none 0 0] (dj (cs:=[.slice none 0 0]) (k:=0) (n:=1) (T:=226) (.head _) (by simp)) ?_;refine bL.mk λbb lM T'=>?_;refine bk.append aI rfl (by simp) (e:=228) rfl rfl rfl (⟨none,0,0,cur⟩:aY) bf rfl (m:=1) rfl (news:=fR (x,x)) (by decide) (dj (cs:=fR (x,x)) (k:=0) (n:=2) (T:=228) (.head _) (by simp[fR])) rfl (Mr:=[⟨bb,.cells (fR (x,x)).toArray 228 (0,0)⟩,⟨g,.cells #[.slice none 0 0] 226 (0,0)⟩]) (gQ (l₁:=[_,_])) (by simp only[maxLen];omega) (by show(_+1)*2<=_;simp only;omega) ?_;intro dh c' fi c5 c7 dS eP;refine cu.mk [⟨dh,.cells fi.toArray 228 (0,0)⟩,⟨bb,.cells (fR (x,x)).toArray 228 (0,0)⟩] [] _ _ rfl rfl (b9 rfl) rfl ?_;refine⟨_,_,.perm (M1:=[⟨bb,.cells (fR (x,x)).toArray 228 (0,0)⟩]++(⟨g,.cells #[aY.val ⟨some dh,(⟨none,0,0,cur⟩:aY).n+1,c',fi⟩] 226 (0,0)⟩::aY.aw ⟨some dh,(⟨none,0,0,cur⟩:aY).n+1,c',fi⟩ 228)) (gQ (l₁:=[_]) (l₂:=[_,_])) (.sub (e' _ _) .refl),m0,⟨some dh,(⟨none,0,0,cur⟩:aY).n+1,c',fi⟩,?_,rfl⟩;rw[jM];exact MV bf c5 c7 dS eP
  |some cD=>
   obtain⟨cv,ml,kJ,dJ⟩:=bf.cap cD rfl;simp only at cv ml kJ dJ;refine aE.mk [.slice (some ⟨cD,0,none⟩) n eK] (dj (cs:=[.slice (some ⟨cD,0,none⟩) n eK]) (k:=0) (n:=1) (T:=226) (.head _) (by simp)) ?_;refine aQ.mk ((n:Int)-1) (wrap_i64 ⟨by omega,by omega⟩) ?_;refine a9.mk (λU=>?_) (λU=>?_)
   ·have g2:1<=n:=by simp at U;omega
    obtain⟨tQ,p,rfl⟩:∃ tQ p,aJ=tQ++[p]:=by
     rcases xb aJ with h | ⟨r,p,h⟩;·subst h;simp at az;omega
     ·exact⟨r,p,by simpa using h⟩
    have kK:tQ.length=n-1:=by simp at az;omega
    have gV:(km tQ).length=(n-1)*2:=by rw[CP,kK]
    obtain⟨rest,lN⟩:∃ rest,cur=km tQ++([.int .u8 p.1.toNat,.int .u8 p.2.toNat]++rest):=by refine⟨cur.drop (n*2),?_⟩;have ab:=rB (n*2) cur;rw[dJ]at ab;rw[<-ab,CF (by rw[CP,az])];simp[km,fR]
    have n8:cur[(n-1)*2+1*1]?=some (.int .u8 p.2.toNat):=by rw[lN,<-gV,pI (by omega)];simp
    have vC:=p.2.toNat_lt;refine aE.mk [.slice (some ⟨cD,0,none⟩) n eK] (dj (cs:=[.slice (some ⟨cD,0,none⟩) n eK]) (k:=0) (n:=1) (T:=226) (.head _) (by simp)) ?_;refine aW.mk ⟨cD,0,none⟩ (n-1) rfl (by omega) (by omega) ?_;refine eb.mk 1 rfl (by decide) ?_;refine aE.mk [.int .u8 p.2.toNat] (mZ (b:=cD) (cs:=cur) (T:=228) (by simp[aY.aw]) n8) ?_;refine aQ.mk (p.2.toNat:Int) (wrap_i64 ⟨by omega,by omega⟩) ?_;refine aQ.mk ((p.2.toNat:Int)+1) (wrap_i64 ⟨by omega,by omega⟩) ?_;refine aQ.mk (x.toNat:Int) (wrap_i64 ⟨by omega,by omega⟩) ?_;have jM:oW (tQ++[p]) x=bif decide ((p.2.toNat:Int)+1=x.toNat)then tQ++[(p.1,x)]else tQ++[p]++[(x,x)]:=by simp[oW]
    refine aB.mk (λab=>?_) (λab=>?_)
    ·rw[ab]at jM;refine aE.mk [.slice (some ⟨cD,0,none⟩) n eK] (dj (cs:=[.slice (some ⟨cD,0,none⟩) n eK]) (k:=0) (n:=1) (T:=226) (.head _) (by simp)) ?_;refine aW.mk ⟨cD,0,none⟩ (n-1) rfl (by omega) (by omega) ?_;refine eb.mk 1 rfl (by decide) ?_;rw[yS];refine cu.add [⟨g,.cells #[.slice (some ⟨cD,0,none⟩) n eK] 226 (0,0)⟩] [] cur.toArray _ rfl ?_ rfl ?_
     ·simp only[jZ];show 0+((n-1)*2+1)+1<=_;omega
     ·refine⟨_,_,.refl,m0,⟨some cD,n,eK,bG cur (0+((n-1)*2+1*1)) [.int .u8 x.toNat]⟩,?_,rfl⟩;have c4:bG cur (0+((n-1)*2+1*1)) [.int .u8 x.toNat]=km tQ++([.int .u8 p.1.toNat,.int .u8 x.toNat]++rest):=by rw[lN];exact T9 _ _ _ _ _ _ (by omega)
      rw[jM,c4];have sP:km (tQ++[(p.1,x)])=km tQ++[.int .u8 p.1.toNat,.int .u8 x.toNat]:=by simp[km,fR]
      refine⟨?_,(λh=>by cases h),λb0 oX=>⟨?_,ml,kJ,?_⟩⟩;·simp only[bt];rw[sP,cz,gV];simp;omega
      ·simp only;rw[<-cv,lN];simp
      ·simp only[bt];rw[sP,<-fx];refine pJ ?_;rw[cz,gV];simp;omega
    ·rw[ab]at jM;simp only[bz]at jM;refine aE.mk [.slice (some ⟨cD,0,none⟩) n eK] (dj (cs:=[.slice (some ⟨cD,0,none⟩) n eK]) (k:=0) (n:=1) (T:=226) (.head _) (by simp)) ?_;refine bL.mk λbb lM T'=>?_;refine bk.append aI rfl (by simp) (e:=228) rfl rfl rfl (⟨some cD,n,eK,cur⟩:aY) bf rfl (m:=1) rfl (news:=fR (x,x)) (by decide) (dj (cs:=fR (x,x)) (k:=0) (n:=2) (T:=228) (.head _) (by simp[fR])) rfl (Mr:=[⟨bb,.cells (fR (x,x)).toArray 228 (0,0)⟩,⟨g,.cells #[.slice (some ⟨cD,0,none⟩) n eK] 226 (0,0)⟩]) (gQ (l₁:=[_,_])) (by simp only[maxLen];omega) (by show(_+1)*2<=_;simp only;omega) ?_;intro dh c' fi c5 c7 dS eP;refine cu.mk [⟨dh,.cells fi.toArray 228 (0,0)⟩,⟨bb,.cells (fR (x,x)).toArray 228 (0,0)⟩] [] _ _ rfl rfl (b9 rfl) rfl ?_;refine⟨_,_,.perm (M1:=[⟨bb,.cells (fR (x,x)).toArray 228 (0,0)⟩]++(⟨g,.cells #[aY.val ⟨some dh,(⟨some cD,n,eK,cur⟩:aY).n+1,c',fi⟩] 226 (0,0)⟩::aY.aw ⟨some dh,(⟨some cD,n,eK,cur⟩:aY).n+1,c',fi⟩ 228)) (gQ (l₁:=[_]) (l₂:=[_,_])) (.sub (e' _ _) .refl),m0,⟨some dh,(⟨some cD,n,eK,cur⟩:aY).n+1,c',fi⟩,?_,rfl⟩;rw[jM];exact MV bf c5 c7 dS eP
   ·have kK:n=0:=by simp at U;omega
    have g3:aJ=[]:=hZ (by omega);have jM:oW aJ x=aJ++[(x,x)]:=by rw[g3];rfl
    refine aE.mk [.slice (some ⟨cD,0,none⟩) n eK] (dj (cs:=[.slice (some ⟨cD,0,none⟩) n eK]) (k:=0) (n:=1) (T:=226) (.head _) (by simp)) ?_;refine bL.mk λbb lM T'=>?_;refine bk.append aI rfl (by simp) (e:=228) rfl rfl rfl (⟨some cD,n,eK,cur⟩:aY) bf rfl (m:=1) rfl (news:=fR (x,x)) (by decide) (dj (cs:=fR (x,x)) (k:=0) (n:=2) (T:=228) (.head _) (by simp[fR])) rfl (Mr:=[⟨bb,.cells (fR (x,x)).toArray 228 (0,0)⟩,⟨g,.cells #[.slice (some ⟨cD,0,none⟩) n eK] 226 (0,0)⟩]) (gQ (l₁:=[_,_])) (by simp only[maxLen];omega) (by show(_+1)*2<=_;simp only;omega) ?_;intro dh c' fi c5 c7 dS eP;refine cu.mk [⟨dh,.cells fi.toArray 228 (0,0)⟩,⟨bb,.cells (fR (x,x)).toArray 228 (0,0)⟩] [] _ _ rfl rfl (b9 rfl) rfl ?_;refine⟨_,_,.perm (M1:=[⟨bb,.cells (fR (x,x)).toArray 228 (0,0)⟩]++(⟨g,.cells #[aY.val ⟨some dh,(⟨some cD,n,eK,cur⟩:aY).n+1,c',fi⟩] 226 (0,0)⟩::aY.aw ⟨some dh,(⟨some cD,n,eK,cur⟩:aY).n+1,c',fi⟩ 228)) (gQ (l₁:=[_]) (l₂:=[_,_])) (.sub (e' _ _) .refl),m0,⟨some dh,(⟨some cD,n,eK,cur⟩:aY).n+1,c',fi⟩,?_,rfl⟩;rw[jM];exact MV bf c5 c7 dS eP
 ·rintro I' M' -⟨m0,os,bf,rfl⟩;refine aE.mk [os.val] (dj (cs:=[os.val]) (k:=0) (n:=1) (T:=226) (.head _) (by simp)) ?_;refine⟨_,_,.sub (Mp _ _) .refl,λb o h=>m0 _ _ (bK _ _ h),os,rfl,?_,rfl⟩;have:(hg deb 0 [a,b,c,d]).take (sO (hg deb 0 [a,b,c,d])).length=hg deb 0 [a,b,c,d]:=dX (by simp[sO]);rw[this]at bf;exact bf
def aY.ok.row{M:List aD}{os:aY}{f:α->List Value}(au:∀ x,(f x).length=size)(av:0<size){l:List α}(h:os.ok size (l.flatMap f))(aV:∀ x∈os.aw e,x∈M)(aj:j<l.length) :
  ∃ ad,os.a.map (λg=>(⟨g,0,none⟩:Addr))=some ad/\bq I M (ad.add (j*size)) size (f l[j]):=by
 have az:l.length=os.n:=by have U:=h.len;rw[gd f size au]at U;exact Nat.eq_of_mul_eq_mul_right av U
 cases aX:os.a with
 |none=>have:=(h.nil aX).1;omega
 |some g=>
  obtain⟨U,ab,ak,aL⟩:=h.cap g aX;refine⟨⟨g,0,none⟩,rfl,?_⟩;have hle:j*size+size<=os.n*size:=by have:=rl size (show j+1<=os.n by omega);rw[lG,qD]at this;exact this
  have cv:os.n*size<=os.cur.length:=by rw[U];exact rl _ ab
  have:=dj (I:=I) (M:=M) (b:=g) (T:=e) (cs:=os.cur) (aV _ (by simp[aY.aw,aX])) (k:=j*size) (n:=size) (by omega);have aF:(os.cur.drop (j*size)).take size=f l[j]:=by rw[<-xi f size au l j aj,<-aL,Ar,xd];congr 1;omega
  rw[aF]at this;exact this
def n9:ByteArray:=⟨#[34]⟩
def nz:ByteArray:=⟨#[93,45,94]⟩
def vD(s:ByteArray):List UInt8:=[34]++s.data.toList.flatMap (iB · n9)++[34]
def strOf(l:List UInt8):ByteArray:=⟨l.toArray⟩
def AM{α β:Type}(f:α->List β)(m:Nat)(au:∀ x,(f x).length<=m):∀ l:List α,(l.flatMap f).length<=m*l.length
 |[]=>by simp
 |x::l=>by have U:=AM f m au l;have ab:=au x;simp only[mh,cz,cS,II];omega
def Ua(s:ByteArray)(ar:s.size<=1099511627776):Spec Tryz.prog 217 [.string s] I [] λr I' M'=>r=.string (strOf (vD s))/\I'=I/\M'=[]:=by
 refine bn [3] aI Tryz.func217 rfl rfl rfl ?_;intro B av;refine bL.mk λb ah jJ=>?_;refine aU.mk (fQ.new.M b) [] _ (.refl _) (oV b fQ.IR 34 (by decide)) ?_;rintro v I' M' -⟨rfl,rfl,vn,fv,sQ,rfl⟩;refine bu.inv (ι:=Nat×fQ) (λp=>{ a4:=[(0,.val (.string s)),(3,.val (ptr b)),(4,.val (.int .i64 p.1))],br:=I',bO:=p.2.M b }) (λp=>p.1<=s.size/\p.2.ok/\p.2.bd=[34]++(s.data.toList.take p.1).flatMap (iB · n9)) (λp=>s.size-p.1) ?_ ?_
 ·exact⟨(0,vn),⟨by simp,fv,by simp[sQ,fQ.new]⟩,.perm (by simp) .refl,cU,.nil⟩
 ·rintro⟨i,x⟩⟨hi,ae,mr⟩;simp only at hi ae mr;have hlen:x.bd.length<=1+4*i:=by rw[mr];have:=AM (iB · n9) 4 (λc=>rJ c n9) (s.data.toList.take i);have ab:=rD i s.data.toList;simp only[cz,cS,dI];omega
  refine aB.mk (λh=>?_) (λh=>?_)
  ·have ax:i<s.size:=by simpa using h
   have bo:i<s.data.toList.length:=ax;refine sv.mk i rfl ax ?_;refine aU.mk (x.M b) [] _ (by simp) (IT b ae s[i] n9 (by omega)) ?_;rintro v I' M' -⟨rfl,y,aA,gA,rfl⟩;have eT:IntKind.i64.wrap ((i:Int)+1)=((i+1:Nat):Int):=by rw[wrap_i64 ⟨by omega,by omega⟩];omega
   refine aQ.mk _ eT ?_;refine⟨(i+1,y),⟨⟨by simp only;omega,aA,?_⟩,by simp only;omega⟩,.perm (by simp) .refl,cU,.nil⟩;simp only;rw[gA,mr,er bo,jF,fx];congr 1;simp;rfl
  ·have bS:s.size<=i:=by simpa using h
   have eg:s.data.toList.take i=s.data.toList:=dX bS;refine aU.mk (x.M b) [] _ (by simp) (oV b ae 34 (by omega)) ?_;rintro v I' M' -⟨rfl,rfl,y,aA,gA,rfl⟩;refine aU.mk (y.M b) [] _ (by simp) (xl b aA (by rw[gA];simp;omega)) ?_;rintro v I' M' -⟨rfl,rfl,rfl⟩;refine⟨_,_,.refl,?_,rfl,by simp⟩;rw[gA,mr,eg];rfl
def rN(p:UInt8×UInt8):List UInt8:=
 iB p.1 nz++((bif decide (1<IntKind.u8.wrap ((p.2.toNat:Int)-p.1.toNat))then [45]else [])++(bif !decide ((p.2.toNat:Int)=p.1.toNat)then iB p.2 nz else []))
def sR(deb:List Int)(a b c d:Int):List UInt8:=
 bif (a == g4 0&&(b == g4 0&&(c == g4 0&&d == g4 0)))then [46]else [91]++(j9 (hg deb 0 [a,b,c,d])).flatMap rN++[93]
def Ub(p:UInt8×UInt8):(rN p).length<=9:=by
 have U:=rJ p.1 nz;have ab:=rJ p.2 nz;unfold rN;cases decide (1<IntKind.u8.wrap ((p.2.toNat:Int)-p.1.toNat))<;>cases decide ((p.2.toNat:Int)=p.1.toNat)<;>simp<;>omega
def Uc(deb:List Int)(a b c d:Int):(j9 (hg deb 0 [a,b,c,d])).length<=256:=by have U:=MU deb [a,b,c,d] 0;have ab:=T8 (hg deb 0 [a,b,c,d]);simp only[cS,dI]at U;omega
def aeC(deb:List Int)(a b c d:Int):(sR deb a b c d).length<=2306:=by
 have U:=Uc deb a b c d;have ab:=AM rN 9 Ub (j9 (hg deb 0 [a,b,c,d]));unfold sR;cases(a == g4 0&&(b == g4 0&&(c == g4 0&&d == g4 0)))
 ·simp only[bz,cz,cS,dI];omega
 ·simp
def aeD(AL:rK I deb){a b c:Int}(g5:∀ x∈[a,b,c,d],e5 x):Spec Tryz.prog 218 [.agg #[.int .u64 a,.int .u64 b,.int .u64 c,.int .u64 d]] I []
  λr I' M'=>r=.string (strOf (sR deb a b c d))/\(∀ b o,I b=some o->I' b=some o)/\M'=[]:=by
 refine bn [3] aI Tryz.func218 rfl rfl rfl ?_;intro B av;refine cr.draw aI rfl rfl rfl ?_;refine e7.mk _ aet ?_;rintro v I' M' -⟨rfl,rfl,rfl⟩;refine cx.IM aI (e:=57) rfl rfl rfl rfl (by kernel_rfl) ?_;refine aB.mk (λh=>?_) (λh=>?_)
 ·refine⟨_,_,.refl,?_,λ_ _ h=>h,rfl⟩;simp only[sR,h];rfl
 ·refine bL.mk λg ao yM=>?_;refine aU.mk (fQ.new.M g) [] _ (.refl _) (oV g fQ.IR 91 (by decide)) ?_;rintro v I' M' -⟨rfl,rfl,vn,fv,sQ,rfl⟩;refine aU.mk [] (vn.M g) _ (by simp) (aeA AL g5) ?_;rintro v bR M1 -⟨bK,os,rfl,bf,rfl⟩;have dp:=Uc deb a b c d;have cv:sR deb a b c d=[91]++(j9 (hg deb 0 [a,b,c,d])).flatMap rN++[93]:=by simp only[sR,h];rfl
  generalize ig:j9 (hg deb 0 [a,b,c,d])=aJ at *;have az:aJ.length=os.n:=by have:=bf.len;rw[CP]at this;omega
  refine bu.inv (ι:=Nat×fQ) (λp=>{ a4:=[(3,.val (ptr g)),(11,.val os.val),(12,.val (.int .i64 os.n)),(13,.val (.int .i64 p.1))],br:=bR,bO:=p.2.M g++os.aw 228 }) (λp=>p.1<=os.n/\p.2.ok/\p.2.bd=[91]++(aJ.take p.1).flatMap rN) (λp=>os.n-p.1) ?_ ?_;·exact⟨(0,vn),⟨by simp,fv,by simp[sQ,fQ.new]⟩,.perm (by simpa using gQ) .refl,cI,.nil⟩
  ·rintro⟨i,x⟩⟨hi,ae,mr⟩;simp only at hi ae mr;have hlen:x.bd.length<=1+9*i:=by rw[mr];have:=AM rN 9 Ub (aJ.take i);have ab:=rD i aJ;simp only[cz,cS,dI];omega
   refine aB.mk (λh=>?_) (λh=>?_)
   ·have ax:i<os.n:=by simpa using h
    have bo:i<aJ.length:=by omega
    obtain⟨ad,ba,a3⟩:=aY.ok.row (I:=bR) (M:=x.M g++os.aw 228) (f:=fR) (λ_=>rfl) (by decide) bf (e:=228) (λy aA=>by simp[aA]) bo;refine aW.mk ad i ba rfl ax ?_;refine aE.mk _ a3 ?_;generalize aN:aJ[i]=p;refine eb.mk 0 rfl (by decide) ?_;refine aU.mk (x.M g) (os.aw 228) _ (.refl _) (IT g ae p.1 nz (by omega)) ?_;rintro v I' M' -⟨rfl,y,aA,gA,rfl⟩;have k9:y.bd.length<=5+9*i:=by rw[gA,cz];have:=rJ p.1 nz;omega
    refine eb.mk 1 rfl (by decide) ?_;refine eb.mk 0 rfl (by decide) ?_;refine aQ.mk _ rfl ?_;refine aB.mk (λda=>?_) (λda=>?_)
    ·refine aU.mk (y.M g) (os.aw 228) _ (by simp) (oV g aA 45 (by omega)) ?_;rintro v I' M' -⟨rfl,rfl,u,hu,xm,rfl⟩;have Ud:u.bd.length<=6+9*i:=by rw[xm];simp;omega
     refine eb.mk 1 rfl (by decide) ?_;refine eb.mk 0 rfl (by decide) ?_;refine aB.mk (λbZ=>?_) (λbZ=>?_)
     ·refine eb.mk 1 rfl (by decide) ?_;refine aU.mk (u.M g) (os.aw 228) _ (by simp) (IT g hu p.2 nz (by omega)) ?_;rintro v I' M' -⟨rfl,z,a2,sM,rfl⟩;have eT:IntKind.i64.wrap ((i:Int)+1)=((i+1:Nat):Int):=by rw[wrap_i64 ⟨by omega,by omega⟩];omega
      refine aQ.mk _ eT ?_;refine⟨(i+1,z),⟨⟨by simp only;omega,a2,?_⟩,by simp only;omega⟩,.perm (by simp) .refl,cI,.nil⟩;simp only;rw[sM,xm,gA,mr,er bo,jF,aN];simp[rN,da,bZ]
     ·have eT:IntKind.i64.wrap ((i:Int)+1)=((i+1:Nat):Int):=by rw[wrap_i64 ⟨by omega,by omega⟩];omega
      refine aQ.mk _ eT ?_;refine⟨(i+1,u),⟨⟨by simp only;omega,hu,?_⟩,by simp only;omega⟩,.perm (by simp) .refl,cI,.nil⟩;simp only;rw[xm,gA,mr,er bo,jF,aN];simp[rN,da,bZ]
    ·refine eb.mk 1 rfl (by decide) ?_;refine eb.mk 0 rfl (by decide) ?_;refine aB.mk (λbZ=>?_) (λbZ=>?_)
     ·refine eb.mk 1 rfl (by decide) ?_;refine aU.mk (y.M g) (os.aw 228) _ (by simp) (IT g aA p.2 nz (by omega)) ?_;rintro v I' M' -⟨rfl,z,a2,sM,rfl⟩;have eT:IntKind.i64.wrap ((i:Int)+1)=((i+1:Nat):Int):=by rw[wrap_i64 ⟨by omega,by omega⟩];omega
      refine aQ.mk _ eT ?_;refine⟨(i+1,z),⟨⟨by simp only;omega,a2,?_⟩,by simp only;omega⟩,.perm (by simp) .refl,cI,.nil⟩;simp only;rw[sM,gA,mr,er bo,jF,aN];simp[rN,da,bZ]
     ·have eT:IntKind.i64.wrap ((i:Int)+1)=((i+1:Nat):Int):=by rw[wrap_i64 ⟨by omega,by omega⟩];omega
      refine aQ.mk _ eT ?_;refine⟨(i+1,y),⟨⟨by simp only;omega,aA,?_⟩,by simp only;omega⟩,.perm (by simp) .refl,cI,.nil⟩;simp only;rw[gA,mr,er bo,jF,aN];simp[rN,da,bZ]
   ·have bS:os.n<=i:=by simpa using h
    have eg:aJ.take i=aJ:=dX (by omega);refine aU.mk (x.M g) (os.aw 228) _ (.refl _) (oV g ae 93 (by omega)) ?_;rintro v I' M' -⟨rfl,rfl,y,aA,gA,rfl⟩;refine aU.mk (y.M g) (os.aw 228) _ (.refl _) (xl g aA (by rw[gA];simp;omega)) ?_;rintro v I' M' -⟨rfl,rfl,rfl⟩;refine⟨_,_,.sub (cW _) .refl,?_,bK,rfl⟩;rw[gA,mr,eg,cv];rfl
end Go.V
