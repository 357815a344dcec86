/- Part 2 of what the proofs of this seat share: the executor, data in memory, walks.
-/
import Derived.Test.YtjambecdkaahmaaGreatDoorK1
import Derived.Lib.UnsafeStr
import Derived.Test.YtjambecdkaahmaaGreatDoorProg
import Derived.KernelRfl
import Derived.Lib.Builder
import Derived.Lib.Bytealg
import Derived.Laws.Pointers
import Derived.Laws.StructEq
set_option linter.all false
set_option maxHeartbeats 4000000
set_option maxRecDepth 100000
namespace Go.V
open Go
def cI:=@List.length_append
def eb:=@List.getElem?_eq_getElem
def cJ:=@List.getElem_mem
def c8:=@List.length_map
def eW:=@List.take_of_length_le
def c0:=@Nat.zero_add
def eh:=@List.append_nil
def jh:=@List.eq_nil_of_length_eq_zero
def fq:=@List.append_assoc
def h':=@Int.eq_ofNat_of_zero_le
def hX:=@List.perm_append_comm
def jY:=@List.sublist_append_right
def fZ:=@List.nil_sublist
def ji:=@List.drop_eq_nil_of_le
def gV:=@List.length_nil
def hh:=@List.length_take
def o9:=@List.getElem?_append_right
def nr:=@decide_eq_false_iff_not
def fP:=@Nat.mul_one
def jZ:=@List.nil_append
def oa:=@Bool.or_eq_false_iff
def nt:=@List.take_succ_cons
def lq:=@List.getElem_map
def mh:=@List.getElem?_set
def ob:=@List.flatMap_cons
def sV:=@List.take_append_drop
def mK:=@List.take_zero
def pb:=@List.length_drop
def rT:=@List.map_congr_left
def kR:=@List.map_nil
def kS:=@Nat.add_mul
def qZ:=@List.cons_append
def vv:=@List.length_replicate
def p5:=@List.take_left'
def xh:=@List.getElem_cons_zero
def oc:=@List.sum_cons
def pd:=@Bool.true_and
def sW:=@List.map_toArray
def CB:=@List.take_append_of_le_length
def Fl:=@List.set_eq_take_append_cons_drop
def rU:=@List.take_take
def sX:=@List.drop_zero
def sY:=@Bool.false_and
def yN:=@Int.toNat_of_nonneg
def p6:=@Nat.one_mul
def xi:=@List.ext_getElem
def Fm:=@Int.fdiv_eq_ediv_of_nonneg
def CC:=@World.putObj_heap_same
def Av:=@Array.length_toList
def yO:=@List.ext_getElem?
def Aw:=@List.length_take_le
def xj:=@List.drop_take
def vw:=@Nat.zero_mul
def Fo:=@List.eq_nil_or_concat
def MT:=@Array.eq_empty_of_size_eq_zero
def Ax:=@List.take_left
def Ay:=@List.drop_drop
def I0:=@List.getElem_cons_succ
def CD:=@List.drop_left'
def TK:=@Std.Legacy.Range.forIn_eq_forIn_range'
def I1:=@List.drop_eq_nil_iff
def Fp:=@BitVec.toNat_and
def Fq:=@Nat.lt_of_not_le
def I2:=@List.map_replicate
def MU:=@ByteArray.size_extract
def TL:=@List.drop_length_add_append
def MV:=@List.filter_sublist
def Fs:=@List.map_set
def TM:=@Lib.run_firstCells_string
def I3:=@List.set_set
variable{P:Program}{a sa:Option Addr}{w:World}{c g m t u e c' b tW it T size j i cZ:Nat}{X:c3}{F:Fr}{C:dp}{I I':aZ}{K:List aB->Prop}{o:Obj}{f x s y:Operand}{vs xs bV:List Value}{od:TypeDesc}{dk nu aH:dU}{vx p v:Value}{Mr:List aB}{ad:Addr}{k:IntKind}{other:Prop}{cs:Array Value}{α:Type}{ax:List Int}{d:Int}
def TN{rN:Fence}{n:Nat}{Q:Exit->Act->World->Prop}{a:Act}{c:Code}(J:Nat->Nat->Act->World->Prop)
  (first:c.wpIn rN n P (λe bY w'=>match e with
   | .goto l=>∃ m,J l m bY w'| e=>Q e bY w') a w)
  (pass:∀ l m a w,J l m a w->∃ bb,findLabel c l=some bb/\bb.wpIn rN n P (λe bY w'=>match e with
   | .goto cR=>∃ m',m'<m/\J cR m' bY w'| e=>Q e bY w') a w):(Code.scope c).wpIn rN n P Q a w:=by
 intro b k cs jW ai ak;have dT:step P (lone (b.atR a (.code (.scope c)::k)) cs w)=.next (lone (b.atR a (.code c::.inScope c::k)) cs w):=
  step_lone_go (by simp[stepG,stepG.exec,Frame.atR])
 have s1:∀ a w,step P (lone (b.atR a (.inScope c::k)) cs w)=.next (lone (b.atR a k) cs w):=λa w=>
  step_lone_go (by simp[stepG,stepG.exec,Frame.atR])
 have ae:∀ id,exitTo id (.inScope c::k)=exitTo id k:=λid=>by simp[exitTo]
 have fin:∀ {m:Machine} {e:Exit} {jB:Act} {jC:World},(∀ l,e≠.goto l)->ArrivesIn (Machine.fenced P rN) P m b (.inScope c::k) cs e jB jC->ArrivesIn (Machine.fenced P rN) P m b k cs e jB jC:=by
  intro m e jB jC bK ir;cases e with
  |normal=>exact StepsIn.trans ir (.one (fenced_calm ai ak rfl) (s1 _ _))| exit id=>exact⟨λdJ af=>ir.1 dJ (by rw[ae];exact af),λgZ af=>ir.2 gZ (by rw[ae];exact af)⟩| goto l=>exact(bK l rfl).elim| ret=>exact ir| panic yF=>exact ir| outgrown=>exact ir
 have key:∀ m l a w,J l m a w->∀ bb,findLabel c l=some bb->∃ e bY w',Q e bY w'/\ArrivesIn (Machine.fenced P rN) P (lone (b.atR a (.code bb::.inScope c::k)) cs w) b k cs e bY w':=by
  intro m
  induction m using Nat.strongRecOn with
  |_ m a7=>
   intro l a w bM bb yP;obtain⟨CE,aJ,hw⟩:=pass l m a w bM;rw[yP]at aJ;cases aJ;obtain⟨e,jB,jC,aM,ir⟩:=hw b (.inScope c::k) cs jW ai ak;cases e with
   |goto cR=>
    obtain⟨m',aR,CF⟩:=aM;obtain⟨CE,vy,_⟩:=pass cR m' jB jC CF;have au:gotoIn cR (.inScope c::k)=some (.code CE::.inScope c::k):=by simp[gotoIn,vy]
    obtain⟨E3,E4,E5,E6,E7⟩:=a7 m' aR cR jB jC CF CE vy;exact⟨E3,E4,E5,E6,.of_steps (ir.1 _ au) E7⟩
   |normal=>exact⟨_,jB,jC,aM,fin (by simp) ir⟩| exit id=>exact⟨_,jB,jC,aM,fin (by simp) ir⟩| ret=>exact⟨_,jB,jC,aM,fin (by simp) ir⟩| panic yF=>exact⟨_,jB,jC,aM,fin (by simp) ir⟩| outgrown=>exact⟨_,jB,jC,aM,fin (by simp) ir⟩
 have ar:(lone (b.atR a (.code (.scope c)::k)) cs w).fenced P rN:=fenced_calm ai ak rfl;obtain⟨e,jB,jC,aM,ir⟩:=first b (.inScope c::k) cs jW ai ak
 cases e with
 |goto cR=>
  obtain⟨m',CF⟩:=aM;obtain⟨CE,vy,_⟩:=pass cR m' jB jC CF;have au:gotoIn cR (.inScope c::k)=some (.code CE::.inScope c::k):=by simp[gotoIn,vy]
  obtain⟨E3,E4,E5,E6,E7⟩:=key m' cR jB jC CF CE vy;exact⟨E3,E4,E5,E6,.of_steps (.head ar dT (ir.1 _ au)) E7⟩
 |normal=>exact⟨_,jB,jC,aM,.of_steps (.one ar dT) (fin (by simp) ir)⟩| exit id=>exact⟨_,jB,jC,aM,.of_steps (.one ar dT) (fin (by simp) ir)⟩| ret=>exact⟨_,jB,jC,aM,.of_steps (.one ar dT) (fin (by simp) ir)⟩| panic yF=>exact⟨_,jB,jC,aM,.of_steps (.one ar dT) (fin (by simp) ir)⟩| outgrown=>exact⟨_,jB,jC,aM,.of_steps (.one ar dT) (fin (by simp) ir)⟩
def I4(N:Nat->fX)(K:ke):ke
 | .goto l=>N l| e=>K e
def c5.scope{c:Code}{M:List aB}{K:ke}(aN:c2 X.P X.E)(bj:codeOk X.n c=true){ι:Type}(aG:ι->vj)(vz:ι->Nat)(inv:ι->Prop)(μ:ι->Nat)(bb:Nat->Code)(yP:∀ i,inv i->findLabel c (vz i)=some (bb (vz i))/\codeOk X.n (bb (vz i))=true)(first:V X c F C I M (I4 (λl=>o2 X.cq aG λj=>inv j/\vz j=l) K))(pass:∀ i,inv i->V X (bb (vz i)) (qR (aG i).bu) (qS (aG i).cl) (aG i).cS (aG i).db (I4 (λl=>o2 X.cq aG λj=>(inv j/\vz j=l)/\μ j<μ i) K)) :
  c5 X (.scope c) F C I M K:=by
 refine⟨λa w a5=>?_⟩;let J (l m:Nat) (a:Act) (w:World):Prop:=∃ i,inv i/\vz i=l/\μ i=m/\Rel X a w (qR (aG i).bu) (qS (aG i).cl) (aG i).cS (aG i).db
 have yG:∀ {p:ι->Prop} {l:Nat} {a w},(∀ i,p i->inv i/\vz i=l)->Sat X (o2 X.cq aG p) a w->∃ i,p i/\J l (μ i) a w:=by rintro p l a w aD⟨F,C,I,M,⟨β,ak⟩,⟨j,rO,hw,bU,pY⟩⟩;exact⟨j,rO,j,(aD j rO).1,(aD j rO).2,rfl,β,(ak.be bU pY).h8 hw⟩
 refine TN J (wpIn_mono (qT aN c bj a5 first) ?_) ?_
 ·intro e a w h;cases e with
  |goto l=>obtain⟨j,an,bM⟩:=yG (p:=λj=>inv j/\vz j=l) (l:=l) (λ_ h=>h) h;exact⟨_,bM⟩
  |_=>exact h
 ·rintro l m a w⟨i,hi,rfl,rfl,ak⟩;obtain⟨aa,ab⟩:=yP i hi;refine⟨_,aa,wpIn_mono (qT aN _ ab ak (pass i hi)) ?_⟩;intro e a w h;cases e with
  |goto cR=>obtain⟨j,an,bM⟩:=yG (p:=λj=>(inv j/\vz j=cR)/\μ j<μ i) (l:=cR) (λ_ h=>h.1) h;exact⟨_,an.2,bM⟩
  |_=>exact h
def Ft(P:Program)(l:Nat)(args:List Value)(I:aZ)(M:List aB)(post:Value->aZ->List aB->Prop):Prop:=
 ∀ w,ew I M w->∃ f tmps assign body,(Instr.yield l args.toArray).run P w=.ok (.round l f tmps assign body) w /\ RoundIn Fence.wide 0 P l f tmps assign body w λe w'=>∃ v I' M',e=.returned v/\post v I' M'/\ew I' M' w'/\Kept I M w I' M' w'
inductive Fu(P:Program)(l:Nat)(args:List Value)(I:aZ)(M:List aB)(K:Value->aZ->List aB->Prop):Prop
 |mk(dI Mr:List aB)(post:Value->aZ->List aB->Prop)(a1:M.Perm (dI++Mr))(ap:Ft P l args I dI post)(k:∀ v I' M',(∀ b o,I b=some o->I' b=some o)->post v I' M'->K v I' (M'++Mr))
def bn.yield{o:Oper}{M:List aB}{K:fX}{args:Array Operand}{ts:Array TypeId}{l:Nat}(aw:o.op=.call { callee:=.value f,args,argTypes:=ts })(ah:∀ d,o.dst=some d->d<X.n)(aJ:bB F f=.val (.func (.yield l) #[] #[]))(h7:l8 F args.toList=some vs)
  (h:Fu X.P l vs I M λv I' M'=>K (put o.dst (.val v) F) C I' M'):bn X o F C I M K:=by
 refine⟨λa w Q ⟨β,a5⟩=>?_⟩;obtain⟨dI,Mr,post,a1,ap,af⟩:=h;obtain⟨fn,tmps,assign,body,aF,ak⟩:=ap w (a5.holds.part a1);have az:=sJ a5.al h7;have ei:args.map a.eval=vs.toArray:=by apply gO;simpa using az
 have aE:=dh a5.al aJ;obtain⟨dst,op,ty,pos,after,guard⟩:=o;simp only at aw;subst aw;refine⟨λ_ _=>trivial,?_⟩;rw[Is _ _ _ (by simp)];have eV:(execOp a.eval ⟨dst,.call { callee:=.value f,args,argTypes:=ts },ty,pos,after,guard⟩).run X.P w=.ok (.round l fn tmps assign body) w:=by simp only[execOp,resolve,aE,Deferred.ofValue,cm,c9,b3,ei,invoke];simpa using aF
 rw[eV,Oper.uponIn_round];refine⟨(λh=>by cases h),?_⟩;have gZ:RoundIn (gP X) (0-1) X.P l fn tmps assign body w _:=ak;refine gZ.mono ?_;rintro e w'⟨v,I',M',rfl,aD,qP,eu⟩;exact⟨_,_,_,_,⟨β,(a5.after a1 qP eu).put (x:=.val v) ah rfl⟩,af v I' M' eu.le aD⟩
def Iter(P:Program)(g:Nat)(cap:List Value)(I:aZ)(pe:List (List Value)):Prop:=
 ∀ (l:Nat) (R:Nat->aZ->List aB->Prop) (sZ:aZ->List aB->Prop),(∀ k (af:k<pe.length) I' M',(∀ b o,I b=some o->I' b=some o)->R k I' M'->Ft P l pe[k] I' M' λv Fv nw=>(v=.bool true/\R (k+1) Fv nw)\/(v=.bool false/\sZ Fv nw)) -> ∀ dM M0,(∀ b o,I b=some o->dM b=some o)->R 0 dM M0->wY P g (.func (.yield l) #[] #[]::cap) dM M0 λ_ I' M'=>R pe.length I' M'\/sZ I' M'
def Fw:List Nat->List Value->Fr->Fr
 |t::ps,v::vs,F=>Fw ps vs (fz F t (.val v))| _,_,F=>F
def aer(cq:List Nat)(N:aZ->List aB->Prop)(sZ:tT->aZ->List aB->Prop):ke:=λex F C I M=>match ex with
 | .normal=>vk cq I M N| ex=>vk cq I M (sZ ex)
def CG:tT->Option Code
 | .normal=>none| .exit id=>some (.exit id)| .goto l=>some (.goto l)| .ret=>some .ret
section
variable{X:c3}{β:Nat->Nat}{a:Act}{w:World}{F:Fr}{C:dp}{I:aZ}{M:List aB}
def TO:∀ (ps:List Nat) (vs:List Value) (F:Fr) (tmps:Array Value),(∀ t∈ps,t<tmps.size)->(∀ t,eF β (F t) (tmps.getD t undef)) ->
  let r:=(ps.zip vs).foldl (λ(tmps:Array Value) (p:Nat×Value)=>tmps.setIfInBounds p.1 p.2) tmps
  r.size=tmps.size/\∀ t,eF β (Fw ps vs F t) (r.getD t undef)
 |[],vs,F,tmps,_,h=>⟨rfl,h⟩| t::ps,[],F,tmps,_,h=>⟨rfl,h⟩
 |t::ps,v::vs,F,tmps,aD,h=>by
  have aa:∀ s,eF β (fz F t (.val v) s) ((tmps.setIfInBounds t v).getD s undef):=λs=>by have:=Mu (β:=β) (F:=F) (a:=⟨tmps,[]⟩) h (d:=t) (x:=.val v) (v:=v) (aD t (by simp)) rfl s;exact this
  have a7:=TO ps vs (fz F t (.val v)) (tmps.setIfInBounds t v) (λs ap=>by simpa using aD s (by simp[ap])) aa;simp only[List.zip_cons_cons,sC,Fw];exact⟨by simpa using a7.1,a7.2⟩
def cV.TP(h:cV X β a w F C I M):cV X β { a with defers:=w0 w.heap.size::a.defers } (w.alloc (.deferred (some []))) F C I M where
 size:=h.size
 defers:=by
  obtain⟨a8,aa,ab,ag⟩:=h.defers;refine⟨w.heap.size::a8,by simp[aa],?_,?_⟩;·rw[nh];refine⟨λhm=>?_,ab⟩;have:=(lD.1 (ag _ hm).aO).1;omega
  ·intro r ak;rcases ef.1 ak with rfl | ak
   ·exact⟨Ms w _,h.sz,h.holds.rL,h.holds.qO⟩
   ·exact(ag r ak).alloc _
 holds:=h.holds.alloc _
 al:=h.al
 ck s cs ap:=(h.ck s cs ap).alloc _
 inj:=h.inj
 hI:=h.hI
 hq:=h.hq
 own:=h.own
 du:=Mw h.du h.sz _
 out:=h.out
 sz:=by have:=h.sz;simp;omega
def cV.Fx{n:Nat}{o':Obj}(h:cV X β a w F C I (⟨n,o⟩::M)):cV X β a (w.putObj n o') F C I M:=by
 have fj:(⟨n,o⟩:aB)∈(⟨n,o⟩:aB)::M:=by simp
 have cg:=h.holds.bT;simp only[cY,nh]at cg;exact {
  size:=h.size
  defers:=h.defers.mono λr ak=>by have bK:n≠r:=ak.eK _ fj;refine { ak with aO:=?_,eK:=λx ae=>ak.eK x (by simp[ae]) };rw[mD (rJ bK)];exact ak.aO
  holds:={
   i:=λb o je=>by rw[mD (λe=>by have:=h.holds.d _ fj;simp only at this;rw[e,this]at je;cases je)];exact h.holds.i b o je
   m:=λx ae=>by rw[mD (λe=>cg.1 (dA.2 ⟨x,ae,e⟩))];exact h.holds.m x (by simp[ae])
   d:=λx ae=>h.holds.d x (by simp[ae])
   bT:=cg.2 }
  al:=h.al
  ck:=λs cs ap=>by have ai:=h.ck s cs ap;have bK:n≠β s:=ai.eK _ fj;obtain⟨T,bp⟩:=ai.aO;refine { ai with aO:=⟨T,?_⟩,eK:=λx ae=>ai.eK x (by simp[ae]) };rw[mD (rJ bK)];exact bp
  inj:=h.inj
  hI:=h.hI
  hq:=h.hq
  own:=λx ae=>h.own x (by simp[ae])
  du:=λb ai aJ=>by
   rw[mD (λe=>by
    rcases h.own _ fj with aa | aa;·simp only at aa;exact aJ (e ▸ aa)
    ·simp only at aa;omega)]
   exact h.du b ai aJ
  out:=h.out.trans (Iy _ _ _)
  sz:=by have:=h.sz;simpa using this }
def c5.range{K:ke}{ps:Array Nat}{fc body:Code}{cap:Array Value}{pe:List (List Value)}(aN:c2 X.P X.E)(jW:X.ro=none)(bj:(codeOk X.n fc&&(codeOk X.n body&&ps.toList.all (λt=>Nat.blt t X.n)))=true)(aes:bB F f=.val (.func (.func g) #[] cap)){cU:aZ}{M1:List aB}(aet:jd X.cq I M cU M1)(aeu:Iter X.P g cap.toList cU pe)(bQ:∀ vs∈pe,vs.length=ps.size)(R:Nat->aZ->List aB->Prop)(sZ:tT->aZ->List aB->Prop)(start:R 0 cU M1)(round:∀ k (af:k<pe.length) I' M',(∀ b o,cU b=some o->I' b=some o)->R k I' M'->∀ l B ar hY,V ⟨X.P,X.E,X.gC,X.n,B,ar,I',M'.map (·.num),some l⟩ fc (Fw ps.toList pe[k] F) (λ_=>none) I' M' (Ar (λF C I M=>V ⟨X.P,X.E,X.gC,X.n,B,hY,I',M'.map (·.num),some l⟩ body F C I M (aer (M'.map (·.num)) (R (k+1)) sZ)) (λ_ _ _ _ _=>False)))(done:∀ I' M',(∀ b o,cU b=some o->I' b=some o)->R pe.length I' M'->K .normal F C I' M')(stop:∀ ex I' M',(∀ b o,cU b=some o->I' b=some o)->sZ ex I' M'->ex≠.normal/\K ex F C I' M') :
  c5 X (.rangeFunc f ps fc body) F C I M K:=by
 refine⟨λa w ⟨β,ki⟩=>?_⟩;have a5:=ki.h8 aet;simp only[b']at bj;obtain⟨yQ,gh,xk⟩:=bj;refine wpIn_rangeFunc λfn _=>?_;let hj (s:LoopState) (p3:Option Code):Loop:={ state:=s,pending:=p3,fn:=fn,tmps:=a.tmps,params:=ps,assign:=fc,body:=body,defers:=w.heap.size }
 let l:=w.heap.size+1
 let kj:World:=(w.alloc (.deferred (some []))).alloc (.loop (hj .ready none))
 have Az:=a5.TP.o0 (.loop (hj .ready none));have av:(w.alloc (.deferred (some []))).heap.size=l:=by simp[l]
 rw[av]at Az;let MW (k:Nat) (I':aZ) (M':List aB):Prop:=∃ ez,M'=⟨l,.loop (hj .ready none)⟩::ez/\R k I' ez
 let TQ (I':aZ) (M':List aB):Prop:=∃ ex c ez,CG ex=some c/\M'=⟨l,.loop (hj .done (some c))⟩::ez/\sZ ex I' ez
 have aF:∀ k (af:k<pe.length) I' M',(∀ b o,cU b=some o->I' b=some o)->MW k I' M'->Ft X.P l pe[k] I' M' λv Fv nw=>(v=.bool true/\MW (k+1) Fv nw)\/(v=.bool false/\TQ Fv nw):=by
  rintro k af I' _ bs⟨ez,rfl,aev⟩W im;have Fy:W.heap[l]?=some (.loop (hj .ready none)):=im.m ⟨l,.loop (hj .ready none)⟩ (by simp);have aR:l<W.heap.size:=(lD.1 Fy).1;have cg:=im.bT;simp only[cY,nh]at cg;have TR:I' l=none:=im.d ⟨l,.loop (hj .ready none)⟩ (by simp);refine⟨_,_,_,_,run_yield Fy (by simpa using bQ _ (cJ af)),?_⟩;have CH:((hj LoopState.ready none).params.zip pe[k].toArray).foldl (λtmps (x:Nat×Value)=>match x with | (t,a)=>tmps.setIfInBounds t a) (hj LoopState.ready none).tmps=(ps.toList.zip pe[k]).foldl (λ(tmps:Array Value) (p:Nat×Value)=>tmps.setIfInBounds p.1 p.2) a.tmps:=by rw[<-Mm];simp[hj]
  have MX:=TO (β:=β) ps.toList pe[k] F a.tmps (λt ay=>by
   have:=eP.1 xk t ay;rw[a5.size];exact bS this) a5.al
  rw[<-CH]at MX;refine roundIn_of_wpIn (F:=Fence.wide) (n:=0) trivial ?_;let vA:c3:=⟨X.P,X.E,X.gC,X.n,W.heap.size,W,I',ez.map (·.num),some l⟩
  let hY:=W.putObj l (.loop (hj .busy none))
  let Fz:c3:=⟨X.P,X.E,X.gC,X.n,W.heap.size,hY,I',ez.map (·.num),some l⟩
  have aj:=round k af I' ez bs aev l W.heap.size W hY;have E9:cV vA β { tmps:=((hj LoopState.ready none).params.zip pe[k].toArray).foldl (λtmps (x:Nat×Value)=>match x with | (t,a)=>tmps.setIfInBounds t a) (hj LoopState.ready none).tmps,defers:=[] } W (Fw ps.toList pe[k] F) (λ_=>none) I' ez:={
   size:=MX.1.trans a5.size
   defers:=⟨[],rfl,Ae,λr ak=>by cases ak⟩
   holds:=⟨im.i,λx ae=>im.m x (by simp[ae]),λx ae=>im.d x (by simp[ae]),cg.2⟩
   al:=MX.2
   ck:=λs cs ap=>by cases ap
   inj:=λs cc aa=>by simp at aa
   hI:=λb o ai=>ai
   hq:=λb o ai=>.inl ai
   own:=λx ae=>.inl (dA.2 ⟨x,ae,rfl⟩)
   du:=λb ai aJ=>rfl
   out:=.refl _
   sz:=cj _ }
  have IL:=qT (X:=vA) aN fc yQ ⟨β,E9⟩ aj;refine wpIn_mono (Q:=mb vA _) IL ?_;intro e cu hs ap;cases e with
  |exit id=>obtain⟨_,_,_,_,_,af⟩:=ap;exact af.elim
  |goto id=>obtain⟨_,_,_,_,_,af⟩:=ap;exact af.elim
  |ret=>obtain⟨_,_,_,_,_,af⟩:=ap;exact af.elim
  |panic yF=>exact ap.elim| outgrown=>exact ap.elim
  |normal=>
   obtain⟨kP,aew,ev,rV,⟨TS,h9⟩,IE⟩:=ap;have AA:hs.heap[l]?=some (.loop (hj .ready none)):=by rw[h9.du l aR cg.1];exact Fy
   refine⟨_,run_beginRound AA rfl,?_⟩;have aex:ev l=none:=by
    cases bA:ev l with
    |none=>rfl
    |some o=>
     rcases h9.hq _ _ bA with aa | aa;·rw[show vA.dM=I' from rfl,TR]at aa;cases aa
     ·exact absurd aa (Nat.not_le.2 aR)
   have aey:∀ x∈rV,x.num≠l:=λx ae e=>by
    rcases h9.own x ae with aa | aa;·rw[e]at aa;exact cg.1 aa
    ·rw[e]at aa;exact absurd aa (Nat.not_le.2 aR)
   have xf:cV Fz TS cu (hs.putObj l (.loop (hj .busy none))) kP aew ev rV:={
    size:=h9.size
    defers:=by obtain⟨a8,a3,a6,bI⟩:=h9.defers;refine⟨a8,a3,a6,λr gF=>?_⟩;have ak:=bI r gF;refine { aO:=?_,be:=ak.be,jz:=ak.jz,eK:=ak.eK };rw[mD (λe=>by have aa:=ak.aO;rw[e,AA]at aa;cases aa)];exact ak.aO
    holds:={
     i:=λb o je=>by rw[mD (λe=>by rw[e,aex]at je;cases je)];exact h9.holds.i b o je
     m:=λx ae=>by rw[mD (aey x ae)];exact h9.holds.m x ae
     d:=h9.holds.d
     bT:=h9.holds.bT }
    al:=h9.al
    ck:=λs cs ap=>by have ai:=h9.ck s cs ap;obtain⟨T,bp⟩:=ai.aO;refine { aO:=⟨T,?_⟩,be:=ai.be,jz:=ai.jz,eK:=ai.eK };rw[mD (λe=>by rw[e,AA]at bp;cases bp)];exact bp
    inj:=h9.inj
    hI:=h9.hI
    hq:=h9.hq
    own:=h9.own
    du:=λb ai aJ=>by
     by_cases e:b=l;·subst e;rw[CC (lD.1 AA).1];exact(CC aR).symm
     ·rw[mD e];show _=(W.putObj l (.loop (hj .busy none))).heap[b]?;rw[mD e];exact h9.du b ai aJ
    out:=⟨h9.out.1,h9.out.2⟩
    sz:=by have:=h9.sz;simpa using this }
   have aez:=qT (X:=Fz) aN body gh ⟨TS,xf⟩ IE;refine wpIn_mono (Q:=mb Fz _) aez ?_;have fin:∀ (dY:Act) (lL:World) (vB:Fr) (vC:dp) (hK:aZ) (rW:List aB) (jump:Option Code),Rel Fz dY lL vB vC hK rW->∃ ia,(Instr.endRound l jump).run X.P lL=.ok (.bool jump.isNone) ia /\
     ew hK (⟨l,.loop (hj (if jump.isNone then .ready else .done) jump)⟩::rW) ia/\Kept I' (⟨l,.loop (hj .ready none)⟩::ez) W hK (⟨l,.loop (hj (if jump.isNone then .ready else .done) jump)⟩::rW) ia:=by
    rintro dY lL vB vC hK rW jump⟨yR,ag⟩;have AB:lL.heap[l]?=some (.loop (hj .busy none)):=by rw[ag.du l aR cg.1];exact CC aR
    have TT:hK l=none:=by
     cases bA:hK l with
     |none=>rfl
     |some o=>
      rcases ag.hq _ _ bA with aa | aa;·rw[show Fz.dM=I' from rfl,TR]at aa;cases aa
      ·exact absurd aa (Nat.not_le.2 aR)
    have TU:∀ x∈rW,x.num≠l:=λx ae e=>by
     rcases ag.own x ae with aa | aa;·rw[e]at aa;exact cg.1 aa
     ·rw[e]at aa;exact absurd aa (Nat.not_le.2 aR)
    refine⟨_,run_endRound jump AB,?_,?_⟩
    ·exact {
      i:=λb o je=>by rw[mD (λe=>by rw[e,TT]at je;cases je)];exact ag.holds.i b o je
      m:=λx ae=>by
       rcases ef.1 ae with rfl | ae;·exact CC (lD.1 AB).1
       ·rw[mD (TU x ae)];exact ag.holds.m x ae
      d:=λx ae=>by
       rcases ef.1 ae with rfl | ae;·exact TT
       ·exact ag.holds.d x ae
      bT:=by
       simp only[cY,nh];refine⟨λhm=>?_,ag.holds.bT⟩;obtain⟨x,ae,e⟩:=dA.1 hm;exact TU x ae e }
    ·exact {
      le:=ag.hI
      tP:=ag.hq
      u':=λx ae=>by
       rcases ef.1 ae with rfl | ae;·exact .inl ⟨⟨l,.loop (hj .ready none)⟩,by simp,rfl⟩
       ·rcases ag.own x ae with aa | aa
        ·obtain⟨y,aF,e⟩:=dA.1 aa;exact .inl ⟨y,by simp[aF],e⟩
        ·exact .inr aa
      du:=λb ai bK=>by
       have oe:b≠l:=λe=>bK ⟨l,.loop (hj .ready none)⟩ (by simp) e.symm;rw[mD oe,ag.du b ai (λhm=>by
        obtain⟨y,aF,e⟩:=dA.1 hm;exact bK y (by simp[aF]) e)]
       exact mD oe
      out:=⟨ag.out.1,ag.out.2⟩
      sz:=by have:=ag.sz;simpa using this }
   intro e dY lL vD;cases e with
   |normal=>obtain⟨vB,vC,hK,rW,⟨yR,ag⟩,⟨mL,rX,AD,aD⟩⟩:=vD;obtain⟨ia,aW,bC,bP⟩:=fin dY lL vB vC mL rX none ⟨yR,ag.h8 AD⟩;exact⟨_,ia,aW,_,_,_,rfl,.inl ⟨rfl,_,rfl,aD⟩,bC,bP⟩
   |exit id=>obtain⟨vB,vC,hK,rW,⟨yR,ag⟩,⟨mL,rX,AD,aD⟩⟩:=vD;obtain⟨ia,aW,bC,bP⟩:=fin dY lL vB vC mL rX (some (.exit id)) ⟨yR,ag.h8 AD⟩;exact⟨_,ia,aW,_,_,_,rfl,.inr ⟨rfl,.exit id,_,_,rfl,rfl,aD⟩,bC,bP⟩
   |goto id=>obtain⟨vB,vC,hK,rW,⟨yR,ag⟩,⟨mL,rX,AD,aD⟩⟩:=vD;obtain⟨ia,aW,bC,bP⟩:=fin dY lL vB vC mL rX (some (.goto id)) ⟨yR,ag.h8 AD⟩;exact⟨_,ia,aW,_,_,_,rfl,.inr ⟨rfl,.goto id,_,_,rfl,rfl,aD⟩,bC,bP⟩
   |ret=>obtain⟨vB,vC,hK,rW,⟨yR,ag⟩,⟨mL,rX,AD,aD⟩⟩:=vD;obtain⟨ia,aW,bC,bP⟩:=fin dY lL vB vC mL rX (some .ret) ⟨yR,ag.h8 AD⟩;exact⟨_,ia,aW,_,_,_,rfl,.inr ⟨rfl,.ret,_,_,rfl,rfl,aD⟩,bC,bP⟩
   |panic yF=>exact vD.elim| outgrown=>exact vD.elim
 obtain⟨pX,Ap⟩:=aeu l MW TQ aF cU (⟨l,.loop (hj .ready none)⟩::M1) (λ_ _ h=>h) ⟨M1,rfl,start⟩;have mi:=Ap kj Az.holds;have aE:=dh a5.al aes;refine⟨l,[w0 w.heap.size],kj,{ target:=.fn (.func g) cap,args:=#[.func (.yield l) #[] #[]] },kj,g,(.func (.yield l) #[] #[]::cap.toList).toArray,kj,?_,?_,λ_ _=>trivial,?_,(λh=>by cases h),?_⟩
 ·have MY:(gP X).round=none:=jW;rw[MY];exact run_enterLoop_outer fn a.tmps ps fc body
 ·show(Deferred.ofValue (a.eval f) (#[Operand.const (.func (.yield l) #[] #[])].map a.eval)).run X.P kj=_;rw[aE];simp[Deferred.ofValue,Act.eval]
 ·simp only[invoke];rw[show #[Value.func (.yield l) #[] #[]]++cap=(.func (.yield l) #[] #[]::cap.toList).toArray from by apply gO;simp];exact pX _ _
 ·refine(Mz (X:=X) mi _).mono ?_;rintro e lL⟨v,I',M',rfl,aD,qP,eu⟩;have vE:=Az.after (Mr:=[]) (by simp) qP eu;rw[eh]at vE;have bs:=eu.le;rcases aD with⟨ez,rfl,aeA⟩ | ⟨ex,c,ez,aA,rfl,aeB⟩
  ·refine⟨none,_,run_endLoop (qP.m ⟨l,.loop (hj .ready none)⟩ (by simp)) (by simp[hj]),?_⟩;exact⟨F,C,I',ez,⟨β,vE.Fx⟩,done I' ez bs aeA⟩
  ·refine⟨some c,_,run_endLoop (qP.m ⟨l,.loop (hj .done (some c))⟩ (by simp)) (by simp[hj]),?_⟩;obtain⟨bK,af⟩:=stop ex I' ez bs aeB;cases ex with
   |normal=>exact(bK rfl).elim| exit id=>cases aA;exact wpIn_exit ⟨F,C,I',ez,⟨β,vE.Fx⟩,af⟩| goto id=>cases aA;exact wpIn_goto ⟨F,C,I',ez,⟨β,vE.Fx⟩,af⟩| ret=>cases aA;exact wpIn_ret ⟨F,C,I',ez,⟨β,vE.Fx⟩,af⟩
end
structure a' where
 a:Option Nat
 n:Nat
 c:Nat
 aK:List Value
def a'.val(o:a'):Value:=.slice (o.a.map λg=>⟨g,0,none⟩) o.n o.c
def a'.aP(o:a')(e:Nat):List aB:=match o.a with
 |some g=>[⟨g,.cells o.aK.toArray e (0,0)⟩]| none=>[]
structure a'.ok(o:a')(size:Nat)(xs:List Value):Prop where
 len:xs.length=o.n*size
 nil:o.a=none->o.n=0/\o.c=0
 cap:∀ g,o.a=some g->o.aK.length=o.c*size/\o.n<=o.c/\o.c<=maxLen/\o.aK.take (o.n*size)=xs
section
variable{P:Program}{w:World}
def TV(t u ty e:Nat)(i:TypeInfo)(z:Value)(ay:P.underlying t=some (.slice e))(hu:P.underlying u=some od)(p7:∀ k,od≠.int k)(hi:P.info? e=some i)(bf:i.zero=some z)(vF:z.cells.size=i.size)
  {os:a'} (bj:os.ok i.size xs) (au:∀ g,os.a=some g->w.heap[g]?=some (.cells os.aK.toArray e (0,0)))
  {x:Value} (hm:0<m) (av:bV.length=m*i.size) (aa:∀ v∈bV,v.oneCell'=true)
  (bQ:∀ w',(Builtin.lenOf x).run P w'=.ok m w') (gG:∀ w':World,w'.heap=w.heap->(Builtin.firstCells i.size m x).run P w'=.ok bV.toArray w')
  (b1:os.n+m<=maxLen) (cd:(os.n+m)*i.bytes<=140737488355328) :
  ∃ (g c:Nat) (aK:List Value) (w':World),(Builtin.append_ #[t,u] ty #[os.val,x]).run P w=.ok (.slice (some ⟨g,0,none⟩) (os.n+m) c) w'/\aK.length=c*i.size/\os.n+m<=c/\c<=maxLen/\aK.take ((os.n+m)*i.size)=xs++bV /\
   ((os.a=some g/\w'=w.setRow g aK.toArray)\/(g=w.heap.size/\w'=w.drew.alloc (.cells aK.toArray e (0,0)))):=by
 obtain⟨a,n,c,aK⟩:=os;have MZ:(xs++bV).length=(n+m)*i.size:=by rw[cI,bj.len,av,kS]
 have TW:∀ du,(xs++bV++(Builtin.zeroCells z.cells (grownCap w (n+m) du e-(n+m))).toList).length=grownCap w (n+m) du e*i.size/\n+m<=grownCap w (n+m) du e/\grownCap w (n+m) du e<=maxLen /\
   (xs++bV++(Builtin.zeroCells z.cells (grownCap w (n+m) du e-(n+m))).toList).take ((n+m)*i.size)=xs++bV:=by
  intro du;have cP:=grownCap_ge w (n+m) du e;have kT:grownCap w (n+m) du e<=maxLen:=grownCap_le_maxLen w (n+m) du e b1;refine⟨?_,cP,kT,?_⟩;·rw[cI,MZ,Av,size_zeroCells,vF,<-kS];congr 1;omega
  ·rw[<-MZ];exact Ax
 have FA:(match od with | .int _=>true | _=>false)=false:=by cases od<;>first | rfl | exact(p7 _ rfl).elim
 have nx:n+m<=9223372036854775807:=by simp only[maxLen]at b1;exact b1
 cases a with
 |none=>
  obtain⟨ny,CI⟩:=bj.nil rfl;simp only at ny CI;subst ny;subst CI;have ae:xs=[]:=jh (by simpa using bj.len);subst ae;simp only[c0,jZ]at *;have ar:0<m:=hm;have aq:m≠0:=by omega
  have FB:¬ (9223372036854775807<(m:Int)):=by omega
  have FC:¬ (281474976710656<Builtin.nextslicecap m 0*i.bytes):=by rw[nextslicecap_zero ar];omega
  have aJ:=gG w.drew rfl;obtain⟨a3,a6,bI,eQ⟩:=TW 0;refine⟨w.heap.size,grownCap w m 0 e,_,w.drew.alloc (.cells (bV++(Builtin.zeroCells z.cells (grownCap w m 0 e-m)).toList).toArray e),?_,a3,a6,bI,eQ,.inr ⟨rfl,rfl⟩⟩;simp[a'.val,Builtin.append_,run_underlying ay,run_underlying hu,sizeOf,typeInfo,zeroValue,hi,bf,bQ,aq,FB,FC,Question.forced,run_firstCells_none,aJ,newRow,grownCap];congr 2;apply gO;simp
 |some g=>
  obtain⟨eA,mj,kT,kk⟩:=bj.cap g rfl;have M2:=au g rfl;simp only at eA mj kT kk M2;by_cases s0:n+m<=c
  ·have ga:n*i.size+bV.length<=aK.length:=by rw[av,eA,<-kS];exact rH _ s0
   have dE:=run_storeCells_at P g (n*i.size) e bV 0 aK.toArray w M2 (by simpa using ga) aa;simp only[nj]at dE;refine⟨g,c,aK.take (n*i.size)++bV++aK.drop (n*i.size+bV.length),_,?_,?_,s0,kT,?_,.inl ⟨rfl,rfl⟩⟩;·have aJ:=gG w rfl;simp[a'.val,Builtin.append_,run_underlying ay,run_underlying hu,sizeOf,typeInfo,hi,bQ,s0,aJ,Addr.add_lit,dE]
   ·simp only[cI,hh,pb];omega
   ·rw[kk,<-MZ];exact Ax
  ·have aq:¬ (n+m<=c):=by omega
   have FB:¬ (9223372036854775807<((n:Int)+(m:Int))):=by omega
   have FC:¬ (281474976710656<Builtin.nextslicecap (n+m) c*i.bytes):=by have:=growslice_fits (by omega:c<n+m) cd;omega
   have aJ:=gG w.drew rfl;have aeC:∀ j v,xs[j]?=some v->w.drew.cell? ((⟨g,0,none⟩:Addr).add j)=some v:=by
    intro j v an;have CJ:w.drew.heap[g]?=some (.cells aK.toArray e (0,0)):=M2;rw[dL _ rfl,sL CJ];rw[<-kk,j9]at an;split at an;·simpa using an
    ·cases an
   have aeD:=run_firstCells_some (P:=P) w.drew i.size n ⟨g,0,none⟩ n c xs bj.len aeC;obtain⟨a3,a6,bI,eQ⟩:=TW c;refine⟨w.heap.size,grownCap w (n+m) c e,_,w.drew.alloc (.cells (xs++bV++(Builtin.zeroCells z.cells (grownCap w (n+m) c e-(n+m))).toList).toArray e),?_,a3,a6,bI,eQ,.inr ⟨rfl,rfl⟩⟩;simp[a'.val,Builtin.append_,run_underlying ay,run_underlying hu,sizeOf,typeInfo,zeroValue,hi,bf,bQ,aq,FB,FC,Question.forced,aJ,aeD,newRow,grownCap];congr 2;apply gO;simp
end
section
variable{X:c3}{β:Nat->Nat}{a:Act}{w:World}{F:Fr}{C:dp}{I:aZ}{M:List aB}{o:Oper}{K:fX}
def M3(aN:c2 X.P X.E)(aw:o.op=.call { callee:=.builtin .append,args:=#[s,x],argTypes:=#[t,u] })(ah:∀ d,o.dst=some d->d<X.n)
 (ay:X.E t=some dk) (dW:dk.bE=.slice e) (hu:X.E u=some nu) (fA:∀ k,nu.bE≠.int k) (he:X.E e=some aH)
  (os:a') (bj:os.ok aH.size xs) (ap:bB F s=.val os.val)
 (ae:bB F x=.val vx) (hm:0<m) (av:bV.length=m*aH.size) (aa:fO bV=true)
  (bQ:∀ w',(Builtin.lenOf vx).run X.P w'=.ok m w') (gG:∀ w,ew I M w->(Builtin.firstCells aH.size m vx).run X.P w=.ok bV.toArray w)
 (a1:M.Perm (os.aP e++Mr)) (b1:os.n+m<=maxLen) (cd:(os.n+m)*aH.bytes<=140737488355328)
  (k:∀ (g c:Nat) (aK:List Value),I g=none->aK.length=c*aH.size->os.n+m<=c->c<=maxLen->aK.take ((os.n+m)*aH.size)=xs++bV ->
   K (put o.dst (.val (.slice (some ⟨g,0,none⟩) (os.n+m) c)) F) C I (⟨g,.cells aK.toArray e (0,0)⟩::Mr)):bn X o F C I M K:=by
 refine⟨λa w Q ⟨β,ki⟩=>?_⟩;have a5:cV X β a w F C I (os.aP e++Mr):=ki.h8 (.perm a1 .refl);obtain⟨inf,z,hi,fb,hV,iq,kM⟩:=(aN _ _ he).inf;obtain⟨d,fk,ft⟩:=(aN _ _ hu).fi;obtain⟨ib,pf,lM⟩:=(aN _ _ ay).fi;have tX:ib=.slice e:=by rw[dW]at lM;cases ib<;>simp_all[e8]
 subst tX;have vF:z.cells.size=inf.size:=by rw[fb,<-(aN _ _ he).len,<-kM];simp
 rw[<-fb]at bj av gG;obtain⟨g,c,aK,w',eV,a3,a6,bI,eQ,j0⟩:=TV (P:=X.P) (w:=w) t u o.type e inf z pf fk (λk bq=>fA k (by rw[<-ft,bq];rfl)) hi iq vF bj (λg au=>a5.holds.m ⟨g,.cells os.aK.toArray e (0,0)⟩ (by simp[a'.aP,au])) (x:=vx) hm av (w4 aa) bQ (λw' M4=>gG w' (ki.holds.heap M4)) b1 (by rw[hV];exact cd);rw[fb]at a3 eQ;have M5:I g=none:=by
  rcases j0 with⟨au,_⟩ | ⟨rfl,_⟩;·exact a5.holds.d ⟨g,.cells os.aK.toArray e (0,0)⟩ (by simp[a'.aP,au])
  ·cases bA:I w.heap.size with
   |none=>rfl| some og=>have:=a5.holds.i _ _ bA;simp at this
 have es:=dh a5.al ap;have ex:=dh a5.al ae;refine il (by rw[aw];simp) (v:=.slice (some ⟨g,0,none⟩) (os.n+m) c) (w':=w') ?_ ⟨_,_,_,_,⟨β,cV.put (x:=.val (.slice (some ⟨g,0,none⟩) (os.n+m) c)) ?_ ah rfl⟩,k g c aK M5 a3 a6 bI eQ⟩
 ·unfold execOp;simp only[aw,resolve,invoke,builtin,cm,c9,b3,sW,cY,kR,es,ex,eV]
 ·rcases j0 with⟨au,rfl⟩ | ⟨rfl,rfl⟩
  ·have ai:os.aP e=[⟨g,.cells os.aK.toArray e (0,0)⟩]:=by simp[a'.aP,au]
   rw[ai]at a5;exact a5.vb (bc:=[]) (post:=Mr) rfl
  ·have ab:cV X β a w.drew F C I (os.aP e++Mr):=a5.world rfl;have ag:=ab.o0 (.cells aK.toArray e (0,0));refine ag.h8 (.sub ?_ .refl);exact List.Sublist.cons_cons _ (jY _ _)
def bn.append(aN:c2 X.P X.E)(aw:o.op=.call { callee:=.builtin .append,args:=#[s,x],argTypes:=#[t,t] })(ah:∀ d,o.dst=some d->d<X.n)
 (ay:X.E t=some dk) (dW:dk.bE=.slice e) (he:X.E e=some aH)
  (os:a') (bj:os.ok aH.size xs) (ap:bB F s=.val os.val)
 (ae:bB F x=.val (.slice (some ad) m c')) (hm:0<m) (aq:cr I M ad (m*aH.size) bV) (aa:fO bV=true)
 (a1:M.Perm (os.aP e++Mr)) (b1:os.n+m<=maxLen) (cd:(os.n+m)*aH.bytes<=140737488355328)
  (k:∀ (g c:Nat) (aK:List Value),aK.length=c*aH.size->os.n+m<=c->c<=maxLen->aK.take ((os.n+m)*aH.size)=xs++bV ->
   K (put o.dst (.val (.slice (some ⟨g,0,none⟩) (os.n+m) c)) F) C I (⟨g,.cells aK.toArray e (0,0)⟩::Mr)):bn X o F C I M K:=by
 refine M3 aN aw ah ay dW ay (λk=>by rw[dW];simp) he os bj ap ae hm ?_ aa (λ_=>rfl) (λw hw=>?_) a1 b1 cd (λg c aK _=>k g c aK)
 ·obtain⟨_,_,_,_,_,_,h⟩:=aq;exact h
 ·obtain⟨ch,cs,T,al,dS,aj,av⟩:=aq;refine run_firstCells_some (P:=X.P) w aH.size m ad m c' bV av λj v an=>?_;rw[dL _ ch,sL (dS.heap hw)];rw[<-aj,j9]at an;split at an
  ·rw[nZ]at an;simpa using an
  ·cases an
def bn.I5(aN:c2 X.P X.E)(aw:o.op=.call { callee:=.builtin .append,args:=#[s,x],argTypes:=#[t,t] })(ah:∀ d,o.dst=some d->d<X.n)
 (ay:X.E t=some dk) (dW:dk.bE=.slice e) (he:X.E e=some aH)
  (os:a') (bj:os.ok aH.size xs) (ap:bB F s=.val os.val)
 (ae:bB F x=.val (.slice (some ad) m c')) (hm:0<m) (aq:cr I M ad (m*aH.size) bV) (aa:fO bV=true)
 (a1:M.Perm (os.aP e++Mr)) (b1:os.n+m<=maxLen) (cd:(os.n+m)*aH.bytes<=140737488355328)
  (k:∀ (g c:Nat) (aK:List Value),I g=none->aK.length=c*aH.size->os.n+m<=c->c<=maxLen->aK.take ((os.n+m)*aH.size)=xs++bV ->
   K (put o.dst (.val (.slice (some ⟨g,0,none⟩) (os.n+m) c)) F) C I (⟨g,.cells aK.toArray e (0,0)⟩::Mr)):bn X o F C I M K:=by
 refine M3 aN aw ah ay dW ay (λk=>by rw[dW];simp) he os bj ap ae hm ?_ aa (λ_=>rfl) (λw hw=>?_) a1 b1 cd k
 ·obtain⟨_,_,_,_,_,_,h⟩:=aq;exact h
 ·obtain⟨ch,cs,T,al,dS,aj,av⟩:=aq;refine run_firstCells_some (P:=X.P) w aH.size m ad m c' bV av λj v an=>?_;rw[dL _ ch,sL (dS.heap hw)];rw[<-aj,j9]at an;split at an
  ·rw[nZ]at an;simpa using an
  ·cases an
def kU(s:ByteArray):List Value:=s.data.toList.map λb=>.int .u8 b.toNat
def bn.aeE(aN:c2 X.P X.E)(aw:o.op=.call { callee:=.builtin .append,args:=#[s,x],argTypes:=#[t,u] })(ah:∀ d,o.dst=some d->d<X.n)
 (ay:X.E t=some dk) (dW:dk.bE=.slice e) (hu:X.E u=some nu) (fA:nu.bE=.string) (he:X.E e=some aH) (df:aH.size=1)
  (os:a') (bj:os.ok aH.size xs) (ap:bB F s=.val os.val)
  {str:ByteArray} (ae:bB F x=.val (.string str)) (hm:0<str.size)
 (a1:M.Perm (os.aP e++Mr)) (b1:os.n+str.size<=maxLen) (cd:(os.n+str.size)*aH.bytes<=140737488355328)
  (k:∀ (g c:Nat) (aK:List Value),aK.length=c*aH.size->os.n+str.size<=c->c<=maxLen->aK.take ((os.n+str.size)*aH.size)=xs++kU str ->
   K (put o.dst (.val (.slice (some ⟨g,0,none⟩) (os.n+str.size) c)) F) C I (⟨g,.cells aK.toArray e (0,0)⟩::Mr)):bn X o F C I M K:=by
 refine M3 aN aw ah ay dW hu (λk=>by rw[fA];simp) he os bj ap ae hm ?_ ?_ (λ_=>rfl) (λw hw=>?_) a1 b1 cd (λg c aK _=>k g c aK)
 ·simp[kU,df]
 ·refine eP.2 λv aj=>?_;obtain⟨b,_,rfl⟩:=dA.1 aj;rfl
 ·simp only[Builtin.firstCells,c9];congr 1;apply gO;have az:str.extract 0 str.size=str:=by apply tM;simp[Ik]
  simp[kU,az]
end
section
variable{X:c3}{F:Fr}{C:dp}{I:aZ}{M:List aB}{o:Oper}{K:fX}
def TX(ay:P.underlying t=some (.array 4 e))(he:P.underlying e=some (.int k)){inf:TypeInfo}(hi:P.info? e=some inf)(ap:inf.size=1)(fy cu dG dY rY b1 cd dN:Int)(w:World) :
  (Op.equal t (.agg #[.int k fy,.int k cu,.int k dG,.int k dY]) (.agg #[.int k rY,.int k b1,.int k cd,.int k dN])).run P w=.ok (fy == rY&&(cu == b1&&(dG == cd&&dY == dN))) w:=by
 have TY:∀ (xs:Array Value) (i:Nat) (v:Value) (w:World),xs[i]?=some v->(part e xs i).run P w=.ok v w:=λxs i v w h=>by
  have EY:(isAgg e).run P w=.ok false w:=by unfold isAgg;simp[run_underlying he]
  unfold part;simp[EY,sizeOf,typeInfo,hi,ap,h]
 have hint:∀ (d:Nat) (x y:Int) (w:World),(Op.equalIn (d+1) e (.int k x) (.int k y)).run P w=.ok (x == y) w:=λd x y w=>by simp[Op.equalIn,run_underlying he]
 have key:∀ m,(∀ (x y:Int) (w:World),(Op.equalIn m e (.int k x) (.int k y)).run P w=.ok (x == y) w)->(Op.equalIn (m+1) t (.agg #[.int k fy,.int k cu,.int k dG,.int k dY]) (.agg #[.int k rY,.int k b1,.int k cd,.int k dN])).run P w=.ok (fy == rY&&(cu == b1&&(dG == cd&&dY == dN))) w:=λm hint=>by
  rw[Op.equalIn];simp only[cm,run_underlying ay,b3,sizeOf,typeInfo,hi,run_program,c9,ap];simp only[TK];have ak:List.range' 0 ([:4]:Std.Legacy.Range).size=[0,1,2,3]:=by decide
  rw[ak];have pa:=λ(i:Nat) (v:Value) (w:World)=>TY #[.int k fy,.int k cu,.int k dG,.int k dY] i v w;have I6:=λ(i:Nat) (v:Value) (w:World)=>TY #[.int k rY,.int k b1,.int k cd,.int k dN] i v w;simp only[List.forIn_cons,List.forIn_nil,cm];rw[pa (0*1) (.int k fy) w rfl];simp only[b3,cm];rw[I6 (0*1) (.int k rY) w rfl];simp only[b3,cm];rw[hint];simp only[b3];cases(fy == rY);·simp
  simp only[pT,kG,lG,c9,b3,cm];rw[pa (1*1) (.int k cu) w rfl];simp only[b3,cm];rw[I6 (1*1) (.int k b1) w rfl];simp only[b3,cm];rw[hint];simp only[b3];cases(cu == b1);·simp
  simp only[pT,kG,lG,c9,b3,cm];rw[pa (2*1) (.int k dG) w rfl];simp only[b3,cm];rw[I6 (2*1) (.int k cd) w rfl];simp only[b3,cm];rw[hint];simp only[b3];cases(dG == cd);·simp
  simp only[pT,kG,lG,c9,b3,cm];rw[pa (3*1) (.int k dY) w rfl];simp only[b3,cm];rw[I6 (3*1) (.int k dN) w rfl];simp only[b3,cm];rw[hint];simp only[b3];cases(dY == dN);·simp
  simp
 exact key 9999 (hint 9998)
def e'.M6{E:Env}(aN:c2 P E)(ay:E t=some dk)(dW:dk.bE=.array 4 e)(he:E e=some aH)(lN:aH.bE=.int k)(au:P.eqGuardType P.depth t=false){fy cu dG dY rY b1 cd dN:Int}{V:Value->Prop}
  (h:V (.bool (fy == rY&&(cu == b1&&(dG == cd&&dY == dN))))):e' P .eql t x y (.val (.agg #[.int k fy,.int k cu,.int k dG,.int k dY])) (.val (.agg #[.int k rY,.int k b1,.int k cd,.int k dN])) V other:=by
 obtain⟨d,fk,ft⟩:=(aN _ _ ay).fi;obtain⟨p8,M7,M8⟩:=(aN _ _ he).fi;obtain⟨inf,z,hi,fb,_⟩:=(aN _ _ he).inf;have aa:d=.array 4 e:=by rw[dW]at ft;cases d<;>simp_all[e8]
 have ab:p8=.int k:=by rw[lN]at M8;cases p8<;>simp_all[e8]
 subst aa;subst ab;have fs:inf.size=1:=by rw[fb];exact(aN _ _ he).It (by rw[lN];rfl)
 refine .mk _ _ _ rfl rfl (λw=>?_) h;simp only[cm,run_eqGuard_agg (hm:=au),b3,binOp,TX fk M7 hi fs,c9]
def e'.concat{a b:ByteArray}(ap:a.size+b.size<=9223372036854775807){V:Value->Prop}(h:V (.string (a++b))):e' P .add t x y (.val (.string a)) (.val (.string b)) V other:=by refine .mk _ _ _ rfl rfl (λw=>?_) h;simp only[cm,My,b3,binOp,run_string_add_sum _ _ _ ap,c9]
end
section
variable{X:c3}{β:Nat->Nat}{a:Act}{w:World}{F:Fr}{C:dp}{I:aZ}{M:List aB}{o:Oper}{K:fX}
def cV.TZ{n:Nat}{og:Obj}{w':World}(h:cV X β a w F C I (⟨n,og⟩::M))(ap:w'.heap.size=w.heap.size)(ai:∀ b,b≠n->w'.heap[b]?=w.heap[b]?)(aw:n2 w w'):cV X β a w' F C I M:=by
 have fj:(⟨n,og⟩:aB)∈(⟨n,og⟩:aB)::M:=by simp
 have cg:=h.holds.bT;simp only[cY,nh]at cg;exact {
  size:=h.size
  defers:=h.defers.mono λr ak=>by have bK:n≠r:=ak.eK _ fj;refine { ak with aO:=?_,eK:=λx ae=>ak.eK x (by simp[ae]) };rw[ai r (rJ bK)];exact ak.aO
  holds:={
   i:=λb o je=>by rw[ai b (λe=>by have:=h.holds.d _ fj;simp only at this;rw[e,this]at je;cases je)];exact h.holds.i b o je
   m:=λx ae=>by rw[ai _ (λe=>cg.1 (dA.2 ⟨x,ae,e⟩))];exact h.holds.m x (by simp[ae])
   d:=λx ae=>h.holds.d x (by simp[ae])
   bT:=cg.2 }
  al:=h.al
  ck:=λs cs lJ=>by have qU:=h.ck s cs lJ;have bK:n≠β s:=qU.eK _ fj;obtain⟨T,bp⟩:=qU.aO;refine { qU with aO:=⟨T,?_⟩,eK:=λx ae=>qU.eK x (by simp[ae]) };rw[ai _ (rJ bK)];exact bp
  inj:=h.inj
  hI:=h.hI
  hq:=h.hq
  own:=λx ae=>h.own x (by simp[ae])
  du:=λb aR aJ=>by
   rw[ai b (λe=>by
    rcases h.own _ fj with aa | aa;·simp only at aa;exact aJ (e ▸ aa)
    ·simp only at aa;omega)]
   exact h.du b aR aJ
  out:=h.out.trans aw
  sz:=by rw[ap];exact h.sz }
def aeF(w:World)(p:Addr)(n:Nat):(w.freeze p n).heap.size=w.heap.size:=by
 unfold World.freeze;split<;>simp
def aeG(w:World)(p:Addr)(n:Nat):n2 w (w.freeze p n):=by
 unfold World.freeze;split<;>exact⟨rfl,rfl⟩
def aeH(w:World)(p:Addr)(n b:Nat)(h:b≠p.block):(w.freeze p n).heap[b]?=w.heap[b]?:=by
 unfold World.freeze;split
 ·rfl
 ·simp only[Array.getElem?_modify];rw[cb (rJ h)]
def bn.M9(aN:c2 X.P X.E){p n:Operand}(aw:o.op=.call { callee:=.builtin .unsafeString,args:=#[p,n],argTypes:=#[tW,it] })(ah:∀ d,o.dst=some d->d<X.n)
 (ay:X.E tW=some dk) (dW:dk.bE=.pointer e) (he:X.E e=some aH) (lN:aH.size=1)
 {l:List UInt8} (aD:bB F p=.val (.pointer (some ⟨g,0,none⟩))) (aq:bB F n=.val (.int .i64 l.length)) (ar:l≠[]) (Na:l.length<=9223372036854775807)
 (a1:M.Perm (⟨g,.cells cs e (0,0)⟩::Mr)) (lJ:cs.toList.take l.length=l.map λb=>.int .u8 b.toNat)
  (h:K (put o.dst (.val (.string ⟨l.toArray⟩)) F) C I Mr):bn X o F C I M K:=by
 refine⟨λa w Q ⟨β,ki⟩=>?_⟩;have a5:cV X β a w F C I (⟨g,.cells cs e (0,0)⟩::Mr):=ki.h8 (.perm a1 .refl);have au:w.heap[g]?=some (.cells cs e (0,0)):=a5.holds.m ⟨g,.cells cs e (0,0)⟩ (by simp);obtain⟨d,fk,ft⟩:=(aN _ _ ay).fi;have aa:d=.pointer e:=by rw[dW]at ft;cases d<;>simp_all[e8]
 subst aa;obtain⟨inf,z,hi,fb,_⟩:=(aN _ _ he).inf;have aA:X.P.cellsOf e=1:=by simp[Program.cellsOf,hi,fb,lN]
 have bQ:l.length<=cs.size:=by have:=congrArg List.length lJ;simp only[hh,c8,Av]at this;omega
 have eV:=Lib.run_unsafeString_row (P:=X.P) w tW it o.type e fk aA g cs.size (by simp[World.shape?,au]) l ar bQ Na (λj x an=>by
  rw[dL _ rfl,sL au];have ab:(cs.toList.take l.length)[j]?=some (.int .u8 x.toNat):=by rw[lJ];simp[an]
  rw[j9]at ab;split at ab;·simpa using ab
  ·cases ab)
 have Nb:=dh a5.al aD;have eR:=dh a5.al aq;refine il (by rw[aw];simp) (v:=.string ⟨l.toArray⟩) (w':=w.freeze ⟨g,0,none⟩ l.length) ?_ ⟨_,_,_,_,⟨β,cV.put (x:=.val (.string ⟨l.toArray⟩)) (a5.TZ (aeF _ _ _) (λb ai=>aeH _ _ _ _ ai) (aeG _ _ _)) ah rfl⟩,h⟩;unfold execOp;simp only[aw,resolve,invoke,builtin,cm,c9,b3,sW,cY,kR,Nb,eR,eV]
def bn.T0{p n:Operand}(aw:o.op=.call { callee:=.builtin .unsafeString,args:=#[p,n],argTypes:=#[tW,it] })(ah:∀ d,o.dst=some d->d<X.n)
  {q:Option Addr} (aD:bB F p=.val (.pointer q)) (aq:bB F n=.val (.int .i64 0)) (h:K (put o.dst (.val (.string .empty)) F) C I M):bn X o F C I M K:=by
 refine⟨λa w Q ⟨β,a5⟩=>?_⟩;have Nb:=dh a5.al aD;have eR:=dh a5.al aq;refine vc a5 ah (by rw[aw];simp) ?_ h;unfold execOp;simp only[aw,resolve,invoke,builtin,cm,c9,b3,sW,cY,kR,Nb,eR,Lib.run_unsafeString_none]
def bn.T1(aN:c2 X.P X.E)(aw:o.op=.call { callee:=.builtin .copy,args:=#[x,y],argTypes:=#[t,u] })(ah:∀ d,o.dst=some d->d<X.n)
 (ay:X.E t=some dk) (dW:dk.bE=.slice e) (he:X.E e=some aH) (lN:aH.size=1)
 {off dl T2:Nat} {s:ByteArray} (ae:bB F x=.val (.slice (some ⟨g,off,none⟩) dl T2)) (aF:bB F y=.val (.string s)) (bs:s.size<=dl) (ga:off+s.size<=cs.size)
 (a1:M.Perm (⟨g,.cells cs T (0,0)⟩::Mr))
  (h:K (put o.dst (.val (.int .i64 s.size)) F) C I (⟨g,.cells (bo cs.toList off (kU s)).toArray T (0,0)⟩::Mr)):bn X o F C I M K:=by
 refine⟨λa w Q ⟨β,ki⟩=>?_⟩;have a5:cV X β a w F C I (⟨g,.cells cs T (0,0)⟩::Mr):=ki.h8 (.perm a1 .refl);have au:w.heap[g]?=some (.cells cs T (0,0)):=a5.holds.m ⟨g,.cells cs T (0,0)⟩ (by simp);obtain⟨d,fk,ft⟩:=(aN _ _ ay).fi;have aa:d=.slice e:=by rw[dW]at ft;cases d<;>simp_all[e8]
 subst aa;obtain⟨inf,z,hi,fb,_⟩:=(aN _ _ he).inf;have av:(kU s).length=s.size:=by simp[kU]
 have aa:∀ v∈kU s,v.oneCell'=true:=λv aj=>by obtain⟨b,_,rfl⟩:=dA.1 aj;rfl
 have dE:=run_storeCells_at X.P g off T (kU s) 0 cs w au (by rw[av];simpa using ga) aa;simp only[nj]at dE;have xl:Nat.min s.size dl=s.size:=rI bs;have aJ:(Builtin.firstCells inf.size s.size (.string s)).run X.P w=.ok (kU s).toArray w:=TM w inf.size s;have ex:=dh a5.al ae;have mM:=dh a5.al aF;have pg:=a5.vb (bc:=[]) (post:=Mr) (cs':=(bo cs.toList off (kU s)).toArray) rfl;refine il (by rw[aw];simp) (v:=.int .i64 s.size) (w':=w.setRow g (bo cs.toList off (kU s)).toArray) ?_ ⟨_,_,_,_,⟨β,cV.put (x:=.val (.int .i64 s.size)) pg ah rfl⟩,h⟩;have eV:(Builtin.copy_ #[t,u] o.type #[.slice (some ⟨g,off,none⟩) dl T2,.string s]).run X.P w=.ok (.int .i64 s.size) (w.setRow g (bo cs.toList off (kU s)).toArray):=by simp[Builtin.copy_,run_underlying fk,Builtin.lenOf,xl,sizeOf,typeInfo,hi,aJ,dE,bo,goInt]
 unfold execOp;simp only[aw,resolve,invoke,builtin,cm,c9,b3,sW,cY,kR,ex,mM,eV]
end
structure eB(I:aZ)(a:Option Addr)(n c size b:Nat)(vs:List Value):Prop where
 len:vs.length=n*size
 cap:n<=c/\n*b<=140737488355328
 rd:n=0\/∃ ad,a=some ad/\ad.spot=none/\∃ cs T al,I ad.block=some (.cells cs T al)/\(cs.toList.drop ad.off).take (n*size)=vs
def eB.mono{n:Nat}(h:eB I a n c size b vs)(bA:∀ b o,I b=some o->I' b=some o):eB I' a n c size b vs:=
 ⟨h.len,h.cap,h.rd.imp id λ⟨ad,aa,ab,cs,T,al,ag,aW⟩=>⟨ad,aa,ab,cs,T,al,bA _ _ ag,aW⟩⟩
def eB.idx{n:Nat}(h:eB I a n c size b vs)(an:j<n) :
  ∃ ad,a=some ad/\∀ M,cr I M (ad.add (j*size)) size ((vs.drop (j*size)).take size):=by
 obtain⟨av,_,ar | ⟨ad,aC,ap,cs,T,al,bA,aj⟩⟩:=h
 ·omega
 ·refine⟨ad,aC,λM=>?_⟩;have bs:j*size+size<=n*size:=by have:=rH size (show j+1<=n from an);rw[kS,p6]at this;exact this
  refine⟨by rw[dL _ ap],cs,T,al,.inl (by rw[dL _ ap];exact bA),?_,?_⟩;·rw[dL _ ap,<-aj,xj,Ay,rU];congr 1;omega
  ·rw[hh,pb,av];omega
def eB.one{n:Nat}{f:α->Value}{l:List α}(h:eB I a n c 1 b (l.map f))(an:j<n)(hW:j<l.length) :
  ∃ ad,a=some ad/\∀ M,cr I M (ad.add (j*1)) 1 [f l[j]]:=by
 obtain⟨ad,aa,ab⟩:=h.idx an;refine⟨ad,aa,λM=>?_⟩;have:=ab M;rw[fP,<-List.map_drop,<-List.map_take,eE hW,nt,mK]at this;rw[fP];exact this
def xm{α:Type}(f:α->List Value)(size:Nat)(aJ:∀ x,(f x).length=size):∀ (l:List α) (j:Nat) (an:j<l.length),((l.flatMap f).drop (j*size)).take size=f l[j]
 |x::l,0,_=>by simp only[ob,vw,sX,xh];rw[<-aJ x];exact Ax
 |x::l,j+1,an=>by have a7:=xm f size aJ l j (by simpa using an);simp only[ob,I0];rw[<-a7,show(j+1)*size=(f x).length+j*size from by rw[aJ,kS];omega,TL]
def fQ{α:Type}(f:α->List Value)(size:Nat)(aJ:∀ x,(f x).length=size):∀ (l:List α),(l.flatMap f).length=l.length*size
 |[]=>by simp
 |x::l=>by simp[fQ f size aJ l,aJ x,kS];omega
def eB.row{n:Nat}{f:α->List Value}(aJ:∀ x,(f x).length=size){l:List α}(h:eB I a n c size b (l.flatMap f))(an:j<n)(hW:j<l.length) :
  ∃ ad,a=some ad/\∀ M,cr I M (ad.add (j*size)) size (f l[j]):=by
 obtain⟨ad,aa,ab⟩:=h.idx an;refine⟨ad,aa,λM=>?_⟩;have:=ab M;rwa [xm f size aJ l j hW]at this
def cr.part{M:List aB}{a:Addr}{n k:Nat}(h:cr I M a n vs)(af:k+m<=n):cr I M (a.add k) m ((vs.drop k).take m):=by
 obtain⟨ap,cs,T,al,aa,ab,ag⟩:=h;refine⟨by rw[dL _ ap],cs,T,al,by rw[dL _ ap];exact aa,?_,?_⟩
 ·rw[dL _ ap,<-ab,xj,Ay,rU];congr 1;omega
 ·rw[hh,pb,ag];omega
structure aS where
 k:Int
 dT:Int
 s1:Int
 s2:Int
 ec:Int
 t:ByteArray
 lo:Int
 hi:Int
 hk:Option Addr
 kn:Nat
 gR:Nat
 aL:List Int
def aS.cells(d:aS):List Value:=[.int .u8 d.k,.int .u64 d.dT,.int .u64 d.s1,.int .u64 d.s2,.int .u64 d.ec,.string d.t,.int .i64 d.lo,.int .i64 d.hi,.slice d.hk d.kn d.gR]
def aS.val(d:aS):Value:=.agg #[.int .u8 d.k,.int .u64 d.dT,.int .u64 d.s1,.int .u64 d.s2,.int .u64 d.ec,.string d.t,.int .i64 d.lo,.int .i64 d.hi,.slice d.hk d.kn d.gR]
def iT(x:Int):Prop:=-9223372036854775808<=x/\x<=9223372036854775807
def gi(x:Int):Prop:=0<=x/\x<18446744073709551616
structure aS.ok(I:aZ)(d:aS):Prop where
 k:0<=d.k/\d.k<256
 dT:gi d.dT
 s1:gi d.s1
 s2:gi d.s2
 ec:gi d.ec
 t:d.t.size<=9223372036854775807
 lo:iT d.lo
 hi:iT d.hi
 a8:eB I d.hk d.kn d.gR 1 8 (d.aL.map (.int .i64 ·))
 aL:∀ x∈d.aL,iT x
def aS.cD(d:aS):d.cells.length=9:=rfl
def aS.ok.kn{d:aS}(h:d.ok I):d.aL.length=d.kn:=by have:=h.a8.len;simpa using this
structure cB where
 ns:List aS
 a:Option Addr
 n:Nat
 c:Nat
 bD:Int
def cB.cells(t:cB):List Value:=[.slice t.a t.n t.c,.int .i64 t.bD]
def cB.val(t:cB):Value:=.agg #[.slice t.a t.n t.c,.int .i64 t.bD]
structure cB.ok(I:aZ)(t:cB):Prop where
 a8:eB I t.a t.n t.c 9 96 (t.ns.flatMap aS.cells)
 ns:∀ d∈t.ns,d.ok I
 bD:iT t.bD
def cB.ok.n{t:cB}(h:t.ok I):t.ns.length=t.n:=by have:=h.a8.len;rw[fQ _ 9 aS.cD]at this;omega
structure aQ where
 name:ByteArray
 t:cB
def aQ.cells(d:aQ):List Value:=[.string d.name,.slice d.t.a d.t.n d.t.c,.int .i64 d.t.bD]
structure aQ.ok(I:aZ)(d:aQ):Prop where
 name:d.name.size<=140737488355328
 t:d.t.ok I
def aQ.cD(d:aQ):d.cells.length=3:=rfl
structure bJ where
 ds:List aQ
 a:Option Addr
 n:Nat
 c:Nat
def bJ.val(g:bJ):Value:=.agg #[.slice g.a g.n g.c]
structure bJ.ok(I:aZ)(g:bJ):Prop where
 a8:eB I g.a g.n g.c 3 48 (g.ds.flatMap aQ.cells)
 ds:∀ d∈g.ds,d.ok I
def bJ.ok.n{g:bJ}(h:g.ok I):g.ds.length=g.n:=by have:=h.a8.len;rw[fQ _ 3 aQ.cD]at this;omega
def aS.ok.mono{d:aS}(h:d.ok I)(bA:∀ b o,I b=some o->I' b=some o):d.ok I':={ h with a8:=h.a8.mono bA }
def cB.ok.mono{t:cB}(h:t.ok I)(bA:∀ b o,I b=some o->I' b=some o):t.ok I':=⟨h.a8.mono bA,λd ah=>(h.ns d ah).mono bA,h.bD⟩
def aQ.ok.mono{d:aQ}(h:d.ok I)(bA:∀ b o,I b=some o->I' b=some o):d.ok I':=⟨h.name,h.t.mono bA⟩
def bJ.ok.mono{g:bJ}(h:g.ok I)(bA:∀ b o,I b=some o->I' b=some o):g.ok I':=⟨h.a8.mono bA,λd ah=>(h.ds d ah).mono bA⟩
def wrap_i64{x:Int}(h:iT x):IntKind.i64.wrap x=x:=by obtain⟨aa,ab⟩:=h;unfold IntKind.wrap;simp only[IntKind.bits,IntKind.signed];simp;omega
open Go Go.Proofs
def aY(t n:Nat)(a b:Option dU):Option dU:=bif Nat.blt t n then a else b
def p9(n:Nat):Option dU:=some ⟨1,8,[.pointer none],.pointer n⟩
def j1(n:Nat):Option dU:=some ⟨1,24,[.slice none 0 0],.slice n⟩
def g0:Option dU:=none
def b0:Option dU:=some ⟨1,8,[.nilFunc],.other⟩
def Nc:Option dU:=some ⟨1,8,[.int .i64 0],.int .i64⟩
def I7:Option dU:=some ⟨1,1,[.int .u8 0],.int .u8⟩
def Nd:Option dU:=some ⟨1,8,[.int .u64 0],.int .u64⟩
def T3:Option dU:=some ⟨1,8,[.pointer none],.struct [(17,0)]⟩
def T4:Option dU:=some ⟨1,4,[.int .i32 0],.int .i32⟩
def T5:Option dU:=some ⟨2,32,[.slice none 0 0,.int .i64 0],.struct [(26,0),(3,1)]⟩
def T6:Option dU:=some ⟨3,40,[.bool false,.int .i64 0,.slice none 0 0],.struct [(4,0),(3,1),(40,2)]⟩
def T7:Option dU:=some ⟨4,32,[.int .u64 0,.int .u64 0,.int .u64 0,.int .u64 0],.array 4 47⟩
def T8:Option dU:=some ⟨5,40,[.int .u64 0,.int .u64 0,.int .u64 0,.int .u64 0,.bool false],.struct [(49,0),(4,4)]⟩
def T9:Option dU:=some ⟨3,48,[.string ⟨#[]⟩,.slice none 0 0,.int .i64 0],.struct [(9,0),(28,1)]⟩
def T':Option dU:=some ⟨5,48,[.int .u8 0,.int .u8 0,.int .i64 0,.slice none 0 0,.int .i64 0],.struct [(5,0),(5,1),(3,2),(70,3),(3,4)]⟩
def Ua:Option dU:=some ⟨9,96,[.int .u8 0,.int .u64 0,.int .u64 0,.int .u64 0,.int .u64 0,.string ⟨#[]⟩,.int .i64 0,.int .i64 0,.slice none 0 0],.struct [(5,0),(49,1),(9,5),(3,6),(3,7),(70,8)]⟩
def Ub:Option dU:=some ⟨3,8,[.int .i32 0,.int .i16 0,.int .u8 0],.struct [(21,0),(139,1),(5,2)]⟩
def Uc:Option dU:=some ⟨64,512,List.replicate 64 (.int .u64 0),.array 64 47⟩
def Ud:Option dU:=some ⟨10,120,[.int .u8 0,.int .u64 0,.int .u64 0,.int .u64 0,.int .u64 0,.string ⟨#[]⟩,.int .i64 0,.int .i64 0,.slice none 0 0,.slice none 0 0],.struct [(83,0),(70,9)]⟩
def Ue:Option dU:=some ⟨5,20,[.int .i32 0,.int .i32 0,.int .i32 0,.int .i32 0,.int .i32 0],.struct [(21,0),(21,1),(21,2),(21,3),(21,4)]⟩
def I8:Option dU:=some ⟨2,16,[.int .i64 0,.int .i64 0],.struct [(3,0),(3,1)]⟩
def Uf:Option dU:=some ⟨10,88,[.int .u8 0,.int .i64 0,.int .i64 0,.string ⟨#[]⟩,.int .u64 0,.int .u64 0,.int .u64 0,.int .u64 0,.int .i64 0,.int .i64 0],.struct [(5,0),(3,1),(3,2),(9,3),(49,4),(3,8),(3,9)]⟩
def Ug:Option dU:=some ⟨1,24,[.slice none 0 0],.struct [(26,0)]⟩
def Uh:Option dU:=some ⟨6,64,[.string ⟨#[]⟩,.string ⟨#[]⟩,.int .u8 0,.map none,.int .i64 0,.int .i64 0],.struct [(9,0),(9,1),(5,2),(376,3),(3,4),(31,5)]⟩
def hL:Env:=λt=>bif Nat.blt t 410 then(aY t 205 (aY t 102 (aY t 51 (aY t 25 (aY t 12 (aY t 6 (aY t 3 (aY t 1 g0 (aY t 2 b0 Nc)) (aY t 4 Nc (aY t 5 (some ⟨1,1,[.bool false],.bool⟩) I7))) (aY t 9 (aY t 7 I7 (some ⟨4,24,[.int .i64 0,.int .i64 0,.bool false,.int .u8 0],.struct [(2,0),(3,1),(4,2),(6,3)]⟩)) (some ⟨1,16,[.string ⟨#[]⟩],.string⟩))) (aY t 18 (aY t 15 (aY t 13 Nd (some ⟨2,24,[.string ⟨#[]⟩,.int .u64 0],.struct [(9,0),(12,1)]⟩)) (aY t 16 (p9 399) (aY t 17 (p9 402) (p9 409)))) (aY t 21 (aY t 19 T3 (aY t 20 T3 (some ⟨1,16,[.nilIface],.other⟩))) (aY t 23 (aY t 22 T4 (j1 58)) (some ⟨1,24,[.slice none 0 0],.struct [(22,0)]⟩))))) (aY t 38 (aY t 31 (aY t 28 (aY t 26 b0 (aY t 27 (j1 83) T5)) (aY t 29 T5 (aY t 30 b0 (p9 91)))) (aY t 34 (aY t 32 Nc (aY t 33 g0 b0)) (aY t 36 (aY t 35 (j1 46) g0) (aY t 37 b0 (j1 51))))) (aY t 44 (aY t 41 (aY t 39 g0 (aY t 40 b0 (j1 110))) (aY t 42 T6 (aY t 43 T6 g0))) (aY t 47 (aY t 45 b0 (some ⟨3,3,[.bool false,.bool false,.bool false],.struct [(4,0),(4,1),(4,2)]⟩)) (aY t 49 (aY t 48 Nd T7) (aY t 50 T7 T8)))))) (aY t 76 (aY t 63 (aY t 57 (aY t 54 (aY t 52 T8 b0) (aY t 55 b0 (aY t 56 b0 Nd))) (aY t 60 (aY t 58 T9 (aY t 59 T9 b0)) (aY t 61 b0 (aY t 62 g0 b0)))) (aY t 69 (aY t 66 b0 (aY t 67 (j1 72) (aY t 68 b0 g0))) (aY t 72 (aY t 70 b0 (aY t 71 (j1 3) T')) (aY t 74 (aY t 73 T' b0) (aY t 75 g0 b0))))) (aY t 89 (aY t 82 (aY t 79 (aY t 77 b0 (aY t 78 g0 b0)) b0) (aY t 85 (aY t 83 Ua (aY t 84 Ua b0)) (aY t 87 b0 (aY t 88 (j1 9) b0)))) (aY t 95 (aY t 92 (aY t 90 (j1 105) (some ⟨5,112,[.string ⟨#[]⟩,.slice none 0 0,.slice none 0 0,.slice none 0 0,.slice none 0 0],.struct [(9,0),(87,1),(70,2),(26,3),(89,4)]⟩)) b0) (aY t 98 (aY t 96 b0 (aY t 97 (some ⟨1,8,[.map none],.map 9 3⟩) b0)) (aY t 100 (aY t 99 b0 (j1 34)) (aY t 101 g0 b0))))))) (aY t 153 (aY t 127 (aY t 114 (aY t 108 (aY t 105 b0 (aY t 106 (j1 107) (some ⟨4,16,[.int .i64 0,.int .i32 0,.int .u8 0,.int .u8 0],.struct [(2,0),(21,1),(5,2),(5,3)]⟩))) (aY t 111 (aY t 109 b0 (some ⟨3,32,[.string ⟨#[]⟩,.int .i64 0,.int .i64 0],.struct [(9,0),(3,1),(3,2)]⟩)) (aY t 112 b0 (aY t 113 b0 (j1 28))))) (aY t 120 b0 (aY t 123 b0 (aY t 125 b0 (aY t 126 b0 g0))))) (aY t 140 (aY t 133 (aY t 130 (aY t 128 b0 (some ⟨64,64,List.replicate 64 (.bool false),.array 64 4⟩)) b0) (aY t 136 b0 (aY t 138 (aY t 137 (p9 148) g0) (aY t 139 b0 (some ⟨1,2,[.int .i16 0],.int .i16⟩))))) (aY t 146 (aY t 143 (aY t 141 Ub (aY t 142 Ub g0)) (aY t 144 b0 (aY t 145 (j1 206) (j1 269)))) (aY t 149 (aY t 147 (j1 215) (some ⟨7,112,[.string ⟨#[]⟩,.int .i64 0,.int .i64 0,.int .i64 0,.slice none 0 0,.slice none 0 0,.slice none 0 0],.struct [(9,0),(3,1),(3,2),(3,3),(144,4),(145,5),(146,6)]⟩)) b0)))) (aY t 179 (aY t 166 (aY t 159 (aY t 156 (aY t 154 b0 (aY t 155 g0 b0)) (aY t 157 g0 (aY t 158 b0 g0))) (aY t 162 b0 (aY t 164 (aY t 163 g0 b0) b0))) (aY t 172 (aY t 169 b0 (aY t 170 (some ⟨10,80,[.nilFunc,.nilFunc,.nilFunc,.nilFunc,.nilFunc,.nilFunc,.nilFunc,.nilFunc,.nilFunc,.nilFunc],.array 10 168⟩) b0)) (aY t 175 b0 (aY t 177 (aY t 176 b0 (some ⟨10,80,[.nilFunc,.nilFunc,.nilFunc,.nilFunc,.nilFunc,.nilFunc,.nilFunc,.nilFunc,.nilFunc,.nilFunc],.array 10 175⟩)) b0)))) (aY t 192 (aY t 185 (aY t 182 (aY t 180 (some ⟨10,80,[.nilFunc,.nilFunc,.nilFunc,.nilFunc,.nilFunc,.nilFunc,.nilFunc,.nilFunc,.nilFunc,.nilFunc],.array 10 178⟩) (aY t 181 b0 Uc)) (aY t 183 Uc (some ⟨66,528,[.int .i64 0,.int .u64 0,.int .u64 0,.int .u64 0,.int .u64 0,.int .u64 0,.int .u64 0,.int .u64 0,.int .u64 0,.int .u64 0,.int .u64 0,.int .u64 0,.int .u64 0,.int .u64 0,.int .u64 0,.int .u64 0,.int .u64 0,.int .u64 0,.int .u64 0,.int .u64 0,.int .u64 0,.int .u64 0,.int .u64 0,.int .u64 0,.int .u64 0,.int .u64 0,.int .u64 0,.int .u64 0,.int .u64 0,.int .u64 0,.int .u64 0,.int .u64 0,.int .u64 0,.int .u64 0,.int .u64 0,.int .u64 0,.int .u64 0,.int .u64 0,.int .u64 0,.int .u64 0,.int .u64 0,.int .u64 0,.int .u64 0,.int .u64 0,.int .u64 0,.int .u64 0,.int .u64 0,.int .u64 0,.int .u64 0,.int .u64 0,.int .u64 0,.int .u64 0,.int .u64 0,.int .u64 0,.int .u64 0,.int .u64 0,.int .u64 0,.int .u64 0,.int .u64 0,.int .u64 0,.int .u64 0,.int .u64 0,.int .u64 0,.int .u64 0,.int .u64 0,.int .u64 0],.struct [(3,0),(182,1),(47,65)]⟩))) (aY t 188 (aY t 186 g0 b0) (aY t 190 (aY t 189 b0 (j1 4)) b0))) (aY t 198 (aY t 195 b0 (aY t 196 b0 (aY t 197 b0 g0))) (aY t 201 (aY t 199 b0 (aY t 200 (j1 70) g0)) b0)))))) (aY t 307 (aY t 256 (aY t 230 (aY t 217 (aY t 211 (aY t 208 (aY t 206 Ud (aY t 207 Ud (p9 215))) (aY t 209 b0 (aY t 210 b0 (some ⟨10,80,[.nilFunc,.nilFunc,.nilFunc,.nilFunc,.nilFunc,.nilFunc,.nilFunc,.nilFunc,.nilFunc,.nilFunc],.array 10 209⟩)))) (aY t 214 (aY t 212 b0 (aY t 213 (p9 141) b0)) (aY t 215 Ue (aY t 216 Ue g0)))) (aY t 223 (aY t 220 (aY t 218 b0 (aY t 219 g0 b0)) (aY t 221 g0 (aY t 222 (p9 206) I8))) (aY t 226 (aY t 224 I8 (aY t 225 (j1 223) b0)) (aY t 228 b0 (aY t 229 (p9 235) g0))))) (aY t 243 (aY t 236 (aY t 233 (aY t 231 b0 (aY t 232 b0 (j1 274))) (aY t 234 (j1 280) (some ⟨8,160,[.slice none 0 0,.int .i64 0,.int .i64 0,.slice none 0 0,.slice none 0 0,.slice none 0 0,.slice none 0 0,.slice none 0 0],.struct [(232,0),(3,1),(3,2),(26,3),(233,4),(22,5),(232,6),(232,7)]⟩))) (aY t 239 (aY t 237 b0 (aY t 238 (p9 240) (j1 5))) (aY t 241 (some ⟨2,32,[.pointer none,.slice none 0 0],.struct [(237,0),(238,1)]⟩) (some ⟨1,16,[.nilIface],.other⟩)))) (aY t 249 (aY t 246 (aY t 244 g0 b0) (aY t 247 g0 b0)) (aY t 252 b0 (aY t 254 (aY t 253 b0 I8) (aY t 255 I8 (j1 254))))))) (aY t 281 (aY t 268 (aY t 262 (aY t 259 b0 (aY t 260 b0 (aY t 261 b0 (some ⟨2,16,[.int .i64 0,.int .i64 0],.array 2 3⟩)))) (aY t 265 (aY t 263 (some ⟨20,160,List.replicate 20 (.int .i64 0),.array 10 261⟩) b0) b0)) (aY t 274 (aY t 271 (aY t 269 b0 (aY t 270 (j1 141) b0)) (aY t 272 b0 (aY t 273 b0 Uf))) (aY t 277 (aY t 275 Uf (aY t 276 b0 (p9 5))) (aY t 279 (aY t 278 g0 b0) (some ⟨5,96,[.int .u8 0,.string ⟨#[]⟩,.slice none 0 0,.slice none 0 0,.slice none 0 0],.struct [(5,0),(9,1),(70,2),(70,3),(238,4)]⟩))))) (aY t 294 (aY t 287 (aY t 284 (aY t 282 g0 b0) (aY t 285 b0 (aY t 286 (p9 280) b0))) b0) (aY t 300 b0 (aY t 303 b0 (aY t 305 (aY t 304 b0 (some ⟨1,8,[.pointer none],.other⟩)) b0)))))) (aY t 358 (aY t 332 (aY t 319 (aY t 313 (aY t 310 b0 (aY t 311 g0 (aY t 312 b0 Ug))) (aY t 316 (aY t 314 Ug (aY t 315 b0 (some ⟨10,80,[.nilFunc,.nilFunc,.nilFunc,.nilFunc,.nilFunc,.nilFunc,.nilFunc,.nilFunc,.nilFunc,.nilFunc],.array 10 314⟩))) (aY t 317 b0 (aY t 318 (p9 313) b0)))) (aY t 325 (aY t 322 b0 (aY t 323 b0 (aY t 324 b0 (some ⟨1,8,[.map none],.map 5 328⟩)))) (aY t 328 b0 (aY t 330 (aY t 329 b0 g0) (aY t 331 g0 b0))))) (aY t 345 (aY t 338 (aY t 335 (aY t 333 b0 (aY t 334 b0 (some ⟨24,24,List.replicate 24 (.int .u8 0),.array 24 5⟩))) (aY t 336 b0 (aY t 337 b0 g0))) b0) (aY t 351 (aY t 348 (aY t 346 b0 (some ⟨3,24,[.int .i64 0,.int .i64 0,.bool false],.struct [(3,0),(3,1),(4,2)]⟩)) (aY t 349 (j1 347) (aY t 350 (p9 347) b0))) (aY t 354 (aY t 352 b0 (aY t 353 (some ⟨3,48,[.string ⟨#[]⟩,.string ⟨#[]⟩,.string ⟨#[]⟩],.struct [(9,0),(9,1),(9,2)]⟩) (some ⟨30,480,List.replicate 30 (.string ⟨#[]⟩),.array 10 352⟩))) (aY t 356 b0 (aY t 357 (some ⟨20,160,List.replicate 20 (.int .u64 0),.array 20 47⟩) (some ⟨1,4,[.int .u32 0],.int .u32⟩))))))) (aY t 384 (aY t 371 (aY t 364 (aY t 361 (aY t 359 (some ⟨65,65,List.replicate 65 (.int .u8 0),.array 65 5⟩) (aY t 360 b0 g0)) (aY t 362 b0 (aY t 363 b0 g0))) (aY t 367 (aY t 365 b0 (aY t 366 g0 b0)) b0)) (aY t 377 (aY t 374 (aY t 372 (p9 378) b0) (aY t 375 b0 (aY t 376 b0 (some ⟨1,8,[.map none],.map 5 5⟩)))) (aY t 380 (aY t 378 Uh (aY t 379 Uh g0)) b0))) (aY t 397 (aY t 390 (aY t 387 (aY t 385 (j1 386) (aY t 386 b0 (some ⟨2,2,[.int .u8 0,.int .u8 0],.array 2 5⟩))) (aY t 388 (some ⟨3,32,[.int .i64 0,.int .i64 0,.string ⟨#[]⟩],.struct [(3,0),(3,1),(9,2)]⟩) (aY t 389 (some ⟨9,96,[.int .i64 0,.int .i64 0,.string ⟨#[]⟩,.int .i64 0,.int .i64 0,.string ⟨#[]⟩,.int .i64 0,.int .i64 0,.string ⟨#[]⟩],.array 3 387⟩) (some ⟨32,32,List.replicate 32 (.int .u8 0),.array 32 5⟩)))) (aY t 393 (aY t 391 (some ⟨64,64,List.replicate 64 (.int .u8 0),.array 64 5⟩) b0) (aY t 395 b0 (aY t 396 b0 g0)))) (aY t 403 (aY t 400 (aY t 398 b0 (some ⟨4,40,[.pointer none,.pointer none,.pointer none,.string ⟨#[]⟩],.struct [(17,0),(17,1),(17,2),(9,3)]⟩)) (aY t 401 (some ⟨0,0,[],.array 0 16⟩) (some ⟨0,0,[],.struct [(400,0)]⟩))) (aY t 406 (aY t 404 I7 (aY t 405 I7 b0)) (aY t 408 T4 (some ⟨11,48,[.int .u64 0,.int .u64 0,.int .u32 0,.int .u8 0,.int .u8 0,.int .u8 0,.int .u8 0,.nilFunc,.pointer none,.int .i32 0,.int .i32 0],.struct [(12,0),(12,1),(357,2),(403,3),(5,4),(5,5),(404,6),(405,7),(276,8),(406,9),(407,10)]⟩)))))))))else none
def aV:c2 Tryz.prog hL:=adM 410 (λt h=>by
 have aX:Nat.blt t 410=false:=by
  cases ai:Nat.blt t 410 with
  |false=>rfl| true=>exact absurd (bS ai) (by omega)
 simp only[hL,aX,bh]) (by kernel_rfl)
def letter(c:UInt8):Bool:=decide (97<=c.toNat/\c.toNat<=122)||(decide (65<=c.toNat/\c.toNat<=90)||decide (c.toNat=95))
def digit(c:UInt8):Bool:=decide (48<=c.toNat/\c.toNat<=57)
def Ui(I:aZ)(c:UInt8):Spec Tryz.prog 203 [.int .u8 c.toNat] I [] (λv I' M'=>v=.bool (letter c)/\I'=I/\M'=[]):=by
 refine bN [] aV Tryz.func203 rfl rfl rfl ?_;intro B ar
 repeat' (refine b4.mk (λh=>?_) (λh=>?_))
 all_goals
  refine⟨_,_,.refl,?_⟩;refine⟨?_,rfl,rfl⟩;simp_all[letter]
  all_goals first
   |omega|(rw[oY];simp;omega)
def aeI(I:aZ)(c:UInt8):Spec Tryz.prog 204 [.int .u8 c.toNat] I [] (λv I' M'=>v=.bool (digit c)/\I'=I/\M'=[]):=by
 refine bN [] aV Tryz.func204 rfl rfl rfl ?_;intro B ar
 repeat' (refine b4.mk (λh=>?_) (λh=>?_))
 all_goals
  refine⟨_,_,.refl,?_⟩;refine⟨?_,rfl,rfl⟩;simp_all[digit]
  all_goals first
   |omega|(rw[oY];simp;omega)
def AE(s:ByteArray):s.data.toList.length=s.size:=Av
def aeJ(I:aZ)(s:ByteArray)(ap:s.size<=140737488355328):Spec Tryz.prog 230 [.string s] I [] (λv I' M'=>v=.string s/\I'=I/\M'=[]):=by
 refine bN [] aV Tryz.func230 rfl rfl rfl ?_;intro B ar;refine aU.mk (λh=>?_) (λh=>?_)
 ·refine⟨_,_,.refl,?_,rfl,rfl⟩;have aa:s.size=0:=by simpa using h
  have:s=.empty:=by apply tM;exact MT aa
  rw[this];rfl
 ·have aa:s.size≠0:=by simpa using h
  refine n1.mk s.size s.size rfl rfl (cj _) (by show 1*s.size<=_;omega) (by omega) ?_;refine b8.mk λb ai ph=>?_;refine bn.T1 aV rfl (by simp) (e:=5) rfl rfl rfl rfl rfl rfl (cj _) ?_ (.refl _) ?_;·simp[w1,madeCells]
  refine bi.mk ⟨b,0,none⟩ 0 rfl rfl (by omega) ?_;refine bn.M9 aV rfl (by simp) (e:=5) rfl rfl rfl rfl (g:=b) (l:=s.data.toList) rfl ?_ ?_ ?_ (.refl _) ?_ ?_;·show dn.val (.int .i64 (s.size:Int))=dn.val (.int .i64 (s.data.toList.length:Int));rw[AE]
  ·intro e;have:=congrArg List.length e;rw[AE]at this;exact aa this
  ·rw[AE];omega
  ·rw[AE];have av:(kU s).length=s.size:=by simp[kU]
   simp only[bo];rw[mK,jZ,CB (by rw[av];exact cj _),<-av,List.take_length];rfl
  ·exact⟨_,_,.refl,rfl,rfl,rfl⟩
def Uj(I:aZ)(s:ByteArray)(ap:s.size<=140737488355328):Spec Tryz.prog 205 [.string s] I [] (λv I' M'=>v=.string s/\I'=I/\M'=[]):=by refine bN [] aV Tryz.func205 rfl rfl rfl ?_;intro B ar;refine a9.mk [] [] _ (.refl _) (aeJ I s ap) ?_;rintro v I' M' -⟨rfl,rfl,rfl⟩;exact⟨_,_,.refl,rfl,rfl,rfl⟩
def s3(c:UInt8):Bool:=letter c||digit c
def s4(s:ByteArray):Nat:=match s.data.toList with
 |[]=>0| c::r=>bif letter c then 1+(r.takeWhile s3).length else 0
def Uk{α:Type}(p:α->Bool):∀ (l:List α) (i:Nat),i<=l.length->(∀ j (h:j<l.length),j<i->p l[j]=true)->(∀ (h:i<l.length),p l[i]=false)->(l.takeWhile p).length=i
 |[],i,h,_,_=>by simp at h;simp[h]
 |x::l,0,_,_,h=>by have:=h (by simp);simp only[xh]at this;simp[this]
 |x::l,i+1,hi,aa,ab=>by have ae:=aa 0 (by simp) (by omega);simp only[xh]at ae;have a7:=Uk p l i (by simpa using hi) (λj an sT=>by have:=aa (j+1) (by simpa using an) (by omega);simpa using this) (λh=>by have:=ab (by simpa using h);simpa using this);simp[ae,a7]
def aeK{s:ByteArray}(ar:0<s.size)(av:letter s[0]=true)(aa:1<=i)(hi:i<=s.size)(aC:∀ j (h:j<s.size),1<=j->j<i->s3 s[j]=true)(ai:∀ (h:i<s.size),s3 s[i]=false):s4 s=i:=by
 have get:∀ j (h:j<s.size),s[j]=s.data.toList[j]'(by rw[AE];exact h):=λj h=>rfl;unfold s4;have bQ:=AE s;cases ah:s.data.toList with
 |nil=>rw[ah]at bQ;simp at bQ;omega
 |cons c r=>
  have g:∀ j (h:j<s.size),s[j]=(c::r)[j]'(by rw[<-ah,bQ];exact h):=λj h=>by rw[get j h];simp only[ah]
  rw[ah]at bQ;have aA:letter c=true:=by rw[g 0 ar]at av;simpa using av
  simp only[aA,bl];simp only[ea]at bQ;rw[Uk s3 r (i-1) (by omega) (λj an sT=>by
   have ag:j+1<s.size:=by omega
   have:=aC (j+1) ag (by omega) (by omega);rw[g (j+1) ag]at this;simpa using this) (λh=>by
   have ag:i<s.size:=by omega
   have:=ai ag;rw[g i ag]at this;have e:i=(i-1)+1:=by omega
   rw[List.getElem_cons]at this;rw[dif_neg (by omega)]at this;exact this)]
  omega
def aeL(I:aZ)(s:ByteArray)(ap:s.size<=140737488355328):Spec Tryz.prog 134 [.string s] I [] (λv I' M'=>v=.string (s.extract 0 (s4 s))/\I'=I/\M'=[]):=by
 refine bN [] aV Tryz.func134 rfl rfl rfl ?_;intro B ar;have cG:∀ {s:ByteArray},s4 s=0->s.extract 0 (s4 s)=⟨#[]⟩:=λh=>by rw[h];apply tM;simp[Ik]
 refine b4.mk (λh=>?_) (λh=>?_)
 ·have aa:s≠⟨#[]⟩:=by simpa using h
  have jV:0<s.size:=by refine Nat.pos_of_ne_zero λe=>aa ?_;apply tM;exact MT e
  refine yy.mk 0 rfl jV ?_;refine a9.mk [] [] _ (.refl _) (Ui I s[0]) ?_;rintro v I' M' -⟨rfl,rfl,rfl⟩;refine aU.mk (λh=>?_) (λh=>?_)
  ·have av:letter s[0]=false:=by simpa using h
   refine⟨_,_,.refl,?_,rfl,rfl⟩;rw[cG]
   ·unfold s4;cases ah:s.data.toList with
    |nil=>rfl
    |cons c r=>
     have:s[0]=c:=by show s.data.toList[0]=c;simp only[ah];rfl
     rw[this]at av;simp[av]
  ·have av:letter s[0]=true:=by simpa using h
   refine c4.inv (ι:=Nat) (λi=>{ bu:=[(0,.val (.string s)),(3,.val (.int .i64 i))],cS:=I' }) (λi=>1<=i/\i<=s.size/\∀ j (h:j<s.size),1<=j->j<i->s3 s[j]=true) (λi=>s.size-i) ?_ ?_;·exact⟨1,⟨by omega,by omega,λj _ aa ab=>by omega⟩,.refl,xb,.nil⟩
   ·rintro i⟨fb,hV,iq⟩;have next:∀ (aR:i<s.size),s3 s[i]=true->(1<=i+1/\i+1<=s.size/\∀ k (h:k<s.size),1<=k->k<i+1->s3 s[k]=true)/\s.size-(i+1)<s.size-i:=λaR aA=>
     ⟨⟨by omega,by omega,λj an aa ab=>by
      by_cases e:j=i;·subst e;exact aA
      ·exact iq j an aa (by omega)⟩,by omega⟩
    have out:(∀ (h:i<s.size),s3 s[i]=false)->s.extract 0 i=s.extract 0 (s4 s):=λaq=>by rw[aeK jV av fb hV iq aq]
    have df:(s.extract 0 i).size<=140737488355328:=by rw[MU];omega
    have fu:IntKind.i64.wrap ((i:Int)+1)=((i+1:Nat):Int):=by rw[wrap_i64 ⟨by omega,by omega⟩];omega
    refine b4.mk (λh=>?_) (λh=>?_)
    ·have aR:i<s.size:=by simpa using h
     refine yy.mk i rfl aR ?_;refine a9.mk [] [] _ (.refl _) (Ui I' s[i]) ?_;rintro v I' M' -⟨rfl,rfl,rfl⟩;refine b4.mk (λh=>?_) (λh=>?_)
     ·refine yy.mk i rfl aR ?_;refine a9.mk [] [] _ (.refl _) (aeI _ s[i]) ?_;rintro v I' M' -⟨rfl,rfl,rfl⟩;refine aU.mk (λab=>?_) (λab=>?_)
      ·refine bd.mk _ fu ?_;exact⟨i+1,next aR (by simp only[s3];rw[show digit s[i]=true from ab];simp),.refl,xb,.nil⟩
      ·refine ik.mk 0 i rfl rfl (by omega) (by omega) ?_;refine a9.mk [] [] _ (.refl _) (Uj _ _ df) ?_;rintro v I' M' -⟨rfl,rfl,rfl⟩;refine⟨_,_,.refl,?_,rfl,rfl⟩;rw[<-out λ_=>by simp only[s3];rw[show letter s[i]=false from h,show digit s[i]=false from ab];rfl]
     ·refine bd.mk _ fu ?_;exact⟨i+1,next aR (by simp only[s3];rw[show letter s[i]=true from h];simp),.refl,xb,.nil⟩
    ·have cP:¬ i<s.size:=by simpa using h
     refine ik.mk 0 i rfl rfl (by omega) (by omega) ?_;refine a9.mk [] [] _ (.refl _) (Uj _ _ df) ?_;rintro v I' M' -⟨rfl,rfl,rfl⟩;refine⟨_,_,.refl,?_,rfl,rfl⟩;rw[<-out λh=>(cP h).elim]
 ·have aa:s=⟨#[]⟩:=by simpa using h
  subst aa;refine⟨_,_,.refl,?_,rfl,rfl⟩;rw[cG];rfl
def kl(s:ByteArray):Bool:=decide (s≠⟨#[]⟩)&&(decide (s.size<=32)&&decide (s4 s=s.size))
def aeM(s:ByteArray):s4 s<=s.size:=by
 unfold s4;have av:=AE s;cases ah:s.data.toList with
 |nil=>simp
 |cons c r=>
  rw[ah]at av;simp only[ea]at av;simp only;cases letter c;·simp
  ·simp only[bl];have:=(List.takeWhile_sublist (p:=s3) (l:=r)).length_le;omega
def Nf(I:aZ)(s:ByteArray):Spec Tryz.prog 87 [.string s] I [] (λv I' M'=>v=.bool (kl s)/\I'=I/\M'=[]):=by
 refine bN [] aV Tryz.func87 rfl rfl rfl ?_;intro B ar;refine b4.mk (λaa=>?_) (λaa=>?_)
 ·refine b4.mk (λab=>?_) (λab=>?_)
  ·have ix:s.size<=32:=by simp at ab;omega
   refine a9.mk [] [] _ (.refl _) (aeL I s (by omega)) ?_;rintro v I' M' -⟨rfl,rfl,rfl⟩;refine⟨_,_,.refl,?_,rfl,rfl⟩;have bs:=aeM s;have az:(s.extract 0 (s4 s)).size=s4 s:=by rw[MU];omega
   simp_all[kl]
   all_goals omega
  ·refine⟨_,_,.refl,?_,rfl,rfl⟩;simp_all[kl]
   all_goals omega
 ·refine⟨_,_,.refl,?_,rfl,rfl⟩;simp_all[kl]
def mN:List Int:=[0,0,0,0,0,0,0,0,2,-1,2,-1,1,1,1,1,1,1,1,1]
def s5(k:Nat):Int:=mN.getD (k*2) 0
def p'(k:Nat):Int:=mN.getD (k*2+1) 0
def q0(I:aZ):Prop:=∃ T al,I 0=some (.cells (mN.map (Value.int .i64)).toArray T al)
def q0.rd(h:q0 I)(M:List aB)(an:j<20):cr I M (Addr.add ⟨0,0,none⟩ j) 1 [.int .i64 (mN.getD j 0)]:=by
 obtain⟨T,al,h⟩:=h;rw[dL _ rfl];refine⟨rfl,_,T,al,.inl h,?_,rfl⟩;simp only[c0];have:∀ j:Fin 20,(((mN.map (Value.int .i64)).toArray.toList.drop j.val).take 1)=[Value.int .i64 (mN.getD j.val 0)]:=by
  intro j;have aa:j.val<(mN.map (Value.int .i64)).length:=by simp[mN]
  rw[ER,eE aa,nt,mK];have ab:j.val<mN.length:=by simp[mN]
  simp[cC,ab]
 exact this ⟨j,an⟩
def q0.aeN(h:q0 I)(M:List aB)(an:i+j<20):cr I M ((Addr.add ⟨0,0,none⟩ i).add j) 1 [.int .i64 (mN.getD (i+j) 0)]:=by
 have e:(Addr.add ⟨0,0,none⟩ i).add j=Addr.add ⟨0,0,none⟩ (i+j):=by rw[dL ⟨_,0,none⟩ rfl i,dL _ rfl j,dL _ rfl (i+j)];simp
 rw[e];exact h.rd M an
def aS.qa(d:aS):Bool:=d.dT == 0&&(d.s1 == 0&&(d.s2 == 0&&d.ec == 0))
def fits(d:aS)(n:Int):Bool:=
 bif decide (10<=d.k)then false else
 bif decide (n<s5 d.k.toNat)||(decide (0<=p' d.k.toNat)&&decide (p' d.k.toNat<n))then false else
 bif decide (d.k=1)then decide (d.t=⟨#[]⟩)&&(decide (d.lo=0)&&decide (d.hi=0))else
 bif decide (d.k=2)then(!(decide (d.t=⟨#[]⟩)||decide (255<d.t.size)))&&(d.qa&&(decide (d.lo=0)&&decide (d.hi=0)))else
 bif decide (d.k=3)||decide (d.k=9)then kl d.t&&(d.qa&&(decide (d.lo=0)&&decide (d.hi=0)))else
 bif decide (d.k=6)then(!(decide (d.lo<0)||(decide (99<d.lo)||(decide (d.hi≠-1)&&(decide (d.hi<d.lo)||decide (99<d.hi))))))&&(d.qa&&decide (d.t=⟨#[]⟩))else
 d.qa&&(decide (d.t=⟨#[]⟩)&&(decide (d.lo=0)&&decide (d.hi=0)))
def Ul(aA:q0 I){d:aS}(ah:d.ok I)(n:Int):Spec Tryz.prog 102 [d.val,.int .i64 n] I [] (λv I' M'=>v=.bool (fits d n)/\I'=I/\M'=[]):=by
 refine bN [] aV Tryz.func102 rfl rfl rfl ?_;intro B ar;have af:=ah.k;refine bd.mk d.k (by unfold IntKind.wrap;simp[IntKind.bits,IntKind.signed];omega) ?_;refine aU.mk (λh=>?_) (λh=>?_)
 ·refine⟨_,_,.refl,?_,rfl,rfl⟩;simp at h;simp[fits,h]
 ·have pi:d.k<10:=by simpa using h
  have an:d.k=((d.k.toNat:Nat):Int):=by omega
  have Um:d.k.toNat<10:=by omega
  refine c5.draw aV rfl rfl rfl ?_;refine dV.mk d.k.toNat an Um ?_;refine dV.mk 0 rfl (by omega) ?_;refine aI.mk [.int .i64 (s5 d.k.toNat)] (aA.rd _ (j:=d.k.toNat*2) (by omega)) ?_;refine dV.mk d.k.toNat an Um ?_;refine dV.mk 1 rfl (by omega) ?_;refine aI.mk [.int .i64 (p' d.k.toNat)] (aA.aeN _ (i:=d.k.toNat*2) (j:=1) (by omega)) ?_
  repeat' first
   |refine b4.mk (λh=>?_) (λh=>?_)| refine aU.mk (λh=>?_) (λh=>?_)| refine e'.M6 aV (e:=47) rfl rfl rfl rfl (by kernel_rfl) ?_|(refine a9.mk [] [] _ (.refl _) (Nf _ _) ?_;rintro v I' M' -⟨rfl,rfl,rfl⟩)
  all_goals refine⟨_,_,.refl,?_⟩
  all_goals refine⟨?_,rfl,rfl⟩
  all_goals clear aA ah an
  all_goals (first | (simp_all[fits,aS.qa];done) | (simp_all[fits,aS.qa];omega) | (simp_all[fits,aS.qa];rw[oY];simp;omega))
def km(i:Nat):List Int->List Bool->Option (List Bool)
 |[],s=>some s| k::ks,s=>bif decide (k<0)||(decide ((i:Int)<=k)||s.getD k.toNat false)then none else km i ks (s.set k.toNat true)
def iU:Nat->List aS->List Bool->Option (List Bool)
 |_,[],s=>some s
 |i,d::ds,s=>bif fits d d.aL.length then(match km i d.aL s with
  |some cc=>iU (i+1) ds cc| none=>none)else none
def q1(bD:Int):Nat->List Bool->Bool
 |_,[]=>true| i,b::s=>bif b == decide ((i:Int)=bD)then false else q1 bD (i+1) s
def right(t:cB):Bool:=decide (0<=t.bD)&&(decide (t.bD<t.ns.length)&&(match iU 0 t.ns (List.replicate t.ns.length false)with
 |some s=>q1 t.bD 0 s| none=>false))
def yS(v:Value)(n:Nat):rowOf [v] n=List.replicate n v:=by
 apply xi
 ·simp[w1,madeCells]
 ·intro i aa ab;simp[w1,madeCells,Nat.mod_one]
def ml(b:Nat)(s:List Bool):aB:=⟨b,.cells (s.map Value.bool).toArray 4 (0,0)⟩
def I9{M:List aB}{s:List Bool}(a1:ml b s∈M)(an:j<s.length):cr I M ((⟨b,0,none⟩:Addr).add (j*1)) 1 [.bool s[j]]:=by
 rw[dL _ rfl];refine⟨rfl,_,4,(0,0),.inr ⟨_,a1,rfl,rfl⟩,?_,rfl⟩;have aa:j<(s.map Value.bool).length:=by simpa using an
 simp only[c0,fP];rw[eE aa,nt,mK];simp
def FD(s:List Bool)(j:Nat)(an:j<s.length)(b:Bool):bo (s.map Value.bool) j [.bool b]=(s.set j b).map Value.bool:=by unfold bo;rw[Fs,Fl];simp[an]
def cp.add{M:List aB}{o k:Nat}(bc post:List aB)(cs:Array Value)(T:Nat)(a1:M=bc++⟨b,.cells cs T (0,0)⟩::post)(ai:o+k+vs.length<=cs.size)(aa:fO vs=true)
  (h:K (bc++⟨b,.cells (bo cs.toList (o+k) vs).toArray T (0,0)⟩::post)):cp M ((⟨b,o,none⟩:Addr).add k) vs K:=by
 rw[dL _ rfl];exact .mk bc post cs T a1 rfl ai aa h
def cp.jj{M:List aB}{o k:Nat}(bc post:List aB)(cs:List Value)(T:Nat)(a1:M=bc++⟨b,.cells cs.toArray T (0,0)⟩::post)(ai:Nat.ble (o+k+vs.length) cs.length=true)(aa:fO vs=true)(cs':List Value)(he:bo cs (o+k) vs=cs')(h:K (bc++⟨b,.cells cs'.toArray T (0,0)⟩::post)):cp M ((⟨b,o,none⟩:Addr).add k) vs K:=
 cp.add bc post _ _ a1 (by simpa using bS ai) aa (by rw[<-he]at h;exact h)
def xn(aA:q0 I){t:cB}(ay:t.ok I):Spec Tryz.prog 53 [t.val] I [] (λv I' M'=>v=.bool (right t)/\I'=I/\M'=[]):=by
 refine bN [] aV Tryz.func53 rfl rfl rfl ?_;intro B ar;have aq:=ay.n;have hz:=ay.a8.cap;refine b4.mk (λaa=>?_) (λaa=>?_)
 ·refine aU.mk (λab=>?_) (λab=>?_)
  ·refine⟨_,_,.refl,?_,rfl,rfl⟩;simp at ab;have:¬ t.bD<t.ns.length:=by omega
   simp[right,this]
  ·have a3:0<=t.bD:=by simpa using aa
   have a6:t.bD<t.ns.length:=by simp at ab;omega
   refine n1.mk t.n t.n rfl rfl (cj _) (by show 1*t.n<=_;omega) (by omega) ?_;refine b8.mk λb ai ph=>?_;refine c4.inv (ι:=Nat×List Bool) (λx=>{ bu:=[(1,.ref 1 0),(3,.val (.slice (some ⟨b,0,none⟩) t.n t.n)),(26,.val (.slice t.a t.n t.c)),(27,.val (.int .i64 t.n)),(28,.val (.int .i64 x.1))],cl:=[(1,t.cells)],cS:=I,db:=[ml b x.2] }) (λx=>x.1<=t.n/\x.2.length=t.n/\iU 0 t.ns (List.replicate t.ns.length false)=iU x.1 (t.ns.drop x.1) x.2) (λx=>t.n-x.1) ?_ ?_;·refine⟨(0,List.replicate t.n false),⟨by omega,by simp,by simp[aq]⟩,?_,gS,.cons rfl .nil⟩;show jd _ _ [⟨b,.cells (rowOf [Value.bool false] (t.n*1)).toArray 4 (0,0)⟩] _ [ml b (List.replicate t.n false)];rw[yS,fP];simp only[ml,I2];exact .refl
   ·rintro⟨i,s⟩⟨fb,hV,iq⟩;simp only at fb hV iq;refine aU.mk (λh=>?_) (λh=>?_)
    ·have aR:i<t.n:=by simpa using h
     have bZ:i<t.ns.length:=by omega
     obtain⟨ad,bF,bk⟩:=ay.a8.row aS.cD aR bZ;have jk:=ay.ns t.ns[i] (cJ bZ);have dS:=jk.kn;have ko:t.ns.drop i=t.ns[i]::t.ns.drop (i+1):=eE bZ;refine bi.mk ad i bF rfl aR ?_;refine aI.mk t.ns[i].cells (bk _) ?_;refine a9.mk [] [ml b s] _ (.refl _) (Ul aA jk t.ns[i].kn) ?_;rintro v I' M' -⟨rfl,rfl,rfl⟩;refine aU.mk (λag=>?_) (λag=>?_)
     ·refine⟨_,_,.sub (fZ _) .refl,?_,rfl,rfl⟩;have aJ:fits t.ns[i] t.ns[i].aL.length=false:=by rw[dS];simpa using ag
      have:right t=false:=by unfold right;rw[iq,ko];simp[iU,aJ]
      rw[this]
     ·have aJ:fits t.ns[i] t.ns[i].aL.length=true:=by rw[dS];simpa using ag
      refine c4.inv (ι:=Nat×List Bool) (λx=>{ bu:=[(1,.ref 1 0),(3,.val (.slice (some ⟨b,0,none⟩) t.n t.n)),(4,.val (.int .i64 i)),(26,.val (.slice t.a t.n t.c)),(27,.val (.int .i64 t.n)),(28,.val (.int .i64 i)),(40,.val (.slice t.ns[i].hk t.ns[i].kn t.ns[i].gR)),(41,.val (.int .i64 t.ns[i].kn)),(42,.val (.int .i64 x.1))],cl:=[(1,t.cells)],cS:=I',db:=[ml b x.2] }) (λx=>x.1<=t.ns[i].kn/\x.2.length=t.n/\km i t.ns[i].aL s=km i (t.ns[i].aL.drop x.1) x.2) (λx=>t.ns[i].kn-x.1) ?_ ?_;·exact⟨(0,s),⟨by omega,hV,rfl⟩,.refl,o4,.cons rfl .nil⟩
      ·rintro⟨j,cc⟩⟨qb,lO,CK⟩;simp only at qb lO CK;refine aU.mk (λh=>?_) (λh=>?_)
       ·have fl:j<t.ns[i].kn:=by simpa using h
        have kp:j<t.ns[i].aL.length:=by omega
        obtain⟨fR,fS,e2⟩:=jk.a8.one fl kp;refine bi.mk fR j fS rfl fl ?_;refine aI.mk [.int .i64 t.ns[i].aL[j]] (e2 _) ?_;have hZ:t.ns[i].aL.drop j=t.ns[i].aL[j]::t.ns[i].aL.drop (j+1):=eE kp;have bad:(decide (t.ns[i].aL[j]<0)||(decide ((i:Int)<=t.ns[i].aL[j])||cc.getD t.ns[i].aL[j].toNat false))=true->right t=false:=λai=>by unfold right;rw[iq,ko];simp only[iU,aJ,bl,CK,hZ,km,ai];simp
        refine b4.mk (λaW=>?_) (λaW=>?_)
        ·refine b4.mk (λbC=>?_) (λbC=>?_)
         ·simp only[nr,Int.not_lt,Int.not_le]at aW bC;have e3:t.ns[i].aL[j]=((t.ns[i].aL[j].toNat:Nat):Int):=by omega
          have cw:t.ns[i].aL[j].toNat<t.n:=by omega
          have j2:t.ns[i].aL[j].toNat<cc.length:=by omega
          refine bi.mk ⟨b,0,none⟩ t.ns[i].aL[j].toNat rfl e3 cw ?_;refine aI.mk [.bool cc[t.ns[i].aL[j].toNat]] (I9 (by simp) j2) ?_;refine aU.mk (λbP=>?_) (λbP=>?_);·refine⟨_,_,.sub (fZ _) .refl,?_,rfl,rfl⟩;rw[bad];simp[cC,j2,bP]
          ·refine bi.mk ⟨b,0,none⟩ t.ns[i].aL[j].toNat rfl e3 cw ?_;refine cp.add [] [] _ 4 rfl ?_ rfl ?_
           ·simp only[mE,c8];show 0+t.ns[i].aL[j].toNat*1+1<=_;omega
           have fu:IntKind.i64.wrap ((j:Int)+1)=((j+1:Nat):Int):=by rw[wrap_i64 ⟨by omega,by have:=jk.a8.cap;omega⟩];omega
           refine bd.mk _ fu ?_;refine⟨(j+1,cc.set t.ns[i].aL[j].toNat true),⟨⟨by omega,by simp[lO],?_⟩,by show _<_;simp only;omega⟩,?_,o4,.cons rfl .nil⟩
           ·simp only;rw[CK,hZ];have aM:(decide (t.ns[i].aL[j]<0)||(decide ((i:Int)<=t.ns[i].aL[j])||cc.getD t.ns[i].aL[j].toNat false))=false:=by
             have az:¬ t.ns[i].aL[j]<0:=by omega
             have aE:¬ (i:Int)<=t.ns[i].aL[j]:=by omega
             simp[az,aE,cC,j2,show cc[t.ns[i].aL[j].toNat]=false from bP]
            simp only[km,aM,bh]
           ·have e:=FD cc t.ns[i].aL[j].toNat j2 true;simp only[ml];rw[<-e];simp only[c0,fP];exact .refl
         ·refine⟨_,_,.sub (fZ _) .refl,?_,rfl,rfl⟩;rw[bad];simp at bC;simp[bC]
        ·refine⟨_,_,.sub (fZ _) .refl,?_,rfl,rfl⟩;rw[bad];simp at aW;simp[aW]
       ·have fl:¬ j<t.ns[i].kn:=by simpa using h
        have AF:t.ns[i].aL.drop j=[]:=ji (by omega);have fu:IntKind.i64.wrap ((i:Int)+1)=((i+1:Nat):Int):=by rw[wrap_i64 ⟨by omega,by omega⟩];omega
        refine bd.mk _ fu ?_;refine⟨(i+1,cc),⟨⟨by omega,lO,?_⟩,by show _<_;simp only;omega⟩,.refl,gS,.cons rfl .nil⟩;simp only;rw[iq,ko];simp only[iU,aJ,bl,CK,AF,km]
    ·have cP:¬ i<t.n:=by simpa using h
     have gE:t.ns.drop i=[]:=ji (by omega);have hr:iU 0 t.ns (List.replicate t.ns.length false)=some s:=by rw[iq,gE];rfl
     have ak:right t=q1 t.bD 0 s:=by unfold right;rw[hr];simp[a3,a6]
     refine c4.inv (ι:=Nat) (λm=>{ bu:=[(1,.ref 1 0),(64,.val (.slice (some ⟨b,0,none⟩) t.n t.n)),(65,.val (.int .i64 t.n)),(66,.val (.int .i64 m))],cl:=[(1,t.cells)],cS:=I,db:=[ml b s] }) (λm=>m<=t.n/\q1 t.bD 0 s=q1 t.bD m (s.drop m)) (λm=>t.n-m) ?_ ?_;·exact⟨0,⟨by omega,rfl⟩,.refl,ey,.cons rfl .nil⟩
     ·rintro m⟨Ng,xo⟩;refine aU.mk (λh=>?_) (λh=>?_)
      ·have iV:m<t.n:=by simpa using h
       have q2:m<s.length:=by omega
       have q3:s.drop m=s[m]::s.drop (m+1):=eE q2;refine bi.mk ⟨b,0,none⟩ m rfl rfl iV ?_;refine aI.mk [.bool s[m]] (I9 (by simp) q2) ?_;refine aU.mk (λeo=>?_) (λeo=>?_)
       ·refine⟨_,_,.sub (fZ _) .refl,?_,rfl,rfl⟩;have:right t=false:=by rw[ak,xo,q3];simp only[q1,show(s[m] == decide ((m:Int)=t.bD))=true from eo,bl]
        rw[this]
       ·have fu:IntKind.i64.wrap ((m:Int)+1)=((m+1:Nat):Int):=by rw[wrap_i64 ⟨by omega,by omega⟩];omega
        refine bd.mk _ fu ?_;refine⟨m+1,⟨⟨by omega,?_⟩,by omega⟩,.refl,ey,.cons rfl .nil⟩;rw[xo,q3];simp only[q1,show(s[m] == decide ((m:Int)=t.bD))=false from eo,bh]
      ·have iV:¬ m<t.n:=by simpa using h
       have q3:s.drop m=[]:=ji (by omega);refine⟨_,_,.sub (fZ _) .refl,?_,rfl,rfl⟩;rw[ak,xo,q3];rfl
 ·refine⟨_,_,.refl,?_,rfl,rfl⟩;have:¬ 0<=t.bD:=by simp at aa;omega
  simp[right,this]
def iy(b:Nat)(s:List Int):aB:=⟨b,.cells (s.map (Value.int .i64)).toArray 3 (0,0)⟩
def Nh{M:List aB}{s:List Int}(a1:iy b s∈M)(an:j<s.length):cr I M ((⟨b,0,none⟩:Addr).add (j*1)) 1 [.int .i64 s[j]]:=by
 rw[dL _ rfl];refine⟨rfl,_,3,(0,0),.inr ⟨_,a1,rfl,rfl⟩,?_,rfl⟩;have aa:j<(s.map (Value.int .i64)).length:=by simpa using an
 simp only[c0,fP];rw[eE aa,nt,mK];simp
def Ja{M:List aB}{s:List Int}{v:Int}(an:j<s.length)(aj:s[j]=v)(a1:iy b s∈M):cr I M ((⟨b,0,none⟩:Addr).add (j*1)) 1 [.int .i64 v]:=aj ▸ Nh a1 an
def Ni(s:List Int)(j:Nat)(an:j<s.length)(b:Int):bo (s.map (Value.int .i64)) j [.int .i64 b]=(s.set j b).map (Value.int .i64):=by unfold bo;rw[Fs,Fl];simp[an]
def aeO(aA:q0 I){t:cB}(ay:t.ok I):Spec Tryz.prog 206 [t.val] I [] (λv I' M'=>v=.int .i64 (bif right t then(t.n:Int)else 0)/\I'=I/\M'=[]):=by
 refine bN [] aV Tryz.func206 rfl rfl rfl ?_;intro B ar;refine a9.mk [] [] _ (.refl _) (xn aA ay) ?_;rintro v I' M' -⟨rfl,rfl,rfl⟩;refine aU.mk (λh=>?_) (λh=>?_)
 ·refine⟨_,_,.refl,?_,rfl,rfl⟩;rw[show right t=false by simpa using h];rfl
 ·refine⟨_,_,.refl,?_,rfl,rfl⟩;rw[show right t=true by simpa using h];rfl
def Un{i:Nat}:∀ {ks:List Int} {s cc:List Bool},km i ks s=some cc->∀ k∈ks,0<=k/\k<i
 |[],s,cc,_,k,af=>by cases af
 |x::ks,s,cc,h,k,af=>by
  unfold km at h;cases ai:(decide (x<0)||(decide ((i:Int)<=x)||s.getD x.toNat false))with
  |true=>rw[ai]at h;cases h
  |false=>
   rw[ai]at h;simp only[oa,nr]at ai;rcases ef.1 af with rfl | af;·omega
   ·exact Un h k af
def Uo:∀ {i:Nat} {ds:List aS} {s cc:List Bool},iU i ds s=some cc->∀ j (h:j<ds.length),∀ k∈ds[j].aL,0<=k/\k<(i+j:Nat)
 |i,[],s,cc,_,j,an,_,_=>by cases an
 |i,d::ds,s,cc,h,j,an,k,af=>by
  unfold iU at h;cases aJ:fits d d.aL.length with
  |false=>rw[aJ]at h;cases h
  |true=>
   rw[aJ]at h;simp only[bl]at h;cases aw:km i d.aL s with
   |none=>rw[aw]at h;cases h
   |some s1=>
    rw[aw]at h;cases j with
    |zero=>exact Un aw k (by simpa using af)| succ j=>have:=Uo h j (by simpa using an) k (by simpa using af);omega
def mm{t:cB}(h:right t=true):∀ j (an:j<t.ns.length),∀ k∈t.ns[j].aL,0<=k/\k<j:=by
 unfold right at h;simp only[b']at h;obtain⟨_,_,h⟩:=h;split at h
 ·rename_i s ap;intro j an k af;have:=Uo ap j an k af;omega
 ·cases h
def vG{t:cB}(h:right t=true):0<=t.bD/\t.bD<t.ns.length:=by unfold right at h;simp only[b',eU]at h;exact⟨h.1,h.2.1⟩
def FE(gH:List Int):List Int->Int->Int
 |[],m=>m| k::ks,m=>FE gH ks (max m (gH.getD k.toNat 0))
def vH:Nat->List aS->List Int->List Int
 |_,[],gH=>gH| i,d::ds,gH=>vH (i+1) ds (gH.set i (FE gH d.aL 0+1))
def depth(t:cB):Int:=bif right t then(vH 0 t.ns (List.replicate t.ns.length 0)).getD t.bD.toNat 0 else 0
def aeP(aA:q0 I){t:cB}(ay:t.ok I):Spec Tryz.prog 101 [t.val] I [] (λv I' M'=>v=.int .i64 (depth t)/\I'=I/\M'=[]):=by
 refine bN [] aV Tryz.func101 rfl rfl rfl ?_;intro B ar;have aq:=ay.n;have hz:=ay.a8.cap;refine a9.mk [] [] _ (.refl _) (xn aA ay) ?_;rintro v I' M' -⟨rfl,rfl,rfl⟩;refine aU.mk (λh=>?_) (λh=>?_)
 ·refine⟨_,_,.refl,?_,rfl,rfl⟩;simp[depth,show right t=false by simpa using h]
 ·have ak:right t=true:=by simpa using h
  have q4:=mm ak;obtain⟨a3,a6⟩:=vG ak;refine n1.mk t.n t.n rfl rfl (cj _) (by show 8*t.n<=_;omega) (by omega) ?_;refine b8.mk λb ai ph=>?_;refine c4.inv (ι:=Nat×List Int) (λx=>{ bu:=[(1,.ref 1 0),(3,.val (.slice (some ⟨b,0,none⟩) t.n t.n)),(16,.val (.slice t.a t.n t.c)),(17,.val (.int .i64 t.n)),(18,.val (.int .i64 x.1))],cl:=[(1,t.cells)],cS:=I',db:=[iy b x.2] }) (λx=>x.1<=t.n/\x.2.length=t.n/\(∀ j,0<=x.2.getD j 0/\x.2.getD j 0<=x.1)/\(∀ j,x.1<=j->x.2.getD j 0=0)/\vH 0 t.ns (List.replicate t.ns.length 0)=vH x.1 (t.ns.drop x.1) x.2) (λx=>t.n-x.1) ?_ ?_
  ·have z:∀ j,(List.replicate t.n (0:Int)).getD j 0=0:=λj=>by
    by_cases an:j<t.n<;>simp[cC,an]
   refine⟨(0,List.replicate t.n 0),⟨by omega,by simp,λj=>by rw[z];simp,λj _=>z j,by simp[aq]⟩,?_,gS,.cons rfl .nil⟩;show jd _ _ [⟨b,.cells (rowOf [Value.int .i64 0] (t.n*1)).toArray 3 (0,0)⟩] _ [iy b (List.replicate t.n 0)];rw[yS,fP];simp only[iy,I2];exact .refl
  ·rintro⟨i,gH⟩⟨fb,hV,iq,kM,Ao⟩;simp only at fb hV iq kM Ao;refine aU.mk (λh=>?_) (λh=>?_)
   ·have aR:i<t.n:=by simpa using h
    have bZ:i<t.ns.length:=by omega
    obtain⟨ad,bF,bk⟩:=ay.a8.row aS.cD aR bZ;have jk:=ay.ns t.ns[i] (cJ bZ);have dS:=jk.kn;have ko:t.ns.drop i=t.ns[i]::t.ns.drop (i+1):=eE bZ;refine bi.mk ad i bF rfl aR ?_;refine aI.mk t.ns[i].cells (bk _) ?_;refine c4.inv (ι:=Nat×Int) (λx=>{ bu:=[(1,.ref 1 0),(3,.val (.slice (some ⟨b,0,none⟩) t.n t.n)),(4,.val (.int .i64 i)),(16,.val (.slice t.a t.n t.c)),(17,.val (.int .i64 t.n)),(18,.val (.int .i64 i)),(24,.val (.slice t.ns[i].hk t.ns[i].kn t.ns[i].gR)),(25,.val (.int .i64 t.ns[i].kn)),(26,.val (.int .i64 x.1))],cl:=[(1,t.cells)],cS:=I',db:=[iy b (gH.set i x.2)] }) (λx=>x.1<=t.ns[i].kn/\0<=x.2/\x.2<=i/\FE gH t.ns[i].aL 0=FE gH (t.ns[i].aL.drop x.1) x.2) (λx=>t.ns[i].kn-x.1) ?_ ?_
    ·refine⟨(0,0),⟨by omega,by omega,by simp,rfl⟩,?_,o4,.cons rfl .nil⟩;have e:gH.set i 0=gH:=by
      have aa:=kM i (cj _);rw[cC]at aa;apply yO;intro j;rw[mh];split
      ·rename_i e;subst e;have:i<gH.length:=by omega
       simp[this]at aa |-;exact aa.symm
      ·rfl
     simp only;rw[e];exact .refl
    ·rintro⟨j,m⟩⟨qb,lO,CK,Nj⟩;simp only at qb lO CK Nj;refine aU.mk (λh=>?_) (λh=>?_)
     ·have fl:j<t.ns[i].kn:=by simpa using h
      have kp:j<t.ns[i].aL.length:=by omega
      obtain⟨fR,fS,e2⟩:=jk.a8.one fl kp;have hZ:t.ns[i].aL.drop j=t.ns[i].aL[j]::t.ns[i].aL.drop (j+1):=eE kp;have af:=q4 i bZ t.ns[i].aL[j] (cJ kp);have e3:t.ns[i].aL[j]=((t.ns[i].aL[j].toNat:Nat):Int):=by omega
      have cw:t.ns[i].aL[j].toNat<t.n:=by omega
      refine bi.mk fR j fS rfl fl ?_;refine aI.mk [.int .i64 t.ns[i].aL[j]] (e2 _) ?_;refine c5.draw aV rfl rfl rfl ?_;have fv:i<(gH.set i m).length:=by simp;omega
      have j2:t.ns[i].aL[j].toNat<(gH.set i m).length:=by simp;omega
      have Nk:(gH.set i m)[i]=m:=by simp
      have hc:(gH.set i m)[t.ns[i].aL[j].toNat]=gH.getD t.ns[i].aL[j].toNat 0:=by
       have bK:i≠t.ns[i].aL[j].toNat:=by omega
       have fe:t.ns[i].aL[j].toNat<gH.length:=by omega
       rw[List.getElem_set,cb bK];simp[cC,fe]
      refine bi.mk ⟨b,0,none⟩ i rfl rfl aR ?_;refine aI.mk [.int .i64 m] (Ja fv Nk (by simp)) ?_;refine bi.mk ⟨b,0,none⟩ t.ns[i].aL[j].toNat rfl e3 cw ?_;refine aI.mk [.int .i64 (gH.getD t.ns[i].aL[j].toNat 0)] (Ja j2 hc (by simp)) ?_;refine bi.mk ⟨b,0,none⟩ i rfl rfl aR ?_;refine cp.add [] [] _ 3 rfl ?_ rfl ?_;·simp only[mE,c8];show 0+i*1+1<=_;simp;omega
      have fu:IntKind.i64.wrap ((j:Int)+1)=((j+1:Nat):Int):=by rw[wrap_i64 ⟨by omega,by have:=jk.a8.cap;omega⟩];omega
      refine bd.mk _ fu ?_;have asa:=iq t.ns[i].aL[j].toNat;refine⟨(j+1,max m (gH.getD t.ns[i].aL[j].toNat 0)),⟨⟨by omega,by simp only;omega,by simp only;omega,?_⟩,by show _<_;simp only;omega⟩,?_,o4,.cons rfl .nil⟩;·simp only;rw[Nj,hZ];rfl
      ·have e:=Ni (gH.set i m) i fv (max m (gH.getD t.ns[i].aL[j].toNat 0));simp only[iy];rw[I3]at e;rw[<-e];simp only[c0,fP];exact .refl
     ·have fl:¬ j<t.ns[i].kn:=by simpa using h
      have AF:t.ns[i].aL.drop j=[]:=ji (by omega);have hm:FE gH t.ns[i].aL 0=m:=by rw[Nj,AF];rfl
      have fv:i<(gH.set i m).length:=by simp;omega
      have Nk:(gH.set i m)[i]=m:=by simp
      have Nl:IntKind.i64.wrap (m+1)=m+1:=wrap_i64 ⟨by omega,by omega⟩;have fu:IntKind.i64.wrap ((i:Int)+1)=((i+1:Nat):Int):=by rw[wrap_i64 ⟨by omega,by omega⟩];omega
      refine bi.mk ⟨b,0,none⟩ i rfl rfl aR ?_;refine aI.mk [.int .i64 m] (Ja fv Nk (by simp)) ?_;refine bd.mk _ Nl ?_;refine bi.mk ⟨b,0,none⟩ i rfl rfl aR ?_;refine cp.add [] [] _ 3 rfl ?_ rfl ?_;·simp only[mE,c8];show 0+i*1+1<=_;omega
      refine bd.mk _ fu ?_;refine⟨(i+1,gH.set i (m+1)),⟨⟨by omega,by simp[hV],?_,?_,?_⟩,by show _<_;simp only;omega⟩,?_,gS,.cons rfl .nil⟩
      ·intro q;have aeQ:=iq q;simp only[cC,mh]at aeQ |-;split
       ·rename_i e;subst e;have:i<gH.length:=by omega
        simp[this];omega
       ·omega
      ·intro q aM;have Up:=kM q (by omega);simp only at aM;simp only[cC,mh]at Up |-;rw[cb (by omega)];exact Up
      ·simp only;rw[Ao,ko];simp only[vH,hm]
      ·have e:=Ni (gH.set i m) i fv (m+1);simp only[iy];rw[I3]at e;rw[<-e];simp only[c0,fP];exact .refl
   ·have cP:¬ i<t.n:=by simpa using h
    have gE:t.ns.drop i=[]:=ji (by omega);have hr:vH 0 t.ns (List.replicate t.ns.length 0)=gH:=by rw[Ao,gE];rfl
    have s6:t.bD=((t.bD.toNat:Nat):Int):=by omega
    have gW:t.bD.toNat<gH.length:=by omega
    refine bi.mk ⟨b,0,none⟩ t.bD.toNat rfl s6 (by omega) ?_;refine aI.mk [.int .i64 gH[t.bD.toNat]] (Ja gW rfl (by simp)) ?_;refine⟨_,_,.sub (fZ _) .refl,?_,rfl,rfl⟩;have:depth t=gH[t.bD.toNat]:=by unfold depth;rw[ak,hr];simp[cC,gW]
    rw[this];rfl
def pj(t:cB):Bool:=decide (t.n<=1024)&&(right t&&decide (depth t<=32))
def aeR(aA:q0 I){t:cB}(ay:t.ok I):Spec Tryz.prog 51 [t.val] I [] (λv I' M'=>v=.bool (pj t)/\I'=I/\M'=[]):=by
 refine bN [] aV Tryz.func51 rfl rfl rfl ?_;intro B ar;refine b4.mk (λaa=>?_) (λaa=>?_)
 ·refine a9.mk [] [] _ (.refl _) (xn aA ay) ?_;rintro v I' M' -⟨rfl,rfl,rfl⟩;refine b4.mk (λab=>?_) (λab=>?_)
  ·refine a9.mk [] [] _ (.refl _) (aeP aA ay) ?_;rintro v I' M' -⟨rfl,rfl,rfl⟩;refine⟨_,_,.refl,?_,rfl,rfl⟩;have tY:t.n<=1024:=by simp at aa;omega
   simp[pj,tY,ab]
  ·refine⟨_,_,.refl,?_,rfl,rfl⟩;have ix:right t=false:=ab;simp[pj,ix]
 ·refine⟨_,_,.refl,?_,rfl,rfl⟩;have tY:¬ t.n<=1024:=by simp at aa;omega
  simp[pj,tY]
def mo{α:Type}(z:α)(f:aS->(Int->α)->α):List aS->List α->List α
 |[],a4=>a4| d::ds,a4=>mo z f ds (a4++[f d λk=>a4.getD k.toNat z])
section
variable{α:Type}{z:α}{f:aS->(Int->α)->α}
def Nm:∀ (ds:List aS) (a4:List α) (j:Nat),j<a4.length->(mo z f ds a4)[j]?=a4[j]?
 |[],a4,j,_=>rfl| d::ds,a4,j,h=>by rw[mo,Nm ds _ j (by simp;omega),tK h]
def Uq:∀ (ds:List aS) (a4:List α) (j:Nat) (h:j<ds.length),(mo z f ds a4)[a4.length+j]?=some (f ds[j] λk=>((mo z f ds a4).take (a4.length+j)).getD k.toNat z)
 |d::ds,a4,0,_=>by
  rw[mo,nj,Nm ds _ a4.length (by simp)];simp only[List.getElem?_concat_length,xh,j'];congr 1;funext k;have:(mo z f ds (a4++[f d λk=>a4.getD k.toNat z])).take a4.length=a4:=by
   apply yO;intro i;rw[j9];split;·rename_i hi;rw[Nm ds _ i (by simp;omega),tK hi]
   ·rw[oW (by omega)]
  rw[this]
 |d::ds,a4,j+1,h=>by have:=Uq ds (a4++[f d λk=>a4.getD k.toNat z]) j (by simpa using h);rw[mo];simp only[cI,ea,gV,c0,I0]at this |-;rw[show a4.length+(j+1)=a4.length+1+j from by omega];exact this
def qc(z:α)(f:aS->(Int->α)->α)(ns:List aS)(k:Int):α:=(mo z f ns []).getD k.toNat z
def FF(aJ:∀ d g dv,(∀ k∈d.aL,g k=dv k)->f d g=f d dv){t:cB}(ak:right t=true)(an:j<t.ns.length):qc z f t.ns j=f t.ns[j] (qc z f t.ns):=by have h:=Uq (z:=z) (f:=f) t.ns [] j an;simp only[gV,c0]at h;unfold qc;rw[cC,show((j:Int).toNat)=j from by omega,h,jS];refine aJ _ _ _ λk af=>?_;have:=mm ak j an k af;rw[cC,cC,j9,cn (by omega)]
end
def free(g:Nat->Nat)(s:List Bool):Nat->Nat
 |0=>0| i+1=>free g s i+(bif s.getD i false then 0 else g i)
def Ur{g:Nat->Nat}{s:List Bool}{k:Nat}:∀ {i:Nat},i<=k->free g (s.set k true) i=free g s i
 |0,_=>rfl| i+1,h=>by unfold free;rw[Ur (by omega)];simp only[cC,mh];rw[cb (by omega)]
def Us{g:Nat->Nat}{s:List Bool}{k:Nat}(ap:s.getD k false=false)(av:k<s.length):∀ {i:Nat},k<i->free g (s.set k true) i+g k=free g s i
 |i+1,h=>by
  unfold free;by_cases e:i=k;·subst e;rw[Ur (cj _),ap];simp[cC,av]
  ·have:=Us (g:=g) ap av (i:=i) (by omega);simp only[cC,mh]at this |-;rw[cb (by omega)];omega
def gX(g:Int->Nat)(ks:List Int):Nat:=(ks.map g).sum
def Ut{g:Nat->Nat}{i:Nat}:∀ {ks:List Int} {s cc:List Bool},km i ks s=some cc->i<=s.length->cc.length=s.length/\free g cc i+gX (λk=>g k.toNat) ks=free g s i
 |[],s,cc,h,_=>by simp only[km,j']at h;subst h;exact⟨rfl,rfl⟩
 |x::ks,s,cc,h,av=>by
  unfold km at h;cases ai:(decide (x<0)||(decide ((i:Int)<=x)||s.getD x.toNat false))with
  |true=>rw[ai]at h;cases h| false=>rw[ai]at h;simp only[oa,nr]at ai;obtain⟨aa,ab,ag⟩:=ai;obtain⟨az,aE⟩:=Ut (g:=g) h (by simpa using av);have bz:=Us (g:=g) ag (by omega) (i:=i) (by omega);refine⟨by simpa using az,?_⟩;simp only[gX,cY,oc]at aE |-;omega
def Nn{g:Nat->Nat}{c:aS->Nat}:∀ {ds:List aS} {i:Nat} {s cc:List Bool},iU i ds s=some cc->i+ds.length<=s.length->(∀ j (h:j<ds.length),g (i+j)<=c ds[j]+gX (λk=>g k.toNat) ds[j].aL) -> cc.length=s.length/\free g cc (i+ds.length)<=free g s i+(ds.map c).sum
 |[],i,s,cc,h,_,_=>by simp only[iU,j']at h;subst h;simp
 |d::ds,i,s,cc,h,av,au=>by
  unfold iU at h;cases aJ:fits d d.aL.length with
  |false=>rw[aJ]at h;cases h
  |true=>
   rw[aJ]at h;simp only[bl]at h;cases aw:km i d.aL s with
   |none=>rw[aw]at h;cases h
   |some s1=>
    rw[aw]at h;simp only[ea]at av;obtain⟨az,aE⟩:=Ut (g:=g) aw (by omega);obtain⟨bz,cT⟩:=Nn (g:=g) (c:=c) h (by omega) (λj an=>by
     have:=au (j+1) (by simp;omega);simp only[I0]at this;rw[show i+1+j=i+(j+1)from by omega];exact this)
    have ar:=au 0 (by simp);simp only[nj,xh]at ar;refine⟨by omega,?_⟩;have fT:free g s1 (i+1)<=free g s1 i+g i:=by
     show free g s1 i+_<=_;cases s1.getD i false<;>simp
    simp only[ea,cY,oc];rw[show i+(ds.length+1)=i+1+ds.length from by omega];omega
def Uu{bD:Int}:∀ {s:List Bool} {i:Nat},q1 bD i s=true->∀ j,j<s.length->(i+j:Nat)=bD->s.getD j false=false
 |b::s,i,h,j,an,e=>by
  unfold q1 at h;cases ai:(b == decide ((i:Int)=bD))with
  |true=>rw[ai]at h;cases h
  |false=>
   rw[ai]at h;cases j with
   |zero=>
    have:decide ((i:Int)=bD)=true:=by simpa using e
    rw[this]at ai;simpa using ai
   |succ j=>have:=Uu (i:=i+1) h j (by simpa using an) (by omega);simpa using this
def Uv{g:Nat->Nat}{s:List Bool}{k:Nat}(af:s.getD k false=false):∀ {n:Nat},k<n->g k<=free g s n
 |n+1,h=>by
  unfold free;by_cases e:n=k;·subst e;rw[af];simp
  ·have:=Uv (g:=g) af (n:=n) (by omega);omega
def No{t:cB}(ak:right t=true){g:Int->Nat}{c:aS->Nat}(h:∀ j (an:j<t.ns.length),g j<=c t.ns[j]+gX g t.ns[j].aL):g t.bD<=(t.ns.map c).sum:=by
 have AG:=vG ak;have af:=mm ak;unfold right at ak;simp only[b']at ak;obtain⟨_,_,ak⟩:=ak;split at ak
 ·rename_i s ap;obtain⟨az,aE⟩:=Nn (g:=λk=>g k) (c:=c) ap (by simp) (λj an=>by refine lg (by rw[c0];exact h j an) (Nat.le_of_eq ?_);congr 1;unfold gX;congr 1;refine rT λk hc=>?_;have:=af j an k hc;rw[yN this.1]);simp only[vv,c0]at az aE;have bf:=Uu ak t.bD.toNat (by omega) (by omega);have:=Uv (g:=λk=>g k) bf (n:=t.ns.length) (by omega);rw[yN AG.1]at this;simp only[free]at aE;omega
 ·cases ak
def AH{t:cB}(ak:right t=true)(an:j<t.ns.length):fits t.ns[j] t.ns[j].aL.length=true:=by
 have aux:∀ {ds:List aS} {i:Nat} {s cc:List Bool},iU i ds s=some cc->∀ j (h:j<ds.length),fits ds[j] ds[j].aL.length=true:=by
  intro ds
  induction ds with
  |nil=>intro i s cc _ j an;cases an
  |cons d ds a7=>
   intro i s cc h j an;unfold iU at h;cases aJ:fits d d.aL.length with
   |false=>rw[aJ]at h;cases h
   |true=>
    rw[aJ]at h;simp only[bl]at h;cases aw:km i d.aL s with
    |none=>rw[aw]at h;cases h
    |some s1=>
     rw[aw]at h;cases j with
     |zero=>exact aJ| succ j=>exact a7 h j (by simpa using an)
 unfold right at ak;simp only[b']at ak;obtain⟨_,_,ak⟩:=ak;split at ak
 ·rename_i s ap;exact aux ap j an
 ·cases ak
def aeS(t u ty e:Nat)(i:TypeInfo)(ay:P.underlying t=some (.slice e))(hu:P.underlying u=some od)(p7:∀ k,od≠.int k)(hi:P.info? e=some i)
 {n:Nat} (mj:n<=c) (ar:(∃ b c,vx=.slice b 0 c)\/vx=.string .empty):(Builtin.append_ #[t,u] ty #[.slice sa n c,vx]).run P w=.ok (.slice sa n c) w:=by
 have FA:(match od with | .int _=>true | _=>false)=false:=by cases od<;>first | rfl | exact(p7 _ rfl).elim
 rcases ar with⟨b,c',rfl⟩ | rfl
 ·cases b<;>cases sa<;>simp[Builtin.append_,run_underlying ay,run_underlying hu,sizeOf,typeInfo,hi,FA,Builtin.lenOf,mj,Builtin.firstCells,Builtin.zeroCells,loadCells,loadCellsFrom,storeCells]
 ·cases sa<;>simp[Builtin.append_,run_underlying ay,run_underlying hu,sizeOf,typeInfo,hi,FA,Builtin.lenOf,mj,Builtin.firstCells,loadCells,storeCells]
section
variable{X:c3}{β:Nat->Nat}{a:Act}{w:World}{F:Fr}{C:dp}{I:aZ}{M:List aB}{o:Oper}{K:fX}
def bn.bin{op:BinOp}(aw:o.op=.binOp op t x y cZ)(ah:∀ d,o.dst=some d->d<X.n){q:Value}(ae:bB F x=.val p)(aF:bB F y=.val q)
  (au:∀ w,(eqGuard op t x y p q).run X.P w=.ok () w) (ak:∀ w,ew I M w->(binOp op t p q).run X.P w=.ok v w) (h:K (put o.dst (.val v) F) C I M):bn X o F C I M K:=by
 refine⟨λac w Q ⟨β,a5⟩=>?_⟩;have ex:=dh a5.al ae;have mM:=dh a5.al aF;refine vc a5 ah (by rw[aw];simp) ?_ h;unfold execOp;simp only[aw,cm,ex,mM,au,b3,ak w a5.holds,c9]
def bn.conv{s:Nat}(aw:o.op=.convert s t x)(ah:∀ d,o.dst=some d->d<X.n)(ae:bB F x=.val p)
  (ak:∀ w,ew I M w->(convert s t p).run X.P w=.ok v w) (h:K (put o.dst (.val v) F) C I M):bn X o F C I M K:=by
 refine⟨λac w Q ⟨β,a5⟩=>?_⟩;have ex:=dh a5.al ae;refine vc a5 ah (by rw[aw];simp) ?_ h;unfold execOp;simp only[aw,cm,ex,b3,ak w a5.holds,c9]
def bn.un{op:UnOp}(aw:o.op=.unOp op t x)(ah:∀ d,o.dst=some d->d<X.n)(ae:bB F x=.val p)
  (ak:∀ w,ew I M w->(Op.unary op p).run X.P w=.ok v w) (h:K (put o.dst (.val v) F) C I M):bn X o F C I M K:=by
 refine⟨λac w Q ⟨β,a5⟩=>?_⟩;have ex:=dh a5.al ae;refine vc a5 ah (by rw[aw];simp) ?_ h;unfold execOp;simp only[aw,cm,ex,b3,ak w a5.holds,c9]
def hM(x:Int):Int:=IntKind.u64.wrap (BitVec.ofInt 64 IntKind.u64.max ^^^ BitVec.ofInt 64 x).toNat
def bn.FG(aw:o.op=.unOp .xor t x)(ah:∀ d,o.dst=some d->d<X.n){n:Int}(ae:bB F x=.val (.int .u64 n))(h:K (put o.dst (.val (.int .u64 (hM n))) F) C I M):bn X o F C I M K:=
 .un aw ah ae (λw _=>rfl) h
def bn.Np(aN:c2 X.P X.E)(aw:o.op=.call { callee:=.builtin .append,args:=#[s,x],argTypes:=#[t,u] })(ah:∀ d,o.dst=some d->d<X.n)
 (ay:X.E t=some dk) (dW:dk.bE=.slice e) (hu:X.E u=some nu) (fA:∀ k,nu.bE≠.int k) (he:X.E e=some aH)
 {n:Nat} (ap:bB F s=.val (.slice sa n c)) (mj:n<=c)
 (ae:bB F x=.val vx) (ar:(∃ b c,vx=.slice b 0 c)\/vx=.string .empty)
  (h:K (put o.dst (.val (.slice sa n c)) F) C I M):bn X o F C I M K:=by
 refine⟨λa w Q ⟨β,a5⟩=>?_⟩;obtain⟨inf,z,hi,fb,hV,iq,kM⟩:=(aN _ _ he).inf;obtain⟨d,fk,ft⟩:=(aN _ _ hu).fi;obtain⟨ib,pf,lM⟩:=(aN _ _ ay).fi;have tX:ib=.slice e:=by rw[dW]at lM;cases ib<;>simp_all[e8]
 subst tX;have eV:=aeS (w:=w) t u o.type e inf pf fk (λk bq=>fA k (by rw[<-ft,bq];rfl)) hi (sa:=sa) mj ar;have es:=dh a5.al ap;have ex:=dh a5.al ae;refine vc a5 ah (by rw[aw];simp) ?_ h;unfold execOp;simp only[aw,resolve,invoke,builtin,cm,c9,b3,sW,cY,kR,es,ex,eV]
def Uw(op:BinOp)(t:Nat)(x y:Operand)(p q:Option Addr)(P:Program)(w:World):(eqGuard op t x y (.pointer p) (.pointer q)).run P w=.ok () w:=by
 unfold eqGuard;cases op<;>rfl
def bn.Jb(aN:c2 X.P X.E)(aw:o.op=.binOp .eql t x y cZ)(ah:∀ d,o.dst=some d->d<X.n)(ay:X.E t=some dk)(dW:dk.bE=.pointer e)
  {p:Option Addr} (ae:bB F x=.val (.pointer p)) (aF:bB F y=.val (.pointer none)) (h:K (put o.dst (.val (.bool p.isNone)) F) C I M):bn X o F C I M K:=by
 obtain⟨d,fk,ft⟩:=(aN _ _ ay).fi;have aa:d=.pointer e:=by rw[dW]at ft;cases d<;>simp_all[e8]
 subst aa;exact .bin aw ah ae aF (λw=>Uw ..) (λw _=>run_eql_pointer_nil w t p (by simp[Program.pointee,fk])) h
def bn.Ux(aN:c2 X.P X.E)(aw:o.op=.binOp .neq t x y cZ)(ah:∀ d,o.dst=some d->d<X.n){aeT:dU}(ay:X.E t=some dk)(dW:dk.bE=.pointer e)(he:X.E e=some aeT)
  {p:Addr} (ae:bB F x=.val (.pointer (some p))) (aF:bB F y=.val (.pointer (some p))) (h:K (put o.dst (.val (.bool false)) F) C I M):bn X o F C I M K:=by
 obtain⟨d,fk,ft⟩:=(aN _ _ ay).fi;have aa:d=.pointer e:=by rw[dW]at ft;cases d<;>simp_all[e8]
 subst aa;obtain⟨inf,z,hi,_⟩:=(aN _ _ he).inf;exact .bin aw ah ae aF (λw=>Uw ..) (λw _=>Lib.run_neq_ptr_same w p fk hi) h
end
def Uy{f:Nat}{fn:Func}{e:Array Value->Sem Value}{args:List Value}{M:List aB}(aJ:P.funcs[f]?=some fn)(aeU:(fn.name == "runtime.NumGoroutine")=false)
  (ai:fn.body.isNone=true) (aq:Extern.findNext fn=none) (he:Extern.find fn=some e) (ak:∀ w,(e args.toArray).run P w=.ok v w):Spec P f args I M λr I' M'=>r=v/\I'=I/\M'=M:=by
 refine .inr λw hw=>⟨v,w,I,M,?_,⟨rfl,rfl,rfl⟩,hw,λ_ _ h=>h,λ_ _ h=>.inl h,λx ae=>.inl ⟨x,ae,rfl⟩,λ_ _ _=>rfl,.refl _,cj _⟩;rw[run_callFunc_extern aJ aeU ai aq he,ak];rfl
def yT(l:List UInt8):List Value:=l.map λb=>.int .u8 b.toNat
structure fU where
 rZ:Bool
 os:a'
 cM:List UInt8
def fU.aP(b:Nat)(x:fU):aB:=⟨b,.cells #[.pointer (bif x.rZ then some ⟨b,0,none⟩else none),x.os.val] 240 (0,0)⟩
def fU.M(b:Nat)(x:fU):List aB:=x.aP b::x.os.aP 5
structure fU.ok(x:fU):Prop where
 os:x.os.ok 1 (yT x.cM)
 ne:∀ g,x.os.a=some g->x.cM≠[]
def fU.new:fU:=⟨false,⟨none,0,0,[]⟩,[]⟩
def fU.Jc:fU.new.ok:=⟨⟨rfl,λ_=>⟨rfl,rfl⟩,λg h=>by cases h⟩,λg h=>by cases h⟩
def fU.ok.n{x:fU}(h:x.ok):x.os.n=x.cM.length:=by have:=h.os.len;simp[yT]at this;omega
def ptr(b:Nat):Value:=.pointer (some ⟨b,0,none⟩)
def dO{M:List aB}{cs:List Value}(a1:(⟨b,.cells cs.toArray T (0,0)⟩:aB)∈M){k n:Nat}(h:k+n<=cs.length):cr I M ((⟨b,0,none⟩:Addr).add k) n ((cs.drop k).take n):=by
 rw[dL _ rfl];refine⟨rfl,_,T,(0,0),.inr ⟨_,a1,rfl,rfl⟩,?_,?_⟩
 ·simp
 ·simp;omega
def Nq{M:List aB}(v:Value):Spec Tryz.prog 224 [v] I M λr I' M'=>r=v/\I'=I/\M'=M:=
 Uy Tryz.func224 (by kernel_rfl) (by kernel_rfl) (by kernel_rfl) (e:=Extern.AbiNoEscape.same) (by kernel_rfl) (λw=>Lib.run_noEscape w _)
def Uz{M:List aB}(s:ByteArray)(c:UInt8):Spec Tryz.prog 291 [.string s,.int .u8 c.toNat] I M λr I' M'=>r=.int .i64 (Lib.indexByte s.data.toList c)/\I'=I/\M'=M:=
 Uy Tryz.func291 (by kernel_rfl) (by kernel_rfl) (by kernel_rfl) (e:=Extern.BytealgIndexByte.indexByte) (by kernel_rfl) (λw=>by
  have:=Lib.run_indexByteString (P:=Tryz.prog) s (c.toNat:Int) w;simpa using this)
def aeV(s:ByteArray)(c:UInt8):Spec Tryz.prog 275 [.string s,.int .u8 c.toNat] I [] λr I' M'=>r=.int .i64 (Lib.indexByte s.data.toList c)/\I'=I/\M'=[]:=by refine bN [] aV Tryz.func275 rfl rfl rfl ?_;intro B ar;refine a9.mk [] [] _ (.refl _) (Uz s c) ?_;rintro v I' M' -⟨rfl,rfl,rfl⟩;exact⟨_,_,.refl,rfl,rfl,rfl⟩
def UA(s:ByteArray)(c:UInt8):Spec Tryz.prog 256 [.string s,.int .u8 c.toNat] I [] λr I' M'=>r=.int .i64 (Lib.indexByte s.data.toList c)/\I'=I/\M'=[]:=by refine bN [] aV Tryz.func256 rfl rfl rfl ?_;intro B ar;refine a9.mk [] [] _ (.refl _) (aeV s c) ?_;rintro v I' M' -⟨rfl,rfl,rfl⟩;exact⟨_,_,.refl,rfl,rfl,rfl⟩
def Jd{M:List aB}(h:ew I M w){al:Nat×Nat}(a1:(⟨b,.cells cs T al⟩:aB)∈M):w.shape? b=some (T,cs.size):=by have:=h.m _ a1;simp only at this;simp[World.shape?,this]
def UB(b:Nat)(x:fU):Spec Tryz.prog 191 [ptr b] I [x.aP b] λr I' M'=>r=.tuple #[]/\I'=I/\M'=[{ x with rZ:=true:fU }.aP b]:=by
 obtain⟨rZ,os,cM⟩:=x;obtain⟨inf,z,hi,fb,_⟩:=(aV 240 _ rfl).inf;refine bN [] aV Tryz.func191 rfl rfl rfl ?_;intro B ar;cases rZ with
 |false=>refine aI.mk [.pointer none] (dO (cs:=[.pointer none,os.val]) (k:=0) (n:=1) (T:=240) (fW.2 rfl) (by simp)) ?_;refine .other (bn.Jb aV rfl (by simp) rfl rfl rfl rfl ?_);refine aU.mk (λ_=>?_) (λh=>by cases h);refine bn.conv rfl (by simp) rfl (λw hw=>Lib.run_to_unsafe (t:=240) (e:=240) (cells:=2) w ⟨b,0,none⟩ (by kernel_rfl) (by kernel_rfl) (j:=inf) hi (by rw[fb];decide) (Jd (cs:=#[.pointer none,os.val]) hw (fW.2 rfl)) (by simp)) ?_;refine a9.mk [fU.aP b ⟨false,os,cM⟩] [] _ (by simp) (Nq _) ?_;rintro v I' M' -⟨rfl,rfl,rfl⟩;refine bn.conv rfl (by simp) rfl (λw hw=>Lib.run_from_unsafe (u:=240) (e:=240) (cells:=2) w ⟨b,0,none⟩ (by kernel_rfl) (by kernel_rfl) (j:=inf) hi (Jd (cs:=#[.pointer none,os.val]) hw (fW.2 rfl)) (by kernel_rfl)) ?_;refine cp.add [] [] _ _ rfl (bS rfl) rfl ?_;exact⟨_,_,.refl,rfl,rfl,rfl⟩
 |true=>refine aI.mk [ptr b] (dO (cs:=[ptr b,os.val]) (k:=0) (n:=1) (T:=240) (fW.2 rfl) (by simp)) ?_;refine .other (bn.Jb aV rfl (by simp) rfl rfl rfl rfl ?_);refine aU.mk (λh=>by cases h) (λ_=>?_);refine aI.mk [ptr b] (dO (cs:=[ptr b,os.val]) (k:=0) (n:=1) (T:=240) (fW.2 rfl) (by simp)) ?_;refine .other (bn.Ux aV rfl (by simp) rfl rfl rfl rfl rfl ?_);refine aU.mk (λh=>by cases h) (λ_=>?_);exact⟨_,_,.refl,rfl,rfl,rfl⟩
def pk(b:Nat){x:fU}(ae:x.ok)(c:UInt8)(av:x.cM.length<70368744177664):Spec Tryz.prog 260 [ptr b,.int .u8 c.toNat] I (x.M b)
  λr I' M'=>r=.nilIface/\I'=I/\∃ y:fU,y.ok/\y.cM=x.cM++[c]/\M'=y.M b:=by
 refine bN [] aV Tryz.func260 rfl rfl rfl ?_;intro B ar;have aq:=ae.n;refine a9.mk [x.aP b] (x.os.aP 5) _ (.refl _) (UB b x) ?_;rintro v I' M' -⟨rfl,rfl,rfl⟩;refine aI.mk [x.os.val] (dO (cs:=[ptr b,x.os.val]) (k:=1) (n:=1) (T:=240) (.head _) (by simp)) ?_;refine b8.mk λg au xp=>?_;refine bn.append aV rfl (by simp) (e:=5) rfl rfl rfl x.os (xs:=yT x.cM) ae.os rfl (m:=1) rfl (bV:=[.int .u8 c.toNat]) (by decide) ?_ rfl (Mr:=[⟨g,.cells #[.int .u8 c.toNat] 5 (0,0)⟩,{ x with rZ:=true:fU }.aP b]) ?_ ?_ ?_ ?_
 ·exact dO (cs:=[.int .u8 c.toNat]) (k:=0) (n:=1) (T:=5) (.head _) (by simp)
 ·exact hX (l₁:=[_,_]) (l₂:=x.os.aP 5)
 ·simp only[maxLen];omega
 ·show(x.os.n+1)*1<=_;omega
 ·intro dv c' aK aa ab ag aW;refine cp.add [⟨dv,.cells aK.toArray 5 (0,0)⟩,⟨g,.cells #[.int .u8 c.toNat] 5 (0,0)⟩] [] _ _ rfl (bS rfl) rfl ?_;refine⟨_,_,.perm (M1:=[⟨g,.cells #[.int .u8 c.toNat] 5 (0,0)⟩]++fU.M b ⟨true,⟨some dv,x.os.n+1,c',aK⟩,x.cM++[c]⟩) ?_ (.sub (jY _ _) .refl),rfl,rfl,_,?_,rfl,rfl⟩
  ·exact hX (l₁:=[_]) (l₂:=[_,_])
  ·refine⟨⟨?_,λh=>by simp at h,?_⟩,by simp⟩
   ·simp[yT,aq]
   ·intro a6 jF;refine⟨aa,ab,ag,?_⟩;rw[aW];simp[yT]
def tZ(b:Nat){x:fU}(ae:x.ok)(s:ByteArray)(av:x.cM.length+s.size<=70368744177664):Spec Tryz.prog 128 [ptr b,.string s] I (x.M b)
  λr I' M'=>r=.tuple #[.int .i64 s.size,.nilIface]/\I'=I/\∃ y:fU,y.ok/\y.cM=x.cM++s.data.toList/\M'=y.M b:=by
 refine bN [] aV Tryz.func128 rfl rfl rfl ?_;intro B ar;have aq:=ae.n;refine a9.mk [x.aP b] (x.os.aP 5) _ (.refl _) (UB b x) ?_;rintro v I' M' -⟨rfl,rfl,rfl⟩;refine aI.mk [x.os.val] (dO (cs:=[ptr b,x.os.val]) (k:=1) (n:=1) (T:=240) (.head _) (by simp)) ?_;by_cases ap:s.size=0
 ·have he:s=.empty:=tM (MT ap);subst he;have mj:x.os.n<=x.os.c:=by
   cases aC:x.os.a with
   |none=>obtain⟨aa,ab⟩:=ae.os.nil aC;omega
   |some g=>exact(ae.os.cap g aC).2.1
  refine bn.Np aV rfl (by simp) (e:=5) rfl rfl rfl (by simp) rfl rfl mj rfl (.inr rfl) ?_;refine cp.add [] (x.os.aP 5) _ _ rfl (bS rfl) rfl ?_;exact⟨_,_,.refl,rfl,rfl,⟨true,x.os,x.cM⟩,⟨ae.os,ae.ne⟩,by simp,rfl⟩
 ·refine bn.aeE aV rfl (by simp) (e:=5) rfl rfl rfl rfl rfl rfl x.os (xs:=yT x.cM) ae.os rfl rfl (by omega) (Mr:=[{ x with rZ:=true:fU }.aP b]) (hX (l₁:=[_])) ?_ ?_ ?_
  ·simp only[maxLen];omega
  ·show(x.os.n+s.size)*1<=_;omega
  ·intro dv c' aK aa ab ag aW;refine cp.add [⟨dv,.cells aK.toArray 5 (0,0)⟩] [] _ _ rfl (bS rfl) rfl ?_;refine⟨_,_,.perm (M1:=fU.M b ⟨true,⟨some dv,x.os.n+s.size,c',aK⟩,x.cM++s.data.toList⟩) ?_ .refl,rfl,rfl,_,?_,rfl,rfl⟩
   ·exact hX (l₁:=[_]) (l₂:=[_])
   ·refine⟨⟨?_,λh=>by simp at h,?_⟩,λg _ h=>?_⟩
    ·simp[yT,aq]
    ·intro a6 jF;refine⟨aa,ab,ag,?_⟩;rw[aW];simp[yT,kU]
    ·have bC:=congrArg List.length (List.append_eq_nil_iff.1 h).2;exact ap (by simpa using bC)
def xq(b:Nat){x:fU}(ae:x.ok)(av:x.cM.length<=70368744177664):Spec Tryz.prog 130 [ptr b] I (x.M b)
  λr I' M'=>r=.string ⟨x.cM.toArray⟩/\I'=I/\M'=[]:=by
 refine bN [] aV Tryz.func130 rfl rfl rfl ?_;intro B ar;have aq:=ae.n;obtain⟨rZ,⟨a,n,c,aK⟩,cM⟩:=x;simp only at aq av;subst aq;refine c5.draw aV rfl rfl rfl ?_;cases a with
 |none=>obtain⟨aa,ab⟩:=ae.os.nil rfl;simp only at aa ab;have t':cM=[]:=jh aa;subst t';subst ab;refine aI.mk [.slice none 0 0] (dO (cs:=[.pointer (bif rZ then some ⟨b,0,none⟩else none),.slice none 0 0]) (k:=1) (n:=1) (T:=240) (.head _) (by simp)) ?_;refine aI.mk [.slice none 0 0] (dO (cs:=[.pointer (bif rZ then some ⟨b,0,none⟩else none),.slice none 0 0]) (k:=1) (n:=1) (T:=240) (.head _) (by simp)) ?_;refine bn.T0 rfl (by simp) rfl rfl ?_;exact⟨_,_,.sub (fZ _) .refl,rfl,rfl,rfl⟩
 |some g=>
  obtain⟨aa,ab,ag,aW⟩:=ae.os.cap g rfl;have bK:=ae.ne g rfl;simp only at aa ab ag aW bK;have jV:cM.length≠0:=λh=>bK (jh h);refine aI.mk [.slice (some ⟨g,0,none⟩) cM.length c] (dO (cs:=[.pointer (bif rZ then some ⟨b,0,none⟩else none),.slice (some ⟨g,0,none⟩) cM.length c]) (k:=1) (n:=1) (T:=240) (.head _) (by simp)) ?_;refine tO.mk (by omega) ?_;refine aI.mk [.slice (some ⟨g,0,none⟩) cM.length c] (dO (cs:=[.pointer (bif rZ then some ⟨b,0,none⟩else none),.slice (some ⟨g,0,none⟩) cM.length c]) (k:=1) (n:=1) (T:=240) (.head _) (by simp)) ?_;refine bn.M9 aV rfl (by simp) (e:=5) rfl rfl rfl rfl (l:=cM) (g:=g) (cs:=aK.toArray) rfl rfl bK (by omega) (Mr:=[fU.aP b ⟨rZ,⟨some g,cM.length,c,aK⟩,cM⟩]) (hX (l₁:=[_]) (l₂:=[_])) ?_ ?_;·rw[fP]at aW;exact aW
  ·exact⟨_,_,.sub (fZ _) .refl,rfl,rfl,rfl⟩
def AI(c:UInt8)(left:ByteArray):Bool:=decide ((32:Int)<=c.toNat)&&(decide ((c.toNat:Int)<=126)&&(!decide ((c.toNat:Int)=92)&&decide (Lib.indexByte left.data.toList c<0)))
def aeW(c:UInt8)(left:ByteArray):Spec Tryz.prog 299 [.int .u8 c.toNat,.string left] I [] λr I' M'=>r=.bool (AI c left)/\I'=I/\M'=[]:=by
 refine bN [] aV Tryz.func299 rfl rfl rfl ?_;intro B ar;refine b4.mk (λaa=>?_) (λaa=>?_)
 ·refine b4.mk (λab=>?_) (λab=>?_)
  ·refine b4.mk (λag=>?_) (λag=>?_)
   ·refine a9.mk [] [] _ (.refl _) (UA left c) ?_;rintro v I' M' -⟨rfl,rfl,rfl⟩;refine⟨_,_,.refl,?_,rfl,rfl⟩;simp only[AI,aa,ab,ag,pd]
   ·refine⟨_,_,.refl,?_,rfl,rfl⟩;simp only[AI,aa,ab,ag,pd,pT,sY]
  ·refine⟨_,_,.refl,?_,rfl,rfl⟩;simp only[AI,aa,ab,pd,pT,sY]
 ·refine⟨_,_,.refl,?_,rfl,rfl⟩;simp only[AI,aa,pd,pT,sY]
def CL:ByteArray:=⟨#[48,49,50,51,52,53,54,55,56,57,97,98,99,100,101,102]⟩
def yU(n:Nat):UInt8:=CL.data.toList.getD n 0
def oh(c:UInt8)(left:ByteArray):List UInt8:=
 bif AI c left then [c]else
 bif decide ((c.toNat:Int)=10)then [92,110]else
 bif decide ((c.toNat:Int)=13)then [92,114]else
 bif decide ((c.toNat:Int)=9)then [92,116]else
 bif decide ((c.toNat:Int)=92)||decide ((0:Int)<=Lib.indexByte left.data.toList c)then [92,c]else [92,120,yU (c.toNat/16),yU (c.toNat%16)]
def FH(c:UInt8)(left:ByteArray):(oh c left).length<=4:=by
 unfold oh;cases AI c left<;>cases decide ((c.toNat:Int)=10)<;>cases decide ((c.toNat:Int)=13)<;>cases decide ((c.toNat:Int)=9)<;>cases(decide ((c.toNat:Int)=92)||decide ((0:Int)<=Lib.indexByte left.data.toList c))<;>simp
def aeX:∀ n:Nat,n<256->IntKind.u8.wrap ((BitVec.ofInt 8 (n:Int)) &&& (BitVec.ofInt 8 15)).toNat=((n%16:Nat):Int):=by decide +kernel
def UC(an:j<CL.size):CL[j]=yU j:=by have:j<CL.data.toList.length:=an;simp only[yU,cC,eb this,jS];rfl
def Je(b:Nat){x:fU}(ae:x.ok)(c:UInt8)(left:ByteArray)(av:x.cM.length<=70368744177600):Spec Tryz.prog 292 [ptr b,.int .u8 c.toNat,.string left] I (x.M b)
  λr I' M'=>I'=I/\∃ y:fU,y.ok/\y.cM=x.cM++oh c left/\M'=y.M b:=by
 refine bN [] aV Tryz.func292 rfl rfl rfl ?_;intro B ar;refine a9.mk [] (x.M b) _ (.refl _) (aeW c left) ?_;rintro v I' M' -⟨rfl,rfl,rfl⟩;refine aU.mk (λaa=>?_) (λaa=>?_)
 ·refine a9.mk (x.M b) [] _ (by simp) (pk b ae c (by omega)) ?_;rintro v I' M' -⟨rfl,rfl,y,aF,hl,rfl⟩;refine⟨_,_,.refl,rfl,y,aF,?_,by simp⟩;rw[hl,oh,aa];rfl
 ·refine aU.mk (λab=>?_) (λab=>?_)
  ·refine a9.mk (x.M b) [] _ (by simp) (tZ b ae _ (by show _+2<=_;omega)) ?_;rintro v I' M' -⟨rfl,rfl,y,aF,hl,rfl⟩;refine⟨_,_,.refl,rfl,y,aF,?_,by simp⟩;rw[hl,oh,aa,ab];rfl
  ·refine aU.mk (λag=>?_) (λag=>?_)
   ·refine a9.mk (x.M b) [] _ (by simp) (tZ b ae _ (by show _+2<=_;omega)) ?_;rintro v I' M' -⟨rfl,rfl,y,aF,hl,rfl⟩;refine⟨_,_,.refl,rfl,y,aF,?_,by simp⟩;rw[hl,oh,aa,ab,ag];rfl
   ·refine aU.mk (λaW=>?_) (λaW=>?_)
    ·refine a9.mk (x.M b) [] _ (by simp) (tZ b ae _ (by show _+2<=_;omega)) ?_;rintro v I' M' -⟨rfl,rfl,y,aF,hl,rfl⟩;refine⟨_,_,.refl,rfl,y,aF,?_,by simp⟩;rw[hl,oh,aa,ab,ag,aW];rfl
    ·have two:∀ (cU:aZ),(decide ((c.toNat:Int)=92)||decide ((0:Int)<=Lib.indexByte left.data.toList c))=true->oh c left=[92,c]:=λ_ h=>by rw[oh,aa,ab,ag,aW,h];rfl
     have other:(decide ((c.toNat:Int)=92)||decide ((0:Int)<=Lib.indexByte left.data.toList c))=false->oh c left=[92,120,yU (c.toNat/16),yU (c.toNat%16)]:=λh=>by rw[oh,aa,ab,ag,aW,h];rfl
     have aA:=c.toNat_lt;refine b4.mk (λbC=>?_) (λbC=>?_)
     ·refine a9.mk [] (x.M b) _ (.refl _) (UA left c) ?_;rintro v I' M' -⟨rfl,rfl,rfl⟩;refine aU.mk (λbP=>?_) (λbP=>?_)
      ·refine a9.mk (x.M b) [] _ (by simp) (pk b ae 92 (by omega)) ?_;rintro v I' M' -⟨rfl,rfl,y,aF,hl,rfl⟩;refine a9.mk (y.M b) [] _ (by simp) (pk b aF c (by rw[hl];simp;omega)) ?_;rintro v I' M' -⟨rfl,rfl,z,bf,s7,rfl⟩;refine⟨_,_,.refl,rfl,z,bf,?_,by simp⟩;rw[s7,hl,two I' (by rw[bC];exact bP)];simp
      ·refine a9.mk (x.M b) [] _ (by simp) (tZ b ae _ (by show _+2<=_;omega)) ?_;rintro v I' M' -⟨rfl,rfl,y,aF,hl,rfl⟩;have s8:y.cM.length=x.cM.length+2:=by rw[hl];simp
       refine rK.mk 4 rfl ?_;refine yy.mk (s:=CL) (c.toNat/16) ?_ (by show _<16;omega) ?_
       ·show(c.toNat:Int).fdiv (2^(min 4 (IntKind.u8.bits)))=_;have aeY:((2:Int)^(min 4 IntKind.u8.bits))=16:=by decide
        rw[aeY,Fm _ (by omega)];omega
       rw[UC];refine a9.mk (y.M b) [] _ (by simp) (pk b aF (yU (c.toNat/16)) (by omega)) ?_;rintro v I' M' -⟨rfl,rfl,z,bf,s7,rfl⟩;have Jf:z.cM.length=x.cM.length+3:=by rw[s7];simp;omega
       refine yy.mk (s:=CL) (c.toNat%16) (aeX c.toNat aA) (by show _<16;omega) ?_;rw[UC];refine a9.mk (z.M b) [] _ (by simp) (pk b bf (yU (c.toNat%16)) (by omega)) ?_;rintro v I' M' -⟨rfl,rfl,u,hu,xr,rfl⟩;refine⟨_,_,.refl,rfl,u,hu,?_,by simp⟩;rw[xr,s7,hl,other (by rw[bC];exact bP)];simp
     ·refine a9.mk (x.M b) [] _ (by simp) (pk b ae 92 (by omega)) ?_;rintro v I' M' -⟨rfl,rfl,y,aF,hl,rfl⟩;refine a9.mk (y.M b) [] _ (by simp) (pk b aF c (by rw[hl];simp;omega)) ?_;rintro v I' M' -⟨rfl,rfl,z,bf,s7,rfl⟩;refine⟨_,_,.refl,rfl,z,bf,?_,by simp⟩;rw[s7,hl,two I' (by rw[bC];rfl)];simp
def mO(n:Nat):List UInt8:=bif Nat.blt n 10 then [UInt8.ofNat (48+n)]else [UInt8.ofNat (48+n/10),UInt8.ofNat (48+n%10)]
def yV(n:Nat):ByteArray:=⟨(mO n).toArray⟩
def UD:ByteArray:=⟨((List.range 10).map (λn=>UInt8.ofNat (48+n))++(List.range 26).map (λn=>UInt8.ofNat (97+n))).toArray⟩
def UE:ByteArray:=⟨((List.range 100).flatMap λn=>[UInt8.ofNat (48+n/10),UInt8.ofNat (48+n%10)]).toArray⟩
def aeZ:∀ n:Fin 10,(UD.extract n.val (n.val+1)).data.toList=mO n.val:=by decide +kernel
def ae0:∀ n:Fin 100,10<=n.val->(UE.extract (n.val*2) (n.val*2+2)).data.toList=mO n.val:=by decide +kernel
def CM{a b:ByteArray}(h:a.data.toList=b.data.toList):a=b:=tM (gO h)
def FI(n:Nat):(mO n).length<=2:=by
 unfold mO;cases Nat.blt n 10<;>simp
def ae1(n:Nat)(aq:n<100):Spec Tryz.prog 245 [.int .i64 n] I [] λr I' M'=>r=.string (yV n)/\I'=I/\M'=[]:=by
 refine bN [] aV Tryz.func245 rfl rfl rfl ?_;intro B ar;refine aU.mk (λh=>?_) (λh=>?_)
 ·have aR:n<10:=by simp at h;omega
  refine bd.mk ((n+1:Nat):Int) (by rw[wrap_i64 ⟨by omega,by omega⟩];omega) ?_;refine ik.mk n (n+1) rfl rfl (by omega) (by show _<=36;omega) ?_;refine⟨_,_,.refl,?_,rfl,rfl⟩;have:UD.extract n (n+1)=yV n:=CM (aeZ ⟨n,aR⟩);rw[<-this];rfl
 ·have cP:10<=n:=by simp at h;omega
  refine bd.mk ((n*2:Nat):Int) (by rw[wrap_i64 ⟨by omega,by omega⟩];omega) ?_;refine bd.mk ((n*2:Nat):Int) (by rw[wrap_i64 ⟨by omega,by omega⟩];omega) ?_;refine bd.mk ((n*2+2:Nat):Int) (by rw[wrap_i64 ⟨by omega,by omega⟩];omega) ?_;refine ik.mk (n*2) (n*2+2) rfl rfl (by omega) (by show _<=200;omega) ?_;refine⟨_,_,.refl,?_,rfl,rfl⟩;have:UE.extract (n*2) (n*2+2)=yV n:=CM (ae0 ⟨n,aq⟩ cP);rw[<-this];rfl
def ae2(n:Nat)(aq:n<100):Spec Tryz.prog 235 [.int .i64 n,.int .i64 10] I [] λr I' M'=>r=.string (yV n)/\I'=I/\M'=[]:=by refine bN [] aV Tryz.func235 rfl rfl rfl ?_;intro B ar;refine aU.mk (λh=>?_) (λh=>by cases h);refine b4.mk (λh=>?_) (λh=>by simp at h;try omega);refine aU.mk (λh=>?_) (λh=>by simp at h;try omega);refine a9.mk [] [] _ (.refl _) (ae1 n aq) ?_;rintro v I' M' -⟨rfl,rfl,rfl⟩;exact⟨_,_,.refl,rfl,rfl,rfl⟩
def ae3(n:Nat)(aq:n<100):Spec Tryz.prog 225 [.int .i64 n] I [] λr I' M'=>r=.string (yV n)/\I'=I/\M'=[]:=by refine bN [] aV Tryz.func225 rfl rfl rfl ?_;intro B ar;refine a9.mk [] [] _ (.refl _) (ae2 n aq) ?_;rintro v I' M' -⟨rfl,rfl,rfl⟩;exact⟨_,_,.refl,rfl,rfl,rfl⟩
def ae4(n:Nat)(aq:n<100):Spec Tryz.prog 192 [.int .i64 n] I [] λr I' M'=>r=.string (yV n)/\I'=I/\M'=[]:=by refine bN [] aV Tryz.func192 rfl rfl rfl ?_;intro B ar;refine a9.mk [] [] _ (.refl _) (ae3 n aq) ?_;rintro v I' M' -⟨rfl,rfl,rfl⟩;exact⟨_,_,.refl,rfl,rfl,rfl⟩
def Jg(n:Nat)(aq:n<100):Spec Tryz.prog 129 [.int .i64 n] I [] λr I' M'=>r=.string (yV n)/\I'=I/\M'=[]:=by refine bN [] aV Tryz.func129 rfl rfl rfl ?_;intro B ar;refine a9.mk [] [] _ (.refl _) (ae4 n aq) ?_;rintro v I' M' -⟨rfl,rfl,rfl⟩;exact⟨_,_,.refl,rfl,rfl,rfl⟩
def g1(node yW:Int):Bool:=
 bif decide (node=5)then decide (yW=5)else
 bif decide (node=4)||(decide (node=7)||decide (node=8))then decide (yW=4)||decide (yW=5)else
 bif decide (node=6)then decide (yW=4)||(decide (yW=5)||(decide (yW=6)||(decide (yW=7)||decide (yW=8))))else false
def Nr(a b:Int):Spec Tryz.prog 262 [.int .u8 a,.int .u8 b] I [] λr I' M'=>r=.bool (g1 a b)/\I'=I/\M'=[]:=by
 refine bN [] aV Tryz.func262 rfl rfl rfl ?_;intro B ar;refine aU.mk (λaa=>?_) (λaa=>?_)
 ·refine⟨_,_,.refl,?_,rfl,rfl⟩;simp only[g1,aa];rfl
 ·have two:∀ (cU:aZ) (h:(decide (a=4)||(decide (a=7)||decide (a=8)))=true),g1 a b=(decide (b=4)||decide (b=5)):=λ_ h=>by simp only[g1,aa,h];rfl
  have Ns:(decide (a=4)||(decide (a=7)||decide (a=8)))=true->b4 (decide (b=4)) false (vk [] I [] λI' M'=>Value.bool (decide (b=5))=.bool (g1 a b)/\I'=I/\M'=[]) (vk [] I [] λI' M'=>Value.bool true=.bool (g1 a b)/\I'=I/\M'=[]):=λh=>by
   refine b4.mk (λaW=>?_) (λaW=>?_);·refine⟨_,_,.refl,?_,rfl,rfl⟩;rw[two I h,aW];rfl
   ·refine⟨_,_,.refl,?_,rfl,rfl⟩;rw[two I h,aW];rfl
  refine aU.mk (λab=>?_) (λab=>?_);·refine aU.mk (λ_=>?_) (λh=>by rw[ab]at h;cases h);exact Ns (by rw[ab];rfl)
  ·refine aU.mk (λag=>?_) (λag=>?_)
   ·refine aU.mk (λ_=>?_) (λh=>by rw[ag]at h;cases h);exact Ns (by rw[ag];simp)
   ·refine aU.mk (λaW=>?_) (λaW=>?_)
    ·exact Ns (by rw[aW];simp)
    ·have hw:g1 a b=(bif decide (a=6)then decide (b=4)||(decide (b=5)||(decide (b=6)||(decide (b=7)||decide (b=8))))else false):=by simp only[g1,aa,ab,ag,aW];rfl
     refine aU.mk (λbC=>?_) (λbC=>?_)
     ·rw[bC]at hw;simp only[bl]at hw;refine b4.mk (λeg=>?_) (λeg=>?_)
      ·refine b4.mk (λcA=>?_) (λcA=>?_)
       ·refine b4.mk (λgu=>?_) (λgu=>?_)
        ·refine b4.mk (λjG=>?_) (λjG=>?_)
         ·refine⟨_,_,.refl,?_,rfl,rfl⟩;rw[hw,eg,cA,gu,jG];rfl
         ·refine⟨_,_,.refl,?_,rfl,rfl⟩;rw[hw,eg,cA,gu,jG];rfl
        ·refine⟨_,_,.refl,?_,rfl,rfl⟩;rw[hw,eg,cA,gu];rfl
       ·refine⟨_,_,.refl,?_,rfl,rfl⟩;rw[hw,eg,cA];rfl
      ·refine⟨_,_,.refl,?_,rfl,rfl⟩;rw[hw,eg];rfl
     ·refine⟨_,_,.refl,?_,rfl,rfl⟩;rw[hw,bC];rfl
def wrap_u64(x:Int):gi (IntKind.u64.wrap x):=by unfold IntKind.wrap gi;simp only[IntKind.bits,IntKind.signed];simp;omega
def wrap_u8(x:Int):0<=IntKind.u8.wrap x/\IntKind.u8.wrap x<256:=by unfold IntKind.wrap;simp only[IntKind.bits,IntKind.signed];simp;omega
def UF{x:Int}(h:gi x):IntKind.u64.wrap x=x:=by obtain⟨aa,ab⟩:=h;unfold IntKind.wrap;simp only[IntKind.bits,IntKind.signed];simp;omega
def r0(I:aZ)(ax:List Int):Prop:=ax.length=64/\(∀ x∈ax,0<=x/\x<256)/\∃ T al,I 5=some (.cells (ax.map (Value.int .u8)).toArray T al)
def r0.rd(h:r0 I ax)(M:List aB)(an:j<64):cr I M (Addr.add ⟨5,0,none⟩ (j*1)) 1 [.int .u8 (ax.getD j 0)]:=by
 obtain⟨av,_,T,al,h⟩:=h;rw[dL _ rfl];refine⟨rfl,_,T,al,.inl h,?_,rfl⟩;have aa:j<(ax.map (Value.int .u8)).length:=by simp[av,an]
 have ab:j<ax.length:=by omega
 simp only[c0,fP];rw[eE aa,nt,mK];simp[cC,ab]
def r0.at(h:r0 I ax)(j:Nat):0<=ax.getD j 0/\ax.getD j 0<256:=by
 rw[cC];by_cases an:j<ax.length
 ·rw[eb an];exact h.2.1 _ (cJ an)
 ·simp[an]
def FJ(x y:Int):Int:=IntKind.u64.wrap (BitVec.ofInt 64 x &&& BitVec.ofInt 64 y).toNat
def s9(x:Int):Int:=IntKind.u64.wrap (FJ x (IntKind.u64.wrap (0-x))*285870213051353865)
def ua(ax:List Int)(x:Int):Int:=bif decide (x=0)then 64 else ax.getD ((s9 x).toNat/2^58) 0
def ae5(h:r0 I ax)(x:Int):0<=ua ax x/\ua ax x<256:=by
 unfold ua;cases decide (x=0)
 ·exact h.at _
 ·simp
def ae6(ai:r0 I ax)(x:Int):Spec Tryz.prog 282 [.int .u64 x] I [] λr I' M'=>r=.int .i64 (ua ax x)/\I'=I/\M'=[]:=by
 refine bN [] aV Tryz.func282 rfl rfl rfl ?_;intro B ar;refine aU.mk (λh=>?_) (λh=>?_)
 ·refine⟨_,_,.refl,?_,rfl,rfl⟩;simp only[ua,h];rfl
 ·have aC:=wrap_u64 (FJ x (IntKind.u64.wrap (0-x))*285870213051353865);refine bd.mk _ rfl ?_;refine bd.mk (s9 x) rfl ?_;refine rK.mk 58 rfl ?_;have az:((2:Int)^(min 58 IntKind.u64.bits))=2^58:=by decide
  rw[az];obtain⟨po,pq⟩:=aC;have aE:(s9 x).fdiv (2^58)=(((s9 x).toNat/2^58:Nat):Int):=by rw[Fm _ (by decide)];have:s9 x=((s9 x).toNat:Int):=(yN po).symm;omega
  rw[aE];have an:(s9 x).toNat/2^58<64:=by have:s9 x<18446744073709551616:=pq;omega
  refine dV.mk ((s9 x).toNat/2^58) rfl an ?_;refine aI.mk [.int .u8 (ax.getD ((s9 x).toNat/2^58) 0)] (ai.rd _ an) ?_;have ah:=ai.at ((s9 x).toNat/2^58);refine bd.mk (ax.getD ((s9 x).toNat/2^58) 0) (wrap_i64 ⟨by omega,by omega⟩) ?_;refine⟨_,_,.refl,?_,rfl,rfl⟩;simp only[ua,h];rfl
def ae7(a b c d:Int):Nat->List Value
 |0=>[.int .u64 (a),.int .u64 (b),.int .u64 (c),.int .u64 (d)]| 1=>[.int .u64 (hM a),.int .u64 (b),.int .u64 (c),.int .u64 (d)]| 2=>[.int .u64 (hM a),.int .u64 (hM b),.int .u64 (c),.int .u64 (d)]| 3=>[.int .u64 (hM a),.int .u64 (hM b),.int .u64 (hM c),.int .u64 (d)]| _=>[.int .u64 (hM a),.int .u64 (hM b),.int .u64 (hM c),.int .u64 (hM d)]
def ae8(a b c d:Int):Spec Tryz.prog 290 [.agg #[.int .u64 a,.int .u64 b,.int .u64 c,.int .u64 d]] I [] λr I' M'=>r=.agg #[.int .u64 (hM a),.int .u64 (hM b),.int .u64 (hM c),.int .u64 (hM d)]/\I'=I/\M'=[]:=by
 refine bN [] aV Tryz.func290 rfl rfl rfl ?_;intro B ar;refine c4.inv (ι:=Nat) (λi=>{ bu:=[(1,.ref 1 0),(2,.ref 2 0),(5,.val (.agg #[.int .u64 a,.int .u64 b,.int .u64 c,.int .u64 d])),(6,.val (.int .i64 i))],cl:=[(1,ae7 a b c d i),(2,[.int .u64 0,.int .u64 0,.int .u64 0,.int .u64 0])],cS:=I }) (λi=>i<=4) (λi=>4-i) ?_ ?_
 ·exact⟨0,by simp,.refl,ey,.cons rfl (.cons rfl .nil)⟩
 ·intro i hi
  match i,hi with
  |0,_=>refine aU.mk (λ_=>?_) (λh=>by simp at h);refine dV.mk 0 rfl (by decide) ?_;refine bn.FG rfl (by simp) rfl ?_;refine dV.mk 0 rfl (by decide) ?_;refine bd.mk 1 (by decide) ?_;exact⟨1,⟨by simp,by simp⟩,.refl,ey,.cons rfl (.cons rfl .nil)⟩| 1,_=>refine aU.mk (λ_=>?_) (λh=>by simp at h);refine dV.mk 1 rfl (by decide) ?_;refine bn.FG rfl (by simp) rfl ?_;refine dV.mk 1 rfl (by decide) ?_;refine bd.mk 2 (by decide) ?_;exact⟨2,⟨by simp,by simp⟩,.refl,ey,.cons rfl (.cons rfl .nil)⟩| 2,_=>refine aU.mk (λ_=>?_) (λh=>by simp at h);refine dV.mk 2 rfl (by decide) ?_;refine bn.FG rfl (by simp) rfl ?_;refine dV.mk 2 rfl (by decide) ?_;refine bd.mk 3 (by decide) ?_;exact⟨3,⟨by simp,by simp⟩,.refl,ey,.cons rfl (.cons rfl .nil)⟩| 3,_=>refine aU.mk (λ_=>?_) (λh=>by simp at h);refine dV.mk 3 rfl (by decide) ?_;refine bn.FG rfl (by simp) rfl ?_;refine dV.mk 3 rfl (by decide) ?_;refine bd.mk 4 (by decide) ?_;exact⟨4,⟨by simp,by simp⟩,.refl,ey,.cons rfl (.cons rfl .nil)⟩| 4,_=>refine aU.mk (λh=>by simp at h) (λ_=>?_);exact⟨_,_,.refl,rfl,rfl,rfl⟩
def ae9:Spec Tryz.prog 273 [] I [] λr I' M'=>r=.agg #[.int .u64 (hM 0),.int .u64 (hM 0),.int .u64 (hM 0),.int .u64 (hM 0)]/\I'=I/\M'=[]:=by refine bN [] aV Tryz.func273 rfl rfl rfl ?_;intro B ar;refine a9.mk [] [] _ (.refl _) (ae8 0 0 0 0) ?_;rintro v I' M' -⟨rfl,rfl,rfl⟩;exact⟨_,_,.refl,rfl,rfl,rfl⟩
def q5(I:aZ)(b:Nat)(o:Obj):ins I b o b=some o:=by simp[ins]
def lr(ai:I b=none):∀ c p,I c=some p->ins I b o c=some p:=by
 intro c p h;unfold ins;cases e:Nat.beq c b with
 |false=>exact h| true=>have:=c6 e;subst this;rw[ai]at h;cases h
def afa{x y:Int}(ae:gi x)(aF:gi y):FJ x y=((x.toNat &&& y.toNat:Nat):Int):=by
 obtain⟨x,rfl⟩:=h' ae.1;obtain⟨y,rfl⟩:=h' aF.1;have aa:x<18446744073709551616:=by have:=ae.2;omega
 have ab:y<18446744073709551616:=by have:=aF.2;omega
 have e:∀ z:Nat,z<18446744073709551616->(BitVec.ofInt 64 (z:Int)).toNat=z:=λz bf=>by rw[BitVec.toNat_ofInt];omega
 unfold FJ;rw[Fp,e x aa,e y ab,UF]
 ·simp
 ·have:=Nat.and_le_left (n:=x) (m:=y);exact⟨by omega,by omega⟩
def yX(x:Int):Int:=FJ x (IntKind.u64.wrap (x-1))
def AJ(n:Nat):Nat:=((List.range 64).filter n.testBit).length
def afb(n:Nat):AJ n<=64:=by have:=EQ n.testBit (List.range 64);simpa[AJ]using this
def afc{x:Int}(ae:gi x)(ar:x≠0):gi (yX x)/\AJ (yX x).toNat<AJ x.toNat:=by
 obtain⟨n,rfl⟩:=h' ae.1;have aa:n<18446744073709551616:=by have:=ae.2;omega
 have jV:0<n:=by omega
 have ap:gi ((n:Int)-1):=⟨by omega,by omega⟩;have e:yX (n:Int)=((n &&& (n-1):Nat):Int):=by unfold yX;rw[UF ap,afa ae ap];congr 2;omega
 have bs:n &&& (n-1)<=n-1:=Nat.and_le_right;refine⟨by rw[e];exact⟨by omega,by omega⟩,?_⟩;rw[e];simp only[qK];unfold AJ;have j3:List.Sublist ((List.range 64).filter (n &&& (n-1)).testBit) ((List.range 64).filter n.testBit):=by
  have:(List.range 64).filter (n &&& (n-1)).testBit=((List.range 64).filter n.testBit).filter (n-1).testBit:=by rw[List.filter_filter];congr 1;funext i;rw[Nat.testBit_and,Bool.and_comm]
  rw[this];exact MV
 rcases Nat.lt_or_eq_of_le j3.length_le with h | h
 ·exact h
 ·exfalso;have vI:=j3.eq_of_length h;have:n &&& (n-1)=n:=by
   apply Nat.eq_of_testBit_eq;intro i;by_cases hi:i<64
   ·have hm:i∈(List.range 64).filter (n &&& (n-1)).testBit ↔ i∈(List.range 64).filter n.testBit:=by rw[vI]
    simp only[sD,lF,hi,true_and]at hm;cases aa:(n &&& (n-1)).testBit i<;>cases ab:n.testBit i<;>simp_all
   ·have ab:2^64<=2^i:=Nat.pow_le_pow_right (by omega) (by omega);rw[Nat.testBit_lt_two_pow (by omega),Nat.testBit_lt_two_pow (by omega)]
  omega
def byteOf(ax:List Int)(i:Nat)(w:Int):UInt8:=UInt8.ofNat (IntKind.u8.wrap ((i:Int)*64+ua ax w)).toNat
def afd(ax:List Int)(i:Nat)(w:Int):((byteOf ax i w).toNat:Int)=IntKind.u8.wrap ((i:Int)*64+ua ax w):=by have:=wrap_u8 ((i:Int)*64+ua ax w);unfold byteOf;rw[UInt8.toNat_ofNat'];omega
def ub(ax:List Int)(i:Nat):Nat->Int->List UInt8
 |0,_=>[]| f+1,w=>bif decide (w=0)then []else byteOf ax i w::ub ax i f (yX w)
def iz(ax:List Int):Nat->List Int->List UInt8
 |_,[]=>[]| i,w::ws=>ub ax i 64 w++iz ax (i+1) ws
def UG(ax:List Int)(i:Nat):∀ f w,(ub ax i f w).length<=f
 |0,_=>by simp[ub]
 |f+1,w=>by
  unfold ub;have:=UG ax i f (yX w);cases decide (w=0)<;>simp
  exact this
def Nt(ax:List Int):∀ ws i,(iz ax i ws).length<=64*ws.length
 |[],_=>by simp[iz]
 |w::ws,i=>by have aa:=UG ax i 64 w;have ab:=Nt ax ws (i+1);simp only[iz,cI,ea];omega
def s'(l:List UInt8):List (List Value):=l.map λc=>[.int .u8 c.toNat]
def CN(a b c d:Int):List Value:=[.int .u64 a,.int .u64 b,.int .u64 c,.int .u64 d]
def afe(a b c d:Int):Spec Tryz.prog 300 [.agg #[.int .u64 a,.int .u64 b,.int .u64 c,.int .u64 d]] I [] λr I' M'=>∃ g,r=.func (.func 305) #[] #[ptr g]/\I' g=some (.cells (CN a b c d).toArray 49 (0,0))/\(∀ b o,I b=some o->I' b=some o)/\M'=[]:=by refine bN [1] aV Tryz.func300 rfl rfl rfl ?_;intro B ar;refine b8.mk λg au xp=>?_;exact⟨_,_,.nk rfl (by simp) .refl,g,rfl,q5 ..,lr au,rfl⟩
def aff(AK:r0 I ax){a b c:Int}(ta:∀ x∈[a,b,c,d],gi x)(au:I g=some (.cells (CN a b c d).toArray 49 (0,0))) :
  Iter Tryz.prog 305 [ptr g] I (s' (iz ax 0 [a,b,c,d])):=by
 intro l R sZ vJ dM M0 pt ki;refine Ct [] aV Tryz.func305 rfl rfl rfl ?_;intro B ar;have bk:∀ (cU:aZ) (M:List aB),(∀ b o,I b=some o->cU b=some o)->cr cU M ⟨g,0,none⟩ 4 (CN a b c d):=λcU M h=>⟨rfl,_,_,_,.inl (h _ _ au),rfl,rfl⟩;refine aI.mk _ (bk _ _ pt) ?_;refine c4.inv (ι:=Nat×Nat×aZ×List aB) (λx=>{ bu:=[(0,.val (.func (.yield l) #[] #[])),(5,.val (.agg (CN a b c d).toArray)),(6,.val (.int .i64 x.1))],cS:=x.2.2.1,db:=x.2.2.2 }) (λx=>x.1<=4/\(∀ b o,I b=some o->x.2.2.1 b=some o)/\R x.2.1 x.2.2.1 x.2.2.2/\x.2.1<=(iz ax 0 [a,b,c,d]).length/\(iz ax 0 [a,b,c,d]).drop x.2.1=iz ax x.1 ([a,b,c,d].drop x.1)) (λx=>4-x.1) ?_ ?_
 ·exact⟨(0,0,dM,M0),⟨by simp,pt,ki,by simp,rfl⟩,.refl,fH,.nil⟩
 ·rintro⟨i,k,cU,M1⟩⟨hi,bO,kq,cw,gY⟩;simp only at hi bO kq cw gY;refine aU.mk (λh=>?_) (λh=>?_)
  ·have aR:i<4:=by simp at h;omega
   have bZ:i < [a,b,c,d].length:=aR;refine dV.mk i rfl aR ?_;have yY:pack false ((((CN a b c d).toArray).toList.drop (i*1)).take 1)=.int .u64 [a,b,c,d][i]:=by
    match i,aR with
    |0,_=>rfl| 1,_=>rfl| 2,_=>rfl| 3,_=>rfl
   have ko:[a,b,c,d].drop i=[a,b,c,d][i]::[a,b,c,d].drop (i+1):=eE bZ;refine c4.inv (ι:=Int×Nat×Nat×aZ×List aB) (λx=>{ bu:=[(0,.val (.func (.yield l) #[] #[])),(3,.val (.int .i64 i)),(4,.val (.int .u64 x.1)),(5,.val (.agg (CN a b c d).toArray)),(6,.val (.int .i64 i))],cS:=x.2.2.2.1,db:=x.2.2.2.2 }) (λx=>gi x.1/\AJ x.1.toNat<=x.2.1/\(∀ b o,I b=some o->x.2.2.2.1 b=some o)/\R x.2.2.1 x.2.2.2.1 x.2.2.2.2/\x.2.2.1<=(iz ax 0 [a,b,c,d]).length/\(iz ax 0 [a,b,c,d]).drop x.2.2.1=ub ax i x.2.1 x.1++iz ax (i+1) ([a,b,c,d].drop (i+1))) (λx=>AJ x.1.toNat) ?_ ?_
   ·refine⟨([a,b,c,d][i],64,k,cU,M1),⟨ta _ (cJ bZ),afb _,bO,kq,cw,?_⟩,.refl,.cons .refl (.cons .refl (.cons ?_ (xb))),.nil⟩
    ·simp only;rw[gY,ko];rfl
    ·simp only;rw[<-yY];exact .refl
   ·rintro⟨w,f,k,cU,M1⟩⟨hw,aJ,bO,kq,cw,gY⟩;simp only at hw aJ bO kq cw gY;refine aU.mk (λh=>?_) (λh=>?_)
    ·have Jh:w≠0:=by simpa using h
     obtain⟨h0,lP⟩:=afc hw Jh;obtain⟨f,rfl⟩:∃ f',f=f'+1:=⟨f-1,by omega⟩;have ai:ub ax i (f+1) w=byteOf ax i w::ub ax i f (yX w):=by simp[ub,Jh]
     rw[ai,qZ]at gY;have af:k<(iz ax 0 [a,b,c,d]).length:=by apply Fq;intro bs;rw[ji bs]at gY;cases gY
     have jk:=eE af;rw[gY]at jk;obtain⟨r1,fI⟩:=List.cons.inj jk;have lQ:k<(s' (iz ax 0 [a,b,c,d])).length:=by simpa[s']using af
     have aj:(s' (iz ax 0 [a,b,c,d]))[k]=[.int .u8 (IntKind.u8.wrap ((i:Int)*64+ua ax w))]:=by simp only[s',lq,<-r1,afd]
     have UH:r0 cU ax:=by obtain⟨ej,ed,T,al,fJ⟩:=AK;exact⟨ej,ed,T,al,bO _ _ fJ⟩
     have asb:=ae5 UH w;refine bd.mk ((i:Int)*64) (wrap_i64 ⟨by omega,by omega⟩) ?_;refine a9.mk [] M1 _ (.refl _) (ae6 UH w) ?_;rintro v I' M' -⟨rfl,rfl,rfl⟩;refine bd.mk ((i:Int)*64+ua ax w) (wrap_i64 ⟨by omega,by omega⟩) ?_;refine bd.mk _ rfl ?_;refine bn.yield rfl (by simp) rfl rfl ?_;have aF:=vJ k lQ I' M1 bO kq;rw[aj]at aF;refine Fu.mk M1 [] _ (by simp) aF ?_;rintro v ev ez eM (⟨rfl,pg⟩ | ⟨rfl,ae⟩);·refine aU.mk (λh=>by simp at h) (λ_=>?_);refine bd.mk _ rfl ?_;exact⟨(yX w,f,k+1,ev,ez),⟨⟨h0,by simp only;omega,λb o h=>eM b o (bO b o h),pg,af,fI.symm⟩,by simp only;exact lP⟩,.perm (by simp) .refl,gS,.nil⟩
     ·refine aU.mk (λ_=>?_) (λh=>by simp at h);exact⟨_,_,.perm (by simp) .refl,.inr ae⟩
    ·have Jh:w=0:=by simpa using h
     have fu:IntKind.i64.wrap ((i:Int)+1)=((i+1:Nat):Int):=by rw[wrap_i64 ⟨by omega,by omega⟩];omega
     refine bd.mk _ fu ?_;have ai:ub ax i f w=[]:=by cases f<;>simp[ub,Jh]
     rw[ai,jZ]at gY;exact⟨(i+1,k,cU,M1),⟨⟨by simp only;omega,bO,kq,cw,gY⟩,by simp only;omega⟩,.refl,fH,.nil⟩
  ·have kM:i=4:=by simp at h;omega
   subst kM;refine⟨_,_,.refl,.inl ?_⟩;have n9:(iz ax 0 [a,b,c,d]).drop k=[]:=by rw[gY];rfl
   have xt:k=(s' (iz ax 0 [a,b,c,d])).length:=by have:=I1.1 n9;simp only[s',c8];omega
   rw[<-xt];exact kq
def uc(l:List (UInt8×UInt8))(b:UInt8):List (UInt8×UInt8):=match l.getLast? with
 |some p=>bif decide ((p.2.toNat:Int)+1=b.toNat)then l.dropLast++[(p.1,b)]else l++[(b,b)]| none=>[(b,b)]
def pu(l:List UInt8):List (UInt8×UInt8):=l.foldl uc []
def jH(p:UInt8×UInt8):List Value:=[.int .u8 p.1.toNat,.int .u8 p.2.toNat]
def pw(l:List (UInt8×UInt8)):List Value:=l.flatMap jH
def Ji(l:List (UInt8×UInt8)):(pw l).length=l.length*2:=fQ jH 2 (λ_=>rfl) l
def afg(l:List (UInt8×UInt8))(b:UInt8):(uc l b).length<=l.length+1:=by
 unfold uc;split
 ·rename_i p h;cases decide ((p.2.toNat:Int)+1=b.toNat)<;>simp
 ·simp
def UI(l:List UInt8):(pu l).length<=l.length:=by
 have:∀ (l:List UInt8) (a4:List (UInt8×UInt8)),(l.foldl uc a4).length<=a4.length+l.length:=by
  intro l
  induction l with
  |nil=>intro a4;simp| cons b l a7=>intro a4;have aa:=a7 (uc a4 b);have ab:=afg a4 b;simp only[sC,ea];omega
 simpa[pu]using this l []
def yZ:((⟨b,0,none⟩:Addr).add i).add j=(⟨b,0,none⟩:Addr).add (i+j):=by rw[dL ⟨_,0,none⟩ rfl i,dL _ rfl j,dL _ rfl (i+j)];simp
def mP{M:List aB}{cs:List Value}(a1:(⟨b,.cells cs.toArray T (0,0)⟩:aB)∈M)(h:cs[i+j]?=some v):cr I M (((⟨b,0,none⟩:Addr).add i).add j) 1 [v]:=by obtain⟨av,rfl⟩:=hT.1 h;have:=dO (I:=I) a1 (k:=i+j) (n:=1) (by omega);rw[eE av,nt,mK]at this;rw[yZ];exact this
def UJ(bc:List Value)(u v z:Value)(bb:List Value)(k:Nat)(af:k=bc.length+1):bo (bc++([u,v]++bb)) k [z]=bc++([u,z]++bb):=by
 subst af;unfold bo;have az:(bc++([u,v]++bb)).take (bc.length+1)=bc++[u]:=by rw[show bc++([u,v]++bb)=(bc++[u])++(v::bb)from by simp];exact p5 (by simp)
 have aE:(bc++([u,v]++bb)).drop (bc.length+1+[z].length)=bb:=by rw[show bc++([u,v]++bb)=(bc++[u,v])++bb from by simp];exact CD (by simp)
 rw[az,aE];simp
def Nu{os:a'}{a8:List (UInt8×UInt8)}{x:UInt8}(ca:os.ok 2 (pw a8)){aK:List Value}(aa:aK.length=c*2)(ab:os.n+1<=c)(ag:c<=maxLen)(aW:aK.take ((os.n+1)*2)=pw a8++jH (x,x)) :
  a'.ok ⟨some g,os.n+1,c,aK⟩ 2 (pw (a8++[(x,x)])):=by
 have FK:pw (a8++[(x,x)])=pw a8++jH (x,x):=by simp[pw]
 have av:=ca.len;refine⟨?_,(λh=>by cases h),λbI q6=>⟨aa,ab,ag,by rw[FK];exact aW⟩⟩;rw[FK,cI,av];simp[jH];omega
def afh(l:List UInt8)(x:UInt8):pu (l++[x])=uc (pu l) x:=by simp[pu]
def afi(AK:r0 I ax){a b c:Int}(ta:∀ x∈[a,b,c,d],gi x):Spec Tryz.prog 293 [.agg #[.int .u64 a,.int .u64 b,.int .u64 c,.int .u64 d]] I []
  λr I' M'=>(∀ b o,I b=some o->I' b=some o)/\∃ os:a',r=os.val/\os.ok 2 (pw (pu (iz ax 0 [a,b,c,d])))/\M'=os.aP 386:=by
 refine bN [3] aV Tryz.func293 rfl rfl rfl ?_;intro B ar;refine b8.mk λg au xp=>?_;refine a9.mk [] [⟨g,.cells #[.slice none 0 0] 384 (0,0)⟩] _ (.refl _) (afe a b c d) ?_;rintro v cU M1 -⟨a3,rfl,kr,bO,rfl⟩;have afj:r0 cU ax:=by obtain⟨ej,ed,T,al,fJ⟩:=AK;exact⟨ej,ed,T,al,bO _ _ fJ⟩
 have b9:=Nt ax [a,b,c,d] 0;refine c5.range aV rfl rfl rfl .refl (aff afj ta kr) (λvs h=>?_) (λk I' M'=>(∀ b o,cU b=some o->I' b=some o)/\∃ os:a',os.ok 2 (pw (pu ((iz ax 0 [a,b,c,d]).take k)))/\M'=⟨g,.cells #[os.val] 384 (0,0)⟩::os.aP 386) (λ_ _ _=>False) ⟨λ_ _ h=>h,⟨none,0,0,[]⟩,⟨rfl,λ_=>⟨rfl,rfl⟩,λg h=>by cases h⟩,rfl⟩ ?_ ?_ (λ_ _ _ _ h=>h.elim)
 ·obtain⟨c,_,rfl⟩:=dA.1 h;rfl
 ·rintro k af I' M' -⟨mQ,os,ca,rfl⟩l B ar hY;have y0:k<(iz ax 0 [a,b,c,d]).length:=by simpa[s']using af
  generalize asc:iz ax 0 [a,b,c,d]=L at *;generalize ae:L[k]=x;have aj:(s' L)[k]=[.int .u8 x.toNat]:=by simp[s',ae]
  rw[aj];have kk:pu (L.take (k+1))=uc (pu (L.take k)) x:=by rw[gf y0,ae,afh]
  rw[kk];have gW:(pu (L.take k)).length<=256:=by have aa:=UI (L.take k);have ab:=Aw k L;simp only[ea,gV]at b9;omega
  generalize lp:pu (L.take k)=a8 at *;have fD:=x.toNat_lt;obtain⟨xu,n,eG,aK⟩:=os;have aq:a8.length=n:=by have:=ca.len;rw[Ji]at this;simp only at this;omega
  cases xu with
  |none=>
   obtain⟨az,aE⟩:=ca.nil rfl;simp only at az aE;subst az;subst aE;have s6:a8=[]:=jh aq;have oi:uc a8 x=a8++[(x,x)]:=by rw[s6];rfl
   refine aI.mk [.slice none 0 0] (dO (cs:=[.slice none 0 0]) (k:=0) (n:=1) (T:=384) (.head _) (by simp)) ?_;refine bd.mk (-1) (by decide) ?_;refine b4.mk (λh=>by simp at h) (λ_=>?_);refine aI.mk [.slice none 0 0] (dO (cs:=[.slice none 0 0]) (k:=0) (n:=1) (T:=384) (.head _) (by simp)) ?_;refine b8.mk λa6 jF UK=>?_;refine bn.append aV rfl (by simp) (e:=386) rfl rfl rfl (⟨none,0,0,aK⟩:a') ca rfl (m:=1) rfl (bV:=jH (x,x)) (by decide) (dO (cs:=jH (x,x)) (k:=0) (n:=2) (T:=386) (.head _) (by simp[jH])) rfl (Mr:=[⟨a6,.cells (jH (x,x)).toArray 386 (0,0)⟩,⟨g,.cells #[.slice none 0 0] 384 (0,0)⟩]) (hX (l₁:=[_,_])) (by simp only[maxLen];omega) (by show(_+1)*2<=_;simp only;omega) ?_;intro dv c' hN ej ed fJ gI;refine cp.mk [⟨dv,.cells hN.toArray 386 (0,0)⟩,⟨a6,.cells (jH (x,x)).toArray 386 (0,0)⟩] [] _ _ rfl rfl (bS rfl) rfl ?_;refine⟨_,_,.perm (M1:=[⟨a6,.cells (jH (x,x)).toArray 386 (0,0)⟩]++(⟨g,.cells #[a'.val ⟨some dv,(⟨none,0,0,aK⟩:a').n+1,c',hN⟩] 384 (0,0)⟩::a'.aP ⟨some dv,(⟨none,0,0,aK⟩:a').n+1,c',hN⟩ 386)) (hX (l₁:=[_]) (l₂:=[_,_])) (.sub (jY _ _) .refl),mQ,⟨some dv,(⟨none,0,0,aK⟩:a').n+1,c',hN⟩,?_,rfl⟩;rw[oi];exact Nu ca ej ed fJ gI
  |some cK=>
   obtain⟨eA,mj,kT,dz⟩:=ca.cap cK rfl;simp only at eA mj kT dz;refine aI.mk [.slice (some ⟨cK,0,none⟩) n eG] (dO (cs:=[.slice (some ⟨cK,0,none⟩) n eG]) (k:=0) (n:=1) (T:=384) (.head _) (by simp)) ?_;refine bd.mk ((n:Int)-1) (wrap_i64 ⟨by omega,by omega⟩) ?_;refine b4.mk (λaa=>?_) (λaa=>?_)
   ·have jV:1<=n:=by simp at aa;omega
    obtain⟨ud,p,rfl⟩:∃ ud p,a8=ud++[p]:=by
     rcases Fo a8 with h | ⟨r,p,h⟩;·subst h;simp at aq;omega
     ·exact⟨r,p,by simpa using h⟩
    have ny:ud.length=n-1:=by simp at aq;omega
    have iA:(pw ud).length=(n-1)*2:=by rw[Ji,ny]
    obtain⟨bb,lR⟩:∃ bb,aK=pw ud++([.int .u8 p.1.toNat,.int .u8 p.2.toNat]++bb):=by refine⟨aK.drop (n*2),?_⟩;have ab:=sV (n*2) aK;rw[dz]at ab;rw[<-ab,CD (by rw[Ji,aq])];simp[pw,jH]
    have kt:aK[(n-1)*2+1*1]?=some (.int .u8 p.2.toNat):=by rw[lR,<-iA,o9 (by omega)];simp
    have AL:=p.2.toNat_lt;refine aI.mk [.slice (some ⟨cK,0,none⟩) n eG] (dO (cs:=[.slice (some ⟨cK,0,none⟩) n eG]) (k:=0) (n:=1) (T:=384) (.head _) (by simp)) ?_;refine bi.mk ⟨cK,0,none⟩ (n-1) rfl (by omega) (by omega) ?_;refine dV.mk 1 rfl (by decide) ?_;refine aI.mk [.int .u8 p.2.toNat] (mP (b:=cK) (cs:=aK) (T:=386) (by simp[a'.aP]) kt) ?_;refine bd.mk (p.2.toNat:Int) (wrap_i64 ⟨by omega,by omega⟩) ?_;refine bd.mk ((p.2.toNat:Int)+1) (wrap_i64 ⟨by omega,by omega⟩) ?_;refine bd.mk (x.toNat:Int) (wrap_i64 ⟨by omega,by omega⟩) ?_;have oi:uc (ud++[p]) x=bif decide ((p.2.toNat:Int)+1=x.toNat)then ud++[(p.1,x)]else ud++[p]++[(x,x)]:=by simp[uc]
    refine aU.mk (λab=>?_) (λab=>?_)
    ·rw[ab]at oi;refine aI.mk [.slice (some ⟨cK,0,none⟩) n eG] (dO (cs:=[.slice (some ⟨cK,0,none⟩) n eG]) (k:=0) (n:=1) (T:=384) (.head _) (by simp)) ?_;refine bi.mk ⟨cK,0,none⟩ (n-1) rfl (by omega) (by omega) ?_;refine dV.mk 1 rfl (by decide) ?_;rw[yZ];refine cp.add [⟨g,.cells #[.slice (some ⟨cK,0,none⟩) n eG] 384 (0,0)⟩] [] aK.toArray _ rfl ?_ rfl ?_
     ·simp only[mE];show 0+((n-1)*2+1)+1<=_;omega
     ·refine⟨_,_,.refl,mQ,⟨some cK,n,eG,bo aK (0+((n-1)*2+1*1)) [.int .u8 x.toNat]⟩,?_,rfl⟩;have ch:bo aK (0+((n-1)*2+1*1)) [.int .u8 x.toNat]=pw ud++([.int .u8 p.1.toNat,.int .u8 x.toNat]++bb):=by rw[lR];exact UJ _ _ _ _ _ _ (by omega)
      rw[oi,ch];have FK:pw (ud++[(p.1,x)])=pw ud++[.int .u8 p.1.toNat,.int .u8 x.toNat]:=by simp[pw,jH]
      refine⟨?_,(λh=>by cases h),λbI q6=>⟨?_,mj,kT,?_⟩⟩;·simp only[bl];rw[FK,cI,iA];simp;omega
      ·simp only;rw[<-eA,lR];simp
      ·simp only[bl];rw[FK,<-fq];refine p5 ?_;rw[cI,iA];simp;omega
    ·rw[ab]at oi;simp only[bh]at oi;refine aI.mk [.slice (some ⟨cK,0,none⟩) n eG] (dO (cs:=[.slice (some ⟨cK,0,none⟩) n eG]) (k:=0) (n:=1) (T:=384) (.head _) (by simp)) ?_;refine b8.mk λa6 jF UK=>?_;refine bn.append aV rfl (by simp) (e:=386) rfl rfl rfl (⟨some cK,n,eG,aK⟩:a') ca rfl (m:=1) rfl (bV:=jH (x,x)) (by decide) (dO (cs:=jH (x,x)) (k:=0) (n:=2) (T:=386) (.head _) (by simp[jH])) rfl (Mr:=[⟨a6,.cells (jH (x,x)).toArray 386 (0,0)⟩,⟨g,.cells #[.slice (some ⟨cK,0,none⟩) n eG] 384 (0,0)⟩]) (hX (l₁:=[_,_])) (by simp only[maxLen];omega) (by show(_+1)*2<=_;simp only;omega) ?_;intro dv c' hN ej ed fJ gI;refine cp.mk [⟨dv,.cells hN.toArray 386 (0,0)⟩,⟨a6,.cells (jH (x,x)).toArray 386 (0,0)⟩] [] _ _ rfl rfl (bS rfl) rfl ?_;refine⟨_,_,.perm (M1:=[⟨a6,.cells (jH (x,x)).toArray 386 (0,0)⟩]++(⟨g,.cells #[a'.val ⟨some dv,(⟨some cK,n,eG,aK⟩:a').n+1,c',hN⟩] 384 (0,0)⟩::a'.aP ⟨some dv,(⟨some cK,n,eG,aK⟩:a').n+1,c',hN⟩ 386)) (hX (l₁:=[_]) (l₂:=[_,_])) (.sub (jY _ _) .refl),mQ,⟨some dv,(⟨some cK,n,eG,aK⟩:a').n+1,c',hN⟩,?_,rfl⟩;rw[oi];exact Nu ca ej ed fJ gI
   ·have ny:n=0:=by simp at aa;omega
    have s6:a8=[]:=jh (by omega);have oi:uc a8 x=a8++[(x,x)]:=by rw[s6];rfl
    refine aI.mk [.slice (some ⟨cK,0,none⟩) n eG] (dO (cs:=[.slice (some ⟨cK,0,none⟩) n eG]) (k:=0) (n:=1) (T:=384) (.head _) (by simp)) ?_;refine b8.mk λa6 jF UK=>?_;refine bn.append aV rfl (by simp) (e:=386) rfl rfl rfl (⟨some cK,n,eG,aK⟩:a') ca rfl (m:=1) rfl (bV:=jH (x,x)) (by decide) (dO (cs:=jH (x,x)) (k:=0) (n:=2) (T:=386) (.head _) (by simp[jH])) rfl (Mr:=[⟨a6,.cells (jH (x,x)).toArray 386 (0,0)⟩,⟨g,.cells #[.slice (some ⟨cK,0,none⟩) n eG] 384 (0,0)⟩]) (hX (l₁:=[_,_])) (by simp only[maxLen];omega) (by show(_+1)*2<=_;simp only;omega) ?_;intro dv c' hN ej ed fJ gI;refine cp.mk [⟨dv,.cells hN.toArray 386 (0,0)⟩,⟨a6,.cells (jH (x,x)).toArray 386 (0,0)⟩] [] _ _ rfl rfl (bS rfl) rfl ?_;refine⟨_,_,.perm (M1:=[⟨a6,.cells (jH (x,x)).toArray 386 (0,0)⟩]++(⟨g,.cells #[a'.val ⟨some dv,(⟨some cK,n,eG,aK⟩:a').n+1,c',hN⟩] 384 (0,0)⟩::a'.aP ⟨some dv,(⟨some cK,n,eG,aK⟩:a').n+1,c',hN⟩ 386)) (hX (l₁:=[_]) (l₂:=[_,_])) (.sub (jY _ _) .refl),mQ,⟨some dv,(⟨some cK,n,eG,aK⟩:a').n+1,c',hN⟩,?_,rfl⟩;rw[oi];exact Nu ca ej ed fJ gI
 ·rintro I' M' -⟨mQ,os,ca,rfl⟩;refine aI.mk [os.val] (dO (cs:=[os.val]) (k:=0) (n:=1) (T:=384) (.head _) (by simp)) ?_;refine⟨_,_,.sub (List.sublist_cons_self _ _) .refl,λb o h=>mQ _ _ (bO _ _ h),os,rfl,?_,rfl⟩;have:(iz ax 0 [a,b,c,d]).take (s' (iz ax 0 [a,b,c,d])).length=iz ax 0 [a,b,c,d]:=eW (by simp[s']);rw[this]at ca;exact ca
end Go.V
