/- Part 2 of what the proofs of this seat share: the executor, data in memory, walks.
-/
import Derived.Test.YtelfblhcphnbmaaGreatDoorK1
import Derived.Lib.UnsafeStr
import Derived.Test.YtelfblhcphnbmaaGreatDoorProg
import Derived.KernelRfl
import Derived.Lib.Builder
import Derived.Lib.Bytealg
import Derived.Laws.Pointers
import Derived.Laws.StructEq
set_option linter.all false
set_option maxHeartbeats 4000000
namespace Go.V
open Go
def cD:=@List.length_append
def dR:=@List.getElem_mem
def en:=@List.append_nil
def gK:=@List.perm_append_comm
def dG:=@Nat.zero_add
def hN:=@List.take_of_length_le
def iT:=@List.getElem?_eq_getElem
def fJ:=@List.append_assoc
def fl:=@List.length_map
def lD:=@List.eq_nil_of_length_eq_zero
def iU:=@List.drop_eq_nil_of_le
def gu:=@List.nil_sublist
def k2:=@List.sublist_append_right
def oO:=@List.getElem?_append_right
def iF:=@List.length_nil
def oP:=@decide_eq_false_iff_not
def mg:=@List.flatMap_append
def kz:=@List.length_take
def nU:=@Bool.or_eq_false_iff
def qM:=@Int.eq_ofNat_of_zero_le
def iV:=@Nat.add_mul
def nV:=@List.getElem_map
def qN:=@List.take_succ_cons
def nW:=@List.nil_append
def oQ:=@List.take_left'
def qO:=@List.flatMap_cons
def kA:=@Nat.mul_one
def r8:=@List.getElem?_set
def w2:=@List.getElem_cons_zero
def r9:=@List.length_drop
def r':=@List.map_toArray
def A5:=@List.take_append_of_le_length
def sb:=@List.cons_append
def w3:=@List.take_append_drop
def qP:=@List.take_zero
def D5:=@List.set_eq_take_append_cons_drop
def yW:=@World.putObj_heap_same
def w4:=@Array.length_toList
def w5:=@Int.toNat_of_nonneg
def pT:=@List.map_nil
def D6:=@Array.eq_empty_of_size_eq_zero
def oR:=@Nat.one_mul
def sc:=@List.sum_cons
def tG:=@List.take_take
def A6:=@ByteArray.size_extract
def D7:=@Int.fdiv_eq_ediv_of_nonneg
def vl:=@List.drop_take
def yX:=@List.ext_getElem
def w6:=@List.drop_drop
def D8:=@List.getElem_cons_succ
def D9:=@List.length_replicate
def Nh:=@Std.Legacy.Range.forIn_eq_forIn_range'
def w7:=@Bool.true_and
def yY:=@List.drop_zero
def yZ:=@Bool.false_and
def D':=@List.map_congr_left
def Ea:=@List.length_take_le
def Eb:=@List.ext_getElem?
def Ec:=@BitVec.toNat_and
def HC:=@List.drop_eq_nil_iff
def Ni:=@List.drop_length_add_append
def A7:=@Nat.zero_mul
def Ed:=@List.take_left
def Nj:=@Lib.run_firstCells_string
def HD:=@List.drop_left'
variable{P:Program}{a sa:Option Addr}{w:World}{c g m t u e c' b qQ it T size j i dU:Nat}{X:b'}{F:Fr}{C:cG}{I I':aN}{K:List aC->Prop}{o:Obj}{f x s y:Operand}{vs xs news:List Value}{lE:TypeDesc}{cP k3 aE:dw}{sd p v:Value}{Mr:List aC}{ad:Addr}{k:IntKind}{other:Prop}{cs:Array Value}{α:Type}{deb:List Int}{d:Int}
def Nk{oK:Fence}{n:Nat}{Q:Exit->Act->World->Prop}{a:Act}{c:Code}(J:Nat->Nat->Act->World->Prop)
  (first:c.wpIn oK n P (λe bw w'=>match e with
   | .goto l=>∃ m,J l m bw w'| e=>Q e bw w') a w)
  (pass:∀ l m a w,J l m a w->∃ rest,findLabel c l=some rest/\rest.wpIn oK n P (λe bw w'=>match e with
   | .goto cd=>∃ m',m'<m/\J cd m' bw w'| e=>Q e bw w') a w):(Code.scope c).wpIn oK n P Q a w:=by
 intro b k cs jE ag ao;have fT:step P (lone (b.atR a (.code (.scope c)::k)) cs w)=.next (lone (b.atR a (.code c::.inScope c::k)) cs w):=
  step_lone_go (by simp[stepG,stepG.exec,Frame.atR])
 have s1:∀ a w,step P (lone (b.atR a (.inScope c::k)) cs w)=.next (lone (b.atR a k) cs w):=λa w=>
  step_lone_go (by simp[stepG,stepG.exec,Frame.atR])
 have ae:∀ id,exitTo id (.inScope c::k)=exitTo id k:=λid=>by simp[exitTo]
 have fin:∀ {m:Machine} {e:Exit} {hK:Act} {hL:World},(∀ l,e≠.goto l)->ArrivesIn (Machine.fenced P oK) P m b (.inScope c::k) cs e hK hL->ArrivesIn (Machine.fenced P oK) P m b k cs e hK hL:=by
  intro m e hK hL bl gU;cases e with
  |normal=>exact StepsIn.trans gU (.one (fenced_calm ag ao rfl) (s1 _ _))| exit id=>exact⟨λcb af=>gU.1 cb (by rw[ae];exact af),λfw af=>gU.2 fw (by rw[ae];exact af)⟩| goto l=>exact(bl l rfl).elim| ret=>exact gU| panic rV=>exact gU| outgrown=>exact gU
 have key:∀ m l a w,J l m a w->∀ rest,findLabel c l=some rest->∃ e bw w',Q e bw w'/\ArrivesIn (Machine.fenced P oK) P (lone (b.atR a (.code rest::.inScope c::k)) cs w) b k cs e bw w':=by
  intro m
  induction m using Nat.strongRecOn with
  |_ m a8=>
   intro l a w cT rest vm;obtain⟨y0,aD,hw⟩:=pass l m a w cT;rw[vm]at aD;cases aD;obtain⟨e,hK,hL,aK,gU⟩:=hw b (.inScope c::k) cs jE ag ao;cases e with
   |goto cd=>
    obtain⟨m',aU,A8⟩:=aK;obtain⟨y0,tH,_⟩:=pass cd m' hK hL A8;have aG:gotoIn cd (.inScope c::k)=some (.code y0::.inScope c::k):=by simp[gotoIn,tH]
    obtain⟨AM,AN,AO,AP,AQ⟩:=a8 m' aU cd hK hL A8 y0 tH;exact⟨AM,AN,AO,AP,.of_steps (gU.1 _ aG) AQ⟩
   |normal=>exact⟨_,hK,hL,aK,fin (by simp) gU⟩| exit id=>exact⟨_,hK,hL,aK,fin (by simp) gU⟩| ret=>exact⟨_,hK,hL,aK,fin (by simp) gU⟩| panic rV=>exact⟨_,hK,hL,aK,fin (by simp) gU⟩| outgrown=>exact⟨_,hK,hL,aK,fin (by simp) gU⟩
 have au:(lone (b.atR a (.code (.scope c)::k)) cs w).fenced P oK:=fenced_calm ag ao rfl;obtain⟨e,hK,hL,aK,gU⟩:=first b (.inScope c::k) cs jE ag ao
 cases e with
 |goto cd=>
  obtain⟨m',A8⟩:=aK;obtain⟨y0,tH,_⟩:=pass cd m' hK hL A8;have aG:gotoIn cd (.inScope c::k)=some (.code y0::.inScope c::k):=by simp[gotoIn,tH]
  obtain⟨AM,AN,AO,AP,AQ⟩:=key m' cd hK hL A8 y0 tH;exact⟨AM,AN,AO,AP,.of_steps (.head au fT (gU.1 _ aG)) AQ⟩
 |normal=>exact⟨_,hK,hL,aK,.of_steps (.one au fT) (fin (by simp) gU)⟩| exit id=>exact⟨_,hK,hL,aK,.of_steps (.one au fT) (fin (by simp) gU)⟩| ret=>exact⟨_,hK,hL,aK,.of_steps (.one au fT) (fin (by simp) gU)⟩| panic rV=>exact⟨_,hK,hL,aK,.of_steps (.one au fT) (fin (by simp) gU)⟩| outgrown=>exact⟨_,hK,hL,aK,.of_steps (.one au fT) (fin (by simp) gU)⟩
def HE(N:Nat->eF)(K:jD):jD
 | .goto l=>N l| e=>K e
def cX.scope{c:Code}{M:List aC}{K:jD}(aI:cj X.P X.E)(aW:codeOk X.n c=true){ι:Type}(ap:ι->wZ)(se:ι->Nat)(inv:ι->Prop)(μ:ι->Nat)(rest:Nat->Code)(vm:∀ i,inv i->findLabel c (se i)=some (rest (se i))/\codeOk X.n (rest (se i))=true)(first:V X c F C I M (HE (λl=>pO X.bF ap λj=>inv j/\se j=l) K))(pass:∀ i,inv i->V X (rest (se i)) (pM (ap i).ca) (pN (ap i).cl) (ap i).cQ (ap i).dq (HE (λl=>pO X.bF ap λj=>(inv j/\se j=l)/\μ j<μ i) K)) :
  cX X (.scope c) F C I M K:=by
 refine⟨λa w aX=>?_⟩;let J (l m:Nat) (a:Act) (w:World):Prop:=∃ i,inv i/\se i=l/\μ i=m/\Rel X a w (pM (ap i).ca) (pN (ap i).cl) (ap i).cQ (ap i).dq
 have vb:∀ {p:ι->Prop} {l:Nat} {a w},(∀ i,p i->inv i/\se i=l)->Sat X (pO X.bF ap p) a w->∃ i,p i/\J l (μ i) a w:=by rintro p l a w aH⟨F,C,I,M,⟨β,ao⟩,⟨j,nM,hw,ct,oJ⟩⟩;exact⟨j,nM,j,(aH j nM).1,(aH j nM).2,rfl,β,(ao.base ct oJ).gS hw⟩
 refine Nk J (wpIn_mono (nL aI c aW aX first) ?_) ?_
 ·intro e a w h;cases e with
  |goto l=>obtain⟨j,ar,cT⟩:=vb (p:=λj=>inv j/\se j=l) (l:=l) (λ_ h=>h) h;exact⟨_,cT⟩
  |_=>exact h
 ·rintro l m a w⟨i,hi,rfl,rfl,ao⟩;obtain⟨aa,ab⟩:=vm i hi;refine⟨_,aa,wpIn_mono (nL aI _ ab ao (pass i hi)) ?_⟩;intro e a w h;cases e with
  |goto cd=>obtain⟨j,ar,cT⟩:=vb (p:=λj=>(inv j/\se j=cd)/\μ j<μ i) (l:=cd) (λ_ h=>h.1) h;exact⟨_,ar.2,cT⟩
  |_=>exact h
def A9(P:Program)(l:Nat)(args:List Value)(I:aN)(M:List aC)(post:Value->aN->List aC->Prop):Prop:=
 ∀ w,dC I M w->∃ f tmps assign body,(Instr.yield l args.toArray).run P w=.ok (.round l f tmps assign body) w /\ RoundIn Fence.wide 0 P l f tmps assign body w λe w'=>∃ v I' M',e=.returned v/\post v I' M'/\dC I' M' w'/\Kept I M w I' M' w'
inductive Ee(P:Program)(l:Nat)(args:List Value)(I:aN)(M:List aC)(K:Value->aN->List aC->Prop):Prop
 |mk(cH Mr:List aC)(post:Value->aN->List aC->Prop)(a5:M.Perm (cH++Mr))(aq:A9 P l args I cH post)(k:∀ v I' M',(∀ b o,I b=some o->I' b=some o)->post v I' M'->K v I' (M'++Mr))
def be.yield{o:Oper}{M:List aC}{K:eF}{args:Array Operand}{dN:Array TypeId}{l:Nat}(an:o.op=.call { callee:=.value f,args,argTypes:=dN })(ak:∀ d,o.dst=some d->d<X.n)(aD:bi F f=.val (.func (.yield l) #[] #[]))(gG:j2 F args.toList=some vs)
  (h:Ee X.P l vs I M λv I' M'=>K (put o.dst (.val v) F) C I' M'):be X o F C I M K:=by
 refine⟨λa w Q ⟨β,aX⟩=>?_⟩;obtain⟨cH,Mr,post,a5,aq,af⟩:=h;obtain⟨fn,tmps,assign,body,aL,ao⟩:=aq w (aX.holds.part a5);have ax:=pI aX.aj gG;have cL:args.map a.eval=vs.toArray:=by apply fa;simpa using ax
 have aA:=cw aX.aj aD;obtain⟨dst,op,ty,pos,after,guard⟩:=o;simp only at an;subst an;refine⟨λ_ _=>trivial,?_⟩;rw[Dx _ _ _ (by simp)];have eu:(execOp a.eval ⟨dst,.call { callee:=.value f,args,argTypes:=dN },ty,pos,after,guard⟩).run X.P w=.ok (.round l fn tmps assign body) w:=by simp only[execOp,resolve,aA,Deferred.ofValue,bH,ch,bx,cL,invoke];simpa using aL
 rw[eu,Oper.uponIn_round];refine⟨(λh=>by cases h),?_⟩;have fw:RoundIn (fb X) (0-1) X.P l fn tmps assign body w _:=ao;refine fw.mono ?_;rintro e w'⟨v,I',M',rfl,aH,nJ,dB⟩;exact⟨_,_,_,_,⟨β,(aX.after a5 nJ dB).put (x:=.val v) ak rfl⟩,af v I' M' dB.le aH⟩
def Iter(P:Program)(g:Nat)(cap:List Value)(I:aN)(mh:List (List Value)):Prop:=
 ∀ (l:Nat) (R:Nat->aN->List aC->Prop) (qR:aN->List aC->Prop),(∀ k (af:k<mh.length) I' M',(∀ b o,I b=some o->I' b=some o)->R k I' M'->A9 P l mh[k] I' M' λv A' k4=>(v=.bool true/\R (k+1) A' k4)\/(v=.bool false/\qR A' k4)) -> ∀ cW M0,(∀ b o,I b=some o->cW b=some o)->R 0 cW M0->rN P g (.func (.yield l) #[] #[]::cap) cW M0 λ_ I' M'=>R mh.length I' M'\/qR I' M'
def Ba:List Nat->List Value->Fr->Fr
 |t::ps,v::vs,F=>Ba ps vs (e5 F t (.val v))| _,_,F=>F
def VQ(bF:List Nat)(N:aN->List aC->Prop)(qR:qJ->aN->List aC->Prop):jD:=λex F C I M=>match ex with
 | .normal=>rW bF I M N| ex=>rW bF I M (qR ex)
def y1:qJ->Option Code
 | .normal=>none| .exit id=>some (.exit id)| .goto l=>some (.goto l)| .ret=>some .ret
section
variable{X:b'}{β:Nat->Nat}{a:Act}{w:World}{F:Fr}{C:cG}{I:aN}{M:List aC}
def Nl:∀ (ps:List Nat) (vs:List Value) (F:Fr) (tmps:Array Value),(∀ t∈ps,t<tmps.size)->(∀ t,dD β (F t) (tmps.getD t undef)) ->
  let r:=(ps.zip vs).foldl (λ(tmps:Array Value) (p:Nat×Value)=>tmps.setIfInBounds p.1 p.2) tmps
  r.size=tmps.size/\∀ t,dD β (Ba ps vs F t) (r.getD t undef)
 |[],vs,F,tmps,_,h=>⟨rfl,h⟩| t::ps,[],F,tmps,_,h=>⟨rfl,h⟩
 |t::ps,v::vs,F,tmps,aH,h=>by
  have aa:∀ s,dD β (e5 F t (.val v) s) ((tmps.setIfInBounds t v).getD s undef):=λs=>by have:=G' (β:=β) (F:=F) (a:=⟨tmps,[]⟩) h (d:=t) (x:=.val v) (v:=v) (aH t (by simp)) rfl s;exact this
  have a8:=Nl ps vs (e5 F t (.val v)) (tmps.setIfInBounds t v) (λs aq=>by simpa using aH s (by simp[aq])) aa;simp only[List.zip_cons_cons,At,Ba];exact⟨by simpa using a8.1,a8.2⟩
def bY.Nm(h:bY X β a w F C I M):bY X β { a with defers:=ts w.heap.size::a.defers } (w.alloc (.deferred (some []))) F C I M where
 size:=h.size
 defers:=by
  obtain⟨a3,aa,ab,ai⟩:=h.defers;refine⟨w.heap.size::a3,by simp[aa],?_,?_⟩;·rw[kW];refine⟨λhm=>?_,ab⟩;have:=(jx.1 (ai _ hm).at_).1;omega
  ·intro r ao;rcases dv.1 ao with rfl | ao
   ·exact⟨G8 w _,h.sz,h.holds.oI,h.holds.nH⟩
   ·exact(ai r ao).alloc _
 holds:=h.holds.alloc _
 aj:=h.aj
 bL s cs aq:=(h.bL s cs aq).alloc _
 inj:=h.inj
 gb:=h.gb
 fH:=h.fH
 own:=h.own
 cE:=Hb h.cE h.sz _
 out:=h.out
 sz:=by have:=h.sz;simp;omega
def bY.Bb{n:Nat}{o':Obj}(h:bY X β a w F C I (⟨n,o⟩::M)):bY X β a (w.putObj n o') F C I M:=by
 have et:(⟨n,o⟩:aC)∈(⟨n,o⟩:aC)::M:=by simp
 have b3:=h.holds.a2;simp only[eh,kW]at b3;exact {
  size:=h.size
  defers:=h.defers.mono λr ao=>by have bl:n≠r:=ao.dF _ et;refine { ao with at_:=?_,dF:=λx ae=>ao.dF x (by simp[ae]) };rw[kt (pD bl)];exact ao.at_
  holds:={
   i:=λb o hr=>by rw[kt (λe=>by have:=h.holds.d _ et;simp only at this;rw[e,this]at hr;cases hr)];exact h.holds.i b o hr
   m:=λx ae=>by rw[kt (λe=>b3.1 (dO.2 ⟨x,ae,e⟩))];exact h.holds.m x (by simp[ae])
   d:=λx ae=>h.holds.d x (by simp[ae])
   a2:=b3.2 }
  aj:=h.aj
  bL:=λs cs aq=>by have ag:=h.bL s cs aq;have bl:n≠β s:=ag.dF _ et;obtain⟨T,bO⟩:=ag.at_;refine { ag with at_:=⟨T,?_⟩,dF:=λx ae=>ag.dF x (by simp[ae]) };rw[kt (pD bl)];exact bO
  inj:=h.inj
  gb:=h.gb
  fH:=h.fH
  own:=λx ae=>h.own x (by simp[ae])
  cE:=λb ag aD=>by
   rw[kt (λe=>by
    rcases h.own _ et with aa | aa;·simp only at aa;exact aD (e ▸ aa)
    ·simp only at aa;omega)]
   exact h.cE b ag aD
  out:=h.out.trans (DD _ _ _)
  sz:=by have:=h.sz;simpa using this }
def cX.range{K:jD}{ps:Array Nat}{dV body:Code}{cap:Array Value}{mh:List (List Value)}(aI:cj X.P X.E)(jE:X.ro=none)(aW:(codeOk X.n dV&&(codeOk X.n body&&ps.toList.all (λt=>Nat.blt t X.n)))=true)(VR:bi F f=.val (.func (.func g) #[] cap)){c3:aN}{M1:List aC}(Bc:h6 X.bF I M c3 M1)(VS:Iter X.P g cap.toList c3 mh)(hlen:∀ vs∈mh,vs.length=ps.size)(R:Nat->aN->List aC->Prop)(qR:qJ->aN->List aC->Prop)(start:R 0 c3 M1)(round:∀ k (af:k<mh.length) I' M',(∀ b o,c3 b=some o->I' b=some o)->R k I' M'->∀ l B au kB,V ⟨X.P,X.E,X.e6,X.n,B,au,I',M'.map (·.num),some l⟩ dV (Ba ps.toList mh[k] F) (λ_=>none) I' M' (wY (λF C I M=>V ⟨X.P,X.E,X.e6,X.n,B,kB,I',M'.map (·.num),some l⟩ body F C I M (VQ (M'.map (·.num)) (R (k+1)) qR)) (λ_ _ _ _ _=>False)))(done:∀ I' M',(∀ b o,c3 b=some o->I' b=some o)->R mh.length I' M'->K .normal F C I' M')(stop:∀ ex I' M',(∀ b o,c3 b=some o->I' b=some o)->qR ex I' M'->ex≠.normal/\K ex F C I' M') :
  cX X (.rangeFunc f ps dV body) F C I M K:=by
 refine⟨λa w ⟨β,jk⟩=>?_⟩;have aX:=jk.gS Bc;simp only[bG]at aW;obtain⟨sf,gL,sg⟩:=aW;refine wpIn_rangeFunc λfn _=>?_;let fz (s:LoopState) (mS:Option Code):Loop:={ state:=s,pending:=mS,fn:=fn,tmps:=a.tmps,params:=ps,assign:=dV,body:=body,defers:=w.heap.size }
 let l:=w.heap.size+1
 let h':World:=(w.alloc (.deferred (some []))).alloc (.loop (fz .ready none))
 have w8:=aX.Nm.l' (.loop (fz .ready none));have ay:(w.alloc (.deferred (some []))).heap.size=l:=by simp[l]
 rw[ay]at w8;let HF (k:Nat) (I':aN) (M':List aC):Prop:=∃ eP,M'=⟨l,.loop (fz .ready none)⟩::eP/\R k I' eP
 let Nn (I':aN) (M':List aC):Prop:=∃ ex c eP,y1 ex=some c/\M'=⟨l,.loop (fz .done (some c))⟩::eP/\qR ex I' eP
 have aL:∀ k (af:k<mh.length) I' M',(∀ b o,c3 b=some o->I' b=some o)->HF k I' M'->A9 X.P l mh[k] I' M' λv A' k4=>(v=.bool true/\HF (k+1) A' k4)\/(v=.bool false/\Nn A' k4):=by
  rintro k af I' _ hle⟨eP,rfl,VT⟩W gr;have Bd:W.heap[l]?=some (.loop (fz .ready none)):=gr.m ⟨l,.loop (fz .ready none)⟩ (by simp);have aU:l<W.heap.size:=(jx.1 Bd).1;have b3:=gr.a2;simp only[eh,kW]at b3;have No:I' l=none:=gr.d ⟨l,.loop (fz .ready none)⟩ (by simp);refine⟨_,_,_,_,run_yield Bd (by simpa using hlen _ (dR af)),?_⟩;have HG:((fz LoopState.ready none).params.zip mh[k].toArray).foldl (λtmps (x:Nat×Value)=>match x with | (t,a)=>tmps.setIfInBounds t a) (fz LoopState.ready none).tmps=(ps.toList.zip mh[k]).foldl (λ(tmps:Array Value) (p:Nat×Value)=>tmps.setIfInBounds p.1 p.2) a.tmps:=by rw[<-G2];simp[fz]
  have HH:=Nl (β:=β) ps.toList mh[k] F a.tmps (λt az=>by
   have:=gR.1 sg t az;rw[aX.size];exact bq this) aX.aj
  rw[<-HG]at HH;refine roundIn_of_wpIn (F:=Fence.wide) (n:=0) trivial ?_;let sh:b':=⟨X.P,X.E,X.e6,X.n,W.heap.size,W,I',eP.map (·.num),some l⟩
  let kB:=W.putObj l (.loop (fz .busy none))
  let Be:b':=⟨X.P,X.E,X.e6,X.n,W.heap.size,kB,I',eP.map (·.num),some l⟩
  have ah:=round k af I' eP hle VT l W.heap.size W kB;have AS:bY sh β { tmps:=((fz LoopState.ready none).params.zip mh[k].toArray).foldl (λtmps (x:Nat×Value)=>match x with | (t,a)=>tmps.setIfInBounds t a) (fz LoopState.ready none).tmps,defers:=[] } W (Ba ps.toList mh[k] F) (λ_=>none) I' eP:={
   size:=HH.1.trans aX.size
   defers:=⟨[],rfl,wJ,λr ao=>by cases ao⟩
   holds:=⟨gr.i,λx ae=>gr.m x (by simp[ae]),λx ae=>gr.d x (by simp[ae]),b3.2⟩
   aj:=HH.2
   bL:=λs cs aq=>by cases aq
   inj:=λs b0 aa=>by simp at aa
   gb:=λb o ag=>ag
   fH:=λb o ag=>.inl ag
   own:=λx ae=>.inl (dO.2 ⟨x,ae,rfl⟩)
   cE:=λb ag aD=>rfl
   out:=.refl _
   sz:=bS _ }
  have DN:=nL (X:=sh) aI dV sf ⟨β,AS⟩ ah;refine wpIn_mono (Q:=j7 sh _) DN ?_;intro e cf hb aq;cases e with
  |exit id=>obtain⟨_,_,_,_,_,af⟩:=aq;exact af.elim
  |goto id=>obtain⟨_,_,_,_,_,af⟩:=aq;exact af.elim
  |ret=>obtain⟨_,_,_,_,_,af⟩:=aq;exact af.elim
  |panic rV=>exact aq.elim| outgrown=>exact aq.elim
  |normal=>
   obtain⟨iR,VU,gh,oS,⟨Np,h9⟩,wW⟩:=aq;have w9:hb.heap[l]?=some (.loop (fz .ready none)):=by rw[h9.cE l aU b3.1];exact Bd
   refine⟨_,run_beginRound w9 rfl,?_⟩;have VV:gh l=none:=by
    cases a':gh l with
    |none=>rfl
    |some o=>
     rcases h9.fH _ _ a' with aa | aa;·rw[show sh.cW=I' from rfl,No]at aa;cases aa
     ·exact absurd aa (Nat.not_le.2 aU)
   have VW:∀ x∈oS,x.num≠l:=λx ae e=>by
    rcases h9.own x ae with aa | aa;·rw[e]at aa;exact b3.1 aa
    ·rw[e]at aa;exact absurd aa (Nat.not_le.2 aU)
   have tC:bY Be Np cf (hb.putObj l (.loop (fz .busy none))) iR VU gh oS:={
    size:=h9.size
    defers:=by obtain⟨a3,aO,aP,br⟩:=h9.defers;refine⟨a3,aO,aP,λr fI=>?_⟩;have ao:=br r fI;refine { at_:=?_,base:=ao.base,hH:=ao.hH,dF:=ao.dF };rw[kt (λe=>by have aa:=ao.at_;rw[e,w9]at aa;cases aa)];exact ao.at_
    holds:={
     i:=λb o hr=>by rw[kt (λe=>by rw[e,VV]at hr;cases hr)];exact h9.holds.i b o hr
     m:=λx ae=>by rw[kt (VW x ae)];exact h9.holds.m x ae
     d:=h9.holds.d
     a2:=h9.holds.a2 }
    aj:=h9.aj
    bL:=λs cs aq=>by have ag:=h9.bL s cs aq;obtain⟨T,bO⟩:=ag.at_;refine { at_:=⟨T,?_⟩,base:=ag.base,hH:=ag.hH,dF:=ag.dF };rw[kt (λe=>by rw[e,w9]at bO;cases bO)];exact bO
    inj:=h9.inj
    gb:=h9.gb
    fH:=h9.fH
    own:=h9.own
    cE:=λb ag aD=>by
     by_cases e:b=l;·subst e;rw[yW (jx.1 w9).1];exact(yW aU).symm
     ·rw[kt e];show _=(W.putObj l (.loop (fz .busy none))).heap[b]?;rw[kt e];exact h9.cE b ag aD
    out:=⟨h9.out.1,h9.out.2⟩
    sz:=by have:=h9.sz;simpa using this }
   have VX:=nL (X:=Be) aI body gL ⟨Np,tC⟩ wW;refine wpIn_mono (Q:=j7 Be _) VX ?_;have fin:∀ (c2:Act) (lF:World) (si:Fr) (sj:cG) (iG:aN) (mU:List aC) (jump:Option Code),Rel Be c2 lF si sj iG mU->∃ hO,(Instr.endRound l jump).run X.P lF=.ok (.bool jump.isNone) hO /\
     dC iG (⟨l,.loop (fz (if jump.isNone then .ready else .done) jump)⟩::mU) hO/\Kept I' (⟨l,.loop (fz .ready none)⟩::eP) W iG (⟨l,.loop (fz (if jump.isNone then .ready else .done) jump)⟩::mU) hO:=by
    rintro c2 lF si sj iG mU jump⟨vn,ai⟩;have xa:lF.heap[l]?=some (.loop (fz .busy none)):=by rw[ai.cE l aU b3.1];exact yW aU
    have Nq:iG l=none:=by
     cases a':iG l with
     |none=>rfl
     |some o=>
      rcases ai.fH _ _ a' with aa | aa;·rw[show Be.cW=I' from rfl,No]at aa;cases aa
      ·exact absurd aa (Nat.not_le.2 aU)
    have Nr:∀ x∈mU,x.num≠l:=λx ae e=>by
     rcases ai.own x ae with aa | aa;·rw[e]at aa;exact b3.1 aa
     ·rw[e]at aa;exact absurd aa (Nat.not_le.2 aU)
    refine⟨_,run_endRound jump xa,?_,?_⟩
    ·exact {
      i:=λb o hr=>by rw[kt (λe=>by rw[e,Nq]at hr;cases hr)];exact ai.holds.i b o hr
      m:=λx ae=>by
       rcases dv.1 ae with rfl | ae;·exact yW (jx.1 xa).1
       ·rw[kt (Nr x ae)];exact ai.holds.m x ae
      d:=λx ae=>by
       rcases dv.1 ae with rfl | ae;·exact Nq
       ·exact ai.holds.d x ae
      a2:=by
       simp only[eh,kW];refine⟨λhm=>?_,ai.holds.a2⟩;obtain⟨x,ae,e⟩:=dO.1 hm;exact Nr x ae e }
    ·exact {
      le:=ai.gb
      rM:=ai.fH
      tq:=λx ae=>by
       rcases dv.1 ae with rfl | ae;·exact .inl ⟨⟨l,.loop (fz .ready none)⟩,by simp,rfl⟩
       ·rcases ai.own x ae with aa | aa
        ·obtain⟨y,aL,e⟩:=dO.1 aa;exact .inl ⟨y,by simp[aL],e⟩
        ·exact .inr aa
      cE:=λb ag bl=>by
       have pU:b≠l:=λe=>bl ⟨l,.loop (fz .ready none)⟩ (by simp) e.symm;rw[kt pU,ai.cE b ag (λhm=>by
        obtain⟨y,aL,e⟩:=dO.1 hm;exact bl y (by simp[aL]) e)]
       exact kt pU
      out:=⟨ai.out.1,ai.out.2⟩
      sz:=by have:=ai.sz;simpa using this }
   intro e c2 lF sk;cases e with
   |normal=>obtain⟨si,sj,iG,mU,⟨vn,ai⟩,⟨lG,mi,xb,aH⟩⟩:=sk;obtain⟨hO,aQ,bp,bM⟩:=fin c2 lF si sj lG mi none ⟨vn,ai.gS xb⟩;exact⟨_,hO,aQ,_,_,_,rfl,.inl ⟨rfl,_,rfl,aH⟩,bp,bM⟩
   |exit id=>obtain⟨si,sj,iG,mU,⟨vn,ai⟩,⟨lG,mi,xb,aH⟩⟩:=sk;obtain⟨hO,aQ,bp,bM⟩:=fin c2 lF si sj lG mi (some (.exit id)) ⟨vn,ai.gS xb⟩;exact⟨_,hO,aQ,_,_,_,rfl,.inr ⟨rfl,.exit id,_,_,rfl,rfl,aH⟩,bp,bM⟩
   |goto id=>obtain⟨si,sj,iG,mU,⟨vn,ai⟩,⟨lG,mi,xb,aH⟩⟩:=sk;obtain⟨hO,aQ,bp,bM⟩:=fin c2 lF si sj lG mi (some (.goto id)) ⟨vn,ai.gS xb⟩;exact⟨_,hO,aQ,_,_,_,rfl,.inr ⟨rfl,.goto id,_,_,rfl,rfl,aH⟩,bp,bM⟩
   |ret=>obtain⟨si,sj,iG,mU,⟨vn,ai⟩,⟨lG,mi,xb,aH⟩⟩:=sk;obtain⟨hO,aQ,bp,bM⟩:=fin c2 lF si sj lG mi (some .ret) ⟨vn,ai.gS xb⟩;exact⟨_,hO,aQ,_,_,_,rfl,.inr ⟨rfl,.ret,_,_,rfl,rfl,aH⟩,bp,bM⟩
   |panic rV=>exact sk.elim| outgrown=>exact sk.elim
 obtain⟨mN,wV⟩:=VS l HF Nn aL c3 (⟨l,.loop (fz .ready none)⟩::M1) (λ_ _ h=>h) ⟨M1,rfl,start⟩;have kd:=wV h' w8.holds;have aA:=cw aX.aj VR;refine⟨l,[ts w.heap.size],h',{ target:=.fn (.func g) cap,args:=#[.func (.yield l) #[] #[]] },h',g,(.func (.yield l) #[] #[]::cap.toList).toArray,h',?_,?_,λ_ _=>trivial,?_,(λh=>by cases h),?_⟩
 ·have HI:(fb X).round=none:=jE;rw[HI];exact run_enterLoop_outer fn a.tmps ps dV body
 ·show(Deferred.ofValue (a.eval f) (#[Operand.const (.func (.yield l) #[] #[])].map a.eval)).run X.P h'=_;rw[aA];simp[Deferred.ofValue,Act.eval]
 ·simp only[invoke];rw[show #[Value.func (.yield l) #[] #[]]++cap=(.func (.yield l) #[] #[]::cap.toList).toArray from by apply fa;simp];exact mN _ _
 ·refine(He (X:=X) kd _).mono ?_;rintro e lF⟨v,I',M',rfl,aH,nJ,dB⟩;have vo:=w8.after (Mr:=[]) (by simp) nJ dB;rw[en]at vo;have hle:=dB.le;rcases aH with⟨eP,rfl,VY⟩ | ⟨ex,c,eP,aF,rfl,VZ⟩
  ·refine⟨none,_,run_endLoop (nJ.m ⟨l,.loop (fz .ready none)⟩ (by simp)) (by simp[fz]),?_⟩;exact⟨F,C,I',eP,⟨β,vo.Bb⟩,done I' eP hle VY⟩
  ·refine⟨some c,_,run_endLoop (nJ.m ⟨l,.loop (fz .done (some c))⟩ (by simp)) (by simp[fz]),?_⟩;obtain⟨bl,af⟩:=stop ex I' eP hle VZ;cases ex with
   |normal=>exact(bl rfl).elim| exit id=>cases aF;exact wpIn_exit ⟨F,C,I',eP,⟨β,vo.Bb⟩,af⟩| goto id=>cases aF;exact wpIn_goto ⟨F,C,I',eP,⟨β,vo.Bb⟩,af⟩| ret=>cases aF;exact wpIn_ret ⟨F,C,I',eP,⟨β,vo.Bb⟩,af⟩
end
structure bb where
 a:Option Nat
 n:Nat
 c:Nat
 cur:List Value
def bb.val(o:bb):Value:=.slice (o.a.map λg=>⟨g,0,none⟩) o.n o.c
def bb.aV(o:bb)(e:Nat):List aC:=match o.a with
 |some g=>[⟨g,.cells o.cur.toArray e (0,0)⟩]| none=>[]
structure bb.ok(o:bb)(size:Nat)(xs:List Value):Prop where
 len:xs.length=o.n*size
 nil:o.a=none->o.n=0/\o.c=0
 cap:∀ g,o.a=some g->o.cur.length=o.c*size/\o.n<=o.c/\o.c<=maxLen/\o.cur.take (o.n*size)=xs
section
variable{P:Program}{w:World}
def Ns(t u ty e:Nat)(i:TypeInfo)(z:Value)(az:P.underlying t=some (.slice e))(hu:P.underlying u=some lE)(mV:∀ k,lE≠.int k)(hi:P.info? e=some i)(bd:i.zero=some z)(tI:z.cells.size=i.size)
  {os:bb} (aW:os.ok i.size xs) (aG:∀ g,os.a=some g->w.heap[g]?=some (.cells os.cur.toArray e (0,0)))
  {x:Value} (hm:0<m) (ay:news.length=m*i.size) (aa:∀ v∈news,v.oneCell'=true)
  (hlen:∀ w',(Builtin.lenOf x).run P w'=.ok m w') (fA:∀ w':World,w'.heap=w.heap->(Builtin.firstCells i.size m x).run P w'=.ok news.toArray w')
  (cU:os.n+m<=maxLen) (b9:(os.n+m)*i.bytes<=140737488355328) :
  ∃ (g c:Nat) (cur:List Value) (w':World),(Builtin.append_ #[t,u] ty #[os.val,x]).run P w=.ok (.slice (some ⟨g,0,none⟩) (os.n+m) c) w'/\cur.length=c*i.size/\os.n+m<=c/\c<=maxLen/\cur.take ((os.n+m)*i.size)=xs++news /\
   ((os.a=some g/\w'=w.setRow g cur.toArray)\/(g=w.heap.size/\w'=w.drew.alloc (.cells cur.toArray e (0,0)))):=by
 obtain⟨a,n,c,cur⟩:=os;have HJ:(xs++news).length=(n+m)*i.size:=by rw[cD,aW.len,ay,iV]
 have Nt:∀ cE,(xs++news++(Builtin.zeroCells z.cells (grownCap w (n+m) cE e-(n+m))).toList).length=grownCap w (n+m) cE e*i.size/\n+m<=grownCap w (n+m) cE e/\grownCap w (n+m) cE e<=maxLen /\
   (xs++news++(Builtin.zeroCells z.cells (grownCap w (n+m) cE e-(n+m))).toList).take ((n+m)*i.size)=xs++news:=by
  intro cE;have dE:=grownCap_ge w (n+m) cE e;have ke:grownCap w (n+m) cE e<=maxLen:=grownCap_le_maxLen w (n+m) cE e cU;refine⟨?_,dE,ke,?_⟩;·rw[cD,HJ,w4,size_zeroCells,tI,<-iV];congr 1;omega
  ·rw[<-HJ];exact Ed
 have Bf:(match lE with | .int _=>true | _=>false)=false:=by cases lE<;>first | rfl | exact(mV _ rfl).elim
 have mW:n+m<=9223372036854775807:=by simp only[maxLen]at cU;exact cU
 cases a with
 |none=>
  obtain⟨kf,y2⟩:=aW.nil rfl;simp only at kf y2;subst kf;subst y2;have ae:xs=[]:=lD (by simpa using aW.len);subst ae;simp only[dG,nW]at *;have au:0<m:=hm;have aw:m≠0:=by omega
  have Bg:¬ (9223372036854775807<(m:Int)):=by omega
  have Bh:¬ (281474976710656<Builtin.nextslicecap m 0*i.bytes):=by rw[nextslicecap_zero au];omega
  have aD:=fA w.drew rfl;obtain⟨aO,aP,br,eW⟩:=Nt 0;refine⟨w.heap.size,grownCap w m 0 e,_,w.drew.alloc (.cells (news++(Builtin.zeroCells z.cells (grownCap w m 0 e-m)).toList).toArray e),?_,aO,aP,br,eW,.inr ⟨rfl,rfl⟩⟩;simp[bb.val,Builtin.append_,run_underlying az,run_underlying hu,sizeOf,typeInfo,zeroValue,hi,bd,hlen,aw,Bg,Bh,Question.forced,run_firstCells_none,aD,newRow,grownCap];congr 2;apply fa;simp
 |some g=>
  obtain⟨eo,k5,ke,oT⟩:=aW.cap g rfl;have HK:=aG g rfl;simp only at eo k5 ke oT HK;by_cases pV:n+m<=c
  ·have fm:n*i.size+news.length<=cur.length:=by rw[ay,eo,<-iV];exact qz _ pV
   have cx:=run_storeCells_at P g (n*i.size) e news 0 cur.toArray w HK (by simpa using fm) aa;simp only[pC]at cx;refine⟨g,c,cur.take (n*i.size)++news++cur.drop (n*i.size+news.length),_,?_,?_,pV,ke,?_,.inl ⟨rfl,rfl⟩⟩;·have aD:=fA w rfl;simp[bb.val,Builtin.append_,run_underlying az,run_underlying hu,sizeOf,typeInfo,hi,hlen,pV,aD,Addr.add_lit,cx]
   ·simp only[cD,kz,r9];omega
   ·rw[oT,<-HJ];exact Ed
  ·have aw:¬ (n+m<=c):=by omega
   have Bg:¬ (9223372036854775807<((n:Int)+(m:Int))):=by omega
   have Bh:¬ (281474976710656<Builtin.nextslicecap (n+m) c*i.bytes):=by have:=growslice_fits (by omega:c<n+m) b9;omega
   have aD:=fA w.drew rfl;have V0:∀ j v,xs[j]?=some v->w.drew.cell? ((⟨g,0,none⟩:Addr).add j)=some v:=by
    intro j v ar;have HL:w.drew.heap[g]?=some (.cells cur.toArray e (0,0)):=HK;rw[dx _ rfl,rQ HL];rw[<-oT,jY]at ar;split at ar;·simpa using ar
    ·cases ar
   have V1:=run_firstCells_some (P:=P) w.drew i.size n ⟨g,0,none⟩ n c xs aW.len V0;obtain⟨aO,aP,br,eW⟩:=Nt c;refine⟨w.heap.size,grownCap w (n+m) c e,_,w.drew.alloc (.cells (xs++news++(Builtin.zeroCells z.cells (grownCap w (n+m) c e-(n+m))).toList).toArray e),?_,aO,aP,br,eW,.inr ⟨rfl,rfl⟩⟩;simp[bb.val,Builtin.append_,run_underlying az,run_underlying hu,sizeOf,typeInfo,zeroValue,hi,bd,hlen,aw,Bg,Bh,Question.forced,aD,V1,newRow,grownCap];congr 2;apply fa;simp
end
section
variable{X:b'}{β:Nat->Nat}{a:Act}{w:World}{F:Fr}{C:cG}{I:aN}{M:List aC}{o:Oper}{K:eF}
def HM(aI:cj X.P X.E)(an:o.op=.call { callee:=.builtin .append,args:=#[s,x],argTypes:=#[t,u] })(ak:∀ d,o.dst=some d->d<X.n)
 (az:X.E t=some cP) (da:cP.bn=.slice e) (hu:X.E u=some k3) (ey:∀ k,k3.bn≠.int k) (he:X.E e=some aE)
  (os:bb) (aW:os.ok aE.size xs) (aq:bi F s=.val os.val)
 (ae:bi F x=.val sd) (hm:0<m) (ay:news.length=m*aE.size) (aa:ga news=true)
  (hlen:∀ w',(Builtin.lenOf sd).run X.P w'=.ok m w') (fA:∀ w,dC I M w->(Builtin.firstCells aE.size m sd).run X.P w=.ok news.toArray w)
 (a5:M.Perm (os.aV e++Mr)) (cU:os.n+m<=maxLen) (b9:(os.n+m)*aE.bytes<=140737488355328)
  (k:∀ (g c:Nat) (cur:List Value),I g=none->cur.length=c*aE.size->os.n+m<=c->c<=maxLen->cur.take ((os.n+m)*aE.size)=xs++news ->
   K (put o.dst (.val (.slice (some ⟨g,0,none⟩) (os.n+m) c)) F) C I (⟨g,.cells cur.toArray e (0,0)⟩::Mr)):be X o F C I M K:=by
 refine⟨λa w Q ⟨β,jk⟩=>?_⟩;have aX:bY X β a w F C I (os.aV e++Mr):=jk.gS (.perm a5 .refl);obtain⟨inf,z,hi,eM,gd,hs,jB⟩:=(aI _ _ he).inf;obtain⟨d,ev,eQ⟩:=(aI _ _ hu).ep;obtain⟨k6,oU,jI⟩:=(aI _ _ az).ep;have qS:k6=.slice e:=by rw[da]at jI;cases k6<;>simp_all[ek]
 subst qS;have tI:z.cells.size=inf.size:=by rw[eM,<-(aI _ _ he).len,<-jB];simp
 rw[<-eM]at aW ay fA;obtain⟨g,c,cur,w',eu,aO,aP,br,eW,mj⟩:=Ns (P:=X.P) (w:=w) t u o.type e inf z oU ev (λk bc=>ey k (by rw[<-eQ,bc];rfl)) hi hs tI aW (λg aG=>aX.holds.m ⟨g,.cells os.cur.toArray e (0,0)⟩ (by simp[bb.aV,aG])) (x:=sd) hm ay (wN aa) hlen (λw' HN=>fA w' (jk.holds.heap HN)) cU (by rw[gd];exact b9);rw[eM]at aO eW;have HO:I g=none:=by
  rcases mj with⟨aG,_⟩ | ⟨rfl,_⟩;·exact aX.holds.d ⟨g,.cells os.cur.toArray e (0,0)⟩ (by simp[bb.aV,aG])
  ·cases a':I w.heap.size with
   |none=>rfl| some lH=>have:=aX.holds.i _ _ a';simp at this
 have es:=cw aX.aj aq;have ex:=cw aX.aj ae;refine g9 (by rw[an];simp) (v:=.slice (some ⟨g,0,none⟩) (os.n+m) c) (w':=w') ?_ ⟨_,_,_,_,⟨β,bY.put (x:=.val (.slice (some ⟨g,0,none⟩) (os.n+m) c)) ?_ ak rfl⟩,k g c cur HO aO aP br eW⟩
 ·unfold execOp;simp only[an,resolve,invoke,builtin,bH,ch,bx,r',eh,pT,es,ex,eu]
 ·rcases mj with⟨aG,rfl⟩ | ⟨rfl,rfl⟩
  ·have ag:os.aV e=[⟨g,.cells os.cur.toArray e (0,0)⟩]:=by simp[bb.aV,aG]
   rw[ag]at aX;exact aX.u2 (pre:=[]) (post:=Mr) rfl
  ·have ab:bY X β a w.drew F C I (os.aV e++Mr):=aX.world rfl;have ai:=ab.l' (.cells cur.toArray e (0,0));refine ai.gS (.sub ?_ .refl);exact List.Sublist.cons_cons _ (k2 _ _)
def be.append(aI:cj X.P X.E)(an:o.op=.call { callee:=.builtin .append,args:=#[s,x],argTypes:=#[t,t] })(ak:∀ d,o.dst=some d->d<X.n)
 (az:X.E t=some cP) (da:cP.bn=.slice e) (he:X.E e=some aE)
  (os:bb) (aW:os.ok aE.size xs) (aq:bi F s=.val os.val)
 (ae:bi F x=.val (.slice (some ad) m c')) (hm:0<m) (aw:ck I M ad (m*aE.size) news) (aa:ga news=true)
 (a5:M.Perm (os.aV e++Mr)) (cU:os.n+m<=maxLen) (b9:(os.n+m)*aE.bytes<=140737488355328)
  (k:∀ (g c:Nat) (cur:List Value),cur.length=c*aE.size->os.n+m<=c->c<=maxLen->cur.take ((os.n+m)*aE.size)=xs++news ->
   K (put o.dst (.val (.slice (some ⟨g,0,none⟩) (os.n+m) c)) F) C I (⟨g,.cells cur.toArray e (0,0)⟩::Mr)):be X o F C I M K:=by
 refine HM aI an ak az da az (λk=>by rw[da];simp) he os aW aq ae hm ?_ aa (λ_=>rfl) (λw hw=>?_) a5 cU b9 (λg c cur _=>k g c cur)
 ·obtain⟨_,_,_,_,_,_,h⟩:=aw;exact h
 ·obtain⟨bI,cs,T,aj,dK,ah,ay⟩:=aw;refine run_firstCells_some (P:=X.P) w aE.size m ad m c' news ay λj v ar=>?_;rw[dx _ bI,rQ (dK.heap hw)];rw[<-ah,jY]at ar;split at ar
  ·rw[oE]at ar;simpa using ar
  ·cases ar
def be.Nu(aI:cj X.P X.E)(an:o.op=.call { callee:=.builtin .append,args:=#[s,x],argTypes:=#[t,t] })(ak:∀ d,o.dst=some d->d<X.n)
 (az:X.E t=some cP) (da:cP.bn=.slice e) (he:X.E e=some aE)
  (os:bb) (aW:os.ok aE.size xs) (aq:bi F s=.val os.val)
 (ae:bi F x=.val (.slice (some ad) m c')) (hm:0<m) (aw:ck I M ad (m*aE.size) news) (aa:ga news=true)
 (a5:M.Perm (os.aV e++Mr)) (cU:os.n+m<=maxLen) (b9:(os.n+m)*aE.bytes<=140737488355328)
  (k:∀ (g c:Nat) (cur:List Value),I g=none->cur.length=c*aE.size->os.n+m<=c->c<=maxLen->cur.take ((os.n+m)*aE.size)=xs++news ->
   K (put o.dst (.val (.slice (some ⟨g,0,none⟩) (os.n+m) c)) F) C I (⟨g,.cells cur.toArray e (0,0)⟩::Mr)):be X o F C I M K:=by
 refine HM aI an ak az da az (λk=>by rw[da];simp) he os aW aq ae hm ?_ aa (λ_=>rfl) (λw hw=>?_) a5 cU b9 k
 ·obtain⟨_,_,_,_,_,_,h⟩:=aw;exact h
 ·obtain⟨bI,cs,T,aj,dK,ah,ay⟩:=aw;refine run_firstCells_some (P:=X.P) w aE.size m ad m c' news ay λj v ar=>?_;rw[dx _ bI,rQ (dK.heap hw)];rw[<-ah,jY]at ar;split at ar
  ·rw[oE]at ar;simpa using ar
  ·cases ar
def iW(s:ByteArray):List Value:=s.data.toList.map λb=>.int .u8 b.toNat
def be.V2(aI:cj X.P X.E)(an:o.op=.call { callee:=.builtin .append,args:=#[s,x],argTypes:=#[t,u] })(ak:∀ d,o.dst=some d->d<X.n)
 (az:X.E t=some cP) (da:cP.bn=.slice e) (hu:X.E u=some k3) (ey:k3.bn=.string) (he:X.E e=some aE) (cc:aE.size=1)
  (os:bb) (aW:os.ok aE.size xs) (aq:bi F s=.val os.val)
  {str:ByteArray} (ae:bi F x=.val (.string str)) (hm:0<str.size)
 (a5:M.Perm (os.aV e++Mr)) (cU:os.n+str.size<=maxLen) (b9:(os.n+str.size)*aE.bytes<=140737488355328)
  (k:∀ (g c:Nat) (cur:List Value),cur.length=c*aE.size->os.n+str.size<=c->c<=maxLen->cur.take ((os.n+str.size)*aE.size)=xs++iW str ->
   K (put o.dst (.val (.slice (some ⟨g,0,none⟩) (os.n+str.size) c)) F) C I (⟨g,.cells cur.toArray e (0,0)⟩::Mr)):be X o F C I M K:=by
 refine HM aI an ak az da hu (λk=>by rw[ey];simp) he os aW aq ae hm ?_ ?_ (λ_=>rfl) (λw hw=>?_) a5 cU b9 (λg c cur _=>k g c cur)
 ·simp[iW,cc]
 ·refine gR.2 λv ah=>?_;obtain⟨b,_,rfl⟩:=dO.1 ah;rfl
 ·simp only[Builtin.firstCells,ch];congr 1;apply fa;have ax:str.extract 0 str.size=str:=by apply pA;simp[uY]
  simp[iW,ax]
end
section
variable{X:b'}{F:Fr}{C:cG}{I:aN}{M:List aC}{o:Oper}{K:eF}
def V3(az:P.underlying t=some (.array 4 e))(he:P.underlying e=some (.int k)){inf:TypeInfo}(hi:P.info? e=some inf)(aq:inf.size=1)(eD cf dd c2 sm cU b9 df:Int)(w:World) :
  (Op.equal t (.agg #[.int k eD,.int k cf,.int k dd,.int k c2]) (.agg #[.int k sm,.int k cU,.int k b9,.int k df])).run P w=.ok (eD == sm&&(cf == cU&&(dd == b9&&c2 == df))) w:=by
 have Nv:∀ (xs:Array Value) (i:Nat) (v:Value) (w:World),xs[i]?=some v->(part e xs i).run P w=.ok v w:=λxs i v w h=>by
  have AD:(isAgg e).run P w=.ok false w:=by unfold isAgg;simp[run_underlying he]
  unfold part;simp[AD,sizeOf,typeInfo,hi,aq,h]
 have hint:∀ (d:Nat) (x y:Int) (w:World),(Op.equalIn (d+1) e (.int k x) (.int k y)).run P w=.ok (x == y) w:=λd x y w=>by simp[Op.equalIn,run_underlying he]
 have key:∀ m,(∀ (x y:Int) (w:World),(Op.equalIn m e (.int k x) (.int k y)).run P w=.ok (x == y) w)->(Op.equalIn (m+1) t (.agg #[.int k eD,.int k cf,.int k dd,.int k c2]) (.agg #[.int k sm,.int k cU,.int k b9,.int k df])).run P w=.ok (eD == sm&&(cf == cU&&(dd == b9&&c2 == df))) w:=λm hint=>by
  rw[Op.equalIn];simp only[bH,run_underlying az,bx,sizeOf,typeInfo,hi,run_program,ch,aq];simp only[Nh];have ao:List.range' 0 ([:4]:Std.Legacy.Range).size=[0,1,2,3]:=by decide
  rw[ao];have pa:=λ(i:Nat) (v:Value) (w:World)=>Nv #[.int k eD,.int k cf,.int k dd,.int k c2] i v w;have Ef:=λ(i:Nat) (v:Value) (w:World)=>Nv #[.int k sm,.int k cU,.int k b9,.int k df] i v w;simp only[List.forIn_cons,List.forIn_nil,bH];rw[pa (0*1) (.int k eD) w rfl];simp only[bx,bH];rw[Ef (0*1) (.int k sm) w rfl];simp only[bx,bH];rw[hint];simp only[bx];cases(eD == sm);·simp
  simp only[pB,iL,jz,ch,bx,bH];rw[pa (1*1) (.int k cf) w rfl];simp only[bx,bH];rw[Ef (1*1) (.int k cU) w rfl];simp only[bx,bH];rw[hint];simp only[bx];cases(cf == cU);·simp
  simp only[pB,iL,jz,ch,bx,bH];rw[pa (2*1) (.int k dd) w rfl];simp only[bx,bH];rw[Ef (2*1) (.int k b9) w rfl];simp only[bx,bH];rw[hint];simp only[bx];cases(dd == b9);·simp
  simp only[pB,iL,jz,ch,bx,bH];rw[pa (3*1) (.int k c2) w rfl];simp only[bx,bH];rw[Ef (3*1) (.int k df) w rfl];simp only[bx,bH];rw[hint];simp only[bx];cases(c2 == df);·simp
  simp
 exact key 9999 (hint 9998)
def fk.Nw{E:Env}(aI:cj P E)(az:E t=some cP)(da:cP.bn=.array 4 e)(he:E e=some aE)(k7:aE.bn=.int k)(aG:P.eqGuardType P.depth t=false){eD cf dd c2 sm cU b9 df:Int}{V:Value->Prop}
  (h:V (.bool (eD == sm&&(cf == cU&&(dd == b9&&c2 == df))))):fk P .eql t x y (.val (.agg #[.int k eD,.int k cf,.int k dd,.int k c2])) (.val (.agg #[.int k sm,.int k cU,.int k b9,.int k df])) V other:=by
 obtain⟨d,ev,eQ⟩:=(aI _ _ az).ep;obtain⟨pW,V4,V5⟩:=(aI _ _ he).ep;obtain⟨inf,z,hi,eM,_⟩:=(aI _ _ he).inf;have aa:d=.array 4 e:=by rw[da]at eQ;cases d<;>simp_all[ek]
 have ab:pW=.int k:=by rw[k7]at V5;cases pW<;>simp_all[ek]
 subst aa;subst ab;have gH:inf.size=1:=by rw[eM];exact(aI _ _ he).G6 (by rw[k7];rfl)
 refine .mk _ _ _ rfl rfl (λw=>?_) h;simp only[bH,run_eqGuard_agg (hm:=aG),bx,binOp,V3 ev V4 hi gH,ch]
def fk.concat{a b:ByteArray}(aq:a.size+b.size<=9223372036854775807){V:Value->Prop}(h:V (.string (a++b))):fk P .add t x y (.val (.string a)) (.val (.string b)) V other:=by refine .mk _ _ _ rfl rfl (λw=>?_) h;simp only[bH,Hd,bx,binOp,run_string_add_sum _ _ _ aq,ch]
end
section
variable{X:b'}{β:Nat->Nat}{a:Act}{w:World}{F:Fr}{C:cG}{I:aN}{M:List aC}{o:Oper}{K:eF}
def bY.Nx{n:Nat}{lH:Obj}{w':World}(h:bY X β a w F C I (⟨n,lH⟩::M))(aq:w'.heap.size=w.heap.size)(ag:∀ b,b≠n->w'.heap[b]?=w.heap[b]?)(an:lx w w'):bY X β a w' F C I M:=by
 have et:(⟨n,lH⟩:aC)∈(⟨n,lH⟩:aC)::M:=by simp
 have b3:=h.holds.a2;simp only[eh,kW]at b3;exact {
  size:=h.size
  defers:=h.defers.mono λr ao=>by have bl:n≠r:=ao.dF _ et;refine { ao with at_:=?_,dF:=λx ae=>ao.dF x (by simp[ae]) };rw[ag r (pD bl)];exact ao.at_
  holds:={
   i:=λb o hr=>by rw[ag b (λe=>by have:=h.holds.d _ et;simp only at this;rw[e,this]at hr;cases hr)];exact h.holds.i b o hr
   m:=λx ae=>by rw[ag _ (λe=>b3.1 (dO.2 ⟨x,ae,e⟩))];exact h.holds.m x (by simp[ae])
   d:=λx ae=>h.holds.d x (by simp[ae])
   a2:=b3.2 }
  aj:=h.aj
  bL:=λs cs jF=>by have qK:=h.bL s cs jF;have bl:n≠β s:=qK.dF _ et;obtain⟨T,bO⟩:=qK.at_;refine { qK with at_:=⟨T,?_⟩,dF:=λx ae=>qK.dF x (by simp[ae]) };rw[ag _ (pD bl)];exact bO
  inj:=h.inj
  gb:=h.gb
  fH:=h.fH
  own:=λx ae=>h.own x (by simp[ae])
  cE:=λb aU aD=>by
   rw[ag b (λe=>by
    rcases h.own _ et with aa | aa;·simp only at aa;exact aD (e ▸ aa)
    ·simp only at aa;omega)]
   exact h.cE b aU aD
  out:=h.out.trans an
  sz:=by rw[aq];exact h.sz }
def V6(w:World)(p:Addr)(n:Nat):(w.freeze p n).heap.size=w.heap.size:=by
 unfold World.freeze;split<;>simp
def V7(w:World)(p:Addr)(n:Nat):lx w (w.freeze p n):=by
 unfold World.freeze;split<;>exact⟨rfl,rfl⟩
def V8(w:World)(p:Addr)(n b:Nat)(h:b≠p.block):(w.freeze p n).heap[b]?=w.heap[b]?:=by
 unfold World.freeze;split
 ·rfl
 ·simp only[Array.getElem?_modify];rw[b7 (pD h)]
def be.HP(aI:cj X.P X.E){p n:Operand}(an:o.op=.call { callee:=.builtin .unsafeString,args:=#[p,n],argTypes:=#[qQ,it] })(ak:∀ d,o.dst=some d->d<X.n)
 (az:X.E qQ=some cP) (da:cP.bn=.pointer e) (he:X.E e=some aE) (k7:aE.size=1)
 {l:List UInt8} (aH:bi F p=.val (.pointer (some ⟨g,0,none⟩))) (aw:bi F n=.val (.int .i64 l.length)) (au:l≠[]) (HQ:l.length<=9223372036854775807)
 (a5:M.Perm (⟨g,.cells cs e (0,0)⟩::Mr)) (jF:cs.toList.take l.length=l.map λb=>.int .u8 b.toNat)
  (h:K (put o.dst (.val (.string ⟨l.toArray⟩)) F) C I Mr):be X o F C I M K:=by
 refine⟨λa w Q ⟨β,jk⟩=>?_⟩;have aX:bY X β a w F C I (⟨g,.cells cs e (0,0)⟩::Mr):=jk.gS (.perm a5 .refl);have aG:w.heap[g]?=some (.cells cs e (0,0)):=aX.holds.m ⟨g,.cells cs e (0,0)⟩ (by simp);obtain⟨d,ev,eQ⟩:=(aI _ _ az).ep;have aa:d=.pointer e:=by rw[da]at eQ;cases d<;>simp_all[ek]
 subst aa;obtain⟨inf,z,hi,eM,_⟩:=(aI _ _ he).inf;have aF:X.P.cellsOf e=1:=by simp[Program.cellsOf,hi,eM,k7]
 have hlen:l.length<=cs.size:=by have:=congrArg List.length jF;simp only[kz,fl,w4]at this;omega
 have eu:=Lib.run_unsafeString_row (P:=X.P) w qQ it o.type e ev aF g cs.size (by simp[World.shape?,aG]) l au hlen HQ (λj x ar=>by
  rw[dx _ rfl,rQ aG];have ab:(cs.toList.take l.length)[j]?=some (.int .u8 x.toNat):=by rw[jF];simp[ar]
  rw[jY]at ab;split at ab;·simpa using ab
  ·cases ab)
 have HR:=cw aX.aj aH;have dX:=cw aX.aj aw;refine g9 (by rw[an];simp) (v:=.string ⟨l.toArray⟩) (w':=w.freeze ⟨g,0,none⟩ l.length) ?_ ⟨_,_,_,_,⟨β,bY.put (x:=.val (.string ⟨l.toArray⟩)) (aX.Nx (V6 _ _ _) (λb ag=>V8 _ _ _ _ ag) (V7 _ _ _)) ak rfl⟩,h⟩;unfold execOp;simp only[an,resolve,invoke,builtin,bH,ch,bx,r',eh,pT,HR,dX,eu]
def be.Ny{p n:Operand}(an:o.op=.call { callee:=.builtin .unsafeString,args:=#[p,n],argTypes:=#[qQ,it] })(ak:∀ d,o.dst=some d->d<X.n)
  {q:Option Addr} (aH:bi F p=.val (.pointer q)) (aw:bi F n=.val (.int .i64 0)) (h:K (put o.dst (.val (.string .empty)) F) C I M):be X o F C I M K:=by
 refine⟨λa w Q ⟨β,aX⟩=>?_⟩;have HR:=cw aX.aj aH;have dX:=cw aX.aj aw;refine u3 aX ak (by rw[an];simp) ?_ h;unfold execOp;simp only[an,resolve,invoke,builtin,bH,ch,bx,r',eh,pT,HR,dX,Lib.run_unsafeString_none]
def be.Nz(aI:cj X.P X.E)(an:o.op=.call { callee:=.builtin .copy,args:=#[x,y],argTypes:=#[t,u] })(ak:∀ d,o.dst=some d->d<X.n)
 (az:X.E t=some cP) (da:cP.bn=.slice e) (he:X.E e=some aE) (k7:aE.size=1)
 {off dl NA:Nat} {s:ByteArray} (ae:bi F x=.val (.slice (some ⟨g,off,none⟩) dl NA)) (aL:bi F y=.val (.string s)) (hle:s.size<=dl) (fm:off+s.size<=cs.size)
 (a5:M.Perm (⟨g,.cells cs T (0,0)⟩::Mr))
  (h:K (put o.dst (.val (.int .i64 s.size)) F) C I (⟨g,.cells (bo cs.toList off (iW s)).toArray T (0,0)⟩::Mr)):be X o F C I M K:=by
 refine⟨λa w Q ⟨β,jk⟩=>?_⟩;have aX:bY X β a w F C I (⟨g,.cells cs T (0,0)⟩::Mr):=jk.gS (.perm a5 .refl);have aG:w.heap[g]?=some (.cells cs T (0,0)):=aX.holds.m ⟨g,.cells cs T (0,0)⟩ (by simp);obtain⟨d,ev,eQ⟩:=(aI _ _ az).ep;have aa:d=.slice e:=by rw[da]at eQ;cases d<;>simp_all[ek]
 subst aa;obtain⟨inf,z,hi,eM,_⟩:=(aI _ _ he).inf;have ay:(iW s).length=s.size:=by simp[iW]
 have aa:∀ v∈iW s,v.oneCell'=true:=λv ah=>by obtain⟨b,_,rfl⟩:=dO.1 ah;rfl
 have cx:=run_storeCells_at X.P g off T (iW s) 0 cs w aG (by rw[ay];simpa using fm) aa;simp only[pC]at cx;have tJ:Nat.min s.size dl=s.size:=yG hle;have aD:(Builtin.firstCells inf.size s.size (.string s)).run X.P w=.ok (iW s).toArray w:=Nj w inf.size s;have ex:=cw aX.aj ae;have qT:=cw aX.aj aL;have nX:=aX.u2 (pre:=[]) (post:=Mr) (cs':=(bo cs.toList off (iW s)).toArray) rfl;refine g9 (by rw[an];simp) (v:=.int .i64 s.size) (w':=w.setRow g (bo cs.toList off (iW s)).toArray) ?_ ⟨_,_,_,_,⟨β,bY.put (x:=.val (.int .i64 s.size)) nX ak rfl⟩,h⟩;have eu:(Builtin.copy_ #[t,u] o.type #[.slice (some ⟨g,off,none⟩) dl NA,.string s]).run X.P w=.ok (.int .i64 s.size) (w.setRow g (bo cs.toList off (iW s)).toArray):=by simp[Builtin.copy_,run_underlying ev,Builtin.lenOf,tJ,sizeOf,typeInfo,hi,aD,cx,bo,goInt]
 unfold execOp;simp only[an,resolve,invoke,builtin,bH,ch,bx,r',eh,pT,ex,qT,eu]
end
structure dt(I:aN)(a:Option Addr)(n c size b:Nat)(vs:List Value):Prop where
 len:vs.length=n*size
 cap:n<=c/\n*b<=140737488355328
 rd:n=0\/∃ ad,a=some ad/\ad.spot=none/\∃ cs T aj,I ad.block=some (.cells cs T aj)/\(cs.toList.drop ad.off).take (n*size)=vs
def dt.mono{n:Nat}(h:dt I a n c size b vs)(a':∀ b o,I b=some o->I' b=some o):dt I' a n c size b vs:=
 ⟨h.len,h.cap,h.rd.imp id λ⟨ad,aa,ab,cs,T,aj,ai,aQ⟩=>⟨ad,aa,ab,cs,T,aj,a' _ _ ai,aQ⟩⟩
def dt.idx{n:Nat}(h:dt I a n c size b vs)(ar:j<n) :
  ∃ ad,a=some ad/\∀ M,ck I M (ad.add (j*size)) size ((vs.drop (j*size)).take size):=by
 obtain⟨ay,_,au | ⟨ad,av,aq,cs,T,aj,a',ah⟩⟩:=h
 ·omega
 ·refine⟨ad,av,λM=>?_⟩;have hle:j*size+size<=n*size:=by have:=qz size (show j+1<=n from ar);rw[iV,oR]at this;exact this
  refine⟨by rw[dx _ aq],cs,T,aj,.inl (by rw[dx _ aq];exact a'),?_,?_⟩;·rw[dx _ aq,<-ah,vl,w6,tG];congr 1;omega
  ·rw[kz,r9,ay];omega
def dt.one{n:Nat}{f:α->Value}{l:List α}(h:dt I a n c 1 b (l.map f))(ar:j<n)(h8:j<l.length) :
  ∃ ad,a=some ad/\∀ M,ck I M (ad.add (j*1)) 1 [f l[j]]:=by
 obtain⟨ad,aa,ab⟩:=h.idx ar;refine⟨ad,aa,λM=>?_⟩;have:=ab M;rw[kA,<-List.map_drop,<-List.map_take,fs h8,qN,qP]at this;rw[kA];exact this
def xc{α:Type}(f:α->List Value)(size:Nat)(aD:∀ x,(f x).length=size):∀ (l:List α) (j:Nat) (ar:j<l.length),((l.flatMap f).drop (j*size)).take size=f l[j]
 |x::l,0,_=>by simp only[qO,A7,yY,w2];rw[<-aD x];exact Ed
 |x::l,j+1,ar=>by have a8:=xc f size aD l j (by simpa using ar);simp only[qO,D8];rw[<-a8,show(j+1)*size=(f x).length+j*size from by rw[aD,iV];omega,Ni]
def fo{α:Type}(f:α->List Value)(size:Nat)(aD:∀ x,(f x).length=size):∀ (l:List α),(l.flatMap f).length=l.length*size
 |[]=>by simp
 |x::l=>by simp[fo f size aD l,aD x,iV];omega
def dt.row{n:Nat}{f:α->List Value}(aD:∀ x,(f x).length=size){l:List α}(h:dt I a n c size b (l.flatMap f))(ar:j<n)(h8:j<l.length) :
  ∃ ad,a=some ad/\∀ M,ck I M (ad.add (j*size)) size (f l[j]):=by
 obtain⟨ad,aa,ab⟩:=h.idx ar;refine⟨ad,aa,λM=>?_⟩;have:=ab M;rwa [xc f size aD l j h8]at this
def ck.part{M:List aC}{a:Addr}{n k:Nat}(h:ck I M a n vs)(af:k+m<=n):ck I M (a.add k) m ((vs.drop k).take m):=by
 obtain⟨aq,cs,T,aj,aa,ab,ai⟩:=h;refine⟨by rw[dx _ aq],cs,T,aj,by rw[dx _ aq];exact aa,?_,?_⟩
 ·rw[dx _ aq,<-ab,vl,w6,tG];congr 1;omega
 ·rw[kz,r9,ai];omega
structure a1 where
 k:Int
 fT:Int
 s1:Int
 s2:Int
 gv:Int
 t:ByteArray
 lo:Int
 hi:Int
 kC:Option Addr
 kn:Nat
 jj:Nat
 kids:List Int
def a1.cells(d:a1):List Value:=[.int .u8 d.k,.int .u64 d.fT,.int .u64 d.s1,.int .u64 d.s2,.int .u64 d.gv,.string d.t,.int .i64 d.lo,.int .i64 d.hi,.slice d.kC d.kn d.jj]
def a1.val(d:a1):Value:=.agg #[.int .u8 d.k,.int .u64 d.fT,.int .u64 d.s1,.int .u64 d.s2,.int .u64 d.gv,.string d.t,.int .i64 d.lo,.int .i64 d.hi,.slice d.kC d.kn d.jj]
def k8(x:Int):Prop:=-9223372036854775808<=x/\x<=9223372036854775807
def fB(x:Int):Prop:=0<=x/\x<18446744073709551616
structure a1.ok(I:aN)(d:a1):Prop where
 k:0<=d.k/\d.k<256
 fT:fB d.fT
 s1:fB d.s1
 s2:fB d.s2
 gv:fB d.gv
 t:d.t.size<=9223372036854775807
 lo:k8 d.lo
 hi:k8 d.hi
 a3:dt I d.kC d.kn d.jj 1 8 (d.kids.map (.int .i64 ·))
 kids:∀ x∈d.kids,k8 x
def a1.cV(d:a1):d.cells.length=9:=rfl
def a1.ok.kn{d:a1}(h:d.ok I):d.kids.length=d.kn:=by have:=h.a3.len;simpa using this
structure db where
 ns:List a1
 a:Option Addr
 n:Nat
 c:Nat
 root:Int
def db.cells(t:db):List Value:=[.slice t.a t.n t.c,.int .i64 t.root]
def db.val(t:db):Value:=.agg #[.slice t.a t.n t.c,.int .i64 t.root]
structure db.ok(I:aN)(t:db):Prop where
 a3:dt I t.a t.n t.c 9 96 (t.ns.flatMap a1.cells)
 ns:∀ d∈t.ns,d.ok I
 root:k8 t.root
def db.ok.n{t:db}(h:t.ok I):t.ns.length=t.n:=by have:=h.a3.len;rw[fo _ 9 a1.cV]at this;omega
structure bP where
 name:ByteArray
 t:db
def bP.cells(d:bP):List Value:=[.string d.name,.slice d.t.a d.t.n d.t.c,.int .i64 d.t.root]
structure bP.ok(I:aN)(d:bP):Prop where
 name:d.name.size<=140737488355328
 t:d.t.ok I
def bP.cV(d:bP):d.cells.length=3:=rfl
structure c1 where
 ds:List bP
 a:Option Addr
 n:Nat
 c:Nat
def c1.val(g:c1):Value:=.agg #[.slice g.a g.n g.c]
structure c1.ok(I:aN)(g:c1):Prop where
 a3:dt I g.a g.n g.c 3 48 (g.ds.flatMap bP.cells)
 ds:∀ d∈g.ds,d.ok I
def c1.ok.n{g:c1}(h:g.ok I):g.ds.length=g.n:=by have:=h.a3.len;rw[fo _ 3 bP.cV]at this;omega
def a1.ok.mono{d:a1}(h:d.ok I)(a':∀ b o,I b=some o->I' b=some o):d.ok I':={ h with a3:=h.a3.mono a' }
def db.ok.mono{t:db}(h:t.ok I)(a':∀ b o,I b=some o->I' b=some o):t.ok I':=⟨h.a3.mono a',λd ak=>(h.ns d ak).mono a',h.root⟩
def bP.ok.mono{d:bP}(h:d.ok I)(a':∀ b o,I b=some o->I' b=some o):d.ok I':=⟨h.name,h.t.mono a'⟩
def c1.ok.mono{g:c1}(h:g.ok I)(a':∀ b o,I b=some o->I' b=some o):g.ok I':=⟨h.a3.mono a',λd ak=>(h.ds d ak).mono a'⟩
def wrap_i64{x:Int}(h:k8 x):IntKind.i64.wrap x=x:=by obtain⟨aa,ab⟩:=h;unfold IntKind.wrap;simp only[IntKind.bits,IntKind.signed];simp;omega
open Go Go.Proofs
def aS(t n:Nat)(a b:Option dw):Option dw:=bif Nat.blt t n then a else b
def oV(n:Nat):Option dw:=some ⟨1,8,[.pointer none],.pointer n⟩
def jJ(n:Nat):Option dw:=some ⟨1,24,[.slice none 0 0],.slice n⟩
def bQ:Option dw:=some ⟨1,8,[.nilFunc],.other⟩
def HS:Option dw:=some ⟨1,8,[.int .i64 0],.int .i64⟩
def HT:Option dw:=some ⟨1,1,[.int .u8 0],.int .u8⟩
def NB:Option dw:=some ⟨4,24,[.int .i64 0,.int .i64 0,.bool false,.int .u8 0],.struct [(2,0),(3,1),(4,2),(6,3)]⟩
def NC:Option dw:=some ⟨1,16,[.string ⟨#[]⟩],.string⟩
def HU:Option dw:=some ⟨1,8,[.int .u64 0],.int .u64⟩
def HV:Option dw:=some ⟨1,4,[.int .i32 0],.int .i32⟩
def ND:Option dw:=some ⟨1,24,[.slice none 0 0],.struct [(28,0)]⟩
def NE:Option dw:=some ⟨2,32,[.slice none 0 0,.int .i64 0],.struct [(45,0),(3,1)]⟩
def NF:Option dw:=some ⟨3,40,[.bool false,.int .i64 0,.slice none 0 0],.struct [(4,0),(3,1),(51,2)]⟩
def NG:Option dw:=some ⟨9,96,[.int .u8 0,.int .u64 0,.int .u64 0,.int .u64 0,.int .u64 0,.string ⟨#[]⟩,.int .i64 0,.int .i64 0,.slice none 0 0],.struct [(5,0),(69,1),(9,5),(3,6),(3,7),(70,8)]⟩
def NH:Option dw:=some ⟨2,32,[.pointer none,.slice none 0 0],.struct [(172,0),(37,1)]⟩
def NI:Option dw:=some ⟨10,88,[.int .u8 0,.int .i64 0,.int .i64 0,.string ⟨#[]⟩,.int .u64 0,.int .u64 0,.int .u64 0,.int .u64 0,.int .i64 0,.int .i64 0],.struct [(5,0),(3,1),(3,2),(9,3),(69,4),(3,8),(3,9)]⟩
def NJ:Option dw:=some ⟨2,16,[.int .i64 0,.int .i64 0],.struct [(3,0),(3,1)]⟩
def NK:Option dw:=some ⟨3,24,[.int .i64 0,.int .i64 0,.bool false],.struct [(3,0),(3,1),(4,2)]⟩
def NL:Option dw:=some ⟨4,40,[.pointer none,.pointer none,.pointer none,.string ⟨#[]⟩],.struct [(17,0),(17,1),(17,2),(9,3)]⟩
def k9:Env:=λt=>bif Nat.blt t 325 then(aS t 162 (aS t 81 (aS t 40 (aS t 20 (aS t 10 (aS t 5 (aS t 2 (aS t 1 none bQ) (aS t 3 HS (aS t 4 HS (some ⟨1,1,[.bool false],.bool⟩)))) (aS t 7 HT (aS t 8 NB (aS t 9 NB NC)))) (aS t 15 (aS t 12 NC (aS t 13 HU (some ⟨2,24,[.string ⟨#[]⟩,.int .u64 0],.struct [(9,0),(12,1)]⟩))) (aS t 17 (aS t 16 (oV 314) (oV 317)) (aS t 18 (oV 324) (some ⟨1,8,[.pointer none],.struct [(17,0)]⟩))))) (aS t 30 (aS t 25 (aS t 22 (aS t 21 (some ⟨1,16,[.nilIface],.other⟩) HV) bQ) (aS t 27 (aS t 26 (some ⟨4,32,[.int .i64 0,.int .i64 0,.int .i64 0,.int .i64 0],.array 4 3⟩) (jJ 25)) (aS t 28 bQ (aS t 29 (jJ 66) ND)))) (aS t 35 (aS t 32 (aS t 31 ND bQ) (aS t 33 HS (aS t 34 none bQ))) (aS t 37 bQ (aS t 38 (jJ 5) bQ))))) (aS t 60 (aS t 50 (aS t 45 (aS t 42 (aS t 41 HU none) bQ) (aS t 47 (aS t 46 (jJ 72) NE) (aS t 48 NE (aS t 49 (oV 100) none)))) (aS t 55 (aS t 52 (aS t 51 bQ (jJ 59)) (aS t 53 NF (aS t 54 NF none))) (aS t 57 bQ (aS t 58 bQ (some ⟨3,32,[.string ⟨#[]⟩,.int .i64 0,.int .i64 0],.struct [(9,0),(3,1),(3,2)]⟩))))) (aS t 70 (aS t 65 (aS t 62 bQ (aS t 63 (oV 115) (aS t 64 none bQ))) (aS t 67 (some ⟨3,48,[.string ⟨#[]⟩,.slice none 0 0,.int .i64 0],.struct [(9,0),(47,1)]⟩) (aS t 68 HU (some ⟨4,32,[.int .u64 0,.int .u64 0,.int .u64 0,.int .u64 0],.array 4 67⟩)))) (aS t 75 (aS t 72 (aS t 71 (jJ 3) NG) (aS t 73 NG bQ)) (aS t 78 bQ (aS t 79 bQ (aS t 80 (some ⟨4,56,[.string ⟨#[]⟩,.string ⟨#[]⟩,.int .i64 0,.string ⟨#[]⟩],.struct [(9,0),(9,1),(3,2),(9,3)]⟩) (jJ 79)))))))) (aS t 121 (aS t 101 (aS t 91 (aS t 86 (aS t 83 (aS t 82 bQ none) (aS t 84 bQ (aS t 85 bQ none))) bQ) (aS t 96 bQ (aS t 98 (aS t 97 (jJ 9) bQ) (aS t 99 (jJ 108) (some ⟨5,112,[.string ⟨#[]⟩,.slice none 0 0,.slice none 0 0,.slice none 0 0,.slice none 0 0],.struct [(9,0),(96,1),(70,2),(45,3),(98,4)]⟩))))) (aS t 111 (aS t 106 bQ (aS t 108 (some ⟨4,16,[.int .i64 0,.int .i32 0,.int .u8 0,.int .u8 0],.struct [(2,0),(21,1),(5,2),(5,3)]⟩) (aS t 109 (jJ 107) bQ))) (aS t 116 (aS t 113 (aS t 112 bQ (jJ 47)) (aS t 114 (jJ 163) (some ⟨4,88,[.string ⟨#[]⟩,.slice none 0 0,.slice none 0 0,.slice none 0 0],.struct [(9,0),(30,1),(112,2),(113,3)]⟩))) (aS t 118 (some ⟨3,24,[.int .i64 0,.int .i64 0,.int .i64 0],.struct [(3,0),(3,1),(3,2)]⟩) bQ)))) (aS t 141 (aS t 131 (aS t 126 (aS t 123 (aS t 122 bQ none) (aS t 124 bQ (aS t 125 none bQ))) (aS t 128 (aS t 127 (some ⟨2,16,[.int .i64 0,.int .i64 0],.array 2 3⟩) (jJ 126)) bQ)) (aS t 136 (aS t 133 (aS t 132 (oV 59) bQ) (aS t 134 (oV 140) (aS t 135 none bQ))) (aS t 138 (aS t 137 bQ (jJ 182)) (aS t 139 (jJ 201) (some ⟨8,160,[.slice none 0 0,.int .i64 0,.int .i64 0,.slice none 0 0,.slice none 0 0,.slice none 0 0,.slice none 0 0,.slice none 0 0],.struct [(137,0),(3,1),(3,2),(45,3),(138,4),(28,5),(137,6),(137,7)]⟩))))) (aS t 151 (aS t 146 (aS t 143 (aS t 142 bQ (some ⟨1,8,[.map none],.map 9 3⟩)) (aS t 144 none bQ)) bQ) (aS t 156 (aS t 153 bQ (aS t 154 bQ (aS t 155 (some ⟨10,80,[.nilFunc,.nilFunc,.nilFunc,.nilFunc,.nilFunc,.nilFunc,.nilFunc,.nilFunc,.nilFunc,.nilFunc],.array 10 153⟩) bQ))) bQ))))) (aS t 243 (aS t 202 (aS t 182 (aS t 172 (aS t 167 (aS t 164 (aS t 163 bQ (jJ 164)) (aS t 165 (jJ 117) bQ)) (aS t 169 (aS t 168 bQ none) (aS t 170 bQ (aS t 171 none bQ)))) (aS t 177 (aS t 174 (aS t 173 (oV 174) NH) (aS t 175 NH (some ⟨1,16,[.nilIface],.other⟩))) (aS t 179 (aS t 178 none bQ) (aS t 180 bQ (aS t 181 bQ NI))))) (aS t 192 (aS t 187 (aS t 184 (aS t 183 NI bQ) bQ) (aS t 189 bQ (aS t 190 NJ (aS t 191 NJ (jJ 190))))) (aS t 197 (aS t 194 bQ (aS t 195 bQ (aS t 196 bQ (jJ 4)))) (aS t 199 (aS t 198 bQ none) (aS t 200 bQ (some ⟨5,96,[.int .u8 0,.string ⟨#[]⟩,.slice none 0 0,.slice none 0 0,.slice none 0 0],.struct [(5,0),(9,1),(70,2),(70,3),(37,4)]⟩)))))) (aS t 222 (aS t 212 (aS t 207 (aS t 204 (aS t 203 none bQ) (aS t 205 bQ (aS t 206 bQ (oV 201)))) (aS t 209 bQ (aS t 210 bQ (aS t 211 bQ (oV 5))))) (aS t 217 bQ (aS t 219 (aS t 218 bQ (some ⟨20,160,List.replicate 20 (.int .i64 0),.array 10 126⟩)) bQ))) (aS t 232 (aS t 227 (aS t 224 (aS t 223 bQ none) (aS t 225 bQ (some ⟨1,24,[.slice none 0 0],.struct [(45,0)]⟩))) (aS t 229 (aS t 228 bQ (some ⟨10,80,[.nilFunc,.nilFunc,.nilFunc,.nilFunc,.nilFunc,.nilFunc,.nilFunc,.nilFunc,.nilFunc,.nilFunc],.array 10 227⟩)) (aS t 230 bQ (aS t 231 (oV 226) bQ)))) (aS t 237 (aS t 234 (aS t 233 (some ⟨1,8,[.pointer none],.other⟩) bQ) (aS t 235 bQ (aS t 236 bQ (some ⟨1,8,[.map none],.map 5 240⟩)))) (aS t 240 bQ (aS t 241 bQ none)))))) (aS t 284 (aS t 263 (aS t 253 bQ (aS t 258 (aS t 255 bQ (aS t 256 bQ (aS t 257 bQ (some ⟨24,24,List.replicate 24 (.int .u8 0),.array 24 5⟩)))) (aS t 260 bQ (aS t 261 none (aS t 262 bQ NK))))) (aS t 273 (aS t 268 (aS t 265 (aS t 264 NK (jJ 263)) (aS t 266 (oV 263) bQ)) (aS t 270 (aS t 269 (some ⟨3,48,[.string ⟨#[]⟩,.string ⟨#[]⟩,.string ⟨#[]⟩],.struct [(9,0),(9,1),(9,2)]⟩) (some ⟨30,480,List.replicate 30 (.string ⟨#[]⟩),.array 10 268⟩)) (aS t 271 (jJ 272) (aS t 272 bQ (some ⟨2,2,[.int .u8 0,.int .u8 0],.array 2 5⟩))))) (aS t 278 (aS t 275 (aS t 274 bQ none) (aS t 276 bQ (aS t 277 bQ none))) (aS t 281 (aS t 279 bQ (aS t 280 none bQ)) (aS t 282 bQ (aS t 283 bQ (some ⟨20,160,List.replicate 20 (.int .u64 0),.array 20 67⟩))))))) (aS t 304 (aS t 294 (aS t 289 (aS t 286 (aS t 285 (some ⟨1,4,[.int .u32 0],.int .u32⟩) (some ⟨65,65,List.replicate 65 (.int .u8 0),.array 65 5⟩)) (aS t 287 bQ (aS t 288 bQ (oV 295)))) (aS t 291 bQ (aS t 292 bQ (aS t 293 bQ (some ⟨1,8,[.map none],.map 5 5⟩))))) (aS t 299 (aS t 296 (some ⟨6,64,[.string ⟨#[]⟩,.string ⟨#[]⟩,.int .u8 0,.map none,.int .i64 0,.int .i64 0],.struct [(9,0),(9,1),(5,2),(293,3),(3,4),(32,5)]⟩) (aS t 297 none bQ)) (aS t 301 bQ (aS t 302 bQ (aS t 303 bQ (some ⟨3,32,[.int .i64 0,.int .i64 0,.string ⟨#[]⟩],.struct [(3,0),(3,1),(9,2)]⟩)))))) (aS t 314 (aS t 309 (aS t 306 (aS t 305 (some ⟨9,96,[.int .i64 0,.int .i64 0,.string ⟨#[]⟩,.int .i64 0,.int .i64 0,.string ⟨#[]⟩,.int .i64 0,.int .i64 0,.string ⟨#[]⟩],.array 3 303⟩) bQ) (aS t 307 bQ (aS t 308 bQ (some ⟨32,32,List.replicate 32 (.int .u8 0),.array 32 5⟩)))) (aS t 311 (aS t 310 (some ⟨64,64,List.replicate 64 (.int .u8 0),.array 64 5⟩) bQ) (aS t 312 none (aS t 313 bQ NL)))) (aS t 319 (aS t 316 (aS t 315 NL (some ⟨0,0,[],.array 0 16⟩)) (aS t 317 (some ⟨0,0,[],.struct [(315,0)]⟩) (aS t 318 (some ⟨0,0,[],.struct [(315,0)]⟩) HT))) (aS t 322 (aS t 320 HT (aS t 321 bQ HV)) (aS t 323 HV (some ⟨11,48,[.int .u64 0,.int .u64 0,.int .u32 0,.int .u8 0,.int .u8 0,.int .u8 0,.int .u8 0,.nilFunc,.pointer none,.int .i32 0,.int .i32 0],.struct [(12,0),(12,1),(284,2),(318,3),(5,4),(5,5),(319,6),(320,7),(211,8),(321,9),(322,10)]⟩)))))))))else none
def aT:cj Tryz.prog k9:=Vb 325 (λt h=>by
 have bf:Nat.blt t 325=false:=by
  cases ag:Nat.blt t 325 with
  |false=>rfl| true=>exact absurd (bq ag) (by omega)
 simp only[k9,bf,aY]) (by kernel_rfl)
def letter(c:UInt8):Bool:=decide (97<=c.toNat/\c.toNat<=122)||(decide (65<=c.toNat/\c.toNat<=90)||decide (c.toNat=95))
def digit(c:UInt8):Bool:=decide (48<=c.toNat/\c.toNat<=57)
def NM(I:aN)(c:UInt8):Spec Tryz.prog 136 [.int .u8 c.toNat] I [] (λv I' M'=>v=.bool (letter c)/\I'=I/\M'=[]):=by
 refine b8 [] aT Tryz.func136 rfl rfl rfl ?_;intro B au
 repeat' (refine bC.mk (λh=>?_) (λh=>?_))
 all_goals
  refine⟨_,_,.refl,?_⟩;refine⟨?_,rfl,rfl⟩;simp_all[letter]
  all_goals first
   |omega|(rw[rL];simp;omega)
def V9(I:aN)(c:UInt8):Spec Tryz.prog 137 [.int .u8 c.toNat] I [] (λv I' M'=>v=.bool (digit c)/\I'=I/\M'=[]):=by
 refine b8 [] aT Tryz.func137 rfl rfl rfl ?_;intro B au
 repeat' (refine bC.mk (λh=>?_) (λh=>?_))
 all_goals
  refine⟨_,_,.refl,?_⟩;refine⟨?_,rfl,rfl⟩;simp_all[digit]
  all_goals first
   |omega|(rw[rL];simp;omega)
def xd(s:ByteArray):s.data.toList.length=s.size:=w4
def V'(I:aN)(s:ByteArray)(aq:s.size<=140737488355328):Spec Tryz.prog 166 [.string s] I [] (λv I' M'=>v=.string s/\I'=I/\M'=[]):=by
 refine b8 [] aT Tryz.func166 rfl rfl rfl ?_;intro B au;refine aR.mk (λh=>?_) (λh=>?_)
 ·refine⟨_,_,.refl,?_,rfl,rfl⟩;have aa:s.size=0:=by simpa using h
  have:s=.empty:=by apply pA;exact D6 aa
  rw[this];rfl
 ·have aa:s.size≠0:=by simpa using h
  refine qE.mk s.size s.size rfl rfl (bS _) (by show 1*s.size<=_;omega) (by omega) ?_;refine cC.mk λb ag Bi=>?_;refine be.Nz aT rfl (by simp) (e:=5) rfl rfl rfl rfl rfl rfl (bS _) ?_ (.refl _) ?_;·simp[yI,madeCells]
  refine bs.mk ⟨b,0,none⟩ 0 rfl rfl (by omega) ?_;refine be.HP aT rfl (by simp) (e:=5) rfl rfl rfl rfl (g:=b) (l:=s.data.toList) rfl ?_ ?_ ?_ (.refl _) ?_ ?_;·show cF.val (.int .i64 (s.size:Int))=cF.val (.int .i64 (s.data.toList.length:Int));rw[xd]
  ·intro e;have:=congrArg List.length e;rw[xd]at this;exact aa this
  ·rw[xd];omega
  ·rw[xd];have ay:(iW s).length=s.size:=by simp[iW]
   simp only[bo];rw[qP,nW,A5 (by rw[ay];exact bS _),<-ay,List.take_length];rfl
  ·exact⟨_,_,.refl,rfl,rfl,rfl⟩
def NN(I:aN)(s:ByteArray)(aq:s.size<=140737488355328):Spec Tryz.prog 138 [.string s] I [] (λv I' M'=>v=.string s/\I'=I/\M'=[]):=by refine b8 [] aT Tryz.func138 rfl rfl rfl ?_;intro B au;refine a7.mk [] [] _ (.refl _) (V' I s aq) ?_;rintro v I' M' -⟨rfl,rfl,rfl⟩;exact⟨_,_,.refl,rfl,rfl,rfl⟩
def pX(c:UInt8):Bool:=letter c||digit c
def pY(s:ByteArray):Nat:=match s.data.toList with
 |[]=>0| c::r=>bif letter c then 1+(r.takeWhile pX).length else 0
def NO{α:Type}(p:α->Bool):∀ (l:List α) (i:Nat),i<=l.length->(∀ j (h:j<l.length),j<i->p l[j]=true)->(∀ (h:i<l.length),p l[i]=false)->(l.takeWhile p).length=i
 |[],i,h,_,_=>by simp at h;simp[h]
 |x::l,0,_,_,h=>by have:=h (by simp);simp only[w2]at this;simp[this]
 |x::l,i+1,hi,aa,ab=>by have ae:=aa 0 (by simp) (by omega);simp only[w2]at ae;have a8:=NO p l i (by simpa using hi) (λj ar D2=>by have:=aa (j+1) (by simpa using ar) (by omega);simpa using this) (λh=>by have:=ab (by simpa using h);simpa using this);simp[ae,a8]
def Wa{s:ByteArray}(au:0<s.size)(ay:letter s[0]=true)(aa:1<=i)(hi:i<=s.size)(av:∀ j (h:j<s.size),1<=j->j<i->pX s[j]=true)(ag:∀ (h:i<s.size),pX s[i]=false):pY s=i:=by
 have get:∀ j (h:j<s.size),s[j]=s.data.toList[j]'(by rw[xd];exact h):=λj h=>rfl;unfold pY;have hlen:=xd s;cases ak:s.data.toList with
 |nil=>rw[ak]at hlen;simp at hlen;omega
 |cons c r=>
  have g:∀ j (h:j<s.size),s[j]=(c::r)[j]'(by rw[<-ak,hlen];exact h):=λj h=>by rw[get j h];simp only[ak]
  rw[ak]at hlen;have aF:letter c=true:=by rw[g 0 au]at ay;simpa using ay
  simp only[aF,aZ];simp only[du]at hlen;rw[NO pX r (i-1) (by omega) (λj ar D2=>by
   have ai:j+1<s.size:=by omega
   have:=av (j+1) ai (by omega) (by omega);rw[g (j+1) ai]at this;simpa using this) (λh=>by
   have ai:i<s.size:=by omega
   have:=ag ai;rw[g i ai]at this;have e:i=(i-1)+1:=by omega
   rw[List.getElem_cons]at this;rw[dif_neg (by omega)]at this;exact this)]
  omega
def Wb(I:aN)(s:ByteArray)(aq:s.size<=140737488355328):Spec Tryz.prog 100 [.string s] I [] (λv I' M'=>v=.string (s.extract 0 (pY s))/\I'=I/\M'=[]):=by
 refine b8 [] aT Tryz.func100 rfl rfl rfl ?_;intro B au;have bT:∀ {s:ByteArray},pY s=0->s.extract 0 (pY s)=⟨#[]⟩:=λh=>by rw[h];apply pA;simp[uY]
 refine bC.mk (λh=>?_) (λh=>?_)
 ·have aa:s≠⟨#[]⟩:=by simpa using h
  have mO:0<s.size:=by refine Nat.pos_of_ne_zero λe=>aa ?_;apply pA;exact D6 e
  refine u0.mk 0 rfl mO ?_;refine a7.mk [] [] _ (.refl _) (NM I s[0]) ?_;rintro v I' M' -⟨rfl,rfl,rfl⟩;refine aR.mk (λh=>?_) (λh=>?_)
  ·have ay:letter s[0]=false:=by simpa using h
   refine⟨_,_,.refl,?_,rfl,rfl⟩;rw[bT]
   ·unfold pY;cases ak:s.data.toList with
    |nil=>rfl
    |cons c r=>
     have:s[0]=c:=by show s.data.toList[0]=c;simp only[ak];rfl
     rw[this]at ay;simp[ay]
  ·have ay:letter s[0]=true:=by simpa using h
   refine dh.inv (ι:=Nat) (λi=>{ ca:=[(0,.val (.string s)),(3,.val (.int .i64 i))],cQ:=I' }) (λi=>1<=i/\i<=s.size/\∀ j (h:j<s.size),1<=j->j<i->pX s[j]=true) (λi=>s.size-i) ?_ ?_;·exact⟨1,⟨by omega,by omega,λj _ aa ab=>by omega⟩,.refl,vd,.nil⟩
   ·rintro i⟨eM,gd,hs⟩;have next:∀ (aU:i<s.size),pX s[i]=true->(1<=i+1/\i+1<=s.size/\∀ k (h:k<s.size),1<=k->k<i+1->pX s[k]=true)/\s.size-(i+1)<s.size-i:=λaU aF=>
     ⟨⟨by omega,by omega,λj ar aa ab=>by
      by_cases e:j=i;·subst e;exact aF
      ·exact hs j ar aa (by omega)⟩,by omega⟩
    have out:(∀ (h:i<s.size),pX s[i]=false)->s.extract 0 i=s.extract 0 (pY s):=λaw=>by rw[Wa mO ay eM gd hs aw]
    have cc:(s.extract 0 i).size<=140737488355328:=by rw[A6];omega
    have eR:IntKind.i64.wrap ((i:Int)+1)=((i+1:Nat):Int):=by rw[wrap_i64 ⟨by omega,by omega⟩];omega
    refine bC.mk (λh=>?_) (λh=>?_)
    ·have aU:i<s.size:=by simpa using h
     refine u0.mk i rfl aU ?_;refine a7.mk [] [] _ (.refl _) (NM I' s[i]) ?_;rintro v I' M' -⟨rfl,rfl,rfl⟩;refine bC.mk (λh=>?_) (λh=>?_)
     ·refine u0.mk i rfl aU ?_;refine a7.mk [] [] _ (.refl _) (V9 _ s[i]) ?_;rintro v I' M' -⟨rfl,rfl,rfl⟩;refine aR.mk (λab=>?_) (λab=>?_)
      ·refine a6.mk _ eR ?_;exact⟨i+1,next aU (by simp only[pX];rw[show digit s[i]=true from ab];simp),.refl,vd,.nil⟩
      ·refine h5.mk 0 i rfl rfl (by omega) (by omega) ?_;refine a7.mk [] [] _ (.refl _) (NN _ _ cc) ?_;rintro v I' M' -⟨rfl,rfl,rfl⟩;refine⟨_,_,.refl,?_,rfl,rfl⟩;rw[<-out λ_=>by simp only[pX];rw[show letter s[i]=false from h,show digit s[i]=false from ab];rfl]
     ·refine a6.mk _ eR ?_;exact⟨i+1,next aU (by simp only[pX];rw[show letter s[i]=true from h];simp),.refl,vd,.nil⟩
    ·have dE:¬ i<s.size:=by simpa using h
     refine h5.mk 0 i rfl rfl (by omega) (by omega) ?_;refine a7.mk [] [] _ (.refl _) (NN _ _ cc) ?_;rintro v I' M' -⟨rfl,rfl,rfl⟩;refine⟨_,_,.refl,?_,rfl,rfl⟩;rw[<-out λh=>(dE h).elim]
 ·have aa:s=⟨#[]⟩:=by simpa using h
  subst aa;refine⟨_,_,.refl,?_,rfl,rfl⟩;rw[bT];rfl
def iH(s:ByteArray):Bool:=decide (s≠⟨#[]⟩)&&(decide (s.size<=32)&&decide (pY s=s.size))
def Wc(s:ByteArray):pY s<=s.size:=by
 unfold pY;have ay:=xd s;cases ak:s.data.toList with
 |nil=>simp
 |cons c r=>
  rw[ak]at ay;simp only[du]at ay;simp only;cases letter c;·simp
  ·simp only[aZ];have:=(List.takeWhile_sublist (p:=pX) (l:=r)).length_le;omega
def Eg(I:aN)(s:ByteArray):Spec Tryz.prog 66 [.string s] I [] (λv I' M'=>v=.bool (iH s)/\I'=I/\M'=[]):=by
 refine b8 [] aT Tryz.func66 rfl rfl rfl ?_;intro B au;refine bC.mk (λaa=>?_) (λaa=>?_)
 ·refine bC.mk (λab=>?_) (λab=>?_)
  ·have mX:s.size<=32:=by simp at ab;omega
   refine a7.mk [] [] _ (.refl _) (Wb I s (by omega)) ?_;rintro v I' M' -⟨rfl,rfl,rfl⟩;refine⟨_,_,.refl,?_,rfl,rfl⟩;have hle:=Wc s;have ax:(s.extract 0 (pY s)).size=pY s:=by rw[A6];omega
   simp_all[iH]
   all_goals omega
  ·refine⟨_,_,.refl,?_,rfl,rfl⟩;simp_all[iH]
   all_goals omega
 ·refine⟨_,_,.refl,?_,rfl,rfl⟩;simp_all[iH]
def nY:List Int:=[0,0,0,0,0,0,0,0,2,-1,2,-1,1,1,1,1,1,1,1,1]
def vp(k:Nat):Int:=nY.getD (k*2) 0
def qU(k:Nat):Int:=nY.getD (k*2+1) 0
def nZ(I:aN):Prop:=∃ T aj,I 0=some (.cells (nY.map (Value.int .i64)).toArray T aj)
def nZ.rd(h:nZ I)(M:List aC)(ar:j<20):ck I M (Addr.add ⟨0,0,none⟩ j) 1 [.int .i64 (nY.getD j 0)]:=by
 obtain⟨T,aj,h⟩:=h;rw[dx _ rfl];refine⟨rfl,_,T,aj,.inl h,?_,rfl⟩;simp only[dG];have:∀ j:Fin 20,(((nY.map (Value.int .i64)).toArray.toList.drop j.val).take 1)=[Value.int .i64 (nY.getD j.val 0)]:=by
  intro j;have aa:j.val<(nY.map (Value.int .i64)).length:=by simp[nY]
  rw[G1,fs aa,qN,qP];have ab:j.val<nY.length:=by simp[nY]
  simp[dT,ab]
 exact this ⟨j,ar⟩
def nZ.Wd(h:nZ I)(M:List aC)(ar:i+j<20):ck I M ((Addr.add ⟨0,0,none⟩ i).add j) 1 [.int .i64 (nY.getD (i+j) 0)]:=by
 have e:(Addr.add ⟨0,0,none⟩ i).add j=Addr.add ⟨0,0,none⟩ (i+j):=by rw[dx ⟨_,0,none⟩ rfl i,dx _ rfl j,dx _ rfl (i+j)];simp
 rw[e];exact h.rd M ar
def a1.oW(d:a1):Bool:=d.fT == 0&&(d.s1 == 0&&(d.s2 == 0&&d.gv == 0))
def fits(d:a1)(n:Int):Bool:=
 bif decide (10<=d.k)then false else
 bif decide (n<vp d.k.toNat)||(decide (0<=qU d.k.toNat)&&decide (qU d.k.toNat<n))then false else
 bif decide (d.k=1)then decide (d.t=⟨#[]⟩)&&(decide (d.lo=0)&&decide (d.hi=0))else
 bif decide (d.k=2)then(!(decide (d.t=⟨#[]⟩)||decide (255<d.t.size)))&&(d.oW&&(decide (d.lo=0)&&decide (d.hi=0)))else
 bif decide (d.k=3)||decide (d.k=9)then iH d.t&&(d.oW&&(decide (d.lo=0)&&decide (d.hi=0)))else
 bif decide (d.k=6)then(!(decide (d.lo<0)||(decide (99<d.lo)||(decide (d.hi≠-1)&&(decide (d.hi<d.lo)||decide (99<d.hi))))))&&(d.oW&&decide (d.t=⟨#[]⟩))else
 d.oW&&(decide (d.t=⟨#[]⟩)&&(decide (d.lo=0)&&decide (d.hi=0)))
set_option maxRecDepth 20000 in
def NP(aF:nZ I){d:a1}(ak:d.ok I)(n:Int):Spec Tryz.prog 140 [d.val,.int .i64 n] I [] (λv I' M'=>v=.bool (fits d n)/\I'=I/\M'=[]):=by
 refine b8 [] aT Tryz.func140 rfl rfl rfl ?_;intro B au;have af:=ak.k;refine a6.mk d.k (by unfold IntKind.wrap;simp[IntKind.bits,IntKind.signed];omega) ?_;refine aR.mk (λh=>?_) (λh=>?_)
 ·refine⟨_,_,.refl,?_,rfl,rfl⟩;simp at h;simp[fits,h]
 ·have oX:d.k<10:=by simpa using h
  have ar:d.k=((d.k.toNat:Nat):Int):=by omega
  have NQ:d.k.toNat<10:=by omega
  refine cX.draw aT rfl rfl rfl ?_;refine ed.mk d.k.toNat ar NQ ?_;refine ed.mk 0 rfl (by omega) ?_;refine aM.mk [.int .i64 (vp d.k.toNat)] (aF.rd _ (j:=d.k.toNat*2) (by omega)) ?_;refine ed.mk d.k.toNat ar NQ ?_;refine ed.mk 1 rfl (by omega) ?_;refine aM.mk [.int .i64 (qU d.k.toNat)] (aF.Wd _ (i:=d.k.toNat*2) (j:=1) (by omega)) ?_
  repeat' first
   |refine bC.mk (λh=>?_) (λh=>?_)| refine aR.mk (λh=>?_) (λh=>?_)| refine fk.Nw aT (e:=67) rfl rfl rfl rfl (by kernel_rfl) ?_|(refine a7.mk [] [] _ (.refl _) (Eg _ _) ?_;rintro v I' M' -⟨rfl,rfl,rfl⟩)
  all_goals refine⟨_,_,.refl,?_⟩
  all_goals refine⟨?_,rfl,rfl⟩
  all_goals clear aF ak ar
  all_goals (first | (simp_all[fits,a1.oW];done) | (simp_all[fits,a1.oW];omega) | (simp_all[fits,a1.oW];rw[rL];simp;omega))
def jK(i:Nat):List Int->List Bool->Option (List Bool)
 |[],s=>some s| k::ks,s=>bif decide (k<0)||(decide ((i:Int)<=k)||s.getD k.toNat false)then none else jK i ks (s.set k.toNat true)
def kD:Nat->List a1->List Bool->Option (List Bool)
 |_,[],s=>some s
 |i,d::ds,s=>bif fits d d.kids.length then(match jK i d.kids s with
  |some b0=>kD (i+1) ds b0| none=>none)else none
def n1(root:Int):Nat->List Bool->Bool
 |_,[]=>true| i,b::s=>bif b == decide ((i:Int)=root)then false else n1 root (i+1) s
def right(t:db):Bool:=decide (0<=t.root)&&(decide (t.root<t.ns.length)&&(match kD 0 t.ns (List.replicate t.ns.length false)with
 |some s=>n1 t.root 0 s| none=>false))
def Eh(v:Value)(n:Nat):rowOf [v] n=List.replicate n v:=by
 apply yX
 ·simp[yI,madeCells]
 ·intro i aa ab;simp[yI,madeCells,Nat.mod_one]
def vq(b:Nat)(s:List Bool):aC:=⟨b,.cells (s.map Value.bool).toArray 4 (0,0)⟩
def NR{M:List aC}{s:List Bool}(a5:vq b s∈M)(ar:j<s.length):ck I M ((⟨b,0,none⟩:Addr).add (j*1)) 1 [.bool s[j]]:=by
 rw[dx _ rfl];refine⟨rfl,_,4,(0,0),.inr ⟨_,a5,rfl,rfl⟩,?_,rfl⟩;have aa:j<(s.map Value.bool).length:=by simpa using ar
 simp only[dG,kA];rw[fs aa,qN,qP];simp
def We(s:List Bool)(j:Nat)(ar:j<s.length)(b:Bool):bo (s.map Value.bool) j [.bool b]=(s.set j b).map Value.bool:=by unfold bo;rw[List.map_set,D5];simp[ar]
def cS.add{M:List aC}{o k:Nat}(pre post:List aC)(cs:Array Value)(T:Nat)(a5:M=pre++⟨b,.cells cs T (0,0)⟩::post)(ag:o+k+vs.length<=cs.size)(aa:ga vs=true)
  (h:K (pre++⟨b,.cells (bo cs.toList (o+k) vs).toArray T (0,0)⟩::post)):cS M ((⟨b,o,none⟩:Addr).add k) vs K:=by
 rw[dx _ rfl];exact .mk pre post cs T a5 rfl ag aa h
def cS.pZ{M:List aC}{o k:Nat}(pre post:List aC)(cs:List Value)(T:Nat)(a5:M=pre++⟨b,.cells cs.toArray T (0,0)⟩::post)(ag:Nat.ble (o+k+vs.length) cs.length=true)(aa:ga vs=true)(cs':List Value)(he:bo cs (o+k) vs=cs')(h:K (pre++⟨b,.cells cs'.toArray T (0,0)⟩::post)):cS M ((⟨b,o,none⟩:Addr).add k) vs K:=
 cS.add pre post _ _ a5 (by simpa using bq ag) aa (by rw[<-he]at h;exact h)
def y3(aF:nZ I){t:db}(az:t.ok I):Spec Tryz.prog 103 [t.val] I [] (λv I' M'=>v=.bool (right t)/\I'=I/\M'=[]):=by
 refine b8 [] aT Tryz.func103 rfl rfl rfl ?_;intro B au;have aw:=az.n;have p0:=az.a3.cap;refine bC.mk (λaa=>?_) (λaa=>?_)
 ·refine aR.mk (λab=>?_) (λab=>?_)
  ·refine⟨_,_,.refl,?_,rfl,rfl⟩;simp at ab;have:¬ t.root<t.ns.length:=by omega
   simp[right,this]
  ·have aO:0<=t.root:=by simpa using aa
   have aP:t.root<t.ns.length:=by simp at ab;omega
   refine qE.mk t.n t.n rfl rfl (bS _) (by show 1*t.n<=_;omega) (by omega) ?_;refine cC.mk λb ag Bi=>?_;refine dh.inv (ι:=Nat×List Bool) (λx=>{ ca:=[(1,.ref 1 0),(3,.val (.slice (some ⟨b,0,none⟩) t.n t.n)),(26,.val (.slice t.a t.n t.c)),(27,.val (.int .i64 t.n)),(28,.val (.int .i64 x.1))],cl:=[(1,t.cells)],cQ:=I,dq:=[vq b x.2] }) (λx=>x.1<=t.n/\x.2.length=t.n/\kD 0 t.ns (List.replicate t.ns.length false)=kD x.1 (t.ns.drop x.1) x.2) (λx=>t.n-x.1) ?_ ?_;·refine⟨(0,List.replicate t.n false),⟨by omega,by simp,by simp[aw]⟩,?_,iD,.cons rfl .nil⟩;show h6 _ _ [⟨b,.cells (rowOf [Value.bool false] (t.n*1)).toArray 4 (0,0)⟩] _ [vq b (List.replicate t.n false)];rw[Eh,kA];simp only[vq,List.map_replicate];exact .refl
   ·rintro⟨i,s⟩⟨eM,gd,hs⟩;simp only at eM gd hs;refine aR.mk (λh=>?_) (λh=>?_)
    ·have aU:i<t.n:=by simpa using h
     have cr:i<t.ns.length:=by omega
     obtain⟨ad,cg,bD⟩:=az.a3.row a1.cV aU cr;have ia:=az.ns t.ns[i] (dR cr);have dK:=ia.kn;have jL:t.ns.drop i=t.ns[i]::t.ns.drop (i+1):=fs cr;refine bs.mk ad i cg rfl aU ?_;refine aM.mk t.ns[i].cells (bD _) ?_;refine a7.mk [] [vq b s] _ (.refl _) (NP aF ia t.ns[i].kn) ?_;rintro v I' M' -⟨rfl,rfl,rfl⟩;refine aR.mk (λai=>?_) (λai=>?_)
     ·refine⟨_,_,.sub (gu _) .refl,?_,rfl,rfl⟩;have aD:fits t.ns[i] t.ns[i].kids.length=false:=by rw[dK];simpa using ai
      have:right t=false:=by unfold right;rw[hs,jL];simp[kD,aD]
      rw[this]
     ·have aD:fits t.ns[i] t.ns[i].kids.length=true:=by rw[dK];simpa using ai
      refine dh.inv (ι:=Nat×List Bool) (λx=>{ ca:=[(1,.ref 1 0),(3,.val (.slice (some ⟨b,0,none⟩) t.n t.n)),(4,.val (.int .i64 i)),(26,.val (.slice t.a t.n t.c)),(27,.val (.int .i64 t.n)),(28,.val (.int .i64 i)),(40,.val (.slice t.ns[i].kC t.ns[i].kn t.ns[i].jj)),(41,.val (.int .i64 t.ns[i].kn)),(42,.val (.int .i64 x.1))],cl:=[(1,t.cells)],cQ:=I',dq:=[vq b x.2] }) (λx=>x.1<=t.ns[i].kn/\x.2.length=t.n/\jK i t.ns[i].kids s=jK i (t.ns[i].kids.drop x.1) x.2) (λx=>t.ns[i].kn-x.1) ?_ ?_;·exact⟨(0,s),⟨by omega,gd,rfl⟩,.refl,rZ,.cons rfl .nil⟩
      ·rintro⟨j,b0⟩⟨n2,lI,y4⟩;simp only at n2 lI y4;refine aR.mk (λh=>?_) (λh=>?_)
       ·have fp:j<t.ns[i].kn:=by simpa using h
        have lJ:j<t.ns[i].kids.length:=by omega
        obtain⟨ib,iX,gW⟩:=ia.a3.one fp lJ;refine bs.mk ib j iX rfl fp ?_;refine aM.mk [.int .i64 t.ns[i].kids[j]] (gW _) ?_;have hc:t.ns[i].kids.drop j=t.ns[i].kids[j]::t.ns[i].kids.drop (j+1):=fs lJ;have bad:(decide (t.ns[i].kids[j]<0)||(decide ((i:Int)<=t.ns[i].kids[j])||b0.getD t.ns[i].kids[j].toNat false))=true->right t=false:=λag=>by unfold right;rw[hs,jL];simp only[kD,aD,aZ,y4,hc,jK,ag];simp
        refine bC.mk (λaQ=>?_) (λaQ=>?_)
        ·refine bC.mk (λbp=>?_) (λbp=>?_)
         ·simp only[oP,Int.not_lt,Int.not_le]at aQ bp;have ei:t.ns[i].kids[j]=((t.ns[i].kids[j].toNat:Nat):Int):=by omega
          have fK:t.ns[i].kids[j].toNat<t.n:=by omega
          have oY:t.ns[i].kids[j].toNat<b0.length:=by omega
          refine bs.mk ⟨b,0,none⟩ t.ns[i].kids[j].toNat rfl ei fK ?_;refine aM.mk [.bool b0[t.ns[i].kids[j].toNat]] (NR (by simp) oY) ?_;refine aR.mk (λbM=>?_) (λbM=>?_);·refine⟨_,_,.sub (gu _) .refl,?_,rfl,rfl⟩;rw[bad];simp[dT,oY,bM]
          ·refine bs.mk ⟨b,0,none⟩ t.ns[i].kids[j].toNat rfl ei fK ?_;refine cS.add [] [] _ 4 rfl ?_ rfl ?_
           ·simp only[qA,fl];show 0+t.ns[i].kids[j].toNat*1+1<=_;omega
           have eR:IntKind.i64.wrap ((j:Int)+1)=((j+1:Nat):Int):=by rw[wrap_i64 ⟨by omega,by have:=ia.a3.cap;omega⟩];omega
           refine a6.mk _ eR ?_;refine⟨(j+1,b0.set t.ns[i].kids[j].toNat true),⟨⟨by omega,by simp[lI],?_⟩,by show _<_;simp only;omega⟩,?_,rZ,.cons rfl .nil⟩
           ·simp only;rw[y4,hc];have aK:(decide (t.ns[i].kids[j]<0)||(decide ((i:Int)<=t.ns[i].kids[j])||b0.getD t.ns[i].kids[j].toNat false))=false:=by
             have ax:¬ t.ns[i].kids[j]<0:=by omega
             have aA:¬ (i:Int)<=t.ns[i].kids[j]:=by omega
             simp[ax,aA,dT,oY,show b0[t.ns[i].kids[j].toNat]=false from bM]
            simp only[jK,aK,aY]
           ·have e:=We b0 t.ns[i].kids[j].toNat oY true;simp only[vq];rw[<-e];simp only[dG,kA];exact .refl
         ·refine⟨_,_,.sub (gu _) .refl,?_,rfl,rfl⟩;rw[bad];simp at bp;simp[bp]
        ·refine⟨_,_,.sub (gu _) .refl,?_,rfl,rfl⟩;rw[bad];simp at aQ;simp[aQ]
       ·have fp:¬ j<t.ns[i].kn:=by simpa using h
        have xe:t.ns[i].kids.drop j=[]:=iU (by omega);have eR:IntKind.i64.wrap ((i:Int)+1)=((i+1:Nat):Int):=by rw[wrap_i64 ⟨by omega,by omega⟩];omega
        refine a6.mk _ eR ?_;refine⟨(i+1,b0),⟨⟨by omega,lI,?_⟩,by show _<_;simp only;omega⟩,.refl,iD,.cons rfl .nil⟩;simp only;rw[hs,jL];simp only[kD,aD,aZ,y4,xe,jK]
    ·have dE:¬ i<t.n:=by simpa using h
     have eG:t.ns.drop i=[]:=iU (by omega);have gg:kD 0 t.ns (List.replicate t.ns.length false)=some s:=by rw[hs,eG];rfl
     have ao:right t=n1 t.root 0 s:=by unfold right;rw[gg];simp[aO,aP]
     refine dh.inv (ι:=Nat) (λm=>{ ca:=[(1,.ref 1 0),(64,.val (.slice (some ⟨b,0,none⟩) t.n t.n)),(65,.val (.int .i64 t.n)),(66,.val (.int .i64 m))],cl:=[(1,t.cells)],cQ:=I,dq:=[vq b s] }) (λm=>m<=t.n/\n1 t.root 0 s=n1 t.root m (s.drop m)) (λm=>t.n-m) ?_ ?_;·exact⟨0,⟨by omega,rfl⟩,.refl,ez,.cons rfl .nil⟩
     ·rintro m⟨y5,kg⟩;refine aR.mk (λh=>?_) (λh=>?_)
      ·have y6:m<t.n:=by simpa using h
       have NS:m<s.length:=by omega
       have n3:s.drop m=s[m]::s.drop (m+1):=fs NS;refine bs.mk ⟨b,0,none⟩ m rfl rfl y6 ?_;refine aM.mk [.bool s[m]] (NR (by simp) NS) ?_;refine aR.mk (λdP=>?_) (λdP=>?_)
       ·refine⟨_,_,.sub (gu _) .refl,?_,rfl,rfl⟩;have:right t=false:=by rw[ao,kg,n3];simp only[n1,show(s[m] == decide ((m:Int)=t.root))=true from dP,aZ]
        rw[this]
       ·have eR:IntKind.i64.wrap ((m:Int)+1)=((m+1:Nat):Int):=by rw[wrap_i64 ⟨by omega,by omega⟩];omega
        refine a6.mk _ eR ?_;refine⟨m+1,⟨⟨by omega,?_⟩,by omega⟩,.refl,ez,.cons rfl .nil⟩;rw[kg,n3];simp only[n1,show(s[m] == decide ((m:Int)=t.root))=false from dP,aY]
      ·have y6:¬ m<t.n:=by simpa using h
       have n3:s.drop m=[]:=iU (by omega);refine⟨_,_,.sub (gu _) .refl,?_,rfl,rfl⟩;rw[ao,kg,n3];rfl
 ·refine⟨_,_,.refl,?_,rfl,rfl⟩;have:¬ 0<=t.root:=by simp at aa;omega
  simp[right,this]
def vr(b:Nat)(s:List Int):aC:=⟨b,.cells (s.map (Value.int .i64)).toArray 3 (0,0)⟩
def Wf{M:List aC}{s:List Int}(a5:vr b s∈M)(ar:j<s.length):ck I M ((⟨b,0,none⟩:Addr).add (j*1)) 1 [.int .i64 s[j]]:=by
 rw[dx _ rfl];refine⟨rfl,_,3,(0,0),.inr ⟨_,a5,rfl,rfl⟩,?_,rfl⟩;have aa:j<(s.map (Value.int .i64)).length:=by simpa using ar
 simp only[dG,kA];rw[fs aa,qN,qP];simp
def Ei{M:List aC}{s:List Int}{v:Int}(ar:j<s.length)(ah:s[j]=v)(a5:vr b s∈M):ck I M ((⟨b,0,none⟩:Addr).add (j*1)) 1 [.int .i64 v]:=ah ▸ Wf a5 ar
def NT(s:List Int)(j:Nat)(ar:j<s.length)(b:Int):bo (s.map (Value.int .i64)) j [.int .i64 b]=(s.set j b).map (Value.int .i64):=by unfold bo;rw[List.map_set,D5];simp[ar]
def Wg(aF:nZ I){t:db}(az:t.ok I):Spec Tryz.prog 154 [t.val] I [] (λv I' M'=>v=.int .i64 (bif right t then(t.n:Int)else 0)/\I'=I/\M'=[]):=by
 refine b8 [] aT Tryz.func154 rfl rfl rfl ?_;intro B au;refine a7.mk [] [] _ (.refl _) (y3 aF az) ?_;rintro v I' M' -⟨rfl,rfl,rfl⟩;refine aR.mk (λh=>?_) (λh=>?_)
 ·refine⟨_,_,.refl,?_,rfl,rfl⟩;rw[show right t=false by simpa using h];rfl
 ·refine⟨_,_,.refl,?_,rfl,rfl⟩;rw[show right t=true by simpa using h];rfl
def NU{i:Nat}:∀ {ks:List Int} {s b0:List Bool},jK i ks s=some b0->∀ k∈ks,0<=k/\k<i
 |[],s,b0,_,k,af=>by cases af
 |x::ks,s,b0,h,k,af=>by
  unfold jK at h;cases ag:(decide (x<0)||(decide ((i:Int)<=x)||s.getD x.toNat false))with
  |true=>rw[ag]at h;cases h
  |false=>
   rw[ag]at h;simp only[nU,oP]at ag;rcases dv.1 af with rfl | af;·omega
   ·exact NU h k af
def NV:∀ {i:Nat} {ds:List a1} {s b0:List Bool},kD i ds s=some b0->∀ j (h:j<ds.length),∀ k∈ds[j].kids,0<=k/\k<(i+j:Nat)
 |i,[],s,b0,_,j,ar,_,_=>by cases ar
 |i,d::ds,s,b0,h,j,ar,k,af=>by
  unfold kD at h;cases aD:fits d d.kids.length with
  |false=>rw[aD]at h;cases h
  |true=>
   rw[aD]at h;simp only[aZ]at h;cases an:jK i d.kids s with
   |none=>rw[an]at h;cases h
   |some s1=>
    rw[an]at h;cases j with
    |zero=>exact NU an k (by simpa using af)| succ j=>have:=NV h j (by simpa using ar) k (by simpa using af);omega
def sp{t:db}(h:right t=true):∀ j (ar:j<t.ns.length),∀ k∈t.ns[j].kids,0<=k/\k<j:=by
 unfold right at h;simp only[bG]at h;obtain⟨_,_,h⟩:=h;split at h
 ·rename_i s aq;intro j ar k af;have:=NV aq j ar k af;omega
 ·cases h
def HW{t:db}(h:right t=true):0<=t.root/\t.root<t.ns.length:=by unfold right at h;simp only[bG,eC]at h;exact⟨h.1,h.2.1⟩
def Bj(fL:List Int):List Int->Int->Int
 |[],m=>m| k::ks,m=>Bj fL ks (max m (fL.getD k.toNat 0))
def y7:Nat->List a1->List Int->List Int
 |_,[],fL=>fL| i,d::ds,fL=>y7 (i+1) ds (fL.set i (Bj fL d.kids 0+1))
def depth(t:db):Int:=bif right t then(y7 0 t.ns (List.replicate t.ns.length 0)).getD t.root.toNat 0 else 0
def Wh(aF:nZ I){t:db}(az:t.ok I):Spec Tryz.prog 104 [t.val] I [] (λv I' M'=>v=.int .i64 (depth t)/\I'=I/\M'=[]):=by
 refine b8 [] aT Tryz.func104 rfl rfl rfl ?_;intro B au;have aw:=az.n;have p0:=az.a3.cap;refine a7.mk [] [] _ (.refl _) (y3 aF az) ?_;rintro v I' M' -⟨rfl,rfl,rfl⟩;refine aR.mk (λh=>?_) (λh=>?_)
 ·refine⟨_,_,.refl,?_,rfl,rfl⟩;simp[depth,show right t=false by simpa using h]
 ·have ao:right t=true:=by simpa using h
  have n4:=sp ao;obtain⟨aO,aP⟩:=HW ao;refine qE.mk t.n t.n rfl rfl (bS _) (by show 8*t.n<=_;omega) (by omega) ?_;refine cC.mk λb ag Bi=>?_;refine dh.inv (ι:=Nat×List Int) (λx=>{ ca:=[(1,.ref 1 0),(3,.val (.slice (some ⟨b,0,none⟩) t.n t.n)),(16,.val (.slice t.a t.n t.c)),(17,.val (.int .i64 t.n)),(18,.val (.int .i64 x.1))],cl:=[(1,t.cells)],cQ:=I',dq:=[vr b x.2] }) (λx=>x.1<=t.n/\x.2.length=t.n/\(∀ j,0<=x.2.getD j 0/\x.2.getD j 0<=x.1)/\(∀ j,x.1<=j->x.2.getD j 0=0)/\y7 0 t.ns (List.replicate t.ns.length 0)=y7 x.1 (t.ns.drop x.1) x.2) (λx=>t.n-x.1) ?_ ?_
  ·have z:∀ j,(List.replicate t.n (0:Int)).getD j 0=0:=λj=>by
    by_cases ar:j<t.n<;>simp[dT,ar]
   refine⟨(0,List.replicate t.n 0),⟨by omega,by simp,λj=>by rw[z];simp,λj _=>z j,by simp[aw]⟩,?_,iD,.cons rfl .nil⟩;show h6 _ _ [⟨b,.cells (rowOf [Value.int .i64 0] (t.n*1)).toArray 3 (0,0)⟩] _ [vr b (List.replicate t.n 0)];rw[Eh,kA];simp only[vr,List.map_replicate];exact .refl
  ·rintro⟨i,fL⟩⟨eM,gd,hs,jB,wU⟩;simp only at eM gd hs jB wU;refine aR.mk (λh=>?_) (λh=>?_)
   ·have aU:i<t.n:=by simpa using h
    have cr:i<t.ns.length:=by omega
    obtain⟨ad,cg,bD⟩:=az.a3.row a1.cV aU cr;have ia:=az.ns t.ns[i] (dR cr);have dK:=ia.kn;have jL:t.ns.drop i=t.ns[i]::t.ns.drop (i+1):=fs cr;refine bs.mk ad i cg rfl aU ?_;refine aM.mk t.ns[i].cells (bD _) ?_;refine dh.inv (ι:=Nat×Int) (λx=>{ ca:=[(1,.ref 1 0),(3,.val (.slice (some ⟨b,0,none⟩) t.n t.n)),(4,.val (.int .i64 i)),(16,.val (.slice t.a t.n t.c)),(17,.val (.int .i64 t.n)),(18,.val (.int .i64 i)),(24,.val (.slice t.ns[i].kC t.ns[i].kn t.ns[i].jj)),(25,.val (.int .i64 t.ns[i].kn)),(26,.val (.int .i64 x.1))],cl:=[(1,t.cells)],cQ:=I',dq:=[vr b (fL.set i x.2)] }) (λx=>x.1<=t.ns[i].kn/\0<=x.2/\x.2<=i/\Bj fL t.ns[i].kids 0=Bj fL (t.ns[i].kids.drop x.1) x.2) (λx=>t.ns[i].kn-x.1) ?_ ?_
    ·refine⟨(0,0),⟨by omega,by omega,by simp,rfl⟩,?_,rZ,.cons rfl .nil⟩;have e:fL.set i 0=fL:=by
      have aa:=jB i (bS _);rw[dT]at aa;apply Eb;intro j;rw[r8];split
      ·rename_i e;subst e;have:i<fL.length:=by omega
       simp[this]at aa |-;exact aa.symm
      ·rfl
     simp only;rw[e];exact .refl
    ·rintro⟨j,m⟩⟨n2,lI,y4,HX⟩;simp only at n2 lI y4 HX;refine aR.mk (λh=>?_) (λh=>?_)
     ·have fp:j<t.ns[i].kn:=by simpa using h
      have lJ:j<t.ns[i].kids.length:=by omega
      obtain⟨ib,iX,gW⟩:=ia.a3.one fp lJ;have hc:t.ns[i].kids.drop j=t.ns[i].kids[j]::t.ns[i].kids.drop (j+1):=fs lJ;have af:=n4 i cr t.ns[i].kids[j] (dR lJ);have ei:t.ns[i].kids[j]=((t.ns[i].kids[j].toNat:Nat):Int):=by omega
      have fK:t.ns[i].kids[j].toNat<t.n:=by omega
      refine bs.mk ib j iX rfl fp ?_;refine aM.mk [.int .i64 t.ns[i].kids[j]] (gW _) ?_;refine cX.draw aT rfl rfl rfl ?_;have eI:i<(fL.set i m).length:=by simp;omega
      have oY:t.ns[i].kids[j].toNat<(fL.set i m).length:=by simp;omega
      have HY:(fL.set i m)[i]=m:=by simp
      have hJ:(fL.set i m)[t.ns[i].kids[j].toNat]=fL.getD t.ns[i].kids[j].toNat 0:=by
       have bl:i≠t.ns[i].kids[j].toNat:=by omega
       have c8:t.ns[i].kids[j].toNat<fL.length:=by omega
       rw[List.getElem_set,b7 bl];simp[dT,c8]
      refine bs.mk ⟨b,0,none⟩ i rfl rfl aU ?_;refine aM.mk [.int .i64 m] (Ei eI HY (by simp)) ?_;refine bs.mk ⟨b,0,none⟩ t.ns[i].kids[j].toNat rfl ei fK ?_;refine aM.mk [.int .i64 (fL.getD t.ns[i].kids[j].toNat 0)] (Ei oY hJ (by simp)) ?_;refine bs.mk ⟨b,0,none⟩ i rfl rfl aU ?_;refine cS.add [] [] _ 3 rfl ?_ rfl ?_;·simp only[qA,fl];show 0+i*1+1<=_;simp;omega
      have eR:IntKind.i64.wrap ((j:Int)+1)=((j+1:Nat):Int):=by rw[wrap_i64 ⟨by omega,by have:=ia.a3.cap;omega⟩];omega
      refine a6.mk _ eR ?_;have afM:=hs t.ns[i].kids[j].toNat;refine⟨(j+1,max m (fL.getD t.ns[i].kids[j].toNat 0)),⟨⟨by omega,by simp only;omega,by simp only;omega,?_⟩,by show _<_;simp only;omega⟩,?_,rZ,.cons rfl .nil⟩;·simp only;rw[HX,hc];rfl
      ·have e:=NT (fL.set i m) i eI (max m (fL.getD t.ns[i].kids[j].toNat 0));simp only[vr];rw[List.set_set]at e;rw[<-e];simp only[dG,kA];exact .refl
     ·have fp:¬ j<t.ns[i].kn:=by simpa using h
      have xe:t.ns[i].kids.drop j=[]:=iU (by omega);have hm:Bj fL t.ns[i].kids 0=m:=by rw[HX,xe];rfl
      have eI:i<(fL.set i m).length:=by simp;omega
      have HY:(fL.set i m)[i]=m:=by simp
      have HZ:IntKind.i64.wrap (m+1)=m+1:=wrap_i64 ⟨by omega,by omega⟩;have eR:IntKind.i64.wrap ((i:Int)+1)=((i+1:Nat):Int):=by rw[wrap_i64 ⟨by omega,by omega⟩];omega
      refine bs.mk ⟨b,0,none⟩ i rfl rfl aU ?_;refine aM.mk [.int .i64 m] (Ei eI HY (by simp)) ?_;refine a6.mk _ HZ ?_;refine bs.mk ⟨b,0,none⟩ i rfl rfl aU ?_;refine cS.add [] [] _ 3 rfl ?_ rfl ?_;·simp only[qA,fl];show 0+i*1+1<=_;omega
      refine a6.mk _ eR ?_;refine⟨(i+1,fL.set i (m+1)),⟨⟨by omega,by simp[gd],?_,?_,?_⟩,by show _<_;simp only;omega⟩,?_,iD,.cons rfl .nil⟩
      ·intro q;have Wi:=hs q;simp only[dT,r8]at Wi |-;split
       ·rename_i e;subst e;have:i<fL.length:=by omega
        simp[this];omega
       ·omega
      ·intro q aK;have NW:=jB q (by omega);simp only at aK;simp only[dT,r8]at NW |-;rw[b7 (by omega)];exact NW
      ·simp only;rw[wU,jL];simp only[y7,hm]
      ·have e:=NT (fL.set i m) i eI (m+1);simp only[vr];rw[List.set_set]at e;rw[<-e];simp only[dG,kA];exact .refl
   ·have dE:¬ i<t.n:=by simpa using h
    have eG:t.ns.drop i=[]:=iU (by omega);have gg:y7 0 t.ns (List.replicate t.ns.length 0)=fL:=by rw[wU,eG];rfl
    have mY:t.root=((t.root.toNat:Nat):Int):=by omega
    have p1:t.root.toNat<fL.length:=by omega
    refine bs.mk ⟨b,0,none⟩ t.root.toNat rfl mY (by omega) ?_;refine aM.mk [.int .i64 fL[t.root.toNat]] (Ei p1 rfl (by simp)) ?_;refine⟨_,_,.sub (gu _) .refl,?_,rfl,rfl⟩;have:depth t=fL[t.root.toNat]:=by unfold depth;rw[ao,gg];simp[dT,p1]
    rw[this];rfl
def qV(t:db):Bool:=decide (t.n<=1024)&&(right t&&decide (depth t<=32))
def Wj(aF:nZ I){t:db}(az:t.ok I):Spec Tryz.prog 72 [t.val] I [] (λv I' M'=>v=.bool (qV t)/\I'=I/\M'=[]):=by
 refine b8 [] aT Tryz.func72 rfl rfl rfl ?_;intro B au;refine bC.mk (λaa=>?_) (λaa=>?_)
 ·refine a7.mk [] [] _ (.refl _) (y3 aF az) ?_;rintro v I' M' -⟨rfl,rfl,rfl⟩;refine bC.mk (λab=>?_) (λab=>?_)
  ·refine a7.mk [] [] _ (.refl _) (Wh aF az) ?_;rintro v I' M' -⟨rfl,rfl,rfl⟩;refine⟨_,_,.refl,?_,rfl,rfl⟩;have y8:t.n<=1024:=by simp at aa;omega
   simp[qV,y8,ab]
  ·refine⟨_,_,.refl,?_,rfl,rfl⟩;have mX:right t=false:=ab;simp[qV,mX]
 ·refine⟨_,_,.refl,?_,rfl,rfl⟩;have y8:¬ t.n<=1024:=by simp at aa;omega
  simp[qV,y8]
def tK{α:Type}(z:α)(f:a1->(Int->α)->α):List a1->List α->List α
 |[],acc=>acc| d::ds,acc=>tK z f ds (acc++[f d λk=>acc.getD k.toNat z])
section
variable{α:Type}{z:α}{f:a1->(Int->α)->α}
def H0:∀ (ds:List a1) (acc:List α) (j:Nat),j<acc.length->(tK z f ds acc)[j]?=acc[j]?
 |[],acc,j,_=>rfl| d::ds,acc,j,h=>by rw[tK,H0 ds _ j (by simp;omega),tm h]
def NX:∀ (ds:List a1) (acc:List α) (j:Nat) (h:j<ds.length),(tK z f ds acc)[acc.length+j]?=some (f ds[j] λk=>((tK z f ds acc).take (acc.length+j)).getD k.toNat z)
 |d::ds,acc,0,_=>by
  rw[tK,pC,H0 ds _ acc.length (by simp)];simp only[List.getElem?_concat_length,w2,g7];congr 1;funext k;have:(tK z f ds (acc++[f d λk=>acc.getD k.toNat z])).take acc.length=acc:=by
   apply Eb;intro i;rw[jY];split;·rename_i hi;rw[H0 ds _ i (by simp;omega),tm hi]
   ·rw[wF (by omega)]
  rw[this]
 |d::ds,acc,j+1,h=>by have:=NX ds (acc++[f d λk=>acc.getD k.toNat z]) j (by simpa using h);rw[tK];simp only[cD,du,iF,dG,D8]at this |-;rw[show acc.length+(j+1)=acc.length+1+j from by omega];exact this
def Bk(z:α)(f:a1->(Int->α)->α)(ns:List a1)(k:Int):α:=(tK z f ns []).getD k.toNat z
def NY(aD:∀ d g c5,(∀ k∈d.kids,g k=c5 k)->f d g=f d c5){t:db}(ao:right t=true)(ar:j<t.ns.length):Bk z f t.ns j=f t.ns[j] (Bk z f t.ns):=by have h:=NX (z:=z) (f:=f) t.ns [] j ar;simp only[iF,dG]at h;unfold Bk;rw[dT,show((j:Int).toNat)=j from by omega,h,jZ];refine aD _ _ _ λk af=>?_;have:=sp ao j ar k af;rw[dT,dT,jY,cv (by omega)]
end
def free(g:Nat->Nat)(s:List Bool):Nat->Nat
 |0=>0| i+1=>free g s i+(bif s.getD i false then 0 else g i)
def NZ{g:Nat->Nat}{s:List Bool}{k:Nat}:∀ {i:Nat},i<=k->free g (s.set k true) i=free g s i
 |0,_=>rfl| i+1,h=>by unfold free;rw[NZ (by omega)];simp only[dT,r8];rw[b7 (by omega)]
def N0{g:Nat->Nat}{s:List Bool}{k:Nat}(aq:s.getD k false=false)(ay:k<s.length):∀ {i:Nat},k<i->free g (s.set k true) i+g k=free g s i
 |i+1,h=>by
  unfold free;by_cases e:i=k;·subst e;rw[NZ (bS _),aq];simp[dT,ay]
  ·have:=N0 (g:=g) aq ay (i:=i) (by omega);simp only[dT,r8]at this |-;rw[b7 (by omega)];omega
def lK(g:Int->Nat)(ks:List Int):Nat:=(ks.map g).sum
def N1{g:Nat->Nat}{i:Nat}:∀ {ks:List Int} {s b0:List Bool},jK i ks s=some b0->i<=s.length->b0.length=s.length/\free g b0 i+lK (λk=>g k.toNat) ks=free g s i
 |[],s,b0,h,_=>by simp only[jK,g7]at h;subst h;exact⟨rfl,rfl⟩
 |x::ks,s,b0,h,ay=>by
  unfold jK at h;cases ag:(decide (x<0)||(decide ((i:Int)<=x)||s.getD x.toNat false))with
  |true=>rw[ag]at h;cases h| false=>rw[ag]at h;simp only[nU,oP]at ag;obtain⟨aa,ab,ai⟩:=ag;obtain⟨ax,aA⟩:=N1 (g:=g) h (by simpa using ay);have bj:=N0 (g:=g) ai (by omega) (i:=i) (by omega);refine⟨by simpa using ax,?_⟩;simp only[lK,eh,sc]at aA |-;omega
def N2{g:Nat->Nat}{c:a1->Nat}:∀ {ds:List a1} {i:Nat} {s b0:List Bool},kD i ds s=some b0->i+ds.length<=s.length->(∀ j (h:j<ds.length),g (i+j)<=c ds[j]+lK (λk=>g k.toNat) ds[j].kids) -> b0.length=s.length/\free g b0 (i+ds.length)<=free g s i+(ds.map c).sum
 |[],i,s,b0,h,_,_=>by simp only[kD,g7]at h;subst h;simp
 |d::ds,i,s,b0,h,ay,aG=>by
  unfold kD at h;cases aD:fits d d.kids.length with
  |false=>rw[aD]at h;cases h
  |true=>
   rw[aD]at h;simp only[aZ]at h;cases an:jK i d.kids s with
   |none=>rw[an]at h;cases h
   |some s1=>
    rw[an]at h;simp only[du]at ay;obtain⟨ax,aA⟩:=N1 (g:=g) an (by omega);obtain⟨bj,cp⟩:=N2 (g:=g) (c:=c) h (by omega) (λj ar=>by
     have:=aG (j+1) (by simp;omega);simp only[D8]at this;rw[show i+1+j=i+(j+1)from by omega];exact this)
    have au:=aG 0 (by simp);simp only[pC,w2]at au;refine⟨by omega,?_⟩;have eX:free g s1 (i+1)<=free g s1 i+g i:=by
     show free g s1 i+_<=_;cases s1.getD i false<;>simp
    simp only[du,eh,sc];rw[show i+(ds.length+1)=i+1+ds.length from by omega];omega
def N3{root:Int}:∀ {s:List Bool} {i:Nat},n1 root i s=true->∀ j,j<s.length->(i+j:Nat)=root->s.getD j false=false
 |b::s,i,h,j,ar,e=>by
  unfold n1 at h;cases ag:(b == decide ((i:Int)=root))with
  |true=>rw[ag]at h;cases h
  |false=>
   rw[ag]at h;cases j with
   |zero=>
    have:decide ((i:Int)=root)=true:=by simpa using e
    rw[this]at ag;simpa using ag
   |succ j=>have:=N3 (i:=i+1) h j (by simpa using ar) (by omega);simpa using this
def N4{g:Nat->Nat}{s:List Bool}{k:Nat}(af:s.getD k false=false):∀ {n:Nat},k<n->g k<=free g s n
 |n+1,h=>by
  unfold free;by_cases e:n=k;·subst e;rw[af];simp
  ·have:=N4 (g:=g) af (n:=n) (by omega);omega
def N5{t:db}(ao:right t=true){g:Int->Nat}{c:a1->Nat}(h:∀ j (ar:j<t.ns.length),g j<=c t.ns[j]+lK g t.ns[j].kids):g t.root<=(t.ns.map c).sum:=by
 have Ej:=HW ao;have af:=sp ao;unfold right at ao;simp only[bG]at ao;obtain⟨_,_,ao⟩:=ao;split at ao
 ·rename_i s aq;obtain⟨ax,aA⟩:=N2 (g:=λk=>g k) (c:=c) aq (by simp) (λj ar=>by refine jy (by rw[dG];exact h j ar) (Nat.le_of_eq ?_);congr 1;unfold lK;congr 1;refine D' λk hJ=>?_;have:=af j ar k hJ;rw[w5 this.1]);simp only[D9,dG]at ax aA;have bd:=N3 ao t.root.toNat (by omega) (by omega);have:=N4 (g:=λk=>g k) bd (n:=t.ns.length) (by omega);rw[w5 Ej.1]at this;simp only[free]at aA;omega
 ·cases ao
def N6{t:db}(ao:right t=true)(ar:j<t.ns.length):fits t.ns[j] t.ns[j].kids.length=true:=by
 have aux:∀ {ds:List a1} {i:Nat} {s b0:List Bool},kD i ds s=some b0->∀ j (h:j<ds.length),fits ds[j] ds[j].kids.length=true:=by
  intro ds
  induction ds with
  |nil=>intro i s b0 _ j ar;cases ar
  |cons d ds a8=>
   intro i s b0 h j ar;unfold kD at h;cases aD:fits d d.kids.length with
   |false=>rw[aD]at h;cases h
   |true=>
    rw[aD]at h;simp only[aZ]at h;cases an:jK i d.kids s with
    |none=>rw[an]at h;cases h
    |some s1=>
     rw[an]at h;cases j with
     |zero=>exact aD| succ j=>exact a8 h j (by simpa using ar)
 unfold right at ao;simp only[bG]at ao;obtain⟨_,_,ao⟩:=ao;split at ao
 ·rename_i s aq;exact aux aq j ar
 ·cases ao
def Wk(t u ty e:Nat)(i:TypeInfo)(az:P.underlying t=some (.slice e))(hu:P.underlying u=some lE)(mV:∀ k,lE≠.int k)(hi:P.info? e=some i)
 {n:Nat} (k5:n<=c) (au:(∃ b c,sd=.slice b 0 c)\/sd=.string .empty):(Builtin.append_ #[t,u] ty #[.slice sa n c,sd]).run P w=.ok (.slice sa n c) w:=by
 have Bf:(match lE with | .int _=>true | _=>false)=false:=by cases lE<;>first | rfl | exact(mV _ rfl).elim
 rcases au with⟨b,c',rfl⟩ | rfl
 ·cases b<;>cases sa<;>simp[Builtin.append_,run_underlying az,run_underlying hu,sizeOf,typeInfo,hi,Bf,Builtin.lenOf,k5,Builtin.firstCells,Builtin.zeroCells,loadCells,loadCellsFrom,storeCells]
 ·cases sa<;>simp[Builtin.append_,run_underlying az,run_underlying hu,sizeOf,typeInfo,hi,Bf,Builtin.lenOf,k5,Builtin.firstCells,loadCells,storeCells]
section
variable{X:b'}{β:Nat->Nat}{a:Act}{w:World}{F:Fr}{C:cG}{I:aN}{M:List aC}{o:Oper}{K:eF}
def be.bin{op:BinOp}(an:o.op=.binOp op t x y dU)(ak:∀ d,o.dst=some d->d<X.n){q:Value}(ae:bi F x=.val p)(aL:bi F y=.val q)
  (aG:∀ w,(eqGuard op t x y p q).run X.P w=.ok () w) (ao:∀ w,dC I M w->(binOp op t p q).run X.P w=.ok v w) (h:K (put o.dst (.val v) F) C I M):be X o F C I M K:=by
 refine⟨λac w Q ⟨β,aX⟩=>?_⟩;have ex:=cw aX.aj ae;have qT:=cw aX.aj aL;refine u3 aX ak (by rw[an];simp) ?_ h;unfold execOp;simp only[an,bH,ex,qT,aG,bx,ao w aX.holds,ch]
def be.conv{s:Nat}(an:o.op=.convert s t x)(ak:∀ d,o.dst=some d->d<X.n)(ae:bi F x=.val p)
  (ao:∀ w,dC I M w->(convert s t p).run X.P w=.ok v w) (h:K (put o.dst (.val v) F) C I M):be X o F C I M K:=by
 refine⟨λac w Q ⟨β,aX⟩=>?_⟩;have ex:=cw aX.aj ae;refine u3 aX ak (by rw[an];simp) ?_ h;unfold execOp;simp only[an,bH,ex,bx,ao w aX.holds,ch]
def be.un{op:UnOp}(an:o.op=.unOp op t x)(ak:∀ d,o.dst=some d->d<X.n)(ae:bi F x=.val p)
  (ao:∀ w,dC I M w->(Op.unary op p).run X.P w=.ok v w) (h:K (put o.dst (.val v) F) C I M):be X o F C I M K:=by
 refine⟨λac w Q ⟨β,aX⟩=>?_⟩;have ex:=cw aX.aj ae;refine u3 aX ak (by rw[an];simp) ?_ h;unfold execOp;simp only[an,bH,ex,bx,ao w aX.holds,ch]
def hd(x:Int):Int:=IntKind.u64.wrap (BitVec.ofInt 64 IntKind.u64.max ^^^ BitVec.ofInt 64 x).toNat
def be.Bl(an:o.op=.unOp .xor t x)(ak:∀ d,o.dst=some d->d<X.n){n:Int}(ae:bi F x=.val (.int .u64 n))(h:K (put o.dst (.val (.int .u64 (hd n))) F) C I M):be X o F C I M K:=
 .un an ak ae (λw _=>rfl) h
def be.H2(aI:cj X.P X.E)(an:o.op=.call { callee:=.builtin .append,args:=#[s,x],argTypes:=#[t,u] })(ak:∀ d,o.dst=some d->d<X.n)
 (az:X.E t=some cP) (da:cP.bn=.slice e) (hu:X.E u=some k3) (ey:∀ k,k3.bn≠.int k) (he:X.E e=some aE)
 {n:Nat} (aq:bi F s=.val (.slice sa n c)) (k5:n<=c)
 (ae:bi F x=.val sd) (au:(∃ b c,sd=.slice b 0 c)\/sd=.string .empty)
  (h:K (put o.dst (.val (.slice sa n c)) F) C I M):be X o F C I M K:=by
 refine⟨λa w Q ⟨β,aX⟩=>?_⟩;obtain⟨inf,z,hi,eM,gd,hs,jB⟩:=(aI _ _ he).inf;obtain⟨d,ev,eQ⟩:=(aI _ _ hu).ep;obtain⟨k6,oU,jI⟩:=(aI _ _ az).ep;have qS:k6=.slice e:=by rw[da]at jI;cases k6<;>simp_all[ek]
 subst qS;have eu:=Wk (w:=w) t u o.type e inf oU ev (λk bc=>ey k (by rw[<-eQ,bc];rfl)) hi (sa:=sa) k5 au;have es:=cw aX.aj aq;have ex:=cw aX.aj ae;refine u3 aX ak (by rw[an];simp) ?_ h;unfold execOp;simp only[an,resolve,invoke,builtin,bH,ch,bx,r',eh,pT,es,ex,eu]
def N7(op:BinOp)(t:Nat)(x y:Operand)(p q:Option Addr)(P:Program)(w:World):(eqGuard op t x y (.pointer p) (.pointer q)).run P w=.ok () w:=by
 unfold eqGuard;cases op<;>rfl
def be.Ek(aI:cj X.P X.E)(an:o.op=.binOp .eql t x y dU)(ak:∀ d,o.dst=some d->d<X.n)(az:X.E t=some cP)(da:cP.bn=.pointer e)
  {p:Option Addr} (ae:bi F x=.val (.pointer p)) (aL:bi F y=.val (.pointer none)) (h:K (put o.dst (.val (.bool p.isNone)) F) C I M):be X o F C I M K:=by
 obtain⟨d,ev,eQ⟩:=(aI _ _ az).ep;have aa:d=.pointer e:=by rw[da]at eQ;cases d<;>simp_all[ek]
 subst aa;exact .bin an ak ae aL (λw=>N7 ..) (λw _=>run_eql_pointer_nil w t p (by simp[Program.pointee,ev])) h
def be.N8(aI:cj X.P X.E)(an:o.op=.binOp .neq t x y dU)(ak:∀ d,o.dst=some d->d<X.n){Wl:dw}(az:X.E t=some cP)(da:cP.bn=.pointer e)(he:X.E e=some Wl)
  {p:Addr} (ae:bi F x=.val (.pointer (some p))) (aL:bi F y=.val (.pointer (some p))) (h:K (put o.dst (.val (.bool false)) F) C I M):be X o F C I M K:=by
 obtain⟨d,ev,eQ⟩:=(aI _ _ az).ep;have aa:d=.pointer e:=by rw[da]at eQ;cases d<;>simp_all[ek]
 subst aa;obtain⟨inf,z,hi,_⟩:=(aI _ _ he).inf;exact .bin an ak ae aL (λw=>N7 ..) (λw _=>Lib.run_neq_ptr_same w p ev hi) h
end
def N9{f:Nat}{fn:Func}{e:Array Value->Sem Value}{args:List Value}{M:List aC}(aD:P.funcs[f]?=some fn)(El:(fn.name == "runtime.NumGoroutine")=false)
  (ag:fn.body.isNone=true) (aw:Extern.findNext fn=none) (he:Extern.find fn=some e) (ao:∀ w,(e args.toArray).run P w=.ok v w):Spec P f args I M λr I' M'=>r=v/\I'=I/\M'=M:=by
 refine .inr λw hw=>⟨v,w,I,M,?_,⟨rfl,rfl,rfl⟩,hw,λ_ _ h=>h,λ_ _ h=>.inl h,λx ae=>.inl ⟨x,ae,rfl⟩,λ_ _ _=>rfl,.refl _,bS _⟩;rw[run_callFunc_extern aD El ag aw he,ao];rfl
def vt(l:List UInt8):List Value:=l.map λb=>.int .u8 b.toNat
structure eA where
 used:Bool
 os:bb
 bU:List UInt8
def eA.aV(b:Nat)(x:eA):aC:=⟨b,.cells #[.pointer (bif x.used then some ⟨b,0,none⟩else none),x.os.val] 174 (0,0)⟩
def eA.M(b:Nat)(x:eA):List aC:=x.aV b::x.os.aV 5
structure eA.ok(x:eA):Prop where
 os:x.os.ok 1 (vt x.bU)
 ne:∀ g,x.os.a=some g->x.bU≠[]
def eA.new:eA:=⟨false,⟨none,0,0,[]⟩,[]⟩
def eA.Em:eA.new.ok:=⟨⟨rfl,λ_=>⟨rfl,rfl⟩,λg h=>by cases h⟩,λg h=>by cases h⟩
def eA.ok.n{x:eA}(h:x.ok):x.os.n=x.bU.length:=by have:=h.os.len;simp[vt]at this;omega
def ptr(b:Nat):Value:=.pointer (some ⟨b,0,none⟩)
def dn{M:List aC}{cs:List Value}(a5:(⟨b,.cells cs.toArray T (0,0)⟩:aC)∈M){k n:Nat}(h:k+n<=cs.length):ck I M ((⟨b,0,none⟩:Addr).add k) n ((cs.drop k).take n):=by
 rw[dx _ rfl];refine⟨rfl,_,T,(0,0),.inr ⟨_,a5,rfl,rfl⟩,?_,?_⟩
 ·simp
 ·simp;omega
def H3{M:List aC}(v:Value):Spec Tryz.prog 172 [v] I M λr I' M'=>r=v/\I'=I/\M'=M:=
 N9 Tryz.func172 (by kernel_rfl) (by kernel_rfl) (by kernel_rfl) (e:=Extern.AbiNoEscape.same) (by kernel_rfl) (λw=>Lib.run_noEscape w _)
def N'{M:List aC}(s:ByteArray)(c:UInt8):Spec Tryz.prog 242 [.string s,.int .u8 c.toNat] I M λr I' M'=>r=.int .i64 (Lib.indexByte s.data.toList c)/\I'=I/\M'=M:=
 N9 Tryz.func242 (by kernel_rfl) (by kernel_rfl) (by kernel_rfl) (e:=Extern.BytealgIndexByte.indexByte) (by kernel_rfl) (λw=>by
  have:=Lib.run_indexByteString (P:=Tryz.prog) s (c.toNat:Int) w;simpa using this)
def Wm(s:ByteArray)(c:UInt8):Spec Tryz.prog 220 [.string s,.int .u8 c.toNat] I [] λr I' M'=>r=.int .i64 (Lib.indexByte s.data.toList c)/\I'=I/\M'=[]:=by refine b8 [] aT Tryz.func220 rfl rfl rfl ?_;intro B au;refine a7.mk [] [] _ (.refl _) (N' s c) ?_;rintro v I' M' -⟨rfl,rfl,rfl⟩;exact⟨_,_,.refl,rfl,rfl,rfl⟩
def Oa(s:ByteArray)(c:UInt8):Spec Tryz.prog 199 [.string s,.int .u8 c.toNat] I [] λr I' M'=>r=.int .i64 (Lib.indexByte s.data.toList c)/\I'=I/\M'=[]:=by refine b8 [] aT Tryz.func199 rfl rfl rfl ?_;intro B au;refine a7.mk [] [] _ (.refl _) (Wm s c) ?_;rintro v I' M' -⟨rfl,rfl,rfl⟩;exact⟨_,_,.refl,rfl,rfl,rfl⟩
def En{M:List aC}(h:dC I M w){aj:Nat×Nat}(a5:(⟨b,.cells cs T aj⟩:aC)∈M):w.shape? b=some (T,cs.size):=by have:=h.m _ a5;simp only at this;simp[World.shape?,this]
def Ob(b:Nat)(x:eA):Spec Tryz.prog 152 [ptr b] I [x.aV b] λr I' M'=>r=.tuple #[]/\I'=I/\M'=[{ x with used:=true:eA }.aV b]:=by
 obtain⟨used,os,bU⟩:=x;obtain⟨inf,z,hi,eM,_⟩:=(aT 174 _ rfl).inf;refine b8 [] aT Tryz.func152 rfl rfl rfl ?_;intro B au;cases used with
 |false=>refine aM.mk [.pointer none] (dn (cs:=[.pointer none,os.val]) (k:=0) (n:=1) (T:=174) (iM.2 rfl) (by simp)) ?_;refine .other (be.Ek aT rfl (by simp) rfl rfl rfl rfl ?_);refine aR.mk (λ_=>?_) (λh=>by cases h);refine be.conv rfl (by simp) rfl (λw hw=>Lib.run_to_unsafe (t:=174) (e:=174) (cells:=2) w ⟨b,0,none⟩ (by kernel_rfl) (by kernel_rfl) (j:=inf) hi (by rw[eM];decide) (En (cs:=#[.pointer none,os.val]) hw (iM.2 rfl)) (by simp)) ?_;refine a7.mk [eA.aV b ⟨false,os,bU⟩] [] _ (by simp) (H3 _) ?_;rintro v I' M' -⟨rfl,rfl,rfl⟩;refine be.conv rfl (by simp) rfl (λw hw=>Lib.run_from_unsafe (u:=174) (e:=174) (cells:=2) w ⟨b,0,none⟩ (by kernel_rfl) (by kernel_rfl) (j:=inf) hi (En (cs:=#[.pointer none,os.val]) hw (iM.2 rfl)) (by kernel_rfl)) ?_;refine cS.add [] [] _ _ rfl (bq rfl) rfl ?_;exact⟨_,_,.refl,rfl,rfl,rfl⟩
 |true=>refine aM.mk [ptr b] (dn (cs:=[ptr b,os.val]) (k:=0) (n:=1) (T:=174) (iM.2 rfl) (by simp)) ?_;refine .other (be.Ek aT rfl (by simp) rfl rfl rfl rfl ?_);refine aR.mk (λh=>by cases h) (λ_=>?_);refine aM.mk [ptr b] (dn (cs:=[ptr b,os.val]) (k:=0) (n:=1) (T:=174) (iM.2 rfl) (by simp)) ?_;refine .other (be.N8 aT rfl (by simp) rfl rfl rfl rfl rfl ?_);refine aR.mk (λh=>by cases h) (λ_=>?_);exact⟨_,_,.refl,rfl,rfl,rfl⟩
def ml(b:Nat){x:eA}(ae:x.ok)(c:UInt8)(ay:x.bU.length<70368744177664):Spec Tryz.prog 207 [ptr b,.int .u8 c.toNat] I (x.M b)
  λr I' M'=>r=.nilIface/\I'=I/\∃ y:eA,y.ok/\y.bU=x.bU++[c]/\M'=y.M b:=by
 refine b8 [] aT Tryz.func207 rfl rfl rfl ?_;intro B au;have aw:=ae.n;refine a7.mk [x.aV b] (x.os.aV 5) _ (.refl _) (Ob b x) ?_;rintro v I' M' -⟨rfl,rfl,rfl⟩;refine aM.mk [x.os.val] (dn (cs:=[ptr b,x.os.val]) (k:=1) (n:=1) (T:=174) (.head _) (by simp)) ?_;refine cC.mk λg aG xf=>?_;refine be.append aT rfl (by simp) (e:=5) rfl rfl rfl x.os (xs:=vt x.bU) ae.os rfl (m:=1) rfl (news:=[.int .u8 c.toNat]) (by decide) ?_ rfl (Mr:=[⟨g,.cells #[.int .u8 c.toNat] 5 (0,0)⟩,{ x with used:=true:eA }.aV b]) ?_ ?_ ?_ ?_
 ·exact dn (cs:=[.int .u8 c.toNat]) (k:=0) (n:=1) (T:=5) (.head _) (by simp)
 ·exact gK (l₁:=[_,_]) (l₂:=x.os.aV 5)
 ·simp only[maxLen];omega
 ·show(x.os.n+1)*1<=_;omega
 ·intro c5 c' cur aa ab ai aQ;refine cS.add [⟨c5,.cells cur.toArray 5 (0,0)⟩,⟨g,.cells #[.int .u8 c.toNat] 5 (0,0)⟩] [] _ _ rfl (bq rfl) rfl ?_;refine⟨_,_,.perm (M1:=[⟨g,.cells #[.int .u8 c.toNat] 5 (0,0)⟩]++eA.M b ⟨true,⟨some c5,x.os.n+1,c',cur⟩,x.bU++[c]⟩) ?_ (.sub (k2 _ _) .refl),rfl,rfl,_,?_,rfl,rfl⟩
  ·exact gK (l₁:=[_]) (l₂:=[_,_])
  ·refine⟨⟨?_,λh=>by simp at h,?_⟩,by simp⟩
   ·simp[vt,aw]
   ·intro aP ic;refine⟨aa,ab,ai,?_⟩;rw[aQ];simp[vt]
def qW(b:Nat){x:eA}(ae:x.ok)(s:ByteArray)(ay:x.bU.length+s.size<=70368744177664):Spec Tryz.prog 110 [ptr b,.string s] I (x.M b)
  λr I' M'=>r=.tuple #[.int .i64 s.size,.nilIface]/\I'=I/\∃ y:eA,y.ok/\y.bU=x.bU++s.data.toList/\M'=y.M b:=by
 refine b8 [] aT Tryz.func110 rfl rfl rfl ?_;intro B au;have aw:=ae.n;refine a7.mk [x.aV b] (x.os.aV 5) _ (.refl _) (Ob b x) ?_;rintro v I' M' -⟨rfl,rfl,rfl⟩;refine aM.mk [x.os.val] (dn (cs:=[ptr b,x.os.val]) (k:=1) (n:=1) (T:=174) (.head _) (by simp)) ?_;by_cases aq:s.size=0
 ·have he:s=.empty:=pA (D6 aq);subst he;have k5:x.os.n<=x.os.c:=by
   cases av:x.os.a with
   |none=>obtain⟨aa,ab⟩:=ae.os.nil av;omega
   |some g=>exact(ae.os.cap g av).2.1
  refine be.H2 aT rfl (by simp) (e:=5) rfl rfl rfl (by simp) rfl rfl k5 rfl (.inr rfl) ?_;refine cS.add [] (x.os.aV 5) _ _ rfl (bq rfl) rfl ?_;exact⟨_,_,.refl,rfl,rfl,⟨true,x.os,x.bU⟩,⟨ae.os,ae.ne⟩,by simp,rfl⟩
 ·refine be.V2 aT rfl (by simp) (e:=5) rfl rfl rfl rfl rfl rfl x.os (xs:=vt x.bU) ae.os rfl rfl (by omega) (Mr:=[{ x with used:=true:eA }.aV b]) (gK (l₁:=[_])) ?_ ?_ ?_
  ·simp only[maxLen];omega
  ·show(x.os.n+s.size)*1<=_;omega
  ·intro c5 c' cur aa ab ai aQ;refine cS.add [⟨c5,.cells cur.toArray 5 (0,0)⟩] [] _ _ rfl (bq rfl) rfl ?_;refine⟨_,_,.perm (M1:=eA.M b ⟨true,⟨some c5,x.os.n+s.size,c',cur⟩,x.bU++s.data.toList⟩) ?_ .refl,rfl,rfl,_,?_,rfl,rfl⟩
   ·exact gK (l₁:=[_]) (l₂:=[_])
   ·refine⟨⟨?_,λh=>by simp at h,?_⟩,λg _ h=>?_⟩
    ·simp[vt,aw]
    ·intro aP ic;refine⟨aa,ab,ai,?_⟩;rw[aQ];simp[vt,iW]
    ·have bp:=congrArg List.length (List.append_eq_nil_iff.1 h).2;exact aq (by simpa using bp)
def tL(b:Nat){x:eA}(ae:x.ok)(ay:x.bU.length<=70368744177664):Spec Tryz.prog 112 [ptr b] I (x.M b)
  λr I' M'=>r=.string ⟨x.bU.toArray⟩/\I'=I/\M'=[]:=by
 refine b8 [] aT Tryz.func112 rfl rfl rfl ?_;intro B au;have aw:=ae.n;obtain⟨used,⟨a,n,c,cur⟩,bU⟩:=x;simp only at aw ay;subst aw;refine cX.draw aT rfl rfl rfl ?_;cases a with
 |none=>obtain⟨aa,ab⟩:=ae.os.nil rfl;simp only at aa ab;have Bm:bU=[]:=lD aa;subst Bm;subst ab;refine aM.mk [.slice none 0 0] (dn (cs:=[.pointer (bif used then some ⟨b,0,none⟩else none),.slice none 0 0]) (k:=1) (n:=1) (T:=174) (.head _) (by simp)) ?_;refine aM.mk [.slice none 0 0] (dn (cs:=[.pointer (bif used then some ⟨b,0,none⟩else none),.slice none 0 0]) (k:=1) (n:=1) (T:=174) (.head _) (by simp)) ?_;refine be.Ny rfl (by simp) rfl rfl ?_;exact⟨_,_,.sub (gu _) .refl,rfl,rfl,rfl⟩
 |some g=>
  obtain⟨aa,ab,ai,aQ⟩:=ae.os.cap g rfl;have bl:=ae.ne g rfl;simp only at aa ab ai aQ bl;have mO:bU.length≠0:=λh=>bl (lD h);refine aM.mk [.slice (some ⟨g,0,none⟩) bU.length c] (dn (cs:=[.pointer (bif used then some ⟨b,0,none⟩else none),.slice (some ⟨g,0,none⟩) bU.length c]) (k:=1) (n:=1) (T:=174) (.head _) (by simp)) ?_;refine oH.mk (by omega) ?_;refine aM.mk [.slice (some ⟨g,0,none⟩) bU.length c] (dn (cs:=[.pointer (bif used then some ⟨b,0,none⟩else none),.slice (some ⟨g,0,none⟩) bU.length c]) (k:=1) (n:=1) (T:=174) (.head _) (by simp)) ?_;refine be.HP aT rfl (by simp) (e:=5) rfl rfl rfl rfl (l:=bU) (g:=g) (cs:=cur.toArray) rfl rfl bl (by omega) (Mr:=[eA.aV b ⟨used,⟨some g,bU.length,c,cur⟩,bU⟩]) (gK (l₁:=[_]) (l₂:=[_])) ?_ ?_;·rw[kA]at aQ;exact aQ
  ·exact⟨_,_,.sub (gu _) .refl,rfl,rfl,rfl⟩
def xg(c:UInt8)(left:ByteArray):Bool:=decide ((32:Int)<=c.toNat)&&(decide ((c.toNat:Int)<=126)&&(!decide ((c.toNat:Int)=92)&&decide (Lib.indexByte left.data.toList c<0)))
def Wn(c:UInt8)(left:ByteArray):Spec Tryz.prog 252 [.int .u8 c.toNat,.string left] I [] λr I' M'=>r=.bool (xg c left)/\I'=I/\M'=[]:=by
 refine b8 [] aT Tryz.func252 rfl rfl rfl ?_;intro B au;refine bC.mk (λaa=>?_) (λaa=>?_)
 ·refine bC.mk (λab=>?_) (λab=>?_)
  ·refine bC.mk (λai=>?_) (λai=>?_)
   ·refine a7.mk [] [] _ (.refl _) (Oa left c) ?_;rintro v I' M' -⟨rfl,rfl,rfl⟩;refine⟨_,_,.refl,?_,rfl,rfl⟩;simp only[xg,aa,ab,ai,w7]
   ·refine⟨_,_,.refl,?_,rfl,rfl⟩;simp only[xg,aa,ab,ai,w7,pB,yZ]
  ·refine⟨_,_,.refl,?_,rfl,rfl⟩;simp only[xg,aa,ab,w7,pB,yZ]
 ·refine⟨_,_,.refl,?_,rfl,rfl⟩;simp only[xg,aa,w7,pB,yZ]
def y9:ByteArray:=⟨#[48,49,50,51,52,53,54,55,56,57,97,98,99,100,101,102]⟩
def vu(n:Nat):UInt8:=y9.data.toList.getD n 0
def lL(c:UInt8)(left:ByteArray):List UInt8:=
 bif xg c left then [c]else
 bif decide ((c.toNat:Int)=10)then [92,110]else
 bif decide ((c.toNat:Int)=13)then [92,114]else
 bif decide ((c.toNat:Int)=9)then [92,116]else
 bif decide ((c.toNat:Int)=92)||decide ((0:Int)<=Lib.indexByte left.data.toList c)then [92,c]else [92,120,vu (c.toNat/16),vu (c.toNat%16)]
def Bn(c:UInt8)(left:ByteArray):(lL c left).length<=4:=by
 unfold lL;cases xg c left<;>cases decide ((c.toNat:Int)=10)<;>cases decide ((c.toNat:Int)=13)<;>cases decide ((c.toNat:Int)=9)<;>cases(decide ((c.toNat:Int)=92)||decide ((0:Int)<=Lib.indexByte left.data.toList c))<;>simp
def Wo:∀ n:Nat,n<256->IntKind.u8.wrap ((BitVec.ofInt 8 (n:Int)) &&& (BitVec.ofInt 8 15)).toNat=((n%16:Nat):Int):=by decide +kernel
def Oc(ar:j<y9.size):y9[j]=vu j:=by have:j<y9.data.toList.length:=ar;simp only[vu,dT,iT this,jZ];rfl
def Eo(b:Nat){x:eA}(ae:x.ok)(c:UInt8)(left:ByteArray)(ay:x.bU.length<=70368744177600):Spec Tryz.prog 245 [ptr b,.int .u8 c.toNat,.string left] I (x.M b)
  λr I' M'=>I'=I/\∃ y:eA,y.ok/\y.bU=x.bU++lL c left/\M'=y.M b:=by
 refine b8 [] aT Tryz.func245 rfl rfl rfl ?_;intro B au;refine a7.mk [] (x.M b) _ (.refl _) (Wn c left) ?_;rintro v I' M' -⟨rfl,rfl,rfl⟩;refine aR.mk (λaa=>?_) (λaa=>?_)
 ·refine a7.mk (x.M b) [] _ (by simp) (ml b ae c (by omega)) ?_;rintro v I' M' -⟨rfl,rfl,y,aL,fC,rfl⟩;refine⟨_,_,.refl,rfl,y,aL,?_,by simp⟩;rw[fC,lL,aa];rfl
 ·refine aR.mk (λab=>?_) (λab=>?_)
  ·refine a7.mk (x.M b) [] _ (by simp) (qW b ae _ (by show _+2<=_;omega)) ?_;rintro v I' M' -⟨rfl,rfl,y,aL,fC,rfl⟩;refine⟨_,_,.refl,rfl,y,aL,?_,by simp⟩;rw[fC,lL,aa,ab];rfl
  ·refine aR.mk (λai=>?_) (λai=>?_)
   ·refine a7.mk (x.M b) [] _ (by simp) (qW b ae _ (by show _+2<=_;omega)) ?_;rintro v I' M' -⟨rfl,rfl,y,aL,fC,rfl⟩;refine⟨_,_,.refl,rfl,y,aL,?_,by simp⟩;rw[fC,lL,aa,ab,ai];rfl
   ·refine aR.mk (λaQ=>?_) (λaQ=>?_)
    ·refine a7.mk (x.M b) [] _ (by simp) (qW b ae _ (by show _+2<=_;omega)) ?_;rintro v I' M' -⟨rfl,rfl,y,aL,fC,rfl⟩;refine⟨_,_,.refl,rfl,y,aL,?_,by simp⟩;rw[fC,lL,aa,ab,ai,aQ];rfl
    ·have two:∀ (c3:aN),(decide ((c.toNat:Int)=92)||decide ((0:Int)<=Lib.indexByte left.data.toList c))=true->lL c left=[92,c]:=λ_ h=>by rw[lL,aa,ab,ai,aQ,h];rfl
     have other:(decide ((c.toNat:Int)=92)||decide ((0:Int)<=Lib.indexByte left.data.toList c))=false->lL c left=[92,120,vu (c.toNat/16),vu (c.toNat%16)]:=λh=>by rw[lL,aa,ab,ai,aQ,h];rfl
     have aF:=c.toNat_lt;refine bC.mk (λbp=>?_) (λbp=>?_)
     ·refine a7.mk [] (x.M b) _ (.refl _) (Oa left c) ?_;rintro v I' M' -⟨rfl,rfl,rfl⟩;refine aR.mk (λbM=>?_) (λbM=>?_)
      ·refine a7.mk (x.M b) [] _ (by simp) (ml b ae 92 (by omega)) ?_;rintro v I' M' -⟨rfl,rfl,y,aL,fC,rfl⟩;refine a7.mk (y.M b) [] _ (by simp) (ml b aL c (by rw[fC];simp;omega)) ?_;rintro v I' M' -⟨rfl,rfl,z,bd,p2,rfl⟩;refine⟨_,_,.refl,rfl,z,bd,?_,by simp⟩;rw[p2,fC,two I' (by rw[bp];exact bM)];simp
      ·refine a7.mk (x.M b) [] _ (by simp) (qW b ae _ (by show _+2<=_;omega)) ?_;rintro v I' M' -⟨rfl,rfl,y,aL,fC,rfl⟩;have Od:y.bU.length=x.bU.length+2:=by rw[fC];simp
       refine u1.mk 4 rfl ?_;refine u0.mk (s:=y9) (c.toNat/16) ?_ (by show _<16;omega) ?_
       ·show(c.toNat:Int).fdiv (2^(min 4 (IntKind.u8.bits)))=_;have Wp:((2:Int)^(min 4 IntKind.u8.bits))=16:=by decide
        rw[Wp,D7 _ (by omega)];omega
       rw[Oc];refine a7.mk (y.M b) [] _ (by simp) (ml b aL (vu (c.toNat/16)) (by omega)) ?_;rintro v I' M' -⟨rfl,rfl,z,bd,p2,rfl⟩;have Ep:z.bU.length=x.bU.length+3:=by rw[p2];simp;omega
       refine u0.mk (s:=y9) (c.toNat%16) (Wo c.toNat aF) (by show _<16;omega) ?_;rw[Oc];refine a7.mk (z.M b) [] _ (by simp) (ml b bd (vu (c.toNat%16)) (by omega)) ?_;rintro v I' M' -⟨rfl,rfl,u,hu,tM,rfl⟩;refine⟨_,_,.refl,rfl,u,hu,?_,by simp⟩;rw[tM,p2,fC,other (by rw[bp];exact bM)];simp
     ·refine a7.mk (x.M b) [] _ (by simp) (ml b ae 92 (by omega)) ?_;rintro v I' M' -⟨rfl,rfl,y,aL,fC,rfl⟩;refine a7.mk (y.M b) [] _ (by simp) (ml b aL c (by rw[fC];simp;omega)) ?_;rintro v I' M' -⟨rfl,rfl,z,bd,p2,rfl⟩;refine⟨_,_,.refl,rfl,z,bd,?_,by simp⟩;rw[p2,fC,two I' (by rw[bp];rfl)];simp
def kE(n:Nat):List UInt8:=bif Nat.blt n 10 then [UInt8.ofNat (48+n)]else [UInt8.ofNat (48+n/10),UInt8.ofNat (48+n%10)]
def vv(n:Nat):ByteArray:=⟨(kE n).toArray⟩
def Oe:ByteArray:=⟨((List.range 10).map (λn=>UInt8.ofNat (48+n))++(List.range 26).map (λn=>UInt8.ofNat (97+n))).toArray⟩
def Of:ByteArray:=⟨((List.range 100).flatMap λn=>[UInt8.ofNat (48+n/10),UInt8.ofNat (48+n%10)]).toArray⟩
def Wq:∀ n:Fin 10,(Oe.extract n.val (n.val+1)).data.toList=kE n.val:=by decide +kernel
def Wr:∀ n:Fin 100,10<=n.val->(Of.extract (n.val*2) (n.val*2+2)).data.toList=kE n.val:=by decide +kernel
def y'{a b:ByteArray}(h:a.data.toList=b.data.toList):a=b:=pA (fa h)
def Bo(n:Nat):(kE n).length<=2:=by
 unfold kE;cases Nat.blt n 10<;>simp
set_option maxRecDepth 20000 in
def Ws(n:Nat)(aw:n<100):Spec Tryz.prog 203 [.int .i64 n] I [] λr I' M'=>r=.string (vv n)/\I'=I/\M'=[]:=by
 refine b8 [] aT Tryz.func203 rfl rfl rfl ?_;intro B au;refine aR.mk (λh=>?_) (λh=>?_)
 ·have aU:n<10:=by simp at h;omega
  refine a6.mk ((n+1:Nat):Int) (by rw[wrap_i64 ⟨by omega,by omega⟩];omega) ?_;refine h5.mk n (n+1) rfl rfl (by omega) (by show _<=36;omega) ?_;refine⟨_,_,.refl,?_,rfl,rfl⟩;have:Oe.extract n (n+1)=vv n:=y' (Wq ⟨n,aU⟩);rw[<-this];rfl
 ·have dE:10<=n:=by simp at h;omega
  refine a6.mk ((n*2:Nat):Int) (by rw[wrap_i64 ⟨by omega,by omega⟩];omega) ?_;refine a6.mk ((n*2:Nat):Int) (by rw[wrap_i64 ⟨by omega,by omega⟩];omega) ?_;refine a6.mk ((n*2+2:Nat):Int) (by rw[wrap_i64 ⟨by omega,by omega⟩];omega) ?_;refine h5.mk (n*2) (n*2+2) rfl rfl (by omega) (by show _<=200;omega) ?_;refine⟨_,_,.refl,?_,rfl,rfl⟩;have:Of.extract (n*2) (n*2+2)=vv n:=y' (Wr ⟨n,aw⟩ dE);rw[<-this];rfl
def Wt(n:Nat)(aw:n<100):Spec Tryz.prog 186 [.int .i64 n,.int .i64 10] I [] λr I' M'=>r=.string (vv n)/\I'=I/\M'=[]:=by refine b8 [] aT Tryz.func186 rfl rfl rfl ?_;intro B au;refine aR.mk (λh=>?_) (λh=>by cases h);refine bC.mk (λh=>?_) (λh=>by simp at h;try omega);refine aR.mk (λh=>?_) (λh=>by simp at h;try omega);refine a7.mk [] [] _ (.refl _) (Ws n aw) ?_;rintro v I' M' -⟨rfl,rfl,rfl⟩;exact⟨_,_,.refl,rfl,rfl,rfl⟩
def Wu(n:Nat)(aw:n<100):Spec Tryz.prog 173 [.int .i64 n] I [] λr I' M'=>r=.string (vv n)/\I'=I/\M'=[]:=by refine b8 [] aT Tryz.func173 rfl rfl rfl ?_;intro B au;refine a7.mk [] [] _ (.refl _) (Wt n aw) ?_;rintro v I' M' -⟨rfl,rfl,rfl⟩;exact⟨_,_,.refl,rfl,rfl,rfl⟩
def Wv(n:Nat)(aw:n<100):Spec Tryz.prog 153 [.int .i64 n] I [] λr I' M'=>r=.string (vv n)/\I'=I/\M'=[]:=by refine b8 [] aT Tryz.func153 rfl rfl rfl ?_;intro B au;refine a7.mk [] [] _ (.refl _) (Wu n aw) ?_;rintro v I' M' -⟨rfl,rfl,rfl⟩;exact⟨_,_,.refl,rfl,rfl,rfl⟩
def Er(n:Nat)(aw:n<100):Spec Tryz.prog 111 [.int .i64 n] I [] λr I' M'=>r=.string (vv n)/\I'=I/\M'=[]:=by refine b8 [] aT Tryz.func111 rfl rfl rfl ?_;intro B au;refine a7.mk [] [] _ (.refl _) (Wv n aw) ?_;rintro v I' M' -⟨rfl,rfl,rfl⟩;exact⟨_,_,.refl,rfl,rfl,rfl⟩
def fM(node vw:Int):Bool:=
 bif decide (node=5)then decide (vw=5)else
 bif decide (node=4)||(decide (node=7)||decide (node=8))then decide (vw=4)||decide (vw=5)else
 bif decide (node=6)then decide (vw=4)||(decide (vw=5)||(decide (vw=6)||(decide (vw=7)||decide (vw=8))))else false
def H4(a b:Int):Spec Tryz.prog 209 [.int .u8 a,.int .u8 b] I [] λr I' M'=>r=.bool (fM a b)/\I'=I/\M'=[]:=by
 refine b8 [] aT Tryz.func209 rfl rfl rfl ?_;intro B au;refine aR.mk (λaa=>?_) (λaa=>?_)
 ·refine⟨_,_,.refl,?_,rfl,rfl⟩;simp only[fM,aa];rfl
 ·have two:∀ (c3:aN) (h:(decide (a=4)||(decide (a=7)||decide (a=8)))=true),fM a b=(decide (b=4)||decide (b=5)):=λ_ h=>by simp only[fM,aa,h];rfl
  have H5:(decide (a=4)||(decide (a=7)||decide (a=8)))=true->bC (decide (b=4)) false (rW [] I [] λI' M'=>Value.bool (decide (b=5))=.bool (fM a b)/\I'=I/\M'=[]) (rW [] I [] λI' M'=>Value.bool true=.bool (fM a b)/\I'=I/\M'=[]):=λh=>by
   refine bC.mk (λaQ=>?_) (λaQ=>?_);·refine⟨_,_,.refl,?_,rfl,rfl⟩;rw[two I h,aQ];rfl
   ·refine⟨_,_,.refl,?_,rfl,rfl⟩;rw[two I h,aQ];rfl
  refine aR.mk (λab=>?_) (λab=>?_);·refine aR.mk (λ_=>?_) (λh=>by rw[ab]at h;cases h);exact H5 (by rw[ab];rfl)
  ·refine aR.mk (λai=>?_) (λai=>?_)
   ·refine aR.mk (λ_=>?_) (λh=>by rw[ai]at h;cases h);exact H5 (by rw[ai];simp)
   ·refine aR.mk (λaQ=>?_) (λaQ=>?_)
    ·exact H5 (by rw[aQ];simp)
    ·have hw:fM a b=(bif decide (a=6)then decide (b=4)||(decide (b=5)||(decide (b=6)||(decide (b=7)||decide (b=8))))else false):=by simp only[fM,aa,ab,ai,aQ];rfl
     refine aR.mk (λbp=>?_) (λbp=>?_)
     ·rw[bp]at hw;simp only[aZ]at hw;refine bC.mk (λdr=>?_) (λdr=>?_)
      ·refine bC.mk (λc4=>?_) (λc4=>?_)
       ·refine bC.mk (λfy=>?_) (λfy=>?_)
        ·refine bC.mk (λkF=>?_) (λkF=>?_)
         ·refine⟨_,_,.refl,?_,rfl,rfl⟩;rw[hw,dr,c4,fy,kF];rfl
         ·refine⟨_,_,.refl,?_,rfl,rfl⟩;rw[hw,dr,c4,fy,kF];rfl
        ·refine⟨_,_,.refl,?_,rfl,rfl⟩;rw[hw,dr,c4,fy];rfl
       ·refine⟨_,_,.refl,?_,rfl,rfl⟩;rw[hw,dr,c4];rfl
      ·refine⟨_,_,.refl,?_,rfl,rfl⟩;rw[hw,dr];rfl
     ·refine⟨_,_,.refl,?_,rfl,rfl⟩;rw[hw,bp];rfl
def wrap_u64(x:Int):fB (IntKind.u64.wrap x):=by unfold IntKind.wrap fB;simp only[IntKind.bits,IntKind.signed];simp;omega
def wrap_u8(x:Int):0<=IntKind.u8.wrap x/\IntKind.u8.wrap x<256:=by unfold IntKind.wrap;simp only[IntKind.bits,IntKind.signed];simp;omega
def Og{x:Int}(h:fB x):IntKind.u64.wrap x=x:=by obtain⟨aa,ab⟩:=h;unfold IntKind.wrap;simp only[IntKind.bits,IntKind.signed];simp;omega
def oZ(I:aN)(deb:List Int):Prop:=deb.length=64/\(∀ x∈deb,0<=x/\x<256)/\∃ T aj,I 6=some (.cells (deb.map (Value.int .u8)).toArray T aj)
def oZ.rd(h:oZ I deb)(M:List aC)(ar:j<64):ck I M (Addr.add ⟨6,0,none⟩ (j*1)) 1 [.int .u8 (deb.getD j 0)]:=by
 obtain⟨ay,_,T,aj,h⟩:=h;rw[dx _ rfl];refine⟨rfl,_,T,aj,.inl h,?_,rfl⟩;have aa:j<(deb.map (Value.int .u8)).length:=by simp[ay,ar]
 have ab:j<deb.length:=by omega
 simp only[dG,kA];rw[fs aa,qN,qP];simp[dT,ab]
def oZ.at(h:oZ I deb)(j:Nat):0<=deb.getD j 0/\deb.getD j 0<256:=by
 rw[dT];by_cases ar:j<deb.length
 ·rw[iT ar];exact h.2.1 _ (dR ar)
 ·simp[ar]
def Bp(x y:Int):Int:=IntKind.u64.wrap (BitVec.ofInt 64 x &&& BitVec.ofInt 64 y).toNat
def p3(x:Int):Int:=IntKind.u64.wrap (Bp x (IntKind.u64.wrap (0-x))*285870213051353865)
def qX(deb:List Int)(x:Int):Int:=bif decide (x=0)then 64 else deb.getD ((p3 x).toNat/2^58) 0
def Ww(h:oZ I deb)(x:Int):0<=qX deb x/\qX deb x<256:=by
 unfold qX;cases decide (x=0)
 ·exact h.at _
 ·simp
def Wx(ag:oZ I deb)(x:Int):Spec Tryz.prog 244 [.int .u64 x] I [] λr I' M'=>r=.int .i64 (qX deb x)/\I'=I/\M'=[]:=by
 refine b8 [] aT Tryz.func244 rfl rfl rfl ?_;intro B au;refine aR.mk (λh=>?_) (λh=>?_)
 ·refine⟨_,_,.refl,?_,rfl,rfl⟩;simp only[qX,h];rfl
 ·have av:=wrap_u64 (Bp x (IntKind.u64.wrap (0-x))*285870213051353865);refine a6.mk _ rfl ?_;refine a6.mk (p3 x) rfl ?_;refine u1.mk 58 rfl ?_;have ax:((2:Int)^(min 58 IntKind.u64.bits))=2^58:=by decide
  rw[ax];obtain⟨k',mm⟩:=av;have aA:(p3 x).fdiv (2^58)=(((p3 x).toNat/2^58:Nat):Int):=by rw[D7 _ (by decide)];have:p3 x=((p3 x).toNat:Int):=(w5 k').symm;omega
  rw[aA];have ar:(p3 x).toNat/2^58<64:=by have:p3 x<18446744073709551616:=mm;omega
  refine ed.mk ((p3 x).toNat/2^58) rfl ar ?_;refine aM.mk [.int .u8 (deb.getD ((p3 x).toNat/2^58) 0)] (ag.rd _ ar) ?_;have ak:=ag.at ((p3 x).toNat/2^58);refine a6.mk (deb.getD ((p3 x).toNat/2^58) 0) (wrap_i64 ⟨by omega,by omega⟩) ?_;refine⟨_,_,.refl,?_,rfl,rfl⟩;simp only[qX,h];rfl
def Wy(a b c d:Int):Nat->List Value
 |0=>[.int .u64 (a),.int .u64 (b),.int .u64 (c),.int .u64 (d)]| 1=>[.int .u64 (hd a),.int .u64 (b),.int .u64 (c),.int .u64 (d)]| 2=>[.int .u64 (hd a),.int .u64 (hd b),.int .u64 (c),.int .u64 (d)]| 3=>[.int .u64 (hd a),.int .u64 (hd b),.int .u64 (hd c),.int .u64 (d)]| _=>[.int .u64 (hd a),.int .u64 (hd b),.int .u64 (hd c),.int .u64 (hd d)]
def Wz(a b c d:Int):Spec Tryz.prog 241 [.agg #[.int .u64 a,.int .u64 b,.int .u64 c,.int .u64 d]] I [] λr I' M'=>r=.agg #[.int .u64 (hd a),.int .u64 (hd b),.int .u64 (hd c),.int .u64 (hd d)]/\I'=I/\M'=[]:=by
 refine b8 [] aT Tryz.func241 rfl rfl rfl ?_;intro B au;refine dh.inv (ι:=Nat) (λi=>{ ca:=[(1,.ref 1 0),(2,.ref 2 0),(5,.val (.agg #[.int .u64 a,.int .u64 b,.int .u64 c,.int .u64 d])),(6,.val (.int .i64 i))],cl:=[(1,Wy a b c d i),(2,[.int .u64 0,.int .u64 0,.int .u64 0,.int .u64 0])],cQ:=I }) (λi=>i<=4) (λi=>4-i) ?_ ?_
 ·exact⟨0,by simp,.refl,ez,.cons rfl (.cons rfl .nil)⟩
 ·intro i hi
  match i,hi with
  |0,_=>refine aR.mk (λ_=>?_) (λh=>by simp at h);refine ed.mk 0 rfl (by decide) ?_;refine be.Bl rfl (by simp) rfl ?_;refine ed.mk 0 rfl (by decide) ?_;refine a6.mk 1 (by decide) ?_;exact⟨1,⟨by simp,by simp⟩,.refl,ez,.cons rfl (.cons rfl .nil)⟩| 1,_=>refine aR.mk (λ_=>?_) (λh=>by simp at h);refine ed.mk 1 rfl (by decide) ?_;refine be.Bl rfl (by simp) rfl ?_;refine ed.mk 1 rfl (by decide) ?_;refine a6.mk 2 (by decide) ?_;exact⟨2,⟨by simp,by simp⟩,.refl,ez,.cons rfl (.cons rfl .nil)⟩| 2,_=>refine aR.mk (λ_=>?_) (λh=>by simp at h);refine ed.mk 2 rfl (by decide) ?_;refine be.Bl rfl (by simp) rfl ?_;refine ed.mk 2 rfl (by decide) ?_;refine a6.mk 3 (by decide) ?_;exact⟨3,⟨by simp,by simp⟩,.refl,ez,.cons rfl (.cons rfl .nil)⟩| 3,_=>refine aR.mk (λ_=>?_) (λh=>by simp at h);refine ed.mk 3 rfl (by decide) ?_;refine be.Bl rfl (by simp) rfl ?_;refine ed.mk 3 rfl (by decide) ?_;refine a6.mk 4 (by decide) ?_;exact⟨4,⟨by simp,by simp⟩,.refl,ez,.cons rfl (.cons rfl .nil)⟩| 4,_=>refine aR.mk (λh=>by simp at h) (λ_=>?_);exact⟨_,_,.refl,rfl,rfl,rfl⟩
def WA:Spec Tryz.prog 218 [] I [] λr I' M'=>r=.agg #[.int .u64 (hd 0),.int .u64 (hd 0),.int .u64 (hd 0),.int .u64 (hd 0)]/\I'=I/\M'=[]:=by refine b8 [] aT Tryz.func218 rfl rfl rfl ?_;intro B au;refine a7.mk [] [] _ (.refl _) (Wz 0 0 0 0) ?_;rintro v I' M' -⟨rfl,rfl,rfl⟩;exact⟨_,_,.refl,rfl,rfl,rfl⟩
def vx(I:aN)(b:Nat)(o:Obj):ins I b o b=some o:=by simp[ins]
def sq(ag:I b=none):∀ c p,I c=some p->ins I b o c=some p:=by
 intro c p h;unfold ins;cases e:Nat.beq c b with
 |false=>exact h| true=>have:=bV e;subst this;rw[ag]at h;cases h
def WB{x y:Int}(ae:fB x)(aL:fB y):Bp x y=((x.toNat &&& y.toNat:Nat):Int):=by
 obtain⟨x,rfl⟩:=qM ae.1;obtain⟨y,rfl⟩:=qM aL.1;have aa:x<18446744073709551616:=by have:=ae.2;omega
 have ab:y<18446744073709551616:=by have:=aL.2;omega
 have e:∀ z:Nat,z<18446744073709551616->(BitVec.ofInt 64 (z:Int)).toNat=z:=λz bd=>by rw[BitVec.toNat_ofInt];omega
 unfold Bp;rw[Ec,e x aa,e y ab,Og]
 ·simp
 ·have:=Nat.and_le_left (n:=x) (m:=y);exact⟨by omega,by omega⟩
def vy(x:Int):Int:=Bp x (IntKind.u64.wrap (x-1))
def xh(n:Nat):Nat:=((List.range 64).filter n.testBit).length
def WC(n:Nat):xh n<=64:=by have:=Dr n.testBit (List.range 64);simpa[xh]using this
def WD{x:Int}(ae:fB x)(au:x≠0):fB (vy x)/\xh (vy x).toNat<xh x.toNat:=by
 obtain⟨n,rfl⟩:=qM ae.1;have aa:n<18446744073709551616:=by have:=ae.2;omega
 have mO:0<n:=by omega
 have aq:fB ((n:Int)-1):=⟨by omega,by omega⟩;have e:vy (n:Int)=((n &&& (n-1):Nat):Int):=by unfold vy;rw[Og aq,WB ae aq];congr 2;omega
 have hle:n &&& (n-1)<=n-1:=Nat.and_le_right;refine⟨by rw[e];exact⟨by omega,by omega⟩,?_⟩;rw[e];simp only[nF];unfold xh;have kh:List.Sublist ((List.range 64).filter (n &&& (n-1)).testBit) ((List.range 64).filter n.testBit):=by
  have:(List.range 64).filter (n &&& (n-1)).testBit=((List.range 64).filter n.testBit).filter (n-1).testBit:=by rw[List.filter_filter];congr 1;funext i;rw[Nat.testBit_and,Bool.and_comm]
  rw[this];exact List.filter_sublist
 rcases Nat.lt_or_eq_of_le kh.length_le with h | h
 ·exact h
 ·exfalso;have WE:=kh.eq_of_length h;have:n &&& (n-1)=n:=by
   apply Nat.eq_of_testBit_eq;intro i;by_cases hi:i<64
   ·have hm:i∈(List.range 64).filter (n &&& (n-1)).testBit ↔ i∈(List.range 64).filter n.testBit:=by rw[WE]
    simp only[Au,l9,hi,true_and]at hm;cases aa:(n &&& (n-1)).testBit i<;>cases ab:n.testBit i<;>simp_all
   ·have ab:2^64<=2^i:=Nat.pow_le_pow_right (by omega) (by omega);rw[Nat.testBit_lt_two_pow (by omega),Nat.testBit_lt_two_pow (by omega)]
  omega
def byteOf(deb:List Int)(i:Nat)(w:Int):UInt8:=UInt8.ofNat (IntKind.u8.wrap ((i:Int)*64+qX deb w)).toNat
def WG(deb:List Int)(i:Nat)(w:Int):((byteOf deb i w).toNat:Int)=IntKind.u8.wrap ((i:Int)*64+qX deb w):=by have:=wrap_u8 ((i:Int)*64+qX deb w);unfold byteOf;rw[UInt8.toNat_ofNat'];omega
def qY(deb:List Int)(i:Nat):Nat->Int->List UInt8
 |0,_=>[]| f+1,w=>bif decide (w=0)then []else byteOf deb i w::qY deb i f (vy w)
def gX(deb:List Int):Nat->List Int->List UInt8
 |_,[]=>[]| i,w::ws=>qY deb i 64 w++gX deb (i+1) ws
def Oh(deb:List Int)(i:Nat):∀ f w,(qY deb i f w).length<=f
 |0,_=>by simp[qY]
 |f+1,w=>by
  unfold qY;have:=Oh deb i f (vy w);cases decide (w=0)<;>simp
  exact this
def H6(deb:List Int):∀ ws i,(gX deb i ws).length<=64*ws.length
 |[],_=>by simp[gX]
 |w::ws,i=>by have aa:=Oh deb i 64 w;have ab:=H6 deb ws (i+1);simp only[gX,cD,du];omega
def p4(l:List UInt8):List (List Value):=l.map λc=>[.int .u8 c.toNat]
def za(a b c d:Int):List Value:=[.int .u64 a,.int .u64 b,.int .u64 c,.int .u64 d]
def WH(a b c d:Int):Spec Tryz.prog 253 [.agg #[.int .u64 a,.int .u64 b,.int .u64 c,.int .u64 d]] I [] λr I' M'=>∃ g,r=.func (.func 258) #[] #[ptr g]/\I' g=some (.cells (za a b c d).toArray 69 (0,0))/\(∀ b o,I b=some o->I' b=some o)/\M'=[]:=by refine b8 [1] aT Tryz.func253 rfl rfl rfl ?_;intro B au;refine cC.mk λg aG xf=>?_;exact⟨_,_,.rO rfl (by simp) .refl,g,rfl,vx ..,sq aG,rfl⟩
def WI(xi:oZ I deb){a b c:Int}(sr:∀ x∈[a,b,c,d],fB x)(aG:I g=some (.cells (za a b c d).toArray 69 (0,0))) :
  Iter Tryz.prog 258 [ptr g] I (p4 (gX deb 0 [a,b,c,d])):=by
 intro l R qR vz cW M0 o0 jk;refine yR [] aT Tryz.func258 rfl rfl rfl ?_;intro B au;have bD:∀ (c3:aN) (M:List aC),(∀ b o,I b=some o->c3 b=some o)->ck c3 M ⟨g,0,none⟩ 4 (za a b c d):=λc3 M h=>⟨rfl,_,_,_,.inl (h _ _ aG),rfl,rfl⟩;refine aM.mk _ (bD _ _ o0) ?_;refine dh.inv (ι:=Nat×Nat×aN×List aC) (λx=>{ ca:=[(0,.val (.func (.yield l) #[] #[])),(5,.val (.agg (za a b c d).toArray)),(6,.val (.int .i64 x.1))],cQ:=x.2.2.1,dq:=x.2.2.2 }) (λx=>x.1<=4/\(∀ b o,I b=some o->x.2.2.1 b=some o)/\R x.2.1 x.2.2.1 x.2.2.2/\x.2.1<=(gX deb 0 [a,b,c,d]).length/\(gX deb 0 [a,b,c,d]).drop x.2.1=gX deb x.1 ([a,b,c,d].drop x.1)) (λx=>4-x.1) ?_ ?_
 ·exact⟨(0,0,cW,M0),⟨by simp,o0,jk,by simp,rfl⟩,.refl,gI,.nil⟩
 ·rintro⟨i,k,c3,M1⟩⟨hi,cJ,kG,fK,hf⟩;simp only at hi cJ kG fK hf;refine aR.mk (λh=>?_) (λh=>?_)
  ·have aU:i<4:=by simp at h;omega
   have cr:i < [a,b,c,d].length:=aU;refine ed.mk i rfl aU ?_;have p5:pack false ((((za a b c d).toArray).toList.drop (i*1)).take 1)=.int .u64 [a,b,c,d][i]:=by
    match i,aU with
    |0,_=>rfl| 1,_=>rfl| 2,_=>rfl| 3,_=>rfl
   have jL:[a,b,c,d].drop i=[a,b,c,d][i]::[a,b,c,d].drop (i+1):=fs cr;refine dh.inv (ι:=Int×Nat×Nat×aN×List aC) (λx=>{ ca:=[(0,.val (.func (.yield l) #[] #[])),(3,.val (.int .i64 i)),(4,.val (.int .u64 x.1)),(5,.val (.agg (za a b c d).toArray)),(6,.val (.int .i64 i))],cQ:=x.2.2.2.1,dq:=x.2.2.2.2 }) (λx=>fB x.1/\xh x.1.toNat<=x.2.1/\(∀ b o,I b=some o->x.2.2.2.1 b=some o)/\R x.2.2.1 x.2.2.2.1 x.2.2.2.2/\x.2.2.1<=(gX deb 0 [a,b,c,d]).length/\(gX deb 0 [a,b,c,d]).drop x.2.2.1=qY deb i x.2.1 x.1++gX deb (i+1) ([a,b,c,d].drop (i+1))) (λx=>xh x.1.toNat) ?_ ?_
   ·refine⟨([a,b,c,d][i],64,k,c3,M1),⟨sr _ (dR cr),WC _,cJ,kG,fK,?_⟩,.refl,.cons .refl (.cons .refl (.cons ?_ (vd))),.nil⟩
    ·simp only;rw[hf,jL];rfl
    ·simp only;rw[<-p5];exact .refl
   ·rintro⟨w,f,k,c3,M1⟩⟨hw,aD,cJ,kG,fK,hf⟩;simp only at hw aD cJ kG fK hf;refine aR.mk (λh=>?_) (λh=>?_)
    ·have Es:w≠0:=by simpa using h
     obtain⟨fN,hP⟩:=WD hw Es;obtain⟨f,rfl⟩:∃ gw,f=gw+1:=⟨f-1,by omega⟩;have ag:qY deb i (f+1) w=byteOf deb i w::qY deb i f (vy w):=by simp[qY,Es]
     rw[ag,sb]at hf;have af:k<(gX deb 0 [a,b,c,d]).length:=by apply Nat.lt_of_not_le;intro hle;rw[iU hle]at hf;cases hf
     have ia:=fs af;rw[hf]at ia;obtain⟨zb,tN⟩:=List.cons.inj ia;have H7:k<(p4 (gX deb 0 [a,b,c,d])).length:=by simpa[p4]using af
     have ah:(p4 (gX deb 0 [a,b,c,d]))[k]=[.int .u8 (IntKind.u8.wrap ((i:Int)*64+qX deb w))]:=by simp only[p4,nV,<-zb,WG]
     have Oi:oZ c3 deb:=by obtain⟨dH,di,T,aj,hQ⟩:=xi;exact⟨dH,di,T,aj,cJ _ _ hQ⟩
     have afN:=Ww Oi w;refine a6.mk ((i:Int)*64) (wrap_i64 ⟨by omega,by omega⟩) ?_;refine a7.mk [] M1 _ (.refl _) (Wx Oi w) ?_;rintro v I' M' -⟨rfl,rfl,rfl⟩;refine a6.mk ((i:Int)*64+qX deb w) (wrap_i64 ⟨by omega,by omega⟩) ?_;refine a6.mk _ rfl ?_;refine be.yield rfl (by simp) rfl rfl ?_;have aL:=vz k H7 I' M1 cJ kG;rw[ah]at aL;refine Ee.mk M1 [] _ (by simp) aL ?_;rintro v gh eP jM (⟨rfl,nX⟩ | ⟨rfl,ae⟩);·refine aR.mk (λh=>by simp at h) (λ_=>?_);refine a6.mk _ rfl ?_;exact⟨(vy w,f,k+1,gh,eP),⟨⟨fN,by simp only;omega,λb o h=>jM b o (cJ b o h),nX,af,tN.symm⟩,by simp only;exact hP⟩,.perm (by simp) .refl,iD,.nil⟩
     ·refine aR.mk (λ_=>?_) (λh=>by simp at h);exact⟨_,_,.perm (by simp) .refl,.inr ae⟩
    ·have Es:w=0:=by simpa using h
     have eR:IntKind.i64.wrap ((i:Int)+1)=((i+1:Nat):Int):=by rw[wrap_i64 ⟨by omega,by omega⟩];omega
     refine a6.mk _ eR ?_;have ag:qY deb i f w=[]:=by cases f<;>simp[qY,Es]
     rw[ag,nW]at hf;exact⟨(i+1,k,c3,M1),⟨⟨by simp only;omega,cJ,kG,fK,hf⟩,by simp only;omega⟩,.refl,gI,.nil⟩
  ·have jB:i=4:=by simp at h;omega
   subst jB;refine⟨_,_,.refl,.inl ?_⟩;have lC:(gX deb 0 [a,b,c,d]).drop k=[]:=by rw[hf];rfl
   have xj:k=(p4 (gX deb 0 [a,b,c,d])).length:=by have:=HC.1 lC;simp only[p4,fl];omega
   rw[<-xj];exact kG
def qZ(l:List (UInt8×UInt8))(b:UInt8):List (UInt8×UInt8):=match l.getLast? with
 |some p=>bif decide ((p.2.toNat:Int)+1=b.toNat)then l.dropLast++[(p.1,b)]else l++[(b,b)]| none=>[(b,b)]
def mo(l:List UInt8):List (UInt8×UInt8):=l.foldl qZ []
def hR(p:UInt8×UInt8):List Value:=[.int .u8 p.1.toNat,.int .u8 p.2.toNat]
def mq(l:List (UInt8×UInt8)):List Value:=l.flatMap hR
def Et(l:List (UInt8×UInt8)):(mq l).length=l.length*2:=fo hR 2 (λ_=>rfl) l
def WJ(l:List (UInt8×UInt8))(b:UInt8):(qZ l b).length<=l.length+1:=by
 unfold qZ;split
 ·rename_i p h;cases decide ((p.2.toNat:Int)+1=b.toNat)<;>simp
 ·simp
def Oj(l:List UInt8):(mo l).length<=l.length:=by
 have:∀ (l:List UInt8) (acc:List (UInt8×UInt8)),(l.foldl qZ acc).length<=acc.length+l.length:=by
  intro l
  induction l with
  |nil=>intro acc;simp| cons b l a8=>intro acc;have aa:=a8 (qZ acc b);have ab:=WJ acc b;simp only[At,du];omega
 simpa[mo]using this l []
def vA:((⟨b,0,none⟩:Addr).add i).add j=(⟨b,0,none⟩:Addr).add (i+j):=by rw[dx ⟨_,0,none⟩ rfl i,dx _ rfl j,dx _ rfl (i+j)];simp
def kH{M:List aC}{cs:List Value}(a5:(⟨b,.cells cs.toArray T (0,0)⟩:aC)∈M)(h:cs[i+j]?=some v):ck I M (((⟨b,0,none⟩:Addr).add i).add j) 1 [v]:=by obtain⟨ay,rfl⟩:=h3.1 h;have:=dn (I:=I) a5 (k:=i+j) (n:=1) (by omega);rw[fs ay,qN,qP]at this;rw[vA];exact this
def Ok(pre:List Value)(u v z:Value)(rest:List Value)(k:Nat)(af:k=pre.length+1):bo (pre++([u,v]++rest)) k [z]=pre++([u,z]++rest):=by
 subst af;unfold bo;have ax:(pre++([u,v]++rest)).take (pre.length+1)=pre++[u]:=by rw[show pre++([u,v]++rest)=(pre++[u])++(v::rest)from by simp];exact oQ (by simp)
 have aA:(pre++([u,v]++rest)).drop (pre.length+1+[z].length)=rest:=by rw[show pre++([u,v]++rest)=(pre++[u,v])++rest from by simp];exact HD (by simp)
 rw[ax,aA];simp
def H8{os:bb}{a3:List (UInt8×UInt8)}{x:UInt8}(dS:os.ok 2 (mq a3)){cur:List Value}(aa:cur.length=c*2)(ab:os.n+1<=c)(ai:c<=maxLen)(aQ:cur.take ((os.n+1)*2)=mq a3++hR (x,x)) :
  bb.ok ⟨some g,os.n+1,c,cur⟩ 2 (mq (a3++[(x,x)])):=by
 have Bq:mq (a3++[(x,x)])=mq a3++hR (x,x):=by simp[mq]
 have ay:=dS.len;refine⟨?_,(λh=>by cases h),λbr n5=>⟨aa,ab,ai,by rw[Bq];exact aQ⟩⟩;rw[Bq,cD,ay];simp[hR];omega
def WK(l:List UInt8)(x:UInt8):mo (l++[x])=qZ (mo l) x:=by simp[mo]
def WL(xi:oZ I deb){a b c:Int}(sr:∀ x∈[a,b,c,d],fB x):Spec Tryz.prog 246 [.agg #[.int .u64 a,.int .u64 b,.int .u64 c,.int .u64 d]] I []
  λr I' M'=>(∀ b o,I b=some o->I' b=some o)/\∃ os:bb,r=os.val/\os.ok 2 (mq (mo (gX deb 0 [a,b,c,d])))/\M'=os.aV 272:=by
 refine b8 [3] aT Tryz.func246 rfl rfl rfl ?_;intro B au;refine cC.mk λg aG xf=>?_;refine a7.mk [] [⟨g,.cells #[.slice none 0 0] 270 (0,0)⟩] _ (.refl _) (WH a b c d) ?_;rintro v c3 M1 -⟨aO,rfl,iI,cJ,rfl⟩;have WM:oZ c3 deb:=by obtain⟨dH,di,T,aj,hQ⟩:=xi;exact⟨dH,di,T,aj,cJ _ _ hQ⟩
 have cI:=H6 deb [a,b,c,d] 0;refine cX.range aT rfl rfl rfl .refl (WI WM sr iI) (λvs h=>?_) (λk I' M'=>(∀ b o,c3 b=some o->I' b=some o)/\∃ os:bb,os.ok 2 (mq (mo ((gX deb 0 [a,b,c,d]).take k)))/\M'=⟨g,.cells #[os.val] 270 (0,0)⟩::os.aV 272) (λ_ _ _=>False) ⟨λ_ _ h=>h,⟨none,0,0,[]⟩,⟨rfl,λ_=>⟨rfl,rfl⟩,λg h=>by cases h⟩,rfl⟩ ?_ ?_ (λ_ _ _ _ h=>h.elim)
 ·obtain⟨c,_,rfl⟩:=dO.1 h;rfl
 ·rintro k af I' M' -⟨n6,os,dS,rfl⟩l B au kB;have zc:k<(gX deb 0 [a,b,c,d]).length:=by simpa[p4]using af
  generalize afO:gX deb 0 [a,b,c,d]=L at *;generalize ae:L[k]=x;have ah:(p4 L)[k]=[.int .u8 x.toNat]:=by simp[p4,ae]
  rw[ah];have oT:mo (L.take (k+1))=qZ (mo (L.take k)) x:=by rw[jw zc,ae,WK]
  rw[oT];have p1:(mo (L.take k)).length<=256:=by have aa:=Oj (L.take k);have ab:=Ea k L;simp only[du,iF]at cI;omega
  generalize k0:mo (L.take k)=a3 at *;have lM:=x.toNat_lt;obtain⟨xk,n,dI,cur⟩:=os;have aw:a3.length=n:=by have:=dS.len;rw[Et]at this;simp only at this;omega
  cases xk with
  |none=>
   obtain⟨ax,aA⟩:=dS.nil rfl;simp only at ax aA;subst ax;subst aA;have mY:a3=[]:=lD aw;have mZ:qZ a3 x=a3++[(x,x)]:=by rw[mY];rfl
   refine aM.mk [.slice none 0 0] (dn (cs:=[.slice none 0 0]) (k:=0) (n:=1) (T:=270) (.head _) (by simp)) ?_;refine a6.mk (-1) (by decide) ?_;refine bC.mk (λh=>by simp at h) (λ_=>?_);refine aM.mk [.slice none 0 0] (dn (cs:=[.slice none 0 0]) (k:=0) (n:=1) (T:=270) (.head _) (by simp)) ?_;refine cC.mk λaP ic Ol=>?_;refine be.append aT rfl (by simp) (e:=272) rfl rfl rfl (⟨none,0,0,cur⟩:bb) dS rfl (m:=1) rfl (news:=hR (x,x)) (by decide) (dn (cs:=hR (x,x)) (k:=0) (n:=2) (T:=272) (.head _) (by simp[hR])) rfl (Mr:=[⟨aP,.cells (hR (x,x)).toArray 272 (0,0)⟩,⟨g,.cells #[.slice none 0 0] 270 (0,0)⟩]) (gK (l₁:=[_,_])) (by simp only[maxLen];omega) (by show(_+1)*2<=_;simp only;omega) ?_;intro c5 c' hS dH di hQ jl;refine cS.mk [⟨c5,.cells hS.toArray 272 (0,0)⟩,⟨aP,.cells (hR (x,x)).toArray 272 (0,0)⟩] [] _ _ rfl rfl (bq rfl) rfl ?_;refine⟨_,_,.perm (M1:=[⟨aP,.cells (hR (x,x)).toArray 272 (0,0)⟩]++(⟨g,.cells #[bb.val ⟨some c5,(⟨none,0,0,cur⟩:bb).n+1,c',hS⟩] 270 (0,0)⟩::bb.aV ⟨some c5,(⟨none,0,0,cur⟩:bb).n+1,c',hS⟩ 272)) (gK (l₁:=[_]) (l₂:=[_,_])) (.sub (k2 _ _) .refl),n6,⟨some c5,(⟨none,0,0,cur⟩:bb).n+1,c',hS⟩,?_,rfl⟩;rw[mZ];exact H8 dS dH di hQ jl
  |some b1=>
   obtain⟨eo,k5,ke,ie⟩:=dS.cap b1 rfl;simp only at eo k5 ke ie;refine aM.mk [.slice (some ⟨b1,0,none⟩) n dI] (dn (cs:=[.slice (some ⟨b1,0,none⟩) n dI]) (k:=0) (n:=1) (T:=270) (.head _) (by simp)) ?_;refine a6.mk ((n:Int)-1) (wrap_i64 ⟨by omega,by omega⟩) ?_;refine bC.mk (λaa=>?_) (λaa=>?_)
   ·have mO:1<=n:=by simp at aa;omega
    obtain⟨q0,p,rfl⟩:∃ q0 p,a3=q0++[p]:=by
     rcases List.eq_nil_or_concat a3 with h | ⟨r,p,h⟩;·subst h;simp at aw;omega
     ·exact⟨r,p,by simpa using h⟩
    have kf:q0.length=n-1:=by simp at aw;omega
    have gY:(mq q0).length=(n-1)*2:=by rw[Et,kf]
    obtain⟨rest,ig⟩:∃ rest,cur=mq q0++([.int .u8 p.1.toNat,.int .u8 p.2.toNat]++rest):=by refine⟨cur.drop (n*2),?_⟩;have ab:=w3 (n*2) cur;rw[ie]at ab;rw[<-ab,HD (by rw[Et,aw])];simp[mq,hR]
    have p6:cur[(n-1)*2+1*1]?=some (.int .u8 p.2.toNat):=by rw[ig,<-gY,oO (by omega)];simp
    have ss:=p.2.toNat_lt;refine aM.mk [.slice (some ⟨b1,0,none⟩) n dI] (dn (cs:=[.slice (some ⟨b1,0,none⟩) n dI]) (k:=0) (n:=1) (T:=270) (.head _) (by simp)) ?_;refine bs.mk ⟨b1,0,none⟩ (n-1) rfl (by omega) (by omega) ?_;refine ed.mk 1 rfl (by decide) ?_;refine aM.mk [.int .u8 p.2.toNat] (kH (b:=b1) (cs:=cur) (T:=272) (by simp[bb.aV]) p6) ?_;refine a6.mk (p.2.toNat:Int) (wrap_i64 ⟨by omega,by omega⟩) ?_;refine a6.mk ((p.2.toNat:Int)+1) (wrap_i64 ⟨by omega,by omega⟩) ?_;refine a6.mk (x.toNat:Int) (wrap_i64 ⟨by omega,by omega⟩) ?_;have mZ:qZ (q0++[p]) x=bif decide ((p.2.toNat:Int)+1=x.toNat)then q0++[(p.1,x)]else q0++[p]++[(x,x)]:=by simp[qZ]
    refine aR.mk (λab=>?_) (λab=>?_)
    ·rw[ab]at mZ;refine aM.mk [.slice (some ⟨b1,0,none⟩) n dI] (dn (cs:=[.slice (some ⟨b1,0,none⟩) n dI]) (k:=0) (n:=1) (T:=270) (.head _) (by simp)) ?_;refine bs.mk ⟨b1,0,none⟩ (n-1) rfl (by omega) (by omega) ?_;refine ed.mk 1 rfl (by decide) ?_;rw[vA];refine cS.add [⟨g,.cells #[.slice (some ⟨b1,0,none⟩) n dI] 270 (0,0)⟩] [] cur.toArray _ rfl ?_ rfl ?_
     ·simp only[qA];show 0+((n-1)*2+1)+1<=_;omega
     ·refine⟨_,_,.refl,n6,⟨some b1,n,dI,bo cur (0+((n-1)*2+1*1)) [.int .u8 x.toNat]⟩,?_,rfl⟩;have bI:bo cur (0+((n-1)*2+1*1)) [.int .u8 x.toNat]=mq q0++([.int .u8 p.1.toNat,.int .u8 x.toNat]++rest):=by rw[ig];exact Ok _ _ _ _ _ _ (by omega)
      rw[mZ,bI];have Bq:mq (q0++[(p.1,x)])=mq q0++[.int .u8 p.1.toNat,.int .u8 x.toNat]:=by simp[mq,hR]
      refine⟨?_,(λh=>by cases h),λbr n5=>⟨?_,k5,ke,?_⟩⟩;·simp only[aZ];rw[Bq,cD,gY];simp;omega
      ·simp only;rw[<-eo,ig];simp
      ·simp only[aZ];rw[Bq,<-fJ];refine oQ ?_;rw[cD,gY];simp;omega
    ·rw[ab]at mZ;simp only[aY]at mZ;refine aM.mk [.slice (some ⟨b1,0,none⟩) n dI] (dn (cs:=[.slice (some ⟨b1,0,none⟩) n dI]) (k:=0) (n:=1) (T:=270) (.head _) (by simp)) ?_;refine cC.mk λaP ic Ol=>?_;refine be.append aT rfl (by simp) (e:=272) rfl rfl rfl (⟨some b1,n,dI,cur⟩:bb) dS rfl (m:=1) rfl (news:=hR (x,x)) (by decide) (dn (cs:=hR (x,x)) (k:=0) (n:=2) (T:=272) (.head _) (by simp[hR])) rfl (Mr:=[⟨aP,.cells (hR (x,x)).toArray 272 (0,0)⟩,⟨g,.cells #[.slice (some ⟨b1,0,none⟩) n dI] 270 (0,0)⟩]) (gK (l₁:=[_,_])) (by simp only[maxLen];omega) (by show(_+1)*2<=_;simp only;omega) ?_;intro c5 c' hS dH di hQ jl;refine cS.mk [⟨c5,.cells hS.toArray 272 (0,0)⟩,⟨aP,.cells (hR (x,x)).toArray 272 (0,0)⟩] [] _ _ rfl rfl (bq rfl) rfl ?_;refine⟨_,_,.perm (M1:=[⟨aP,.cells (hR (x,x)).toArray 272 (0,0)⟩]++(⟨g,.cells #[bb.val ⟨some c5,(⟨some b1,n,dI,cur⟩:bb).n+1,c',hS⟩] 270 (0,0)⟩::bb.aV ⟨some c5,(⟨some b1,n,dI,cur⟩:bb).n+1,c',hS⟩ 272)) (gK (l₁:=[_]) (l₂:=[_,_])) (.sub (k2 _ _) .refl),n6,⟨some c5,(⟨some b1,n,dI,cur⟩:bb).n+1,c',hS⟩,?_,rfl⟩;rw[mZ];exact H8 dS dH di hQ jl
   ·have kf:n=0:=by simp at aa;omega
    have mY:a3=[]:=lD (by omega);have mZ:qZ a3 x=a3++[(x,x)]:=by rw[mY];rfl
    refine aM.mk [.slice (some ⟨b1,0,none⟩) n dI] (dn (cs:=[.slice (some ⟨b1,0,none⟩) n dI]) (k:=0) (n:=1) (T:=270) (.head _) (by simp)) ?_;refine cC.mk λaP ic Ol=>?_;refine be.append aT rfl (by simp) (e:=272) rfl rfl rfl (⟨some b1,n,dI,cur⟩:bb) dS rfl (m:=1) rfl (news:=hR (x,x)) (by decide) (dn (cs:=hR (x,x)) (k:=0) (n:=2) (T:=272) (.head _) (by simp[hR])) rfl (Mr:=[⟨aP,.cells (hR (x,x)).toArray 272 (0,0)⟩,⟨g,.cells #[.slice (some ⟨b1,0,none⟩) n dI] 270 (0,0)⟩]) (gK (l₁:=[_,_])) (by simp only[maxLen];omega) (by show(_+1)*2<=_;simp only;omega) ?_;intro c5 c' hS dH di hQ jl;refine cS.mk [⟨c5,.cells hS.toArray 272 (0,0)⟩,⟨aP,.cells (hR (x,x)).toArray 272 (0,0)⟩] [] _ _ rfl rfl (bq rfl) rfl ?_;refine⟨_,_,.perm (M1:=[⟨aP,.cells (hR (x,x)).toArray 272 (0,0)⟩]++(⟨g,.cells #[bb.val ⟨some c5,(⟨some b1,n,dI,cur⟩:bb).n+1,c',hS⟩] 270 (0,0)⟩::bb.aV ⟨some c5,(⟨some b1,n,dI,cur⟩:bb).n+1,c',hS⟩ 272)) (gK (l₁:=[_]) (l₂:=[_,_])) (.sub (k2 _ _) .refl),n6,⟨some c5,(⟨some b1,n,dI,cur⟩:bb).n+1,c',hS⟩,?_,rfl⟩;rw[mZ];exact H8 dS dH di hQ jl
 ·rintro I' M' -⟨n6,os,dS,rfl⟩;refine aM.mk [os.val] (dn (cs:=[os.val]) (k:=0) (n:=1) (T:=270) (.head _) (by simp)) ?_;refine⟨_,_,.sub (List.sublist_cons_self _ _) .refl,λb o h=>n6 _ _ (cJ _ _ h),os,rfl,?_,rfl⟩;have:(gX deb 0 [a,b,c,d]).take (p4 (gX deb 0 [a,b,c,d])).length=gX deb 0 [a,b,c,d]:=hN (by simp[p4]);rw[this]at dS;exact dS
def bb.ok.row{M:List aC}{os:bb}{f:α->List Value}(aD:∀ x,(f x).length=size)(au:0<size){l:List α}(h:os.ok size (l.flatMap f))(a5:∀ x∈os.aV e,x∈M)(ar:j<l.length) :
  ∃ ad,os.a.map (λg=>(⟨g,0,none⟩:Addr))=some ad/\ck I M (ad.add (j*size)) size (f l[j]):=by
 have aw:l.length=os.n:=by have aa:=h.len;rw[fo f size aD]at aa;exact Nat.eq_of_mul_eq_mul_right au aa
 cases av:os.a with
 |none=>have:=(h.nil av).1;omega
 |some g=>
  obtain⟨aa,ab,ai,aQ⟩:=h.cap g av;refine⟨⟨g,0,none⟩,rfl,?_⟩;have hle:j*size+size<=os.n*size:=by have:=qz size (show j+1<=os.n by omega);rw[iV,oR]at this;exact this
  have eo:os.n*size<=os.cur.length:=by rw[aa];exact qz _ ab
  have:=dn (I:=I) (M:=M) (b:=g) (T:=e) (cs:=os.cur) (a5 _ (by simp[bb.aV,av])) (k:=j*size) (n:=size) (by omega);have ax:(os.cur.drop (j*size)).take size=f l[j]:=by rw[<-xc f size aD l j ar,<-aQ,vl,tG];congr 1;omega
  rw[ax]at this;exact this
def xl:ByteArray:=⟨#[34]⟩
def vB:ByteArray:=⟨#[93,45,94]⟩
def Br(s:ByteArray):List UInt8:=[34]++s.data.toList.flatMap (lL · xl)++[34]
def strOf(l:List UInt8):ByteArray:=⟨l.toArray⟩
def Bs{α β:Type}(f:α->List β)(m:Nat)(aD:∀ x,(f x).length<=m):∀ l:List α,(l.flatMap f).length<=m*l.length
 |[]=>by simp
 |x::l=>by have aa:=Bs f m aD l;have ab:=aD x;simp only[qO,cD,du,Nat.mul_add];omega
def Om(s:ByteArray)(aq:s.size<=1099511627776):Spec Tryz.prog 228 [.string s] I [] λr I' M'=>r=.string (strOf (Br s))/\I'=I/\M'=[]:=by
 refine b8 [3] aT Tryz.func228 rfl rfl rfl ?_;intro B au;refine cC.mk λb ag Bi=>?_;refine a7.mk (eA.new.M b) [] _ (.refl _) (ml b eA.Em 34 (by decide)) ?_;rintro v I' M' -⟨rfl,rfl,r6,et,st,rfl⟩;refine dh.inv (ι:=Nat×eA) (λp=>{ ca:=[(0,.val (.string s)),(3,.val (ptr b)),(4,.val (.int .i64 p.1))],cQ:=I',dq:=p.2.M b }) (λp=>p.1<=s.size/\p.2.ok/\p.2.bU=[34]++(s.data.toList.take p.1).flatMap (lL · xl)) (λp=>s.size-p.1) ?_ ?_
 ·exact⟨(0,r6),⟨by simp,et,by simp[st,eA.new]⟩,.perm (by simp) .refl,gI,.nil⟩
 ·rintro⟨i,x⟩⟨hi,ae,lN⟩;simp only at hi ae lN;have hlen:x.bU.length<=1+4*i:=by rw[lN];have:=Bs (lL · xl) 4 (λc=>Bn c xl) (s.data.toList.take i);have ab:=Ea i s.data.toList;simp only[cD,du,iF];omega
  refine aR.mk (λh=>?_) (λh=>?_)
  ·have aU:i<s.size:=by simpa using h
   have cr:i<s.data.toList.length:=aU;refine u0.mk i rfl aU ?_;refine a7.mk (x.M b) [] _ (by simp) (Eo b ae s[i] xl (by omega)) ?_;rintro v I' M' -⟨rfl,y,aL,fC,rfl⟩;have eR:IntKind.i64.wrap ((i:Int)+1)=((i+1:Nat):Int):=by rw[wrap_i64 ⟨by omega,by omega⟩];omega
   refine a6.mk _ eR ?_;refine⟨(i+1,y),⟨⟨by simp only;omega,aL,?_⟩,by simp only;omega⟩,.perm (by simp) .refl,gI,.nil⟩;simp only;rw[fC,lN,jw cr,mg,fJ];congr 1;simp;rfl
  ·have dE:s.size<=i:=by simpa using h
   have gg:s.data.toList.take i=s.data.toList:=hN dE;refine a7.mk (x.M b) [] _ (by simp) (ml b ae 34 (by omega)) ?_;rintro v I' M' -⟨rfl,rfl,y,aL,fC,rfl⟩;refine a7.mk (y.M b) [] _ (by simp) (tL b aL (by rw[fC];simp;omega)) ?_;rintro v I' M' -⟨rfl,rfl,rfl⟩;refine⟨_,_,.refl,?_,rfl,by simp⟩;rw[fC,lN,gg];rfl
def q1(p:UInt8×UInt8):List UInt8:=
 lL p.1 vB++((bif decide (1<IntKind.u8.wrap ((p.2.toNat:Int)-p.1.toNat))then [45]else [])++(bif !decide ((p.2.toNat:Int)=p.1.toNat)then lL p.2 vB else []))
def xm(deb:List Int)(a b c d:Int):List UInt8:=
 bif (a == hd 0&&(b == hd 0&&(c == hd 0&&d == hd 0)))then [46]else [91]++(mo (gX deb 0 [a,b,c,d])).flatMap q1++[93]
def On(p:UInt8×UInt8):(q1 p).length<=9:=by
 have aa:=Bn p.1 vB;have ab:=Bn p.2 vB;unfold q1;cases decide (1<IntKind.u8.wrap ((p.2.toNat:Int)-p.1.toNat))<;>cases decide ((p.2.toNat:Int)=p.1.toNat)<;>simp<;>omega
def Oo(deb:List Int)(a b c d:Int):(mo (gX deb 0 [a,b,c,d])).length<=256:=by have aa:=H6 deb [a,b,c,d] 0;have ab:=Oj (gX deb 0 [a,b,c,d]);simp only[du,iF]at aa;omega
def WN(deb:List Int)(a b c d:Int):(xm deb a b c d).length<=2306:=by
 have aa:=Oo deb a b c d;have ab:=Bs q1 9 On (mo (gX deb 0 [a,b,c,d]));unfold xm;cases(a == hd 0&&(b == hd 0&&(c == hd 0&&d == hd 0)))
 ·simp only[aY,cD,du,iF];omega
 ·simp
def WO(xi:oZ I deb){a b c:Int}(sr:∀ x∈[a,b,c,d],fB x):Spec Tryz.prog 229 [.agg #[.int .u64 a,.int .u64 b,.int .u64 c,.int .u64 d]] I []
  λr I' M'=>r=.string (strOf (xm deb a b c d))/\(∀ b o,I b=some o->I' b=some o)/\M'=[]:=by
 refine b8 [3] aT Tryz.func229 rfl rfl rfl ?_;intro B au;refine cX.draw aT rfl rfl rfl ?_;refine nO.mk _ WA ?_;rintro v I' M' -⟨rfl,rfl,rfl⟩;refine fk.Nw aT (e:=67) rfl rfl rfl rfl (by kernel_rfl) ?_;refine aR.mk (λh=>?_) (λh=>?_)
 ·refine⟨_,_,.refl,?_,λ_ _ h=>h,rfl⟩;simp only[xm,h];rfl
 ·refine cC.mk λg aG xf=>?_;refine a7.mk (eA.new.M g) [] _ (.refl _) (ml g eA.Em 91 (by decide)) ?_;rintro v I' M' -⟨rfl,rfl,r6,et,st,rfl⟩;refine a7.mk [] (r6.M g) _ (by simp) (WL xi sr) ?_;rintro v c3 M1 -⟨cJ,os,rfl,dS,rfl⟩;have p1:=Oo deb a b c d;have eo:xm deb a b c d=[91]++(mo (gX deb 0 [a,b,c,d])).flatMap q1++[93]:=by simp only[xm,h];rfl
  generalize k0:mo (gX deb 0 [a,b,c,d])=a3 at *;have aw:a3.length=os.n:=by have:=dS.len;rw[Et]at this;omega
  refine dh.inv (ι:=Nat×eA) (λp=>{ ca:=[(3,.val (ptr g)),(11,.val os.val),(12,.val (.int .i64 os.n)),(13,.val (.int .i64 p.1))],cQ:=c3,dq:=p.2.M g++os.aV 272 }) (λp=>p.1<=os.n/\p.2.ok/\p.2.bU=[91]++(a3.take p.1).flatMap q1) (λp=>os.n-p.1) ?_ ?_;·exact⟨(0,r6),⟨by simp,et,by simp[st,eA.new]⟩,.perm (by simpa using gK) .refl,ez,.nil⟩
  ·rintro⟨i,x⟩⟨hi,ae,lN⟩;simp only at hi ae lN;have hlen:x.bU.length<=1+9*i:=by rw[lN];have:=Bs q1 9 On (a3.take i);have ab:=Ea i a3;simp only[cD,du,iF];omega
   refine aR.mk (λh=>?_) (λh=>?_)
   ·have aU:i<os.n:=by simpa using h
    have cr:i<a3.length:=by omega
    obtain⟨ad,cg,bD⟩:=bb.ok.row (I:=c3) (M:=x.M g++os.aV 272) (f:=hR) (λ_=>rfl) (by decide) dS (e:=272) (λy aL=>by simp[aL]) cr;refine bs.mk ad i cg rfl aU ?_;refine aM.mk _ bD ?_;generalize aH:a3[i]=p;refine ed.mk 0 rfl (by decide) ?_;refine a7.mk (x.M g) (os.aV 272) _ (.refl _) (Eo g ae p.1 vB (by omega)) ?_;rintro v I' M' -⟨rfl,y,aL,fC,rfl⟩;have Od:y.bU.length<=5+9*i:=by rw[fC,cD];have:=Bn p.1 vB;omega
    refine ed.mk 1 rfl (by decide) ?_;refine ed.mk 0 rfl (by decide) ?_;refine a6.mk _ rfl ?_;refine aR.mk (λdr=>?_) (λdr=>?_)
    ·refine a7.mk (y.M g) (os.aV 272) _ (by simp) (ml g aL 45 (by omega)) ?_;rintro v I' M' -⟨rfl,rfl,u,hu,tM,rfl⟩;have Oq:u.bU.length<=6+9*i:=by rw[tM];simp;omega
     refine ed.mk 1 rfl (by decide) ?_;refine ed.mk 0 rfl (by decide) ?_;refine aR.mk (λc4=>?_) (λc4=>?_)
     ·refine ed.mk 1 rfl (by decide) ?_;refine a7.mk (u.M g) (os.aV 272) _ (by simp) (Eo g hu p.2 vB (by omega)) ?_;rintro v I' M' -⟨rfl,z,bd,p2,rfl⟩;have eR:IntKind.i64.wrap ((i:Int)+1)=((i+1:Nat):Int):=by rw[wrap_i64 ⟨by omega,by omega⟩];omega
      refine a6.mk _ eR ?_;refine⟨(i+1,z),⟨⟨by simp only;omega,bd,?_⟩,by simp only;omega⟩,.perm (by simp) .refl,ez,.nil⟩;simp only;rw[p2,tM,fC,lN,jw cr,mg,aH];simp[q1,dr,c4]
     ·have eR:IntKind.i64.wrap ((i:Int)+1)=((i+1:Nat):Int):=by rw[wrap_i64 ⟨by omega,by omega⟩];omega
      refine a6.mk _ eR ?_;refine⟨(i+1,u),⟨⟨by simp only;omega,hu,?_⟩,by simp only;omega⟩,.perm (by simp) .refl,ez,.nil⟩;simp only;rw[tM,fC,lN,jw cr,mg,aH];simp[q1,dr,c4]
    ·refine ed.mk 1 rfl (by decide) ?_;refine ed.mk 0 rfl (by decide) ?_;refine aR.mk (λc4=>?_) (λc4=>?_)
     ·refine ed.mk 1 rfl (by decide) ?_;refine a7.mk (y.M g) (os.aV 272) _ (by simp) (Eo g aL p.2 vB (by omega)) ?_;rintro v I' M' -⟨rfl,z,bd,p2,rfl⟩;have eR:IntKind.i64.wrap ((i:Int)+1)=((i+1:Nat):Int):=by rw[wrap_i64 ⟨by omega,by omega⟩];omega
      refine a6.mk _ eR ?_;refine⟨(i+1,z),⟨⟨by simp only;omega,bd,?_⟩,by simp only;omega⟩,.perm (by simp) .refl,ez,.nil⟩;simp only;rw[p2,fC,lN,jw cr,mg,aH];simp[q1,dr,c4]
     ·have eR:IntKind.i64.wrap ((i:Int)+1)=((i+1:Nat):Int):=by rw[wrap_i64 ⟨by omega,by omega⟩];omega
      refine a6.mk _ eR ?_;refine⟨(i+1,y),⟨⟨by simp only;omega,aL,?_⟩,by simp only;omega⟩,.perm (by simp) .refl,ez,.nil⟩;simp only;rw[fC,lN,jw cr,mg,aH];simp[q1,dr,c4]
   ·have dE:os.n<=i:=by simpa using h
    have gg:a3.take i=a3:=hN (by omega);refine a7.mk (x.M g) (os.aV 272) _ (.refl _) (ml g ae 93 (by omega)) ?_;rintro v I' M' -⟨rfl,rfl,y,aL,fC,rfl⟩;refine a7.mk (y.M g) (os.aV 272) _ (.refl _) (tL g aL (by rw[fC];simp;omega)) ?_;rintro v I' M' -⟨rfl,rfl,rfl⟩;refine⟨_,_,.sub (gu _) .refl,?_,cJ,rfl⟩;rw[fC,lN,gg,eo];rfl
end Go.V
