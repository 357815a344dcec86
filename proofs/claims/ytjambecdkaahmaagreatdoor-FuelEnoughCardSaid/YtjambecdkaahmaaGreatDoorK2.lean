/- Part 2 of what the proofs of this seat share: the executor, data in memory, walks.
-/
import Derived.Test.YtjambecdkaahmaaGreatDoorK1
import Derived.Lib.UnsafeStr
import Derived.Test.YtjambecdkaahmaaGreatDoorProg
import Derived.KernelRfl
import Derived.Lib.Builder
import Derived.Lib.Bytealg
import Derived.Laws.Pointers
import Derived.Laws.StructEq
set_option linter.all false
set_option maxHeartbeats 4000000
set_option maxRecDepth 100000
namespace Go.V
open Go
def di:=@List.length_append
def dr:=@List.getElem_mem
def eo:=@List.append_nil
def g5:=@List.getElem?_eq_getElem
def eN:=@List.nil_sublist
def dp:=@Nat.zero_add
def gM:=@List.take_of_length_le
def eW:=@List.length_map
def iG:=@List.drop_eq_nil_of_le
def gz:=@List.append_assoc
def i':=@List.perm_append_comm
def nx:=@List.eq_nil_of_length_eq_zero
def mU:=@List.sublist_append_right
def lX:=@Int.eq_ofNat_of_zero_le
def ny:=@decide_eq_false_iff_not
def qg:=@List.getElem?_append_right
def ko:=@List.length_nil
def n8:=@Bool.or_eq_false_iff
def lu:=@List.getElem_map
def oL:=@List.take_succ_cons
def mV:=@List.length_take
def k':=@List.sum_cons
def jk:=@Nat.mul_one
def nz:=@List.nil_append
def j3:=@Nat.add_mul
def qh:=@List.flatMap_cons
def qi:=@List.getElem?_set
def py:=@List.cons_append
def oM:=@List.take_zero
def Eg:=@List.set_eq_take_append_cons_drop
def y4:=@List.getElem_cons_zero
def sf:=@List.take_left'
def oN:=@List.map_nil
def y5:=@List.length_replicate
def y6:=@List.take_append_drop
def xo:=@List.map_congr_left
def Eh:=@List.take_append_of_le_length
def q3:=@Bool.true_and
def uE:=@Bool.false_and
def xp:=@List.map_toArray
def xq:=@List.ext_getElem
def Av:=@Array.length_toList
def qj:=@Nat.one_mul
def Aw:=@Int.toNat_of_nonneg
def vG:=@List.take_take
def GV:=@Int.fdiv_eq_ediv_of_nonneg
def Ei:=@World.putObj_heap_same
def xr:=@List.drop_zero
def Ax:=@List.length_drop
def Ci:=@List.ext_getElem?
def Ay:=@List.drop_take
def GW:=@List.drop_eq_nil_iff
def O3:=@Array.eq_empty_of_size_eq_zero
def GX:=@List.length_take_le
def Cj:=@List.drop_drop
def KF:=@List.getElem_cons_succ
def VP:=@Std.Legacy.Range.forIn_eq_forIn_range'
def GY:=@BitVec.toNat_and
def GZ:=@List.drop_left'
def O4:=@ByteArray.size_extract
def G0:=@List.take_left
def G1:=@List.cons.inj
def VQ:=@List.drop_length_add_append
def G2:=@Nat.zero_mul
def O5:=@Nat.pos_of_ne_zero
def G3:=@List.map_set
def O6:=@List.map_replicate
def VR:=@Lib.run_firstCells_string
def KG:=@List.set_set
variable{P:Program}{a sa:Option Addr}{w:World}{c g m t u e c' b vH it T size j i fw:Nat}{X:dw}{F:Fr}{C:dX}{I I':a5}{K:List aF->Prop}{o:Obj}{f x s y:Operand}{vs xs dd:List Value}{pz:TypeDesc}{dT oO aP:eE}{xt p v:Value}{Mr:List aF}{ad:Addr}{k:IntKind}{other:Prop}{cs:Array Value}{α:Type}{aX:List Int}{d:Int}
def VS{ti:Fence}{n:Nat}{Q:Exit->Act->World->Prop}{a:Act}{c:Code}(J:Nat->Nat->Act->World->Prop)
  (first:c.wpIn ti n P (λe cf w'=>match e with
   | .goto l=>∃ m,J l m cf w'| e=>Q e cf w') a w)
  (pass:∀ l m a w,J l m a w->∃ au,findLabel c l=some au/\au.wpIn ti n P (λe cf w'=>match e with
   | .goto c8=>∃ m',m'<m/\J c8 m' cf w'| e=>Q e cf w') a w):(Code.scope c).wpIn ti n P Q a w:=by
 intro b k cs mR ag al;have e2:step P (lone (b.atR a (.code (.scope c)::k)) cs w)=.next (lone (b.atR a (.code c::.inScope c::k)) cs w):=
  step_lone_go (by simp[stepG,stepG.exec,Frame.atR])
 have s1:∀ a w,step P (lone (b.atR a (.inScope c::k)) cs w)=.next (lone (b.atR a k) cs w):=λa w=>
  step_lone_go (by simp[stepG,stepG.exec,Frame.atR])
 have ab:∀ id,exitTo id (.inScope c::k)=exitTo id k:=λid=>by simp[exitTo]
 have fin:∀ {m:Machine} {e:Exit} {kK:Act} {kL:World},(∀ l,e≠.goto l)->ArrivesIn (Machine.fenced P ti) P m b (.inScope c::k) cs e kK kL->ArrivesIn (Machine.fenced P ti) P m b k cs e kK kL:=by
  intro m e kK kL bM jK;cases e with
  |normal=>exact StepsIn.trans jK (.one (fenced_calm ag al rfl) (s1 _ _))| exit id=>exact⟨λcO ae=>jK.1 cO (by rw[ab];exact ae),λhf ae=>jK.2 hf (by rw[ab];exact ae)⟩| goto l=>exact(bM l rfl).elim| ret=>exact jK| panic vB=>exact jK| outgrown=>exact jK
 have key:∀ m l a w,J l m a w->∀ au,findLabel c l=some au->∃ e cf w',Q e cf w'/\ArrivesIn (Machine.fenced P ti) P (lone (b.atR a (.code au::.inScope c::k)) cs w) b k cs e cf w':=by
  intro m
  induction m using Nat.strongRecOn with
  |_ m be=>
   intro l a w dn au tm;obtain⟨Az,ar,hw⟩:=pass l m a w dn;rw[tm]at ar;cases ar;obtain⟨e,kK,kL,aL,jK⟩:=hw b (.inScope c::k) cs mR ag al;cases e with
   |goto c8=>
    obtain⟨m',a0,G4⟩:=aL;obtain⟨Az,sg,_⟩:=pass c8 m' kK kL G4;have aB:gotoIn c8 (.inScope c::k)=some (.code Az::.inScope c::k):=by simp[gotoIn,sg]
    obtain⟨GA,GB,GC,GD,GF⟩:=be m' a0 c8 kK kL G4 Az sg;exact⟨GA,GB,GC,GD,.of_steps (jK.1 _ aB) GF⟩
   |normal=>exact⟨_,kK,kL,aL,fin (by simp) jK⟩| exit id=>exact⟨_,kK,kL,aL,fin (by simp) jK⟩| ret=>exact⟨_,kK,kL,aL,fin (by simp) jK⟩| panic vB=>exact⟨_,kK,kL,aL,fin (by simp) jK⟩| outgrown=>exact⟨_,kK,kL,aL,fin (by simp) jK⟩
 have ay:(lone (b.atR a (.code (.scope c)::k)) cs w).fenced P ti:=fenced_calm ag al rfl;obtain⟨e,kK,kL,aL,jK⟩:=first b (.inScope c::k) cs mR ag al
 cases e with
 |goto c8=>
  obtain⟨m',G4⟩:=aL;obtain⟨Az,sg,_⟩:=pass c8 m' kK kL G4;have aB:gotoIn c8 (.inScope c::k)=some (.code Az::.inScope c::k):=by simp[gotoIn,sg]
  obtain⟨GA,GB,GC,GD,GF⟩:=key m' c8 kK kL G4 Az sg;exact⟨GA,GB,GC,GD,.of_steps (.head ay e2 (jK.1 _ aB)) GF⟩
 |normal=>exact⟨_,kK,kL,aL,.of_steps (.one ay e2) (fin (by simp) jK)⟩| exit id=>exact⟨_,kK,kL,aL,.of_steps (.one ay e2) (fin (by simp) jK)⟩| ret=>exact⟨_,kK,kL,aL,.of_steps (.one ay e2) (fin (by simp) jK)⟩| panic vB=>exact⟨_,kK,kL,aL,.of_steps (.one ay e2) (fin (by simp) jK)⟩| outgrown=>exact⟨_,kK,kL,aL,.of_steps (.one ay e2) (fin (by simp) jK)⟩
def O7(N:Nat->hb)(K:mi):mi
 | .goto l=>N l| e=>K e
def cq.scope{c:Code}{M:List aF}{K:mi}(aW:dm X.P X.E)(bw:codeOk X.n c=true){ι:Type}(ao:ι->Al)(kp:ι->Nat)(inv:ι->Prop)(μ:ι->Nat)(au:Nat->Code)(tm:∀ i,inv i->findLabel c (kp i)=some (au (kp i))/\codeOk X.n (au (kp i))=true)(first:V X c F C I M (O7 (λl=>uz X.cL ao λj=>inv j/\kp j=l) K))(pass:∀ i,inv i->V X (au (kp i)) (ux (ao i).bK) (uy (ao i).cl) (ao i).dz (ao i).d' (O7 (λl=>uz X.cL ao λj=>(inv j/\kp j=l)/\μ j<μ i) K)) :
  cq X (.scope c) F C I M K:=by
 refine⟨λa w ba=>?_⟩;let J (l m:Nat) (a:Act) (w:World):Prop:=∃ i,inv i/\kp i=l/\μ i=m/\Rel X a w (ux (ao i).bK) (uy (ao i).cl) (ao i).dz (ao i).d'
 have Am:∀ {p:ι->Prop} {l:Nat} {a w},(∀ i,p i->inv i/\kp i=l)->Sat X (uz X.cL ao p) a w->∃ i,p i/\J l (μ i) a w:=by rintro p l a w aK⟨F,C,I,M,⟨β,al⟩,⟨j,vC,hw,cB,th⟩⟩;exact⟨j,vC,j,(aK j vC).1,(aK j vC).2,rfl,β,(al.aq cB th).j0 hw⟩
 refine VS J (wpIn_mono (r6 aW c bw ba first) ?_) ?_
 ·intro e a w h;cases e with
  |goto l=>obtain⟨j,an,dn⟩:=Am (p:=λj=>inv j/\kp j=l) (l:=l) (λ_ h=>h) h;exact⟨_,dn⟩
  |_=>exact h
 ·rintro l m a w⟨i,hi,rfl,rfl,al⟩;obtain⟨U,aa⟩:=tm i hi;refine⟨_,U,wpIn_mono (r6 aW _ aa al (pass i hi)) ?_⟩;intro e a w h;cases e with
  |goto c8=>obtain⟨j,an,dn⟩:=Am (p:=λj=>(inv j/\kp j=c8)/\μ j<μ i) (l:=c8) (λ_ h=>h.1) h;exact⟨_,an.2,dn⟩
  |_=>exact h
def G5(P:Program)(l:Nat)(args:List Value)(I:a5)(M:List aF)(post:Value->a5->List aF->Prop):Prop:=
 ∀ w,e1 I M w->∃ f tmps assign body,(Instr.yield l args.toArray).run P w=.ok (.round l f tmps assign body) w /\ RoundIn Fence.wide 0 P l f tmps assign body w λe w'=>∃ v I' M',e=.returned v/\post v I' M'/\e1 I' M' w'/\Kept I M w I' M' w'
inductive Ej(P:Program)(l:Nat)(args:List Value)(I:a5)(M:List aF)(K:Value->a5->List aF->Prop):Prop
 |mk(cz Mr:List aF)(post:Value->a5->List aF->Prop)(a2:M.Perm (cz++Mr))(ax:G5 P l args I cz post)(k:∀ v I' M',(∀ b o,I b=some o->I' b=some o)->post v I' M'->K v I' (M'++Mr))
def bE.yield{o:Oper}{M:List aF}{K:hb}{args:Array Operand}{ts:Array TypeId}{l:Nat}(aD:o.op=.call { callee:=.value f,args,argTypes:=ts })(ah:∀ d,o.dst=some d->d<X.n)(ar:bU F f=.val (.func (.yield l) #[] #[]))(jx:nh F args.toList=some vs)
  (h:Ej X.P l vs I M λv I' M'=>K (put o.dst (.val v) F) C I' M'):bE X o F C I M K:=by
 refine⟨λa w Q ⟨β,ba⟩=>?_⟩;obtain⟨cz,Mr,post,a2,ax,ae⟩:=h;obtain⟨fn,tmps,assign,body,aT,al⟩:=ax w (ba.holds.part a2);have aC:=uq ba.ak jx;have dO:args.map a.eval=vs.toArray:=by apply hJ;simpa using aC
 have aA:=dJ ba.ak ar;obtain⟨dst,op,ty,pos,after,guard⟩:=o;simp only at aD;subst aD;refine⟨λ_ _=>trivial,?_⟩;rw[Kb _ _ _ (by simp)];have ff:(execOp a.eval ⟨dst,.call { callee:=.value f,args,argTypes:=ts },ty,pos,after,guard⟩).run X.P w=.ok (.round l fn tmps assign body) w:=by simp only[execOp,resolve,aA,Deferred.ofValue,cG,dv,ck,dO,invoke];simpa using aT
 rw[ff,Oper.uponIn_round];refine⟨(λh=>by cases h),?_⟩;have hf:RoundIn (hK X) (0-1) X.P l fn tmps assign body w _:=al;refine hf.mono ?_;rintro e w'⟨v,I',M',rfl,aK,r4,fN⟩;exact⟨_,_,_,_,⟨β,(ba.after a2 r4 fN).put (x:=.val v) ah rfl⟩,ae v I' M' fN.le aK⟩
def Iter(P:Program)(g:Nat)(cap:List Value)(I:a5)(qk:List (List Value)):Prop:=
 ∀ (l:Nat) (R:Nat->a5->List aF->Prop) (tn:a5->List aF->Prop),(∀ k (ae:k<qk.length) I' M',(∀ b o,I b=some o->I' b=some o)->R k I' M'->G5 P l qk[k] I' M' λv G6 oP=>(v=.bool true/\R (k+1) G6 oP)\/(v=.bool false/\tn G6 oP)) -> ∀ dZ M0,(∀ b o,I b=some o->dZ b=some o)->R 0 dZ M0->w4 P g (.func (.yield l) #[] #[]::cap) dZ M0 λ_ I' M'=>R qk.length I' M'\/tn I' M'
def G7:List Nat->List Value->Fr->Fr
 |t::ps,v::vs,F=>G7 ps vs (hr F t (.val v))| _,_,F=>F
def agp(cL:List Nat)(N:a5->List aF->Prop)(tn:vA->a5->List aF->Prop):mi:=λex F C I M=>match ex with
 | .normal=>xe cL I M N| ex=>xe cL I M (tn ex)
def Ek:vA->Option Code
 | .normal=>none| .exit id=>some (.exit id)| .goto l=>some (.goto l)| .ret=>some .ret
section
variable{X:dw}{β:Nat->Nat}{a:Act}{w:World}{F:Fr}{C:dX}{I:a5}{M:List aF}
def VT:∀ (ps:List Nat) (vs:List Value) (F:Fr) (tmps:Array Value),(∀ t∈ps,t<tmps.size)->(∀ t,fe β (F t) (tmps.getD t undef)) ->
  let r:=(ps.zip vs).foldl (λ(tmps:Array Value) (p:Nat×Value)=>tmps.setIfInBounds p.1 p.2) tmps
  r.size=tmps.size/\∀ t,fe β (G7 ps vs F t) (r.getD t undef)
 |[],vs,F,tmps,_,h=>⟨rfl,h⟩| t::ps,[],F,tmps,_,h=>⟨rfl,h⟩
 |t::ps,v::vs,F,tmps,aK,h=>by
  have U:∀ s,fe β (hr F t (.val v) s) ((tmps.setIfInBounds t v).getD s undef):=λs=>by have:=OB (β:=β) (F:=F) (a:=⟨tmps,[]⟩) h (d:=t) (x:=.val v) (v:=v) (aK t (by simp)) rfl s;exact this
  have be:=VT ps vs (hr F t (.val v)) (tmps.setIfInBounds t v) (λs ax=>by simpa using aK s (by simp[ax])) U;simp only[List.zip_cons_cons,uj,G7];exact⟨by simpa using be.1,be.2⟩
def db.VU(h:db X β a w F C I M):db X β { a with defers:=yT w.heap.size::a.defers } (w.alloc (.deferred (some []))) F C I M where
 size:=h.size
 defers:=by
  obtain⟨bj,U,aa,af⟩:=h.defers;refine⟨w.heap.size::bj,by simp[U],?_,?_⟩;·rw[mN];refine⟨λhm=>?_,aa⟩;have:=(ma.1 (af _ hm).ai).1;omega
  ·intro r al;rcases eu.1 al with rfl | al
   ·exact⟨Oz w _,h.sz,h.holds.td,h.holds.r3⟩
   ·exact(af r al).alloc _
 holds:=h.holds.alloc _
 ak:=h.ak
 cC s cs ax:=(h.cC s cs ax).alloc _
 inj:=h.inj
 iY:=h.iY
 ih:=h.ih
 own:=h.own
 dS:=OD h.dS h.sz _
 out:=h.out
 sz:=by have:=h.sz;simp;omega
def db.G8{n:Nat}{o':Obj}(h:db X β a w F C I (⟨n,o⟩::M)):db X β a (w.putObj n o') F C I M:=by
 have gx:(⟨n,o⟩:aF)∈(⟨n,o⟩:aF)::M:=by simp
 have bV:=h.holds.aG;simp only[dQ,mN]at bV;exact {
  size:=h.size
  defers:=h.defers.mono λr al=>by have bM:n≠r:=al.fh _ gx;refine { al with ai:=?_,fh:=λx ab=>al.fh x (by simp[ab]) };rw[nY (s9 bM)];exact al.ai
  holds:={
   i:=λb o jY=>by rw[nY (λe=>by have:=h.holds.d _ gx;simp only at this;rw[e,this]at jY;cases jY)];exact h.holds.i b o jY
   m:=λx ab=>by rw[nY (λe=>bV.1 (eh.2 ⟨x,ab,e⟩))];exact h.holds.m x (by simp[ab])
   d:=λx ab=>h.holds.d x (by simp[ab])
   aG:=bV.2 }
  ak:=h.ak
  cC:=λs cs ax=>by have ag:=h.cC s cs ax;have bM:n≠β s:=ag.fh _ gx;obtain⟨T,bO⟩:=ag.ai;refine { ag with ai:=⟨T,?_⟩,fh:=λx ab=>ag.fh x (by simp[ab]) };rw[nY (s9 bM)];exact bO
  inj:=h.inj
  iY:=h.iY
  ih:=h.ih
  own:=λx ab=>h.own x (by simp[ab])
  dS:=λb ag ar=>by
   rw[nY (λe=>by
    rcases h.own _ gx with U | U;·simp only at U;exact ar (e ▸ U)
    ·simp only at U;omega)]
   exact h.dS b ag ar
  out:=h.out.trans (Kh _ _ _)
  sz:=by have:=h.sz;simpa using this }
def cq.range{K:mi}{ps:Array Nat}{fO body:Code}{cap:Array Value}{qk:List (List Value)}(aW:dm X.P X.E)(mR:X.ro=none)(bw:(codeOk X.n fO&&(codeOk X.n body&&ps.toList.all (λt=>Nat.blt t X.n)))=true)(agq:bU F f=.val (.func (.func g) #[] cap)){cW:a5}{M1:List aF}(gO:lr X.cL I M cW M1)(agr:Iter X.P g cap.toList cW qk)(cg:∀ vs∈qk,vs.length=ps.size)(R:Nat->a5->List aF->Prop)(tn:vA->a5->List aF->Prop)(start:R 0 cW M1)(round:∀ k (ae:k<qk.length) I' M',(∀ b o,cW b=some o->I' b=some o)->R k I' M'->∀ l B ay j4,V ⟨X.P,X.E,X.hs,X.n,B,ay,I',M'.map (·.num),some l⟩ fO (G7 ps.toList qk[k] F) (λ_=>none) I' M' (Cc (λF C I M=>V ⟨X.P,X.E,X.hs,X.n,B,j4,I',M'.map (·.num),some l⟩ body F C I M (agp (M'.map (·.num)) (R (k+1)) tn)) (λ_ _ _ _ _=>False)))(done:∀ I' M',(∀ b o,cW b=some o->I' b=some o)->R qk.length I' M'->K .normal F C I' M')(stop:∀ ex I' M',(∀ b o,cW b=some o->I' b=some o)->tn ex I' M'->ex≠.normal/\K ex F C I' M') :
  cq X (.rangeFunc f ps fO body) F C I M K:=by
 refine⟨λa w ⟨β,kN⟩=>?_⟩;have ba:=kN.j0 gO;simp only[ct]at bw;obtain⟨q4,gb,to⟩:=bw;refine wpIn_rangeFunc λfn _=>?_;let h9 (s:LoopState) (q0:Option Code):Loop:={ state:=s,pending:=q0,fn:=fn,tmps:=a.tmps,params:=ps,assign:=fO,body:=body,defers:=w.heap.size }
 let l:=w.heap.size+1
 let kq:World:=(w.alloc (.deferred (some []))).alloc (.loop (h9 .ready none))
 have Ck:=ba.VU.qb (.loop (h9 .ready none));have aE:(w.alloc (.deferred (some []))).heap.size=l:=by simp[l]
 rw[aE]at Ck;let j5 (k:Nat) (I':a5) (M':List aF):Prop:=∃ dU,M'=⟨l,.loop (h9 .ready none)⟩::dU/\R k I' dU
 let VV (I':a5) (M':List aF):Prop:=∃ ex c dU,Ek ex=some c/\M'=⟨l,.loop (h9 .done (some c))⟩::dU/\tn ex I' dU
 have aT:∀ k (ae:k<qk.length) I' M',(∀ b o,cW b=some o->I' b=some o)->j5 k I' M'->G5 X.P l qk[k] I' M' λv G6 oP=>(v=.bool true/\j5 (k+1) G6 oP)\/(v=.bool false/\VV G6 oP):=by
  rintro k ae I' _ bz⟨dU,rfl,ags⟩W hd;have G9:W.heap[l]?=some (.loop (h9 .ready none)):=hd.m ⟨l,.loop (h9 .ready none)⟩ (by simp);have a0:l<W.heap.size:=(ma.1 G9).1;have bV:=hd.aG;simp only[dQ,mN]at bV;have VW:I' l=none:=hd.d ⟨l,.loop (h9 .ready none)⟩ (by simp);refine⟨_,_,_,_,run_yield G9 (by simpa using cg _ (dr ae)),?_⟩;have O8:((h9 LoopState.ready none).params.zip qk[k].toArray).foldl (λtmps (x:Nat×Value)=>match x with | (t,a)=>tmps.setIfInBounds t a) (h9 LoopState.ready none).tmps=(ps.toList.zip qk[k]).foldl (λ(tmps:Array Value) (p:Nat×Value)=>tmps.setIfInBounds p.1 p.2) a.tmps:=by rw[<-Oq];simp[h9]
  have O9:=VT (β:=β) ps.toList qk[k] F a.tmps (λt aI=>by
   have:=hI.1 to t aI;rw[ba.size];exact bP this) ba.ak
  rw[<-O8]at O9;refine roundIn_of_wpIn (F:=Fence.wide) (n:=0) trivial ?_;let xu:dw:=⟨X.P,X.E,X.hs,X.n,W.heap.size,W,I',dU.map (·.num),some l⟩
  let j4:=W.putObj l (.loop (h9 .busy none))
  let G':dw:=⟨X.P,X.E,X.hs,X.n,W.heap.size,j4,I',dU.map (·.num),some l⟩
  have aj:=round k ae I' dU bz ags l W.heap.size W j4;have GH:db xu β { tmps:=((h9 LoopState.ready none).params.zip qk[k].toArray).foldl (λtmps (x:Nat×Value)=>match x with | (t,a)=>tmps.setIfInBounds t a) (h9 LoopState.ready none).tmps,defers:=[] } W (G7 ps.toList qk[k] F) (λ_=>none) I' dU:={
   size:=O9.1.trans ba.size
   defers:=⟨[],rfl,yO,λr al=>by cases al⟩
   holds:=⟨hd.i,λx ab=>hd.m x (by simp[ab]),λx ab=>hd.d x (by simp[ab]),bV.2⟩
   ak:=O9.2
   cC:=λs cs ax=>by cases ax
   inj:=λs cH U=>by simp at U
   iY:=λb o ag=>ag
   ih:=λb o ag=>.inl ag
   own:=λx ab=>.inl (eh.2 ⟨x,ab,rfl⟩)
   dS:=λb ag ar=>rfl
   out:=.refl _
   sz:=b2 _ }
  have Kq:=r6 (X:=xu) aW fO q4 ⟨β,GH⟩ aj;refine wpIn_mono (Q:=nr xu _) Kq ?_;intro e bW h4 ax;cases e with
  |exit id=>obtain⟨_,_,_,_,_,ae⟩:=ax;exact ae.elim
  |goto id=>obtain⟨_,_,_,_,_,ae⟩:=ax;exact ae.elim
  |ret=>obtain⟨_,_,_,_,_,ae⟩:=ax;exact ae.elim
  |panic vB=>exact ax.elim| outgrown=>exact ax.elim
  |normal=>
   obtain⟨lU,agt,eC,xv,⟨VX,k9⟩,Ea⟩:=ax;have AA:h4.heap[l]?=some (.loop (h9 .ready none)):=by rw[k9.dS l a0 bV.1];exact G9
   refine⟨_,run_beginRound AA rfl,?_⟩;have agu:eC l=none:=by
    cases bX:eC l with
    |none=>rfl
    |some o=>
     rcases k9.ih _ _ bX with U | U;·rw[show xu.dZ=I' from rfl,VW]at U;cases U
     ·exact absurd U (Nat.not_le.2 a0)
   have agv:∀ x∈xv,x.num≠l:=λx ab e=>by
    rcases k9.own x ab with U | U;·rw[e]at U;exact bV.1 U
    ·rw[e]at U;exact absurd U (Nat.not_le.2 a0)
   have y1:db G' VX bW (h4.putObj l (.loop (h9 .busy none))) lU agt eC xv:={
    size:=k9.size
    defers:=by obtain⟨bj,a3,a6,bN⟩:=k9.defers;refine⟨bj,a3,a6,λr hv=>?_⟩;have al:=bN r hv;refine { ai:=?_,aq:=al.aq,kI:=al.kI,fh:=al.fh };rw[nY (λe=>by have U:=al.ai;rw[e,AA]at U;cases U)];exact al.ai
    holds:={
     i:=λb o jY=>by rw[nY (λe=>by rw[e,agu]at jY;cases jY)];exact k9.holds.i b o jY
     m:=λx ab=>by rw[nY (agv x ab)];exact k9.holds.m x ab
     d:=k9.holds.d
     aG:=k9.holds.aG }
    ak:=k9.ak
    cC:=λs cs ax=>by have ag:=k9.cC s cs ax;obtain⟨T,bO⟩:=ag.ai;refine { ai:=⟨T,?_⟩,aq:=ag.aq,kI:=ag.kI,fh:=ag.fh };rw[nY (λe=>by rw[e,AA]at bO;cases bO)];exact bO
    inj:=k9.inj
    iY:=k9.iY
    ih:=k9.ih
    own:=k9.own
    dS:=λb ag ar=>by
     by_cases e:b=l;·subst e;rw[Ei (ma.1 AA).1];exact(Ei a0).symm
     ·rw[nY e];show _=(W.putObj l (.loop (h9 .busy none))).heap[b]?;rw[nY e];exact k9.dS b ag ar
    out:=⟨k9.out.1,k9.out.2⟩
    sz:=by have:=k9.sz;simpa using this }
   have agw:=r6 (X:=G') aW body gb ⟨VX,y1⟩ Ea;refine wpIn_mono (Q:=nr G' _) agw ?_;have fin:∀ (dh:Act) (jz:World) (xw:Fr) (xx:dX) (la:a5) (tp:List aF) (jump:Option Code),Rel G' dh jz xw xx la tp->∃ j6,(Instr.endRound l jump).run X.P jz=.ok (.bool jump.isNone) j6 /\
     e1 la (⟨l,.loop (h9 (if jump.isNone then .ready else .done) jump)⟩::tp) j6/\Kept I' (⟨l,.loop (h9 .ready none)⟩::dU) W la (⟨l,.loop (h9 (if jump.isNone then .ready else .done) jump)⟩::tp) j6:=by
    rintro dh jz xw xx la tp jump⟨AB,af⟩;have Cl:jz.heap[l]?=some (.loop (h9 .busy none)):=by rw[af.dS l a0 bV.1];exact Ei a0
    have VY:la l=none:=by
     cases bX:la l with
     |none=>rfl
     |some o=>
      rcases af.ih _ _ bX with U | U;·rw[show G'.dZ=I' from rfl,VW]at U;cases U
      ·exact absurd U (Nat.not_le.2 a0)
    have VZ:∀ x∈tp,x.num≠l:=λx ab e=>by
     rcases af.own x ab with U | U;·rw[e]at U;exact bV.1 U
     ·rw[e]at U;exact absurd U (Nat.not_le.2 a0)
    refine⟨_,run_endRound jump Cl,?_,?_⟩
    ·exact {
      i:=λb o jY=>by rw[nY (λe=>by rw[e,VY]at jY;cases jY)];exact af.holds.i b o jY
      m:=λx ab=>by
       rcases eu.1 ab with rfl | ab;·exact Ei (ma.1 Cl).1
       ·rw[nY (VZ x ab)];exact af.holds.m x ab
      d:=λx ab=>by
       rcases eu.1 ab with rfl | ab;·exact VY
       ·exact af.holds.d x ab
      aG:=by
       simp only[dQ,mN];refine⟨λhm=>?_,af.holds.aG⟩;obtain⟨x,ab,e⟩:=eh.1 hm;exact VZ x ab e }
    ·exact {
      le:=af.iY
      vv:=af.ih
      w3:=λx ab=>by
       rcases eu.1 ab with rfl | ab;·exact .inl ⟨⟨l,.loop (h9 .ready none)⟩,by simp,rfl⟩
       ·rcases af.own x ab with U | U
        ·obtain⟨y,aT,e⟩:=eh.1 U;exact .inl ⟨y,by simp[aT],e⟩
        ·exact .inr U
      dS:=λb ag bM=>by
       have q5:b≠l:=λe=>bM ⟨l,.loop (h9 .ready none)⟩ (by simp) e.symm;rw[nY q5,af.dS b ag (λhm=>by
        obtain⟨y,aT,e⟩:=eh.1 hm;exact bM y (by simp[aT]) e)]
       exact nY q5
      out:=⟨af.out.1,af.out.2⟩
      sz:=by have:=af.sz;simpa using this }
   intro e dh jz xy;cases e with
   |normal=>obtain⟨xw,xx,la,tp,⟨AB,af⟩,⟨ql,tq,Cm,aK⟩⟩:=xy;obtain⟨j6,aN,bq,bp⟩:=fin dh jz xw xx ql tq none ⟨AB,af.j0 Cm⟩;exact⟨_,j6,aN,_,_,_,rfl,.inl ⟨rfl,_,rfl,aK⟩,bq,bp⟩
   |exit id=>obtain⟨xw,xx,la,tp,⟨AB,af⟩,⟨ql,tq,Cm,aK⟩⟩:=xy;obtain⟨j6,aN,bq,bp⟩:=fin dh jz xw xx ql tq (some (.exit id)) ⟨AB,af.j0 Cm⟩;exact⟨_,j6,aN,_,_,_,rfl,.inr ⟨rfl,.exit id,_,_,rfl,rfl,aK⟩,bq,bp⟩
   |goto id=>obtain⟨xw,xx,la,tp,⟨AB,af⟩,⟨ql,tq,Cm,aK⟩⟩:=xy;obtain⟨j6,aN,bq,bp⟩:=fin dh jz xw xx ql tq (some (.goto id)) ⟨AB,af.j0 Cm⟩;exact⟨_,j6,aN,_,_,_,rfl,.inr ⟨rfl,.goto id,_,_,rfl,rfl,aK⟩,bq,bp⟩
   |ret=>obtain⟨xw,xx,la,tp,⟨AB,af⟩,⟨ql,tq,Cm,aK⟩⟩:=xy;obtain⟨j6,aN,bq,bp⟩:=fin dh jz xw xx ql tq (some .ret) ⟨AB,af.j0 Cm⟩;exact⟨_,j6,aN,_,_,_,rfl,.inr ⟨rfl,.ret,_,_,rfl,rfl,aK⟩,bq,bp⟩
   |panic vB=>exact xy.elim| outgrown=>exact xy.elim
 obtain⟨qV,Ca⟩:=agr l j5 VV aT cW (⟨l,.loop (h9 .ready none)⟩::M1) (λ_ _ h=>h) ⟨M1,rfl,start⟩;have nB:=Ca kq Ck.holds;have aA:=dJ ba.ak agq;refine⟨l,[yT w.heap.size],kq,{ target:=.fn (.func g) cap,args:=#[.func (.yield l) #[] #[]] },kq,g,(.func (.yield l) #[] #[]::cap.toList).toArray,kq,?_,?_,λ_ _=>trivial,?_,(λh=>by cases h),?_⟩
 ·have O':(hK X).round=none:=mR;rw[O'];exact run_enterLoop_outer fn a.tmps ps fO body
 ·show(Deferred.ofValue (a.eval f) (#[Operand.const (.func (.yield l) #[] #[])].map a.eval)).run X.P kq=_;rw[aA];simp[Deferred.ofValue,Act.eval]
 ·simp only[invoke];rw[show #[Value.func (.yield l) #[] #[]]++cap=(.func (.yield l) #[] #[]::cap.toList).toArray from by apply hJ;simp];exact qV _ _
 ·refine(OG (X:=X) nB _).mono ?_;rintro e jz⟨v,I',M',rfl,aK,r4,fN⟩;have xz:=Ck.after (Mr:=[]) (by simp) r4 fN;rw[eo]at xz;have bz:=fN.le;rcases aK with⟨dU,rfl,agx⟩ | ⟨ex,c,dU,aJ,rfl,agy⟩
  ·refine⟨none,_,run_endLoop (r4.m ⟨l,.loop (h9 .ready none)⟩ (by simp)) (by simp[h9]),?_⟩;exact⟨F,C,I',dU,⟨β,xz.G8⟩,done I' dU bz agx⟩
  ·refine⟨some c,_,run_endLoop (r4.m ⟨l,.loop (h9 .done (some c))⟩ (by simp)) (by simp[h9]),?_⟩;obtain⟨bM,ae⟩:=stop ex I' dU bz agy;cases ex with
   |normal=>exact(bM rfl).elim| exit id=>cases aJ;exact wpIn_exit ⟨F,C,I',dU,⟨β,xz.G8⟩,ae⟩| goto id=>cases aJ;exact wpIn_goto ⟨F,C,I',dU,⟨β,xz.G8⟩,ae⟩| ret=>cases aJ;exact wpIn_ret ⟨F,C,I',dU,⟨β,xz.G8⟩,ae⟩
end
structure bf where
 a:Option Nat
 n:Nat
 c:Nat
 aY:List Value
def bf.val(o:bf):Value:=.slice (o.a.map λg=>⟨g,0,none⟩) o.n o.c
def bf.aO(o:bf)(e:Nat):List aF:=match o.a with
 |some g=>[⟨g,.cells o.aY.toArray e (0,0)⟩]| none=>[]
structure bf.ok(o:bf)(size:Nat)(xs:List Value):Prop where
 len:xs.length=o.n*size
 nil:o.a=none->o.n=0/\o.c=0
 cap:∀ g,o.a=some g->o.aY.length=o.c*size/\o.n<=o.c/\o.c<=maxLen/\o.aY.take (o.n*size)=xs
section
variable{P:Program}{w:World}
def V0(t u ty e:Nat)(i:TypeInfo)(z:Value)(aI:P.underlying t=some (.slice e))(hu:P.underlying u=some pz)(q6:∀ k,pz≠.int k)(hi:P.info? e=some i)(bk:i.zero=some z)(y7:z.cells.size=i.size)
  {os:bf} (bw:os.ok i.size xs) (aB:∀ g,os.a=some g->w.heap[g]?=some (.cells os.aY.toArray e (0,0)))
  {x:Value} (hm:0<m) (aE:dd.length=m*i.size) (U:∀ v∈dd,v.oneCell'=true)
  (cg:∀ w',(Builtin.lenOf x).run P w'=.ok m w') (hy:∀ w':World,w'.heap=w.heap->(Builtin.firstCells i.size m x).run P w'=.ok dd.toArray w')
  (b1:os.n+m<=maxLen) (ch:(os.n+m)*i.bytes<=140737488355328) :
  ∃ (g c:Nat) (aY:List Value) (w':World),(Builtin.append_ #[t,u] ty #[os.val,x]).run P w=.ok (.slice (some ⟨g,0,none⟩) (os.n+m) c) w'/\aY.length=c*i.size/\os.n+m<=c/\c<=maxLen/\aY.take ((os.n+m)*i.size)=xs++dd /\
   ((os.a=some g/\w'=w.setRow g aY.toArray)\/(g=w.heap.size/\w'=w.drew.alloc (.cells aY.toArray e (0,0)))):=by
 obtain⟨a,n,c,aY⟩:=os;have Pa:(xs++dd).length=(n+m)*i.size:=by rw[di,bw.len,aE,j3]
 have V1:∀ dS,(xs++dd++(Builtin.zeroCells z.cells (grownCap w (n+m) dS e-(n+m))).toList).length=grownCap w (n+m) dS e*i.size/\n+m<=grownCap w (n+m) dS e/\grownCap w (n+m) dS e<=maxLen /\
   (xs++dd++(Builtin.zeroCells z.cells (grownCap w (n+m) dS e-(n+m))).toList).take ((n+m)*i.size)=xs++dd:=by
  intro dS;have cE:=grownCap_ge w (n+m) dS e;have nC:grownCap w (n+m) dS e<=maxLen:=grownCap_le_maxLen w (n+m) dS e b1;refine⟨?_,cE,nC,?_⟩;·rw[di,Pa,Av,size_zeroCells,y7,<-j3];congr 1;omega
  ·rw[<-Pa];exact G0
 have Ha:(match pz with | .int _=>true | _=>false)=false:=by cases pz<;>first | rfl | exact(q6 _ rfl).elim
 have jN:n+m<=9223372036854775807:=by simp only[maxLen]at b1;exact b1
 cases a with
 |none=>
  obtain⟨hP,El⟩:=bw.nil rfl;simp only at hP El;subst hP;subst El;have ab:xs=[]:=nx (by simpa using bw.len);subst ab;simp only[dp,nz]at *;have ay:0<m:=hm;have az:m≠0:=by omega
  have Hb:¬ (9223372036854775807<(m:Int)):=by omega
  have Hc:¬ (281474976710656<Builtin.nextslicecap m 0*i.bytes):=by rw[nextslicecap_zero ay];omega
  have ar:=hy w.drew rfl;obtain⟨a3,a6,bN,gP⟩:=V1 0;refine⟨w.heap.size,grownCap w m 0 e,_,w.drew.alloc (.cells (dd++(Builtin.zeroCells z.cells (grownCap w m 0 e-m)).toList).toArray e),?_,a3,a6,bN,gP,.inr ⟨rfl,rfl⟩⟩;simp[bf.val,Builtin.append_,run_underlying aI,run_underlying hu,sizeOf,typeInfo,zeroValue,hi,bk,cg,az,Hb,Hc,Question.forced,run_firstCells_none,ar,newRow,grownCap];congr 2;apply hJ;simp
 |some g=>
  obtain⟨ft,oQ,nC,kO⟩:=bw.cap g rfl;have Pb:=aB g rfl;simp only at ft oQ nC kO Pb;by_cases uF:n+m<=c
  ·have hz:n*i.size+dd.length<=aY.length:=by rw[aE,ft,<-j3];exact s7 _ uF
   have cR:=run_storeCells_at P g (n*i.size) e dd 0 aY.toArray w Pb (by simpa using hz) U;simp only[p']at cR;refine⟨g,c,aY.take (n*i.size)++dd++aY.drop (n*i.size+dd.length),_,?_,?_,uF,nC,?_,.inl ⟨rfl,rfl⟩⟩;·have ar:=hy w rfl;simp[bf.val,Builtin.append_,run_underlying aI,run_underlying hu,sizeOf,typeInfo,hi,cg,uF,ar,Addr.add_lit,cR]
   ·simp only[di,mV,Ax];omega
   ·rw[kO,<-Pa];exact G0
  ·have az:¬ (n+m<=c):=by omega
   have Hb:¬ (9223372036854775807<((n:Int)+(m:Int))):=by omega
   have Hc:¬ (281474976710656<Builtin.nextslicecap (n+m) c*i.bytes):=by have:=growslice_fits (by omega:c<n+m) ch;omega
   have ar:=hy w.drew rfl;have agz:∀ j v,xs[j]?=some v->w.drew.cell? ((⟨g,0,none⟩:Addr).add j)=some v:=by
    intro j v an;have Pc:w.drew.heap[g]?=some (.cells aY.toArray e (0,0)):=Pb;rw[dY _ rfl,w6 Pc];rw[<-kO,mM]at an;split at an;·simpa using an
    ·cases an
   have gQ:=run_firstCells_some (P:=P) w.drew i.size n ⟨g,0,none⟩ n c xs bw.len agz;obtain⟨a3,a6,bN,gP⟩:=V1 c;refine⟨w.heap.size,grownCap w (n+m) c e,_,w.drew.alloc (.cells (xs++dd++(Builtin.zeroCells z.cells (grownCap w (n+m) c e-(n+m))).toList).toArray e),?_,a3,a6,bN,gP,.inr ⟨rfl,rfl⟩⟩;simp[bf.val,Builtin.append_,run_underlying aI,run_underlying hu,sizeOf,typeInfo,zeroValue,hi,bk,cg,az,Hb,Hc,Question.forced,ar,gQ,newRow,grownCap];congr 2;apply hJ;simp
end
section
variable{X:dw}{β:Nat->Nat}{a:Act}{w:World}{F:Fr}{C:dX}{I:a5}{M:List aF}{o:Oper}{K:hb}
def Pd(aW:dm X.P X.E)(aD:o.op=.call { callee:=.builtin .append,args:=#[s,x],argTypes:=#[t,u] })(ah:∀ d,o.dst=some d->d<X.n)
 (aI:X.E t=some dT) (eS:dT.bT=.slice e) (hu:X.E u=some oO) (gK:∀ k,oO.bT≠.int k) (he:X.E e=some aP)
  (os:bf) (bw:os.ok aP.size xs) (ax:bU F s=.val os.val)
 (ab:bU F x=.val xt) (hm:0<m) (aE:dd.length=m*aP.size) (U:iW dd=true)
  (cg:∀ w',(Builtin.lenOf xt).run X.P w'=.ok m w') (hy:∀ w,e1 I M w->(Builtin.firstCells aP.size m xt).run X.P w=.ok dd.toArray w)
 (a2:M.Perm (os.aO e++Mr)) (b1:os.n+m<=maxLen) (ch:(os.n+m)*aP.bytes<=140737488355328)
  (k:∀ (g c:Nat) (aY:List Value),I g=none->aY.length=c*aP.size->os.n+m<=c->c<=maxLen->aY.take ((os.n+m)*aP.size)=xs++dd ->
   K (put o.dst (.val (.slice (some ⟨g,0,none⟩) (os.n+m) c)) F) C I (⟨g,.cells aY.toArray e (0,0)⟩::Mr)):bE X o F C I M K:=by
 refine⟨λa w Q ⟨β,kN⟩=>?_⟩;have ba:db X β a w F C I (os.aO e++Mr):=kN.j0 (.perm a2 .refl);obtain⟨inf,z,hi,gL,j1,kl,mQ⟩:=(aW _ _ he).inf;obtain⟨d,fH,gd⟩:=(aW _ _ hu).fM;obtain⟨ja,qm,mW⟩:=(aW _ _ aI).fM;have vI:ja=.slice e:=by rw[eS]at mW;cases ja<;>simp_all[fF]
 subst vI;have y7:z.cells.size=inf.size:=by rw[gL,<-(aW _ _ he).len,<-mQ];simp
 rw[<-gL]at bw aE hy;obtain⟨g,c,aY,w',ff,a3,a6,bN,gP,pA⟩:=V0 (P:=X.P) (w:=w) t u o.type e inf z qm fH (λk a'=>gK k (by rw[<-gd,a'];rfl)) hi kl y7 bw (λg aB=>ba.holds.m ⟨g,.cells os.aY.toArray e (0,0)⟩ (by simp[bf.aO,aB])) (x:=xt) hm aE (B1 U) cg (λw' Pe=>hy w' (kN.holds.heap Pe)) b1 (by rw[j1];exact ch);rw[gL]at a3 gP;have Pf:I g=none:=by
  rcases pA with⟨aB,_⟩ | ⟨rfl,_⟩;·exact ba.holds.d ⟨g,.cells os.aY.toArray e (0,0)⟩ (by simp[bf.aO,aB])
  ·cases bX:I w.heap.size with
   |none=>rfl| some pB=>have:=ba.holds.i _ _ bX;simp at this
 have es:=dJ ba.ak ax;have ex:=dJ ba.ak ab;refine kk (by rw[aD];simp) (v:=.slice (some ⟨g,0,none⟩) (os.n+m) c) (w':=w') ?_ ⟨_,_,_,_,⟨β,db.put (x:=.val (.slice (some ⟨g,0,none⟩) (os.n+m) c)) ?_ ah rfl⟩,k g c aY Pf a3 a6 bN gP⟩
 ·unfold execOp;simp only[aD,resolve,invoke,builtin,cG,dv,ck,xp,dQ,oN,es,ex,ff]
 ·rcases pA with⟨aB,rfl⟩ | ⟨rfl,rfl⟩
  ·have ag:os.aO e=[⟨g,.cells os.aY.toArray e (0,0)⟩]:=by simp[bf.aO,aB]
   rw[ag]at ba;exact ba.Ag (bi:=[]) (post:=Mr) rfl
  ·have aa:db X β a w.drew F C I (os.aO e++Mr):=ba.world rfl;have af:=aa.qb (.cells aY.toArray e (0,0));refine af.j0 (.sub ?_ .refl);exact List.Sublist.cons_cons _ (mU _ _)
def bE.append(aW:dm X.P X.E)(aD:o.op=.call { callee:=.builtin .append,args:=#[s,x],argTypes:=#[t,t] })(ah:∀ d,o.dst=some d->d<X.n)
 (aI:X.E t=some dT) (eS:dT.bT=.slice e) (he:X.E e=some aP)
  (os:bf) (bw:os.ok aP.size xs) (ax:bU F s=.val os.val)
 (ab:bU F x=.val (.slice (some ad) m c')) (hm:0<m) (az:cx I M ad (m*aP.size) dd) (U:iW dd=true)
 (a2:M.Perm (os.aO e++Mr)) (b1:os.n+m<=maxLen) (ch:(os.n+m)*aP.bytes<=140737488355328)
  (k:∀ (g c:Nat) (aY:List Value),aY.length=c*aP.size->os.n+m<=c->c<=maxLen->aY.take ((os.n+m)*aP.size)=xs++dd ->
   K (put o.dst (.val (.slice (some ⟨g,0,none⟩) (os.n+m) c)) F) C I (⟨g,.cells aY.toArray e (0,0)⟩::Mr)):bE X o F C I M K:=by
 refine Pd aW aD ah aI eS aI (λk=>by rw[eS];simp) he os bw ax ab hm ?_ U (λ_=>rfl) (λw hw=>?_) a2 b1 ch (λg c aY _=>k g c aY)
 ·obtain⟨_,_,_,_,_,_,h⟩:=az;exact h
 ·obtain⟨bL,cs,T,ak,ev,aj,aE⟩:=az;refine run_firstCells_some (P:=X.P) w aP.size m ad m c' dd aE λj v an=>?_;rw[dY _ bL,w6 (ev.heap hw)];rw[<-aj,mM]at an;split at an
  ·rw[s8]at an;simpa using an
  ·cases an
def bE.agA(aW:dm X.P X.E)(aD:o.op=.call { callee:=.builtin .append,args:=#[s,x],argTypes:=#[t,t] })(ah:∀ d,o.dst=some d->d<X.n)
 (aI:X.E t=some dT) (eS:dT.bT=.slice e) (he:X.E e=some aP)
  (os:bf) (bw:os.ok aP.size xs) (ax:bU F s=.val os.val)
 (ab:bU F x=.val (.slice (some ad) m c')) (hm:0<m) (az:cx I M ad (m*aP.size) dd) (U:iW dd=true)
 (a2:M.Perm (os.aO e++Mr)) (b1:os.n+m<=maxLen) (ch:(os.n+m)*aP.bytes<=140737488355328)
  (k:∀ (g c:Nat) (aY:List Value),I g=none->aY.length=c*aP.size->os.n+m<=c->c<=maxLen->aY.take ((os.n+m)*aP.size)=xs++dd ->
   K (put o.dst (.val (.slice (some ⟨g,0,none⟩) (os.n+m) c)) F) C I (⟨g,.cells aY.toArray e (0,0)⟩::Mr)):bE X o F C I M K:=by
 refine Pd aW aD ah aI eS aI (λk=>by rw[eS];simp) he os bw ax ab hm ?_ U (λ_=>rfl) (λw hw=>?_) a2 b1 ch k
 ·obtain⟨_,_,_,_,_,_,h⟩:=az;exact h
 ·obtain⟨bL,cs,T,ak,ev,aj,aE⟩:=az;refine run_firstCells_some (P:=X.P) w aP.size m ad m c' dd aE λj v an=>?_;rw[dY _ bL,w6 (ev.heap hw)];rw[<-aj,mM]at an;split at an
  ·rw[s8]at an;simpa using an
  ·cases an
def lY(s:ByteArray):List Value:=s.data.toList.map λb=>.int .u8 b.toNat
def bE.agB(aW:dm X.P X.E)(aD:o.op=.call { callee:=.builtin .append,args:=#[s,x],argTypes:=#[t,u] })(ah:∀ d,o.dst=some d->d<X.n)
 (aI:X.E t=some dT) (eS:dT.bT=.slice e) (hu:X.E u=some oO) (gK:oO.bT=.string) (he:X.E e=some aP) (cI:aP.size=1)
  (os:bf) (bw:os.ok aP.size xs) (ax:bU F s=.val os.val)
  {str:ByteArray} (ab:bU F x=.val (.string str)) (hm:0<str.size)
 (a2:M.Perm (os.aO e++Mr)) (b1:os.n+str.size<=maxLen) (ch:(os.n+str.size)*aP.bytes<=140737488355328)
  (k:∀ (g c:Nat) (aY:List Value),aY.length=c*aP.size->os.n+str.size<=c->c<=maxLen->aY.take ((os.n+str.size)*aP.size)=xs++lY str ->
   K (put o.dst (.val (.slice (some ⟨g,0,none⟩) (os.n+str.size) c)) F) C I (⟨g,.cells aY.toArray e (0,0)⟩::Mr)):bE X o F C I M K:=by
 refine Pd aW aD ah aI eS hu (λk=>by rw[gK];simp) he os bw ax ab hm ?_ ?_ (λ_=>rfl) (λw hw=>?_) a2 b1 ch (λg c aY _=>k g c aY)
 ·simp[lY,cI]
 ·refine hI.2 λv aj=>?_;obtain⟨b,_,rfl⟩:=eh.1 aj;rfl
 ·simp only[Builtin.firstCells,dv];congr 1;apply hJ;have aC:str.extract 0 str.size=str:=by apply w1;simp[J6]
  simp[lY,aC]
end
section
variable{X:dw}{F:Fr}{C:dX}{I:a5}{M:List aF}{o:Oper}{K:hb}
def V2(aI:P.underlying t=some (.array 4 e))(he:P.underlying e=some (.int k)){inf:TypeInfo}(hi:P.info? e=some inf)(ax:inf.size=1)(gk bW da dh pC b1 ch b9:Int)(w:World) :
  (Op.equal t (.agg #[.int k gk,.int k bW,.int k da,.int k dh]) (.agg #[.int k pC,.int k b1,.int k ch,.int k b9])).run P w=.ok (gk == pC&&(bW == b1&&(da == ch&&dh == b9))) w:=by
 have V3:∀ (xs:Array Value) (i:Nat) (v:Value) (w:World),xs[i]?=some v->(part e xs i).run P w=.ok v w:=λxs i v w h=>by
  have Gv:(isAgg e).run P w=.ok false w:=by unfold isAgg;simp[run_underlying he]
  unfold part;simp[Gv,sizeOf,typeInfo,hi,ax,h]
 have hint:∀ (d:Nat) (x y:Int) (w:World),(Op.equalIn (d+1) e (.int k x) (.int k y)).run P w=.ok (x == y) w:=λd x y w=>by simp[Op.equalIn,run_underlying he]
 have key:∀ m,(∀ (x y:Int) (w:World),(Op.equalIn m e (.int k x) (.int k y)).run P w=.ok (x == y) w)->(Op.equalIn (m+1) t (.agg #[.int k gk,.int k bW,.int k da,.int k dh]) (.agg #[.int k pC,.int k b1,.int k ch,.int k b9])).run P w=.ok (gk == pC&&(bW == b1&&(da == ch&&dh == b9))) w:=λm hint=>by
  rw[Op.equalIn];simp only[cG,run_underlying aI,ck,sizeOf,typeInfo,hi,run_program,dv,ax];simp only[VP];have al:List.range' 0 ([:4]:Std.Legacy.Range).size=[0,1,2,3]:=by decide
  rw[al];have pa:=λ(i:Nat) (v:Value) (w:World)=>V3 #[.int k gk,.int k bW,.int k da,.int k dh] i v w;have jl:=λ(i:Nat) (v:Value) (w:World)=>V3 #[.int k pC,.int k b1,.int k ch,.int k b9] i v w;simp only[List.forIn_cons,List.forIn_nil,cG];rw[pa (0*1) (.int k gk) w rfl];simp only[ck,cG];rw[jl (0*1) (.int k pC) w rfl];simp only[ck,cG];rw[hint];simp only[ck];cases(gk == pC);·simp
  simp only[r1,lN,mO,dv,ck,cG];rw[pa (1*1) (.int k bW) w rfl];simp only[ck,cG];rw[jl (1*1) (.int k b1) w rfl];simp only[ck,cG];rw[hint];simp only[ck];cases(bW == b1);·simp
  simp only[r1,lN,mO,dv,ck,cG];rw[pa (2*1) (.int k da) w rfl];simp only[ck,cG];rw[jl (2*1) (.int k ch) w rfl];simp only[ck,cG];rw[hint];simp only[ck];cases(da == ch);·simp
  simp only[r1,lN,mO,dv,ck,cG];rw[pa (3*1) (.int k dh) w rfl];simp only[ck,cG];rw[jl (3*1) (.int k b9) w rfl];simp only[ck,cG];rw[hint];simp only[ck];cases(dh == b9);·simp
  simp
 exact key 9999 (hint 9998)
def fU.V4{E:Env}(aW:dm P E)(aI:E t=some dT)(eS:dT.bT=.array 4 e)(he:E e=some aP)(mX:aP.bT=.int k)(aB:P.eqGuardType P.depth t=false){gk bW da dh pC b1 ch b9:Int}{V:Value->Prop}
  (h:V (.bool (gk == pC&&(bW == b1&&(da == ch&&dh == b9))))):fU P .eql t x y (.val (.agg #[.int k gk,.int k bW,.int k da,.int k dh])) (.val (.agg #[.int k pC,.int k b1,.int k ch,.int k b9])) V other:=by
 obtain⟨d,fH,gd⟩:=(aW _ _ aI).fM;obtain⟨q7,Pg,Ph⟩:=(aW _ _ he).fM;obtain⟨inf,z,hi,gL,_⟩:=(aW _ _ he).inf;have U:d=.array 4 e:=by rw[eS]at gd;cases d<;>simp_all[fF]
 have aa:q7=.int k:=by rw[mX]at Ph;cases q7<;>simp_all[fF]
 subst U;subst aa;have g3:inf.size=1:=by rw[gL];exact(aW _ _ he).Kc (by rw[mX];rfl)
 refine .mk _ _ _ rfl rfl (λw=>?_) h;simp only[cG,run_eqGuard_agg (hm:=aB),ck,binOp,V2 fH Pg hi g3,dv]
def fU.concat{a b:ByteArray}(ax:a.size+b.size<=9223372036854775807){V:Value->Prop}(h:V (.string (a++b))):fU P .add t x y (.val (.string a)) (.val (.string b)) V other:=by refine .mk _ _ _ rfl rfl (λw=>?_) h;simp only[cG,OF,ck,binOp,run_string_add_sum _ _ _ ax,dv]
end
section
variable{X:dw}{β:Nat->Nat}{a:Act}{w:World}{F:Fr}{C:dX}{I:a5}{M:List aF}{o:Oper}{K:hb}
def db.V5{n:Nat}{pB:Obj}{w':World}(h:db X β a w F C I (⟨n,pB⟩::M))(ax:w'.heap.size=w.heap.size)(ag:∀ b,b≠n->w'.heap[b]?=w.heap[b]?)(aD:pq w w'):db X β a w' F C I M:=by
 have gx:(⟨n,pB⟩:aF)∈(⟨n,pB⟩:aF)::M:=by simp
 have bV:=h.holds.aG;simp only[dQ,mN]at bV;exact {
  size:=h.size
  defers:=h.defers.mono λr al=>by have bM:n≠r:=al.fh _ gx;refine { al with ai:=?_,fh:=λx ab=>al.fh x (by simp[ab]) };rw[ag r (s9 bM)];exact al.ai
  holds:={
   i:=λb o jY=>by rw[ag b (λe=>by have:=h.holds.d _ gx;simp only at this;rw[e,this]at jY;cases jY)];exact h.holds.i b o jY
   m:=λx ab=>by rw[ag _ (λe=>bV.1 (eh.2 ⟨x,ab,e⟩))];exact h.holds.m x (by simp[ab])
   d:=λx ab=>h.holds.d x (by simp[ab])
   aG:=bV.2 }
  ak:=h.ak
  cC:=λs cs lS=>by have vD:=h.cC s cs lS;have bM:n≠β s:=vD.fh _ gx;obtain⟨T,bO⟩:=vD.ai;refine { vD with ai:=⟨T,?_⟩,fh:=λx ab=>vD.fh x (by simp[ab]) };rw[ag _ (s9 bM)];exact bO
  inj:=h.inj
  iY:=h.iY
  ih:=h.ih
  own:=λx ab=>h.own x (by simp[ab])
  dS:=λb a0 ar=>by
   rw[ag b (λe=>by
    rcases h.own _ gx with U | U;·simp only at U;exact ar (e ▸ U)
    ·simp only at U;omega)]
   exact h.dS b a0 ar
  out:=h.out.trans aD
  sz:=by rw[ax];exact h.sz }
def agC(w:World)(p:Addr)(n:Nat):(w.freeze p n).heap.size=w.heap.size:=by
 unfold World.freeze;split<;>simp
def agD(w:World)(p:Addr)(n:Nat):pq w (w.freeze p n):=by
 unfold World.freeze;split<;>exact⟨rfl,rfl⟩
def agE(w:World)(p:Addr)(n b:Nat)(h:b≠p.block):(w.freeze p n).heap[b]?=w.heap[b]?:=by
 unfold World.freeze;split
 ·rfl
 ·simp only[Array.getElem?_modify];rw[b8 (s9 h)]
def bE.Pj(aW:dm X.P X.E){p n:Operand}(aD:o.op=.call { callee:=.builtin .unsafeString,args:=#[p,n],argTypes:=#[vH,it] })(ah:∀ d,o.dst=some d->d<X.n)
 (aI:X.E vH=some dT) (eS:dT.bT=.pointer e) (he:X.E e=some aP) (mX:aP.size=1)
 {l:List UInt8} (aK:bU F p=.val (.pointer (some ⟨g,0,none⟩))) (az:bU F n=.val (.int .i64 l.length)) (ay:l≠[]) (Pk:l.length<=9223372036854775807)
 (a2:M.Perm (⟨g,.cells cs e (0,0)⟩::Mr)) (lS:cs.toList.take l.length=l.map λb=>.int .u8 b.toNat)
  (h:K (put o.dst (.val (.string ⟨l.toArray⟩)) F) C I Mr):bE X o F C I M K:=by
 refine⟨λa w Q ⟨β,kN⟩=>?_⟩;have ba:db X β a w F C I (⟨g,.cells cs e (0,0)⟩::Mr):=kN.j0 (.perm a2 .refl);have aB:w.heap[g]?=some (.cells cs e (0,0)):=ba.holds.m ⟨g,.cells cs e (0,0)⟩ (by simp);obtain⟨d,fH,gd⟩:=(aW _ _ aI).fM;have U:d=.pointer e:=by rw[eS]at gd;cases d<;>simp_all[fF]
 subst U;obtain⟨inf,z,hi,gL,_⟩:=(aW _ _ he).inf;have aJ:X.P.cellsOf e=1:=by simp[Program.cellsOf,hi,gL,mX]
 have cg:l.length<=cs.size:=by have:=congrArg List.length lS;simp only[mV,eW,Av]at this;omega
 have ff:=Lib.run_unsafeString_row (P:=X.P) w vH it o.type e fH aJ g cs.size (by simp[World.shape?,aB]) l ay cg Pk (λj x an=>by
  rw[dY _ rfl,w6 aB];have aa:(cs.toList.take l.length)[j]?=some (.int .u8 x.toNat):=by rw[lS];simp[an]
  rw[mM]at aa;split at aa;·simpa using aa
  ·cases aa)
 have Pl:=dJ ba.ak aK;have fB:=dJ ba.ak az;refine kk (by rw[aD];simp) (v:=.string ⟨l.toArray⟩) (w':=w.freeze ⟨g,0,none⟩ l.length) ?_ ⟨_,_,_,_,⟨β,db.put (x:=.val (.string ⟨l.toArray⟩)) (ba.V5 (agC _ _ _) (λb ag=>agE _ _ _ _ ag) (agD _ _ _)) ah rfl⟩,h⟩;unfold execOp;simp only[aD,resolve,invoke,builtin,cG,dv,ck,xp,dQ,oN,Pl,fB,ff]
def bE.V6{p n:Operand}(aD:o.op=.call { callee:=.builtin .unsafeString,args:=#[p,n],argTypes:=#[vH,it] })(ah:∀ d,o.dst=some d->d<X.n)
  {q:Option Addr} (aK:bU F p=.val (.pointer q)) (az:bU F n=.val (.int .i64 0)) (h:K (put o.dst (.val (.string .empty)) F) C I M):bE X o F C I M K:=by
 refine⟨λa w Q ⟨β,ba⟩=>?_⟩;have Pl:=dJ ba.ak aK;have fB:=dJ ba.ak az;refine w7 ba ah (by rw[aD];simp) ?_ h;unfold execOp;simp only[aD,resolve,invoke,builtin,cG,dv,ck,xp,dQ,oN,Pl,fB,Lib.run_unsafeString_none]
def bE.V7(aW:dm X.P X.E)(aD:o.op=.call { callee:=.builtin .copy,args:=#[x,y],argTypes:=#[t,u] })(ah:∀ d,o.dst=some d->d<X.n)
 (aI:X.E t=some dT) (eS:dT.bT=.slice e) (he:X.E e=some aP) (mX:aP.size=1)
 {off dl V8:Nat} {s:ByteArray} (ab:bU F x=.val (.slice (some ⟨g,off,none⟩) dl V8)) (aT:bU F y=.val (.string s)) (bz:s.size<=dl) (hz:off+s.size<=cs.size)
 (a2:M.Perm (⟨g,.cells cs T (0,0)⟩::Mr))
  (h:K (put o.dst (.val (.int .i64 s.size)) F) C I (⟨g,.cells (bQ cs.toList off (lY s)).toArray T (0,0)⟩::Mr)):bE X o F C I M K:=by
 refine⟨λa w Q ⟨β,kN⟩=>?_⟩;have ba:db X β a w F C I (⟨g,.cells cs T (0,0)⟩::Mr):=kN.j0 (.perm a2 .refl);have aB:w.heap[g]?=some (.cells cs T (0,0)):=ba.holds.m ⟨g,.cells cs T (0,0)⟩ (by simp);obtain⟨d,fH,gd⟩:=(aW _ _ aI).fM;have U:d=.slice e:=by rw[eS]at gd;cases d<;>simp_all[fF]
 subst U;obtain⟨inf,z,hi,gL,_⟩:=(aW _ _ he).inf;have aE:(lY s).length=s.size:=by simp[lY]
 have U:∀ v∈lY s,v.oneCell'=true:=λv aj=>by obtain⟨b,_,rfl⟩:=eh.1 aj;rfl
 have cR:=run_storeCells_at X.P g off T (lY s) 0 cs w aB (by rw[aE];simpa using hz) U;simp only[p']at cR;have Cn:Nat.min s.size dl=s.size:=Gn bz;have ar:(Builtin.firstCells inf.size s.size (.string s)).run X.P w=.ok (lY s).toArray w:=VR w inf.size s;have ex:=dJ ba.ak ab;have q8:=dJ ba.ak aT;have ik:=ba.Ag (bi:=[]) (post:=Mr) (cs':=(bQ cs.toList off (lY s)).toArray) rfl;refine kk (by rw[aD];simp) (v:=.int .i64 s.size) (w':=w.setRow g (bQ cs.toList off (lY s)).toArray) ?_ ⟨_,_,_,_,⟨β,db.put (x:=.val (.int .i64 s.size)) ik ah rfl⟩,h⟩;have ff:(Builtin.copy_ #[t,u] o.type #[.slice (some ⟨g,off,none⟩) dl V8,.string s]).run X.P w=.ok (.int .i64 s.size) (w.setRow g (bQ cs.toList off (lY s)).toArray):=by simp[Builtin.copy_,run_underlying fH,Builtin.lenOf,Cn,sizeOf,typeInfo,hi,ar,cR,bQ,goInt]
 unfold execOp;simp only[aD,resolve,invoke,builtin,cG,dv,ck,xp,dQ,oN,ex,q8,ff]
end
structure fC(I:a5)(a:Option Addr)(n c size b:Nat)(vs:List Value):Prop where
 len:vs.length=n*size
 cap:n<=c/\n*b<=140737488355328
 rd:n=0\/∃ ad,a=some ad/\ad.spot=none/\∃ cs T ak,I ad.block=some (.cells cs T ak)/\(cs.toList.drop ad.off).take (n*size)=vs
def fC.mono{n:Nat}(h:fC I a n c size b vs)(bX:∀ b o,I b=some o->I' b=some o):fC I' a n c size b vs:=
 ⟨h.len,h.cap,h.rd.imp id λ⟨ad,U,aa,cs,T,ak,af,aN⟩=>⟨ad,U,aa,cs,T,ak,bX _ _ af,aN⟩⟩
def fC.idx{n:Nat}(h:fC I a n c size b vs)(an:j<n) :
  ∃ ad,a=some ad/\∀ M,cx I M (ad.add (j*size)) size ((vs.drop (j*size)).take size):=by
 obtain⟨aE,_,ay | ⟨ad,aH,ax,cs,T,ak,bX,aj⟩⟩:=h
 ·omega
 ·refine⟨ad,aH,λM=>?_⟩;have bz:j*size+size<=n*size:=by have:=s7 size (show j+1<=n from an);rw[j3,qj]at this;exact this
  refine⟨by rw[dY _ ax],cs,T,ak,.inl (by rw[dY _ ax];exact bX),?_,?_⟩;·rw[dY _ ax,<-aj,Ay,Cj,vG];congr 1;omega
  ·rw[mV,Ax,aE];omega
def fC.one{n:Nat}{f:α->Value}{l:List α}(h:fC I a n c 1 b (l.map f))(an:j<n)(ji:j<l.length) :
  ∃ ad,a=some ad/\∀ M,cx I M (ad.add (j*1)) 1 [f l[j]]:=by
 obtain⟨ad,U,aa⟩:=h.idx an;refine⟨ad,U,λM=>?_⟩;have:=aa M;rw[jk,<-List.map_drop,<-List.map_take,fg ji,oL,oM]at this;rw[jk];exact this
def y8{α:Type}(f:α->List Value)(size:Nat)(ar:∀ x,(f x).length=size):∀ (l:List α) (j:Nat) (an:j<l.length),((l.flatMap f).drop (j*size)).take size=f l[j]
 |x::l,0,_=>by simp only[qh,G2,xr,y4];rw[<-ar x];exact G0
 |x::l,j+1,an=>by have be:=y8 f size ar l j (by simpa using an);simp only[qh,KF];rw[<-be,show(j+1)*size=(f x).length+j*size from by rw[ar,j3];omega,VQ]
def fu{α:Type}(f:α->List Value)(size:Nat)(ar:∀ x,(f x).length=size):∀ (l:List α),(l.flatMap f).length=l.length*size
 |[]=>by simp
 |x::l=>by simp[fu f size ar l,ar x,j3];omega
def fC.row{n:Nat}{f:α->List Value}(ar:∀ x,(f x).length=size){l:List α}(h:fC I a n c size b (l.flatMap f))(an:j<n)(ji:j<l.length) :
  ∃ ad,a=some ad/\∀ M,cx I M (ad.add (j*size)) size (f l[j]):=by
 obtain⟨ad,U,aa⟩:=h.idx an;refine⟨ad,U,λM=>?_⟩;have:=aa M;rwa [y8 f size ar l j ji]at this
def cx.part{M:List aF}{a:Addr}{n k:Nat}(h:cx I M a n vs)(ae:k+m<=n):cx I M (a.add k) m ((vs.drop k).take m):=by
 obtain⟨ax,cs,T,ak,U,aa,af⟩:=h;refine⟨by rw[dY _ ax],cs,T,ak,by rw[dY _ ax];exact U,?_,?_⟩
 ·rw[dY _ ax,<-aa,Ay,Cj,vG];congr 1;omega
 ·rw[mV,Ax,af];omega
structure bh where
 k:Int
 e2:Int
 s1:Int
 s2:Int
 eK:Int
 t:ByteArray
 lo:Int
 hi:Int
 ml:Option Addr
 kn:Nat
 k7:Nat
 aS:List Int
def bh.cells(d:bh):List Value:=[.int .u8 d.k,.int .u64 d.e2,.int .u64 d.s1,.int .u64 d.s2,.int .u64 d.eK,.string d.t,.int .i64 d.lo,.int .i64 d.hi,.slice d.ml d.kn d.k7]
def bh.val(d:bh):Value:=.agg #[.int .u8 d.k,.int .u64 d.e2,.int .u64 d.s1,.int .u64 d.s2,.int .u64 d.eK,.string d.t,.int .i64 d.lo,.int .i64 d.hi,.slice d.ml d.kn d.k7]
def jm(x:Int):Prop:=-9223372036854775808<=x/\x<=9223372036854775807
def hh(x:Int):Prop:=0<=x/\x<18446744073709551616
structure bh.ok(I:a5)(d:bh):Prop where
 k:0<=d.k/\d.k<256
 e2:hh d.e2
 s1:hh d.s1
 s2:hh d.s2
 eK:hh d.eK
 t:d.t.size<=9223372036854775807
 lo:jm d.lo
 hi:jm d.hi
 bj:fC I d.ml d.kn d.k7 1 8 (d.aS.map (.int .i64 ·))
 aS:∀ x∈d.aS,jm x
def bh.dc(d:bh):d.cells.length=9:=rfl
def bh.ok.kn{d:bh}(h:d.ok I):d.aS.length=d.kn:=by have:=h.bj.len;simpa using this
structure eH where
 ns:List bh
 a:Option Addr
 n:Nat
 c:Nat
 bR:Int
def eH.cells(t:eH):List Value:=[.slice t.a t.n t.c,.int .i64 t.bR]
def eH.val(t:eH):Value:=.agg #[.slice t.a t.n t.c,.int .i64 t.bR]
structure eH.ok(I:a5)(t:eH):Prop where
 bj:fC I t.a t.n t.c 9 96 (t.ns.flatMap bh.cells)
 ns:∀ d∈t.ns,d.ok I
 bR:jm t.bR
def eH.ok.n{t:eH}(h:t.ok I):t.ns.length=t.n:=by have:=h.bj.len;rw[fu _ 9 bh.dc]at this;omega
structure bD where
 name:ByteArray
 t:eH
def bD.cells(d:bD):List Value:=[.string d.name,.slice d.t.a d.t.n d.t.c,.int .i64 d.t.bR]
structure bD.ok(I:a5)(d:bD):Prop where
 name:d.name.size<=140737488355328
 t:d.t.ok I
def bD.dc(d:bD):d.cells.length=3:=rfl
structure cA where
 ds:List bD
 a:Option Addr
 n:Nat
 c:Nat
def cA.val(g:cA):Value:=.agg #[.slice g.a g.n g.c]
structure cA.ok(I:a5)(g:cA):Prop where
 bj:fC I g.a g.n g.c 3 48 (g.ds.flatMap bD.cells)
 ds:∀ d∈g.ds,d.ok I
def cA.ok.n{g:cA}(h:g.ok I):g.ds.length=g.n:=by have:=h.bj.len;rw[fu _ 3 bD.dc]at this;omega
def bh.ok.mono{d:bh}(h:d.ok I)(bX:∀ b o,I b=some o->I' b=some o):d.ok I':={ h with bj:=h.bj.mono bX }
def eH.ok.mono{t:eH}(h:t.ok I)(bX:∀ b o,I b=some o->I' b=some o):t.ok I':=⟨h.bj.mono bX,λd ah=>(h.ns d ah).mono bX,h.bR⟩
def bD.ok.mono{d:bD}(h:d.ok I)(bX:∀ b o,I b=some o->I' b=some o):d.ok I':=⟨h.name,h.t.mono bX⟩
def cA.ok.mono{g:cA}(h:g.ok I)(bX:∀ b o,I b=some o->I' b=some o):g.ok I':=⟨h.bj.mono bX,λd ah=>(h.ds d ah).mono bX⟩
def wrap_i64{x:Int}(h:jm x):IntKind.i64.wrap x=x:=by obtain⟨U,aa⟩:=h;unfold IntKind.wrap;simp only[IntKind.bits,IntKind.signed];simp;omega
open Go Go.Proofs
def a7(t n:Nat)(a b:Option eE):Option eE:=bif Nat.blt t n then a else b
def q9(n:Nat):Option eE:=some ⟨1,8,[.pointer none],.pointer n⟩
def lb(n:Nat):Option eE:=some ⟨1,24,[.slice none 0 0],.slice n⟩
def hX:Option eE:=none
def ca:Option eE:=some ⟨1,8,[.nilFunc],.other⟩
def Pm:Option eE:=some ⟨1,8,[.int .i64 0],.int .i64⟩
def KH:Option eE:=some ⟨1,1,[.int .u8 0],.int .u8⟩
def Pn:Option eE:=some ⟨1,8,[.int .u64 0],.int .u64⟩
def V9:Option eE:=some ⟨1,8,[.pointer none],.struct [(17,0)]⟩
def V':Option eE:=some ⟨1,4,[.int .i32 0],.int .i32⟩
def Wa:Option eE:=some ⟨2,32,[.slice none 0 0,.int .i64 0],.struct [(26,0),(3,1)]⟩
def Wb:Option eE:=some ⟨3,40,[.bool false,.int .i64 0,.slice none 0 0],.struct [(4,0),(3,1),(40,2)]⟩
def Wc:Option eE:=some ⟨4,32,[.int .u64 0,.int .u64 0,.int .u64 0,.int .u64 0],.array 4 47⟩
def Wd:Option eE:=some ⟨5,40,[.int .u64 0,.int .u64 0,.int .u64 0,.int .u64 0,.bool false],.struct [(49,0),(4,4)]⟩
def We:Option eE:=some ⟨3,48,[.string ⟨#[]⟩,.slice none 0 0,.int .i64 0],.struct [(9,0),(28,1)]⟩
def Wf:Option eE:=some ⟨5,48,[.int .u8 0,.int .u8 0,.int .i64 0,.slice none 0 0,.int .i64 0],.struct [(5,0),(5,1),(3,2),(70,3),(3,4)]⟩
def Wg:Option eE:=some ⟨9,96,[.int .u8 0,.int .u64 0,.int .u64 0,.int .u64 0,.int .u64 0,.string ⟨#[]⟩,.int .i64 0,.int .i64 0,.slice none 0 0],.struct [(5,0),(49,1),(9,5),(3,6),(3,7),(70,8)]⟩
def Wh:Option eE:=some ⟨3,8,[.int .i32 0,.int .i16 0,.int .u8 0],.struct [(21,0),(139,1),(5,2)]⟩
def Wi:Option eE:=some ⟨64,512,List.replicate 64 (.int .u64 0),.array 64 47⟩
def Wj:Option eE:=some ⟨10,120,[.int .u8 0,.int .u64 0,.int .u64 0,.int .u64 0,.int .u64 0,.string ⟨#[]⟩,.int .i64 0,.int .i64 0,.slice none 0 0,.slice none 0 0],.struct [(83,0),(70,9)]⟩
def Wk:Option eE:=some ⟨5,20,[.int .i32 0,.int .i32 0,.int .i32 0,.int .i32 0,.int .i32 0],.struct [(21,0),(21,1),(21,2),(21,3),(21,4)]⟩
def KI:Option eE:=some ⟨2,16,[.int .i64 0,.int .i64 0],.struct [(3,0),(3,1)]⟩
def Wl:Option eE:=some ⟨10,88,[.int .u8 0,.int .i64 0,.int .i64 0,.string ⟨#[]⟩,.int .u64 0,.int .u64 0,.int .u64 0,.int .u64 0,.int .i64 0,.int .i64 0],.struct [(5,0),(3,1),(3,2),(9,3),(49,4),(3,8),(3,9)]⟩
def Wm:Option eE:=some ⟨1,24,[.slice none 0 0],.struct [(26,0)]⟩
def Wn:Option eE:=some ⟨6,64,[.string ⟨#[]⟩,.string ⟨#[]⟩,.int .u8 0,.map none,.int .i64 0,.int .i64 0],.struct [(9,0),(9,1),(5,2),(376,3),(3,4),(31,5)]⟩
def lv:Env:=λt=>bif Nat.blt t 410 then(a7 t 205 (a7 t 102 (a7 t 51 (a7 t 25 (a7 t 12 (a7 t 6 (a7 t 3 (a7 t 1 hX (a7 t 2 ca Pm)) (a7 t 4 Pm (a7 t 5 (some ⟨1,1,[.bool false],.bool⟩) KH))) (a7 t 9 (a7 t 7 KH (some ⟨4,24,[.int .i64 0,.int .i64 0,.bool false,.int .u8 0],.struct [(2,0),(3,1),(4,2),(6,3)]⟩)) (some ⟨1,16,[.string ⟨#[]⟩],.string⟩))) (a7 t 18 (a7 t 15 (a7 t 13 Pn (some ⟨2,24,[.string ⟨#[]⟩,.int .u64 0],.struct [(9,0),(12,1)]⟩)) (a7 t 16 (q9 399) (a7 t 17 (q9 402) (q9 409)))) (a7 t 21 (a7 t 19 V9 (a7 t 20 V9 (some ⟨1,16,[.nilIface],.other⟩))) (a7 t 23 (a7 t 22 V' (lb 58)) (some ⟨1,24,[.slice none 0 0],.struct [(22,0)]⟩))))) (a7 t 38 (a7 t 31 (a7 t 28 (a7 t 26 ca (a7 t 27 (lb 83) Wa)) (a7 t 29 Wa (a7 t 30 ca (q9 91)))) (a7 t 34 (a7 t 32 Pm (a7 t 33 hX ca)) (a7 t 36 (a7 t 35 (lb 46) hX) (a7 t 37 ca (lb 51))))) (a7 t 44 (a7 t 41 (a7 t 39 hX (a7 t 40 ca (lb 110))) (a7 t 42 Wb (a7 t 43 Wb hX))) (a7 t 47 (a7 t 45 ca (some ⟨3,3,[.bool false,.bool false,.bool false],.struct [(4,0),(4,1),(4,2)]⟩)) (a7 t 49 (a7 t 48 Pn Wc) (a7 t 50 Wc Wd)))))) (a7 t 76 (a7 t 63 (a7 t 57 (a7 t 54 (a7 t 52 Wd ca) (a7 t 55 ca (a7 t 56 ca Pn))) (a7 t 60 (a7 t 58 We (a7 t 59 We ca)) (a7 t 61 ca (a7 t 62 hX ca)))) (a7 t 69 (a7 t 66 ca (a7 t 67 (lb 72) (a7 t 68 ca hX))) (a7 t 72 (a7 t 70 ca (a7 t 71 (lb 3) Wf)) (a7 t 74 (a7 t 73 Wf ca) (a7 t 75 hX ca))))) (a7 t 89 (a7 t 82 (a7 t 79 (a7 t 77 ca (a7 t 78 hX ca)) ca) (a7 t 85 (a7 t 83 Wg (a7 t 84 Wg ca)) (a7 t 87 ca (a7 t 88 (lb 9) ca)))) (a7 t 95 (a7 t 92 (a7 t 90 (lb 105) (some ⟨5,112,[.string ⟨#[]⟩,.slice none 0 0,.slice none 0 0,.slice none 0 0,.slice none 0 0],.struct [(9,0),(87,1),(70,2),(26,3),(89,4)]⟩)) ca) (a7 t 98 (a7 t 96 ca (a7 t 97 (some ⟨1,8,[.map none],.map 9 3⟩) ca)) (a7 t 100 (a7 t 99 ca (lb 34)) (a7 t 101 hX ca))))))) (a7 t 153 (a7 t 127 (a7 t 114 (a7 t 108 (a7 t 105 ca (a7 t 106 (lb 107) (some ⟨4,16,[.int .i64 0,.int .i32 0,.int .u8 0,.int .u8 0],.struct [(2,0),(21,1),(5,2),(5,3)]⟩))) (a7 t 111 (a7 t 109 ca (some ⟨3,32,[.string ⟨#[]⟩,.int .i64 0,.int .i64 0],.struct [(9,0),(3,1),(3,2)]⟩)) (a7 t 112 ca (a7 t 113 ca (lb 28))))) (a7 t 120 ca (a7 t 123 ca (a7 t 125 ca (a7 t 126 ca hX))))) (a7 t 140 (a7 t 133 (a7 t 130 (a7 t 128 ca (some ⟨64,64,List.replicate 64 (.bool false),.array 64 4⟩)) ca) (a7 t 136 ca (a7 t 138 (a7 t 137 (q9 148) hX) (a7 t 139 ca (some ⟨1,2,[.int .i16 0],.int .i16⟩))))) (a7 t 146 (a7 t 143 (a7 t 141 Wh (a7 t 142 Wh hX)) (a7 t 144 ca (a7 t 145 (lb 206) (lb 269)))) (a7 t 149 (a7 t 147 (lb 215) (some ⟨7,112,[.string ⟨#[]⟩,.int .i64 0,.int .i64 0,.int .i64 0,.slice none 0 0,.slice none 0 0,.slice none 0 0],.struct [(9,0),(3,1),(3,2),(3,3),(144,4),(145,5),(146,6)]⟩)) ca)))) (a7 t 179 (a7 t 166 (a7 t 159 (a7 t 156 (a7 t 154 ca (a7 t 155 hX ca)) (a7 t 157 hX (a7 t 158 ca hX))) (a7 t 162 ca (a7 t 164 (a7 t 163 hX ca) ca))) (a7 t 172 (a7 t 169 ca (a7 t 170 (some ⟨10,80,[.nilFunc,.nilFunc,.nilFunc,.nilFunc,.nilFunc,.nilFunc,.nilFunc,.nilFunc,.nilFunc,.nilFunc],.array 10 168⟩) ca)) (a7 t 175 ca (a7 t 177 (a7 t 176 ca (some ⟨10,80,[.nilFunc,.nilFunc,.nilFunc,.nilFunc,.nilFunc,.nilFunc,.nilFunc,.nilFunc,.nilFunc,.nilFunc],.array 10 175⟩)) ca)))) (a7 t 192 (a7 t 185 (a7 t 182 (a7 t 180 (some ⟨10,80,[.nilFunc,.nilFunc,.nilFunc,.nilFunc,.nilFunc,.nilFunc,.nilFunc,.nilFunc,.nilFunc,.nilFunc],.array 10 178⟩) (a7 t 181 ca Wi)) (a7 t 183 Wi (some ⟨66,528,[.int .i64 0,.int .u64 0,.int .u64 0,.int .u64 0,.int .u64 0,.int .u64 0,.int .u64 0,.int .u64 0,.int .u64 0,.int .u64 0,.int .u64 0,.int .u64 0,.int .u64 0,.int .u64 0,.int .u64 0,.int .u64 0,.int .u64 0,.int .u64 0,.int .u64 0,.int .u64 0,.int .u64 0,.int .u64 0,.int .u64 0,.int .u64 0,.int .u64 0,.int .u64 0,.int .u64 0,.int .u64 0,.int .u64 0,.int .u64 0,.int .u64 0,.int .u64 0,.int .u64 0,.int .u64 0,.int .u64 0,.int .u64 0,.int .u64 0,.int .u64 0,.int .u64 0,.int .u64 0,.int .u64 0,.int .u64 0,.int .u64 0,.int .u64 0,.int .u64 0,.int .u64 0,.int .u64 0,.int .u64 0,.int .u64 0,.int .u64 0,.int .u64 0,.int .u64 0,.int .u64 0,.int .u64 0,.int .u64 0,.int .u64 0,.int .u64 0,.int .u64 0,.int .u64 0,.int .u64 0,.int .u64 0,.int .u64 0,.int .u64 0,.int .u64 0,.int .u64 0,.int .u64 0],.struct [(3,0),(182,1),(47,65)]⟩))) (a7 t 188 (a7 t 186 hX ca) (a7 t 190 (a7 t 189 ca (lb 4)) ca))) (a7 t 198 (a7 t 195 ca (a7 t 196 ca (a7 t 197 ca hX))) (a7 t 201 (a7 t 199 ca (a7 t 200 (lb 70) hX)) ca)))))) (a7 t 307 (a7 t 256 (a7 t 230 (a7 t 217 (a7 t 211 (a7 t 208 (a7 t 206 Wj (a7 t 207 Wj (q9 215))) (a7 t 209 ca (a7 t 210 ca (some ⟨10,80,[.nilFunc,.nilFunc,.nilFunc,.nilFunc,.nilFunc,.nilFunc,.nilFunc,.nilFunc,.nilFunc,.nilFunc],.array 10 209⟩)))) (a7 t 214 (a7 t 212 ca (a7 t 213 (q9 141) ca)) (a7 t 215 Wk (a7 t 216 Wk hX)))) (a7 t 223 (a7 t 220 (a7 t 218 ca (a7 t 219 hX ca)) (a7 t 221 hX (a7 t 222 (q9 206) KI))) (a7 t 226 (a7 t 224 KI (a7 t 225 (lb 223) ca)) (a7 t 228 ca (a7 t 229 (q9 235) hX))))) (a7 t 243 (a7 t 236 (a7 t 233 (a7 t 231 ca (a7 t 232 ca (lb 274))) (a7 t 234 (lb 280) (some ⟨8,160,[.slice none 0 0,.int .i64 0,.int .i64 0,.slice none 0 0,.slice none 0 0,.slice none 0 0,.slice none 0 0,.slice none 0 0],.struct [(232,0),(3,1),(3,2),(26,3),(233,4),(22,5),(232,6),(232,7)]⟩))) (a7 t 239 (a7 t 237 ca (a7 t 238 (q9 240) (lb 5))) (a7 t 241 (some ⟨2,32,[.pointer none,.slice none 0 0],.struct [(237,0),(238,1)]⟩) (some ⟨1,16,[.nilIface],.other⟩)))) (a7 t 249 (a7 t 246 (a7 t 244 hX ca) (a7 t 247 hX ca)) (a7 t 252 ca (a7 t 254 (a7 t 253 ca KI) (a7 t 255 KI (lb 254))))))) (a7 t 281 (a7 t 268 (a7 t 262 (a7 t 259 ca (a7 t 260 ca (a7 t 261 ca (some ⟨2,16,[.int .i64 0,.int .i64 0],.array 2 3⟩)))) (a7 t 265 (a7 t 263 (some ⟨20,160,List.replicate 20 (.int .i64 0),.array 10 261⟩) ca) ca)) (a7 t 274 (a7 t 271 (a7 t 269 ca (a7 t 270 (lb 141) ca)) (a7 t 272 ca (a7 t 273 ca Wl))) (a7 t 277 (a7 t 275 Wl (a7 t 276 ca (q9 5))) (a7 t 279 (a7 t 278 hX ca) (some ⟨5,96,[.int .u8 0,.string ⟨#[]⟩,.slice none 0 0,.slice none 0 0,.slice none 0 0],.struct [(5,0),(9,1),(70,2),(70,3),(238,4)]⟩))))) (a7 t 294 (a7 t 287 (a7 t 284 (a7 t 282 hX ca) (a7 t 285 ca (a7 t 286 (q9 280) ca))) ca) (a7 t 300 ca (a7 t 303 ca (a7 t 305 (a7 t 304 ca (some ⟨1,8,[.pointer none],.other⟩)) ca)))))) (a7 t 358 (a7 t 332 (a7 t 319 (a7 t 313 (a7 t 310 ca (a7 t 311 hX (a7 t 312 ca Wm))) (a7 t 316 (a7 t 314 Wm (a7 t 315 ca (some ⟨10,80,[.nilFunc,.nilFunc,.nilFunc,.nilFunc,.nilFunc,.nilFunc,.nilFunc,.nilFunc,.nilFunc,.nilFunc],.array 10 314⟩))) (a7 t 317 ca (a7 t 318 (q9 313) ca)))) (a7 t 325 (a7 t 322 ca (a7 t 323 ca (a7 t 324 ca (some ⟨1,8,[.map none],.map 5 328⟩)))) (a7 t 328 ca (a7 t 330 (a7 t 329 ca hX) (a7 t 331 hX ca))))) (a7 t 345 (a7 t 338 (a7 t 335 (a7 t 333 ca (a7 t 334 ca (some ⟨24,24,List.replicate 24 (.int .u8 0),.array 24 5⟩))) (a7 t 336 ca (a7 t 337 ca hX))) ca) (a7 t 351 (a7 t 348 (a7 t 346 ca (some ⟨3,24,[.int .i64 0,.int .i64 0,.bool false],.struct [(3,0),(3,1),(4,2)]⟩)) (a7 t 349 (lb 347) (a7 t 350 (q9 347) ca))) (a7 t 354 (a7 t 352 ca (a7 t 353 (some ⟨3,48,[.string ⟨#[]⟩,.string ⟨#[]⟩,.string ⟨#[]⟩],.struct [(9,0),(9,1),(9,2)]⟩) (some ⟨30,480,List.replicate 30 (.string ⟨#[]⟩),.array 10 352⟩))) (a7 t 356 ca (a7 t 357 (some ⟨20,160,List.replicate 20 (.int .u64 0),.array 20 47⟩) (some ⟨1,4,[.int .u32 0],.int .u32⟩))))))) (a7 t 384 (a7 t 371 (a7 t 364 (a7 t 361 (a7 t 359 (some ⟨65,65,List.replicate 65 (.int .u8 0),.array 65 5⟩) (a7 t 360 ca hX)) (a7 t 362 ca (a7 t 363 ca hX))) (a7 t 367 (a7 t 365 ca (a7 t 366 hX ca)) ca)) (a7 t 377 (a7 t 374 (a7 t 372 (q9 378) ca) (a7 t 375 ca (a7 t 376 ca (some ⟨1,8,[.map none],.map 5 5⟩)))) (a7 t 380 (a7 t 378 Wn (a7 t 379 Wn hX)) ca))) (a7 t 397 (a7 t 390 (a7 t 387 (a7 t 385 (lb 386) (a7 t 386 ca (some ⟨2,2,[.int .u8 0,.int .u8 0],.array 2 5⟩))) (a7 t 388 (some ⟨3,32,[.int .i64 0,.int .i64 0,.string ⟨#[]⟩],.struct [(3,0),(3,1),(9,2)]⟩) (a7 t 389 (some ⟨9,96,[.int .i64 0,.int .i64 0,.string ⟨#[]⟩,.int .i64 0,.int .i64 0,.string ⟨#[]⟩,.int .i64 0,.int .i64 0,.string ⟨#[]⟩],.array 3 387⟩) (some ⟨32,32,List.replicate 32 (.int .u8 0),.array 32 5⟩)))) (a7 t 393 (a7 t 391 (some ⟨64,64,List.replicate 64 (.int .u8 0),.array 64 5⟩) ca) (a7 t 395 ca (a7 t 396 ca hX)))) (a7 t 403 (a7 t 400 (a7 t 398 ca (some ⟨4,40,[.pointer none,.pointer none,.pointer none,.string ⟨#[]⟩],.struct [(17,0),(17,1),(17,2),(9,3)]⟩)) (a7 t 401 (some ⟨0,0,[],.array 0 16⟩) (some ⟨0,0,[],.struct [(400,0)]⟩))) (a7 t 406 (a7 t 404 KH (a7 t 405 KH ca)) (a7 t 408 V' (some ⟨11,48,[.int .u64 0,.int .u64 0,.int .u32 0,.int .u8 0,.int .u8 0,.int .u8 0,.int .u8 0,.nilFunc,.pointer none,.int .i32 0,.int .i32 0],.struct [(12,0),(12,1),(357,2),(403,3),(5,4),(5,5),(404,6),(405,7),(276,8),(406,9),(407,10)]⟩)))))))))else none
def aV:dm Tryz.prog lv:=afK 410 (λt h=>by
 have bg:Nat.blt t 410=false:=by
  cases ag:Nat.blt t 410 with
  |false=>rfl| true=>exact absurd (bP ag) (by omega)
 simp only[lv,bg,aQ]) (by kernel_rfl)
def letter(c:UInt8):Bool:=decide (97<=c.toNat/\c.toNat<=122)||(decide (65<=c.toNat/\c.toNat<=90)||decide (c.toNat=95))
def digit(c:UInt8):Bool:=decide (48<=c.toNat/\c.toNat<=57)
def Wo(I:a5)(c:UInt8):Spec Tryz.prog 203 [.int .u8 c.toNat] I [] (λv I' M'=>v=.bool (letter c)/\I'=I/\M'=[]):=by
 refine bY [] aV Tryz.func203 rfl rfl rfl ?_;intro B ay
 repeat' (refine c0.mk (λh=>?_) (λh=>?_))
 all_goals
  refine⟨_,_,.refl,?_⟩;refine⟨?_,rfl,rfl⟩;simp_all[letter]
  all_goals first
   |omega|(rw[nZ];simp;omega)
def agF(I:a5)(c:UInt8):Spec Tryz.prog 204 [.int .u8 c.toNat] I [] (λv I' M'=>v=.bool (digit c)/\I'=I/\M'=[]):=by
 refine bY [] aV Tryz.func204 rfl rfl rfl ?_;intro B ay
 repeat' (refine c0.mk (λh=>?_) (λh=>?_))
 all_goals
  refine⟨_,_,.refl,?_⟩;refine⟨?_,rfl,rfl⟩;simp_all[digit]
  all_goals first
   |omega|(rw[nZ];simp;omega)
def Co(s:ByteArray):s.data.toList.length=s.size:=Av
def agG(I:a5)(s:ByteArray)(ax:s.size<=140737488355328):Spec Tryz.prog 230 [.string s] I [] (λv I' M'=>v=.string s/\I'=I/\M'=[]):=by
 refine bY [] aV Tryz.func230 rfl rfl rfl ?_;intro B ay;refine aM.mk (λh=>?_) (λh=>?_)
 ·refine⟨_,_,.refl,?_,rfl,rfl⟩;have U:s.size=0:=by simpa using h
  have:s=.empty:=by apply w1;exact O3 U
  rw[this];rfl
 ·have U:s.size≠0:=by simpa using h
  refine qU.mk s.size s.size rfl rfl (b2 _) (by show 1*s.size<=_;omega) (by omega) ?_;refine cy.mk λb ag Em=>?_;refine bE.V7 aV rfl (by simp) (e:=5) rfl rfl rfl rfl rfl rfl (b2 _) ?_ (.refl _) ?_;·simp[BZ,madeCells]
  refine bl.mk ⟨b,0,none⟩ 0 rfl rfl (by omega) ?_;refine bE.Pj aV rfl (by simp) (e:=5) rfl rfl rfl rfl (g:=b) (l:=s.data.toList) rfl ?_ ?_ ?_ (.refl _) ?_ ?_;·show dW.val (.int .i64 (s.size:Int))=dW.val (.int .i64 (s.data.toList.length:Int));rw[Co]
  ·intro e;have:=congrArg List.length e;rw[Co]at this;exact U this
  ·rw[Co];omega
  ·rw[Co];have aE:(lY s).length=s.size:=by simp[lY]
   simp only[bQ];rw[oM,nz,Eh (by rw[aE];exact b2 _),<-aE,List.take_length];rfl
  ·exact⟨_,_,.refl,rfl,rfl,rfl⟩
def Wp(I:a5)(s:ByteArray)(ax:s.size<=140737488355328):Spec Tryz.prog 205 [.string s] I [] (λv I' M'=>v=.string s/\I'=I/\M'=[]):=by refine bY [] aV Tryz.func205 rfl rfl rfl ?_;intro B ay;refine a9.mk [] [] _ (.refl _) (agG I s ax) ?_;rintro v I' M' -⟨rfl,rfl,rfl⟩;exact⟨_,_,.refl,rfl,rfl,rfl⟩
def uG(c:UInt8):Bool:=letter c||digit c
def uH(s:ByteArray):Nat:=match s.data.toList with
 |[]=>0| c::r=>bif letter c then 1+(r.takeWhile uG).length else 0
def Wq{α:Type}(p:α->Bool):∀ (l:List α) (i:Nat),i<=l.length->(∀ j (h:j<l.length),j<i->p l[j]=true)->(∀ (h:i<l.length),p l[i]=false)->(l.takeWhile p).length=i
 |[],i,h,_,_=>by simp at h;simp[h]
 |x::l,0,_,_,h=>by have:=h (by simp);simp only[y4]at this;simp[this]
 |x::l,i+1,hi,U,aa=>by have ab:=U 0 (by simp) (by omega);simp only[y4]at ab;have be:=Wq p l i (by simpa using hi) (λj an KD=>by have:=U (j+1) (by simpa using an) (by omega);simpa using this) (λh=>by have:=aa (by simpa using h);simpa using this);simp[ab,be]
def agH{s:ByteArray}(ay:0<s.size)(aE:letter s[0]=true)(U:1<=i)(hi:i<=s.size)(aH:∀ j (h:j<s.size),1<=j->j<i->uG s[j]=true)(ag:∀ (h:i<s.size),uG s[i]=false):uH s=i:=by
 have get:∀ j (h:j<s.size),s[j]=s.data.toList[j]'(by rw[Co];exact h):=λj h=>rfl;unfold uH;have cg:=Co s;cases ah:s.data.toList with
 |nil=>rw[ah]at cg;simp at cg;omega
 |cons c r=>
  have g:∀ j (h:j<s.size),s[j]=(c::r)[j]'(by rw[<-ah,cg];exact h):=λj h=>by rw[get j h];simp only[ah]
  rw[ah]at cg;have aJ:letter c=true:=by rw[g 0 ay]at aE;simpa using aE
  simp only[aJ,a4];simp only[eM]at cg;rw[Wq uG r (i-1) (by omega) (λj an KD=>by
   have af:j+1<s.size:=by omega
   have:=aH (j+1) af (by omega) (by omega);rw[g (j+1) af]at this;simpa using this) (λh=>by
   have af:i<s.size:=by omega
   have:=ag af;rw[g i af]at this;have e:i=(i-1)+1:=by omega
   rw[List.getElem_cons]at this;rw[dif_neg (by omega)]at this;exact this)]
  omega
def agI(I:a5)(s:ByteArray)(ax:s.size<=140737488355328):Spec Tryz.prog 134 [.string s] I [] (λv I' M'=>v=.string (s.extract 0 (uH s))/\I'=I/\M'=[]):=by
 refine bY [] aV Tryz.func134 rfl rfl rfl ?_;intro B ay;have b':∀ {s:ByteArray},uH s=0->s.extract 0 (uH s)=⟨#[]⟩:=λh=>by rw[h];apply w1;simp[J6]
 refine c0.mk (λh=>?_) (λh=>?_)
 ·have U:s≠⟨#[]⟩:=by simpa using h
  have n4:0<s.size:=by refine O5 λe=>U ?_;apply w1;exact O3 e
  refine yR.mk 0 rfl n4 ?_;refine a9.mk [] [] _ (.refl _) (Wo I s[0]) ?_;rintro v I' M' -⟨rfl,rfl,rfl⟩;refine aM.mk (λh=>?_) (λh=>?_)
  ·have aE:letter s[0]=false:=by simpa using h
   refine⟨_,_,.refl,?_,rfl,rfl⟩;rw[b']
   ·unfold uH;cases ah:s.data.toList with
    |nil=>rfl
    |cons c r=>
     have:s[0]=c:=by show s.data.toList[0]=c;simp only[ah];rfl
     rw[this]at aE;simp[aE]
  ·have aE:letter s[0]=true:=by simpa using h
   refine ea.inv (ι:=Nat) (λi=>{ bK:=[(0,.val (.string s)),(3,.val (.int .i64 i))],dz:=I' }) (λi=>1<=i/\i<=s.size/\∀ j (h:j<s.size),1<=j->j<i->uG s[j]=true) (λi=>s.size-i) ?_ ?_;·exact⟨1,⟨by omega,by omega,λj _ U aa=>by omega⟩,.refl,Cf,.nil⟩
   ·rintro i⟨gL,j1,kl⟩;have next:∀ (a0:i<s.size),uG s[i]=true->(1<=i+1/\i+1<=s.size/\∀ k (h:k<s.size),1<=k->k<i+1->uG s[k]=true)/\s.size-(i+1)<s.size-i:=λa0 aJ=>
     ⟨⟨by omega,by omega,λj an U aa=>by
      by_cases e:j=i;·subst e;exact aJ
      ·exact kl j an U (by omega)⟩,by omega⟩
    have out:(∀ (h:i<s.size),uG s[i]=false)->s.extract 0 i=s.extract 0 (uH s):=λaz=>by rw[agH n4 aE gL j1 kl az]
    have cI:(s.extract 0 i).size<=140737488355328:=by rw[O4];omega
    have gB:IntKind.i64.wrap ((i:Int)+1)=((i+1:Nat):Int):=by rw[wrap_i64 ⟨by omega,by omega⟩];omega
    refine c0.mk (λh=>?_) (λh=>?_)
    ·have a0:i<s.size:=by simpa using h
     refine yR.mk i rfl a0 ?_;refine a9.mk [] [] _ (.refl _) (Wo I' s[i]) ?_;rintro v I' M' -⟨rfl,rfl,rfl⟩;refine c0.mk (λh=>?_) (λh=>?_)
     ·refine yR.mk i rfl a0 ?_;refine a9.mk [] [] _ (.refl _) (agF _ s[i]) ?_;rintro v I' M' -⟨rfl,rfl,rfl⟩;refine aM.mk (λaa=>?_) (λaa=>?_)
      ·refine bb.mk _ gB ?_;exact⟨i+1,next a0 (by simp only[uG];rw[show digit s[i]=true from aa];simp),.refl,Cf,.nil⟩
      ·refine jI.mk 0 i rfl rfl (by omega) (by omega) ?_;refine a9.mk [] [] _ (.refl _) (Wp _ _ cI) ?_;rintro v I' M' -⟨rfl,rfl,rfl⟩;refine⟨_,_,.refl,?_,rfl,rfl⟩;rw[<-out λ_=>by simp only[uG];rw[show letter s[i]=false from h,show digit s[i]=false from aa];rfl]
     ·refine bb.mk _ gB ?_;exact⟨i+1,next a0 (by simp only[uG];rw[show letter s[i]=true from h];simp),.refl,Cf,.nil⟩
    ·have cE:¬ i<s.size:=by simpa using h
     refine jI.mk 0 i rfl rfl (by omega) (by omega) ?_;refine a9.mk [] [] _ (.refl _) (Wp _ _ cI) ?_;rintro v I' M' -⟨rfl,rfl,rfl⟩;refine⟨_,_,.refl,?_,rfl,rfl⟩;rw[<-out λh=>(cE h).elim]
 ·have U:s=⟨#[]⟩:=by simpa using h
  subst U;refine⟨_,_,.refl,?_,rfl,rfl⟩;rw[b'];rfl
def oR(s:ByteArray):Bool:=decide (s≠⟨#[]⟩)&&(decide (s.size<=32)&&decide (uH s=s.size))
def agJ(s:ByteArray):uH s<=s.size:=by
 unfold uH;have aE:=Co s;cases ah:s.data.toList with
 |nil=>simp
 |cons c r=>
  rw[ah]at aE;simp only[eM]at aE;simp only;cases letter c;·simp
  ·simp only[a4];have:=(List.takeWhile_sublist (p:=uG) (l:=r)).length_le;omega
def Po(I:a5)(s:ByteArray):Spec Tryz.prog 87 [.string s] I [] (λv I' M'=>v=.bool (oR s)/\I'=I/\M'=[]):=by
 refine bY [] aV Tryz.func87 rfl rfl rfl ?_;intro B ay;refine c0.mk (λU=>?_) (λU=>?_)
 ·refine c0.mk (λaa=>?_) (λaa=>?_)
  ·have jn:s.size<=32:=by simp at aa;omega
   refine a9.mk [] [] _ (.refl _) (agI I s (by omega)) ?_;rintro v I' M' -⟨rfl,rfl,rfl⟩;refine⟨_,_,.refl,?_,rfl,rfl⟩;have bz:=agJ s;have aC:(s.extract 0 (uH s)).size=uH s:=by rw[O4];omega
   simp_all[oR]
   all_goals omega
  ·refine⟨_,_,.refl,?_,rfl,rfl⟩;simp_all[oR]
   all_goals omega
 ·refine⟨_,_,.refl,?_,rfl,rfl⟩;simp_all[oR]
def oS:List Int:=[0,0,0,0,0,0,0,0,2,-1,2,-1,1,1,1,1,1,1,1,1]
def sh(k:Nat):Int:=oS.getD (k*2) 0
def mY(k:Nat):Int:=oS.getD (k*2+1) 0
def si(I:a5):Prop:=∃ T ak,I 0=some (.cells (oS.map (Value.int .i64)).toArray T ak)
def si.rd(h:si I)(M:List aF)(an:j<20):cx I M (Addr.add ⟨0,0,none⟩ j) 1 [.int .i64 (oS.getD j 0)]:=by
 obtain⟨T,ak,h⟩:=h;rw[dY _ rfl];refine⟨rfl,_,T,ak,.inl h,?_,rfl⟩;simp only[dp];have:∀ j:Fin 20,(((oS.map (Value.int .i64)).toArray.toList.drop j.val).take 1)=[Value.int .i64 (oS.getD j.val 0)]:=by
  intro j;have U:j.val<(oS.map (Value.int .i64)).length:=by simp[oS]
  rw[Oo,fg U,oL,oM];have aa:j.val<oS.length:=by simp[oS]
  simp[dB,aa]
 exact this ⟨j,an⟩
def si.agK(h:si I)(M:List aF)(an:i+j<20):cx I M ((Addr.add ⟨0,0,none⟩ i).add j) 1 [.int .i64 (oS.getD (i+j) 0)]:=by
 have e:(Addr.add ⟨0,0,none⟩ i).add j=Addr.add ⟨0,0,none⟩ (i+j):=by rw[dY ⟨_,0,none⟩ rfl i,dY _ rfl j,dY _ rfl (i+j)];simp
 rw[e];exact h.rd M an
def bh.oT(d:bh):Bool:=d.e2 == 0&&(d.s1 == 0&&(d.s2 == 0&&d.eK == 0))
def fits(d:bh)(n:Int):Bool:=
 bif decide (10<=d.k)then false else
 bif decide (n<sh d.k.toNat)||(decide (0<=mY d.k.toNat)&&decide (mY d.k.toNat<n))then false else
 bif decide (d.k=1)then decide (d.t=⟨#[]⟩)&&(decide (d.lo=0)&&decide (d.hi=0))else
 bif decide (d.k=2)then(!(decide (d.t=⟨#[]⟩)||decide (255<d.t.size)))&&(d.oT&&(decide (d.lo=0)&&decide (d.hi=0)))else
 bif decide (d.k=3)||decide (d.k=9)then oR d.t&&(d.oT&&(decide (d.lo=0)&&decide (d.hi=0)))else
 bif decide (d.k=6)then(!(decide (d.lo<0)||(decide (99<d.lo)||(decide (d.hi≠-1)&&(decide (d.hi<d.lo)||decide (99<d.hi))))))&&(d.oT&&decide (d.t=⟨#[]⟩))else
 d.oT&&(decide (d.t=⟨#[]⟩)&&(decide (d.lo=0)&&decide (d.hi=0)))
def Wr(aJ:si I){d:bh}(ah:d.ok I)(n:Int):Spec Tryz.prog 102 [d.val,.int .i64 n] I [] (λv I' M'=>v=.bool (fits d n)/\I'=I/\M'=[]):=by
 refine bY [] aV Tryz.func102 rfl rfl rfl ?_;intro B ay;have ae:=ah.k;refine bb.mk d.k (by unfold IntKind.wrap;simp[IntKind.bits,IntKind.signed];omega) ?_;refine aM.mk (λh=>?_) (λh=>?_)
 ·refine⟨_,_,.refl,?_,rfl,rfl⟩;simp at h;simp[fits,h]
 ·have qn:d.k<10:=by simpa using h
  have an:d.k=((d.k.toNat:Nat):Int):=by omega
  have Ws:d.k.toNat<10:=by omega
  refine cq.draw aV rfl rfl rfl ?_;refine dR.mk d.k.toNat an Ws ?_;refine dR.mk 0 rfl (by omega) ?_;refine aw.mk [.int .i64 (sh d.k.toNat)] (aJ.rd _ (j:=d.k.toNat*2) (by omega)) ?_;refine dR.mk d.k.toNat an Ws ?_;refine dR.mk 1 rfl (by omega) ?_;refine aw.mk [.int .i64 (mY d.k.toNat)] (aJ.agK _ (i:=d.k.toNat*2) (j:=1) (by omega)) ?_
  repeat' first
   |refine c0.mk (λh=>?_) (λh=>?_)| refine aM.mk (λh=>?_) (λh=>?_)| refine fU.V4 aV (e:=47) rfl rfl rfl rfl (by kernel_rfl) ?_|(refine a9.mk [] [] _ (.refl _) (Po _ _) ?_;rintro v I' M' -⟨rfl,rfl,rfl⟩)
  all_goals refine⟨_,_,.refl,?_⟩
  all_goals refine⟨?_,rfl,rfl⟩
  all_goals clear aJ ah an
  all_goals (first | (simp_all[fits,bh.oT];done) | (simp_all[fits,bh.oT];omega) | (simp_all[fits,bh.oT];rw[nZ];simp;omega))
def lx(i:Nat):List Int->List Bool->Option (List Bool)
 |[],s=>some s| k::ks,s=>bif decide (k<0)||(decide ((i:Int)<=k)||s.getD k.toNat false)then none else lx i ks (s.set k.toNat true)
def mm:Nat->List bh->List Bool->Option (List Bool)
 |_,[],s=>some s
 |i,d::ds,s=>bif fits d d.aS.length then(match lx i d.aS s with
  |some cH=>mm (i+1) ds cH| none=>none)else none
def sj(bR:Int):Nat->List Bool->Bool
 |_,[]=>true| i,b::s=>bif b == decide ((i:Int)=bR)then false else sj bR (i+1) s
def right(t:eH):Bool:=decide (0<=t.bR)&&(decide (t.bR<t.ns.length)&&(match mm 0 t.ns (List.replicate t.ns.length false)with
 |some s=>sj t.bR 0 s| none=>false))
def Cp(v:Value)(n:Nat):rowOf [v] n=List.replicate n v:=by
 apply xq
 ·simp[BZ,madeCells]
 ·intro i U aa;simp[BZ,madeCells,Nat.mod_one]
def AD(b:Nat)(s:List Bool):aF:=⟨b,.cells (s.map Value.bool).toArray 4 (0,0)⟩
def Wt{M:List aF}{s:List Bool}(a2:AD b s∈M)(an:j<s.length):cx I M ((⟨b,0,none⟩:Addr).add (j*1)) 1 [.bool s[j]]:=by
 rw[dY _ rfl];refine⟨rfl,_,4,(0,0),.inr ⟨_,a2,rfl,rfl⟩,?_,rfl⟩;have U:j<(s.map Value.bool).length:=by simpa using an
 simp only[dp,jk];rw[fg U,oL,oM];simp
def agL(s:List Bool)(j:Nat)(an:j<s.length)(b:Bool):bQ (s.map Value.bool) j [.bool b]=(s.set j b).map Value.bool:=by unfold bQ;rw[G3,Eg];simp[an]
def cc.add{M:List aF}{o k:Nat}(bi post:List aF)(cs:Array Value)(T:Nat)(a2:M=bi++⟨b,.cells cs T (0,0)⟩::post)(ag:o+k+vs.length<=cs.size)(U:iW vs=true)
  (h:K (bi++⟨b,.cells (bQ cs.toList (o+k) vs).toArray T (0,0)⟩::post)):cc M ((⟨b,o,none⟩:Addr).add k) vs K:=by
 rw[dY _ rfl];exact .mk bi post cs T a2 rfl ag U h
def cc.jO{M:List aF}{o k:Nat}(bi post:List aF)(cs:List Value)(T:Nat)(a2:M=bi++⟨b,.cells cs.toArray T (0,0)⟩::post)(ag:Nat.ble (o+k+vs.length) cs.length=true)(U:iW vs=true)(cs':List Value)(he:bQ cs (o+k) vs=cs')(h:K (bi++⟨b,.cells cs'.toArray T (0,0)⟩::post)):cc M ((⟨b,o,none⟩:Addr).add k) vs K:=
 cc.add bi post _ _ a2 (by simpa using bP ag) U (by rw[<-he]at h;exact h)
def Cq(aJ:si I){t:eH}(aI:t.ok I):Spec Tryz.prog 53 [t.val] I [] (λv I' M'=>v=.bool (right t)/\I'=I/\M'=[]):=by
 refine bY [] aV Tryz.func53 rfl rfl rfl ?_;intro B ay;have az:=aI.n;have iH:=aI.bj.cap;refine c0.mk (λU=>?_) (λU=>?_)
 ·refine aM.mk (λaa=>?_) (λaa=>?_)
  ·refine⟨_,_,.refl,?_,rfl,rfl⟩;simp at aa;have:¬ t.bR<t.ns.length:=by omega
   simp[right,this]
  ·have a3:0<=t.bR:=by simpa using U
   have a6:t.bR<t.ns.length:=by simp at aa;omega
   refine qU.mk t.n t.n rfl rfl (b2 _) (by show 1*t.n<=_;omega) (by omega) ?_;refine cy.mk λb ag Em=>?_;refine ea.inv (ι:=Nat×List Bool) (λx=>{ bK:=[(1,.ref 1 0),(3,.val (.slice (some ⟨b,0,none⟩) t.n t.n)),(26,.val (.slice t.a t.n t.c)),(27,.val (.int .i64 t.n)),(28,.val (.int .i64 x.1))],cl:=[(1,t.cells)],dz:=I,d':=[AD b x.2] }) (λx=>x.1<=t.n/\x.2.length=t.n/\mm 0 t.ns (List.replicate t.ns.length false)=mm x.1 (t.ns.drop x.1) x.2) (λx=>t.n-x.1) ?_ ?_;·refine⟨(0,List.replicate t.n false),⟨by omega,by simp,by simp[az]⟩,?_,jj,.cons rfl .nil⟩;show lr _ _ [⟨b,.cells (rowOf [Value.bool false] (t.n*1)).toArray 4 (0,0)⟩] _ [AD b (List.replicate t.n false)];rw[Cp,jk];simp only[AD,O6];exact .refl
   ·rintro⟨i,s⟩⟨gL,j1,kl⟩;simp only at gL j1 kl;refine aM.mk (λh=>?_) (λh=>?_)
    ·have a0:i<t.n:=by simpa using h
     have bZ:i<t.ns.length:=by omega
     obtain⟨ad,b3,br⟩:=aI.bj.row bh.dc a0 bZ;have kr:=aI.ns t.ns[i] (dr bZ);have ev:=kr.kn;have j7:t.ns.drop i=t.ns[i]::t.ns.drop (i+1):=fg bZ;refine bl.mk ad i b3 rfl a0 ?_;refine aw.mk t.ns[i].cells (br _) ?_;refine a9.mk [] [AD b s] _ (.refl _) (Wr aJ kr t.ns[i].kn) ?_;rintro v I' M' -⟨rfl,rfl,rfl⟩;refine aM.mk (λaf=>?_) (λaf=>?_)
     ·refine⟨_,_,.sub (eN _) .refl,?_,rfl,rfl⟩;have ar:fits t.ns[i] t.ns[i].aS.length=false:=by rw[ev];simpa using af
      have:right t=false:=by unfold right;rw[kl,j7];simp[mm,ar]
      rw[this]
     ·have ar:fits t.ns[i] t.ns[i].aS.length=true:=by rw[ev];simpa using af
      refine ea.inv (ι:=Nat×List Bool) (λx=>{ bK:=[(1,.ref 1 0),(3,.val (.slice (some ⟨b,0,none⟩) t.n t.n)),(4,.val (.int .i64 i)),(26,.val (.slice t.a t.n t.c)),(27,.val (.int .i64 t.n)),(28,.val (.int .i64 i)),(40,.val (.slice t.ns[i].ml t.ns[i].kn t.ns[i].k7)),(41,.val (.int .i64 t.ns[i].kn)),(42,.val (.int .i64 x.1))],cl:=[(1,t.cells)],dz:=I',d':=[AD b x.2] }) (λx=>x.1<=t.ns[i].kn/\x.2.length=t.n/\lx i t.ns[i].aS s=lx i (t.ns[i].aS.drop x.1) x.2) (λx=>t.ns[i].kn-x.1) ?_ ?_;·exact⟨(0,s),⟨by omega,j1,rfl⟩,.refl,k8,.cons rfl .nil⟩
      ·rintro⟨j,cH⟩⟨kt,mo,En⟩;simp only at kt mo En;refine aM.mk (λh=>?_) (λh=>?_)
       ·have fp:j<t.ns[i].kn:=by simpa using h
        have lZ:j<t.ns[i].aS.length:=by omega
        obtain⟨h',iI,gY⟩:=kr.bj.one fp lZ;refine bl.mk h' j iI rfl fp ?_;refine aw.mk [.int .i64 t.ns[i].aS[j]] (gY _) ?_;have jb:t.ns[i].aS.drop j=t.ns[i].aS[j]::t.ns[i].aS.drop (j+1):=fg lZ;have bad:(decide (t.ns[i].aS[j]<0)||(decide ((i:Int)<=t.ns[i].aS[j])||cH.getD t.ns[i].aS[j].toNat false))=true->right t=false:=λag=>by unfold right;rw[kl,j7];simp only[mm,ar,a4,En,jb,lx,ag];simp
        refine c0.mk (λaN=>?_) (λaN=>?_)
        ·refine c0.mk (λbq=>?_) (λbq=>?_)
         ·simp only[ny,Int.not_lt,Int.not_le]at aN bq;have e3:t.ns[i].aS[j]=((t.ns[i].aS[j].toNat:Nat):Int):=by omega
          have e4:t.ns[i].aS[j].toNat<t.n:=by omega
          have tr:t.ns[i].aS[j].toNat<cH.length:=by omega
          refine bl.mk ⟨b,0,none⟩ t.ns[i].aS[j].toNat rfl e3 e4 ?_;refine aw.mk [.bool cH[t.ns[i].aS[j].toNat]] (Wt (by simp) tr) ?_;refine aM.mk (λbp=>?_) (λbp=>?_);·refine⟨_,_,.sub (eN _) .refl,?_,rfl,rfl⟩;rw[bad];simp[dB,tr,bp]
          ·refine bl.mk ⟨b,0,none⟩ t.ns[i].aS[j].toNat rfl e3 e4 ?_;refine cc.add [] [] _ 4 rfl ?_ rfl ?_
           ·simp only[vp,eW];show 0+t.ns[i].aS[j].toNat*1+1<=_;omega
           have gB:IntKind.i64.wrap ((j:Int)+1)=((j+1:Nat):Int):=by rw[wrap_i64 ⟨by omega,by have:=kr.bj.cap;omega⟩];omega
           refine bb.mk _ gB ?_;refine⟨(j+1,cH.set t.ns[i].aS[j].toNat true),⟨⟨by omega,by simp[mo],?_⟩,by show _<_;simp only;omega⟩,?_,k8,.cons rfl .nil⟩
           ·simp only;rw[En,jb];have aL:(decide (t.ns[i].aS[j]<0)||(decide ((i:Int)<=t.ns[i].aS[j])||cH.getD t.ns[i].aS[j].toNat false))=false:=by
             have aC:¬ t.ns[i].aS[j]<0:=by omega
             have aA:¬ (i:Int)<=t.ns[i].aS[j]:=by omega
             simp[aC,aA,dB,tr,show cH[t.ns[i].aS[j].toNat]=false from bp]
            simp only[lx,aL,aQ]
           ·have e:=agL cH t.ns[i].aS[j].toNat tr true;simp only[AD];rw[<-e];simp only[dp,jk];exact .refl
         ·refine⟨_,_,.sub (eN _) .refl,?_,rfl,rfl⟩;rw[bad];simp at bq;simp[bq]
        ·refine⟨_,_,.sub (eN _) .refl,?_,rfl,rfl⟩;rw[bad];simp at aN;simp[aN]
       ·have fp:¬ j<t.ns[i].kn:=by simpa using h
        have Cr:t.ns[i].aS.drop j=[]:=iG (by omega);have gB:IntKind.i64.wrap ((i:Int)+1)=((i+1:Nat):Int):=by rw[wrap_i64 ⟨by omega,by omega⟩];omega
        refine bb.mk _ gB ?_;refine⟨(i+1,cH),⟨⟨by omega,mo,?_⟩,by show _<_;simp only;omega⟩,.refl,jj,.cons rfl .nil⟩;simp only;rw[kl,j7];simp only[mm,ar,a4,En,Cr,lx]
    ·have cE:¬ i<t.n:=by simpa using h
     have fi:t.ns.drop i=[]:=iG (by omega);have gq:mm 0 t.ns (List.replicate t.ns.length false)=some s:=by rw[kl,fi];rfl
     have al:right t=sj t.bR 0 s:=by unfold right;rw[gq];simp[a3,a6]
     refine ea.inv (ι:=Nat) (λm=>{ bK:=[(1,.ref 1 0),(64,.val (.slice (some ⟨b,0,none⟩) t.n t.n)),(65,.val (.int .i64 t.n)),(66,.val (.int .i64 m))],cl:=[(1,t.cells)],dz:=I,d':=[AD b s] }) (λm=>m<=t.n/\sj t.bR 0 s=sj t.bR m (s.drop m)) (λm=>t.n-m) ?_ ?_;·exact⟨0,⟨by omega,rfl⟩,.refl,fo,.cons rfl .nil⟩
     ·rintro m⟨Hd,uI⟩;refine aM.mk (λh=>?_) (λh=>?_)
      ·have q':m<t.n:=by simpa using h
       have Wu:m<s.length:=by omega
       have sk:s.drop m=s[m]::s.drop (m+1):=fg Wu;refine bl.mk ⟨b,0,none⟩ m rfl rfl q' ?_;refine aw.mk [.bool s[m]] (Wt (by simp) Wu) ?_;refine aM.mk (λec=>?_) (λec=>?_)
       ·refine⟨_,_,.sub (eN _) .refl,?_,rfl,rfl⟩;have:right t=false:=by rw[al,uI,sk];simp only[sj,show(s[m] == decide ((m:Int)=t.bR))=true from ec,a4]
        rw[this]
       ·have gB:IntKind.i64.wrap ((m:Int)+1)=((m+1:Nat):Int):=by rw[wrap_i64 ⟨by omega,by omega⟩];omega
        refine bb.mk _ gB ?_;refine⟨m+1,⟨⟨by omega,?_⟩,by omega⟩,.refl,fo,.cons rfl .nil⟩;rw[uI,sk];simp only[sj,show(s[m] == decide ((m:Int)=t.bR))=false from ec,aQ]
      ·have q':¬ m<t.n:=by simpa using h
       have sk:s.drop m=[]:=iG (by omega);refine⟨_,_,.sub (eN _) .refl,?_,rfl,rfl⟩;rw[al,uI,sk];rfl
 ·refine⟨_,_,.refl,?_,rfl,rfl⟩;have:¬ 0<=t.bR:=by simp at U;omega
  simp[right,this]
def AE(b:Nat)(s:List Int):aF:=⟨b,.cells (s.map (Value.int .i64)).toArray 3 (0,0)⟩
def agM{M:List aF}{s:List Int}(a2:AE b s∈M)(an:j<s.length):cx I M ((⟨b,0,none⟩:Addr).add (j*1)) 1 [.int .i64 s[j]]:=by
 rw[dY _ rfl];refine⟨rfl,_,3,(0,0),.inr ⟨_,a2,rfl,rfl⟩,?_,rfl⟩;have U:j<(s.map (Value.int .i64)).length:=by simpa using an
 simp only[dp,jk];rw[fg U,oL,oM];simp
def KJ{M:List aF}{s:List Int}{v:Int}(an:j<s.length)(aj:s[j]=v)(a2:AE b s∈M):cx I M ((⟨b,0,none⟩:Addr).add (j*1)) 1 [.int .i64 v]:=aj ▸ agM a2 an
def Wv(s:List Int)(j:Nat)(an:j<s.length)(b:Int):bQ (s.map (Value.int .i64)) j [.int .i64 b]=(s.set j b).map (Value.int .i64):=by unfold bQ;rw[G3,Eg];simp[an]
def agN(aJ:si I){t:eH}(aI:t.ok I):Spec Tryz.prog 206 [t.val] I [] (λv I' M'=>v=.int .i64 (bif right t then(t.n:Int)else 0)/\I'=I/\M'=[]):=by
 refine bY [] aV Tryz.func206 rfl rfl rfl ?_;intro B ay;refine a9.mk [] [] _ (.refl _) (Cq aJ aI) ?_;rintro v I' M' -⟨rfl,rfl,rfl⟩;refine aM.mk (λh=>?_) (λh=>?_)
 ·refine⟨_,_,.refl,?_,rfl,rfl⟩;rw[show right t=false by simpa using h];rfl
 ·refine⟨_,_,.refl,?_,rfl,rfl⟩;rw[show right t=true by simpa using h];rfl
def Ww{i:Nat}:∀ {ks:List Int} {s cH:List Bool},lx i ks s=some cH->∀ k∈ks,0<=k/\k<i
 |[],s,cH,_,k,ae=>by cases ae
 |x::ks,s,cH,h,k,ae=>by
  unfold lx at h;cases ag:(decide (x<0)||(decide ((i:Int)<=x)||s.getD x.toNat false))with
  |true=>rw[ag]at h;cases h
  |false=>
   rw[ag]at h;simp only[n8,ny]at ag;rcases eu.1 ae with rfl | ae;·omega
   ·exact Ww h k ae
def Wx:∀ {i:Nat} {ds:List bh} {s cH:List Bool},mm i ds s=some cH->∀ j (h:j<ds.length),∀ k∈ds[j].aS,0<=k/\k<(i+j:Nat)
 |i,[],s,cH,_,j,an,_,_=>by cases an
 |i,d::ds,s,cH,h,j,an,k,ae=>by
  unfold mm at h;cases ar:fits d d.aS.length with
  |false=>rw[ar]at h;cases h
  |true=>
   rw[ar]at h;simp only[a4]at h;cases aD:lx i d.aS s with
   |none=>rw[aD]at h;cases h
   |some s1=>
    rw[aD]at h;cases j with
    |zero=>exact Ww aD k (by simpa using ae)| succ j=>have:=Wx h j (by simpa using an) k (by simpa using ae);omega
def pD{t:eH}(h:right t=true):∀ j (an:j<t.ns.length),∀ k∈t.ns[j].aS,0<=k/\k<j:=by
 unfold right at h;simp only[ct]at h;obtain⟨_,_,h⟩:=h;split at h
 ·rename_i s ax;intro j an k ae;have:=Wx ax j an k ae;omega
 ·cases h
def Cs{t:eH}(h:right t=true):0<=t.bR/\t.bR<t.ns.length:=by unfold right at h;simp only[ct,eY]at h;exact⟨h.1,h.2.1⟩
def He(il:List Int):List Int->Int->Int
 |[],m=>m| k::ks,m=>He il ks (max m (il.getD k.toNat 0))
def Eo:Nat->List bh->List Int->List Int
 |_,[],il=>il| i,d::ds,il=>Eo (i+1) ds (il.set i (He il d.aS 0+1))
def depth(t:eH):Int:=bif right t then(Eo 0 t.ns (List.replicate t.ns.length 0)).getD t.bR.toNat 0 else 0
def agO(aJ:si I){t:eH}(aI:t.ok I):Spec Tryz.prog 101 [t.val] I [] (λv I' M'=>v=.int .i64 (depth t)/\I'=I/\M'=[]):=by
 refine bY [] aV Tryz.func101 rfl rfl rfl ?_;intro B ay;have az:=aI.n;have iH:=aI.bj.cap;refine a9.mk [] [] _ (.refl _) (Cq aJ aI) ?_;rintro v I' M' -⟨rfl,rfl,rfl⟩;refine aM.mk (λh=>?_) (λh=>?_)
 ·refine⟨_,_,.refl,?_,rfl,rfl⟩;simp[depth,show right t=false by simpa using h]
 ·have al:right t=true:=by simpa using h
  have l0:=pD al;obtain⟨a3,a6⟩:=Cs al;refine qU.mk t.n t.n rfl rfl (b2 _) (by show 8*t.n<=_;omega) (by omega) ?_;refine cy.mk λb ag Em=>?_;refine ea.inv (ι:=Nat×List Int) (λx=>{ bK:=[(1,.ref 1 0),(3,.val (.slice (some ⟨b,0,none⟩) t.n t.n)),(16,.val (.slice t.a t.n t.c)),(17,.val (.int .i64 t.n)),(18,.val (.int .i64 x.1))],cl:=[(1,t.cells)],dz:=I',d':=[AE b x.2] }) (λx=>x.1<=t.n/\x.2.length=t.n/\(∀ j,0<=x.2.getD j 0/\x.2.getD j 0<=x.1)/\(∀ j,x.1<=j->x.2.getD j 0=0)/\Eo 0 t.ns (List.replicate t.ns.length 0)=Eo x.1 (t.ns.drop x.1) x.2) (λx=>t.n-x.1) ?_ ?_
  ·have z:∀ j,(List.replicate t.n (0:Int)).getD j 0=0:=λj=>by
    by_cases an:j<t.n<;>simp[dB,an]
   refine⟨(0,List.replicate t.n 0),⟨by omega,by simp,λj=>by rw[z];simp,λj _=>z j,by simp[az]⟩,?_,jj,.cons rfl .nil⟩;show lr _ _ [⟨b,.cells (rowOf [Value.int .i64 0] (t.n*1)).toArray 3 (0,0)⟩] _ [AE b (List.replicate t.n 0)];rw[Cp,jk];simp only[AE,O6];exact .refl
  ·rintro⟨i,il⟩⟨gL,j1,kl,mQ,B'⟩;simp only at gL j1 kl mQ B';refine aM.mk (λh=>?_) (λh=>?_)
   ·have a0:i<t.n:=by simpa using h
    have bZ:i<t.ns.length:=by omega
    obtain⟨ad,b3,br⟩:=aI.bj.row bh.dc a0 bZ;have kr:=aI.ns t.ns[i] (dr bZ);have ev:=kr.kn;have j7:t.ns.drop i=t.ns[i]::t.ns.drop (i+1):=fg bZ;refine bl.mk ad i b3 rfl a0 ?_;refine aw.mk t.ns[i].cells (br _) ?_;refine ea.inv (ι:=Nat×Int) (λx=>{ bK:=[(1,.ref 1 0),(3,.val (.slice (some ⟨b,0,none⟩) t.n t.n)),(4,.val (.int .i64 i)),(16,.val (.slice t.a t.n t.c)),(17,.val (.int .i64 t.n)),(18,.val (.int .i64 i)),(24,.val (.slice t.ns[i].ml t.ns[i].kn t.ns[i].k7)),(25,.val (.int .i64 t.ns[i].kn)),(26,.val (.int .i64 x.1))],cl:=[(1,t.cells)],dz:=I',d':=[AE b (il.set i x.2)] }) (λx=>x.1<=t.ns[i].kn/\0<=x.2/\x.2<=i/\He il t.ns[i].aS 0=He il (t.ns[i].aS.drop x.1) x.2) (λx=>t.ns[i].kn-x.1) ?_ ?_
    ·refine⟨(0,0),⟨by omega,by omega,by simp,rfl⟩,?_,k8,.cons rfl .nil⟩;have e:il.set i 0=il:=by
      have U:=mQ i (b2 _);rw[dB]at U;apply Ci;intro j;rw[qi];split
      ·rename_i e;subst e;have:i<il.length:=by omega
       simp[this]at U |-;exact U.symm
      ·rfl
     simp only;rw[e];exact .refl
    ·rintro⟨j,m⟩⟨kt,mo,En,Pp⟩;simp only at kt mo En Pp;refine aM.mk (λh=>?_) (λh=>?_)
     ·have fp:j<t.ns[i].kn:=by simpa using h
      have lZ:j<t.ns[i].aS.length:=by omega
      obtain⟨h',iI,gY⟩:=kr.bj.one fp lZ;have jb:t.ns[i].aS.drop j=t.ns[i].aS[j]::t.ns[i].aS.drop (j+1):=fg lZ;have ae:=l0 i bZ t.ns[i].aS[j] (dr lZ);have e3:t.ns[i].aS[j]=((t.ns[i].aS[j].toNat:Nat):Int):=by omega
      have e4:t.ns[i].aS[j].toNat<t.n:=by omega
      refine bl.mk h' j iI rfl fp ?_;refine aw.mk [.int .i64 t.ns[i].aS[j]] (gY _) ?_;refine cq.draw aV rfl rfl rfl ?_;have fq:i<(il.set i m).length:=by simp;omega
      have tr:t.ns[i].aS[j].toNat<(il.set i m).length:=by simp;omega
      have Pq:(il.set i m)[i]=m:=by simp
      have h7:(il.set i m)[t.ns[i].aS[j].toNat]=il.getD t.ns[i].aS[j].toNat 0:=by
       have bM:i≠t.ns[i].aS[j].toNat:=by omega
       have dk:t.ns[i].aS[j].toNat<il.length:=by omega
       rw[List.getElem_set,b8 bM];simp[dB,dk]
      refine bl.mk ⟨b,0,none⟩ i rfl rfl a0 ?_;refine aw.mk [.int .i64 m] (KJ fq Pq (by simp)) ?_;refine bl.mk ⟨b,0,none⟩ t.ns[i].aS[j].toNat rfl e3 e4 ?_;refine aw.mk [.int .i64 (il.getD t.ns[i].aS[j].toNat 0)] (KJ tr h7 (by simp)) ?_;refine bl.mk ⟨b,0,none⟩ i rfl rfl a0 ?_;refine cc.add [] [] _ 3 rfl ?_ rfl ?_;·simp only[vp,eW];show 0+i*1+1<=_;simp;omega
      have gB:IntKind.i64.wrap ((j:Int)+1)=((j+1:Nat):Int):=by rw[wrap_i64 ⟨by omega,by have:=kr.bj.cap;omega⟩];omega
      refine bb.mk _ gB ?_;have ati:=kl t.ns[i].aS[j].toNat;refine⟨(j+1,max m (il.getD t.ns[i].aS[j].toNat 0)),⟨⟨by omega,by simp only;omega,by simp only;omega,?_⟩,by show _<_;simp only;omega⟩,?_,k8,.cons rfl .nil⟩;·simp only;rw[Pp,jb];rfl
      ·have e:=Wv (il.set i m) i fq (max m (il.getD t.ns[i].aS[j].toNat 0));simp only[AE];rw[KG]at e;rw[<-e];simp only[dp,jk];exact .refl
     ·have fp:¬ j<t.ns[i].kn:=by simpa using h
      have Cr:t.ns[i].aS.drop j=[]:=iG (by omega);have hm:He il t.ns[i].aS 0=m:=by rw[Pp,Cr];rfl
      have fq:i<(il.set i m).length:=by simp;omega
      have Pq:(il.set i m)[i]=m:=by simp
      have agP:IntKind.i64.wrap (m+1)=m+1:=wrap_i64 ⟨by omega,by omega⟩;have gB:IntKind.i64.wrap ((i:Int)+1)=((i+1:Nat):Int):=by rw[wrap_i64 ⟨by omega,by omega⟩];omega
      refine bl.mk ⟨b,0,none⟩ i rfl rfl a0 ?_;refine aw.mk [.int .i64 m] (KJ fq Pq (by simp)) ?_;refine bb.mk _ agP ?_;refine bl.mk ⟨b,0,none⟩ i rfl rfl a0 ?_;refine cc.add [] [] _ 3 rfl ?_ rfl ?_;·simp only[vp,eW];show 0+i*1+1<=_;omega
      refine bb.mk _ gB ?_;refine⟨(i+1,il.set i (m+1)),⟨⟨by omega,by simp[j1],?_,?_,?_⟩,by show _<_;simp only;omega⟩,?_,jj,.cons rfl .nil⟩
      ·intro q;have agQ:=kl q;simp only[dB,qi]at agQ |-;split
       ·rename_i e;subst e;have:i<il.length:=by omega
        simp[this];omega
       ·omega
      ·intro q aL;have Wy:=mQ q (by omega);simp only at aL;simp only[dB,qi]at Wy |-;rw[b8 (by omega)];exact Wy
      ·simp only;rw[B',j7];simp only[Eo,hm]
      ·have e:=Wv (il.set i m) i fq (m+1);simp only[AE];rw[KG]at e;rw[<-e];simp only[dp,jk];exact .refl
   ·have cE:¬ i<t.n:=by simpa using h
    have fi:t.ns.drop i=[]:=iG (by omega);have gq:Eo 0 t.ns (List.replicate t.ns.length 0)=il:=by rw[B',fi];rfl
    have ra:t.bR=((t.bR.toNat:Nat):Int):=by omega
    have hA:t.bR.toNat<il.length:=by omega
    refine bl.mk ⟨b,0,none⟩ t.bR.toNat rfl ra (by omega) ?_;refine aw.mk [.int .i64 il[t.bR.toNat]] (KJ hA rfl (by simp)) ?_;refine⟨_,_,.sub (eN _) .refl,?_,rfl,rfl⟩;have:depth t=il[t.bR.toNat]:=by unfold depth;rw[al,gq];simp[dB,hA]
    rw[this];rfl
def vJ(t:eH):Bool:=decide (t.n<=1024)&&(right t&&decide (depth t<=32))
def agR(aJ:si I){t:eH}(aI:t.ok I):Spec Tryz.prog 51 [t.val] I [] (λv I' M'=>v=.bool (vJ t)/\I'=I/\M'=[]):=by
 refine bY [] aV Tryz.func51 rfl rfl rfl ?_;intro B ay;refine c0.mk (λU=>?_) (λU=>?_)
 ·refine a9.mk [] [] _ (.refl _) (Cq aJ aI) ?_;rintro v I' M' -⟨rfl,rfl,rfl⟩;refine c0.mk (λaa=>?_) (λaa=>?_)
  ·refine a9.mk [] [] _ (.refl _) (agO aJ aI) ?_;rintro v I' M' -⟨rfl,rfl,rfl⟩;refine⟨_,_,.refl,?_,rfl,rfl⟩;have nE:t.n<=1024:=by simp at U;omega
   simp[vJ,nE,aa]
  ·refine⟨_,_,.refl,?_,rfl,rfl⟩;have jn:right t=false:=aa;simp[vJ,jn]
 ·refine⟨_,_,.refl,?_,rfl,rfl⟩;have nE:¬ t.n<=1024:=by simp at U;omega
  simp[vJ,nE]
def rb{α:Type}(z:α)(f:bh->(Int->α)->α):List bh->List α->List α
 |[],bc=>bc| d::ds,bc=>rb z f ds (bc++[f d λk=>bc.getD k.toNat z])
section
variable{α:Type}{z:α}{f:bh->(Int->α)->α}
def Pr:∀ (ds:List bh) (bc:List α) (j:Nat),j<bc.length->(rb z f ds bc)[j]?=bc[j]?
 |[],bc,j,_=>rfl| d::ds,bc,j,h=>by rw[rb,Pr ds _ j (by simp;omega),rZ h]
def Wz:∀ (ds:List bh) (bc:List α) (j:Nat) (h:j<ds.length),(rb z f ds bc)[bc.length+j]?=some (f ds[j] λk=>((rb z f ds bc).take (bc.length+j)).getD k.toNat z)
 |d::ds,bc,0,_=>by
  rw[rb,p',Pr ds _ bc.length (by simp)];simp only[List.getElem?_concat_length,y4,hq];congr 1;funext k;have:(rb z f ds (bc++[f d λk=>bc.getD k.toNat z])).take bc.length=bc:=by
   apply Ci;intro i;rw[mM];split;·rename_i hi;rw[Pr ds _ i (by simp;omega),rZ hi]
   ·rw[qR (by omega)]
  rw[this]
 |d::ds,bc,j+1,h=>by have:=Wz ds (bc++[f d λk=>bc.getD k.toNat z]) j (by simpa using h);rw[rb];simp only[di,eM,ko,dp,KF]at this |-;rw[show bc.length+(j+1)=bc.length+1+j from by omega];exact this
def xA(z:α)(f:bh->(Int->α)->α)(ns:List bh)(k:Int):α:=(rb z f ns []).getD k.toNat z
def Hf(ar:∀ d g eD,(∀ k∈d.aS,g k=eD k)->f d g=f d eD){t:eH}(al:right t=true)(an:j<t.ns.length):xA z f t.ns j=f t.ns[j] (xA z f t.ns):=by have h:=Wz (z:=z) (f:=f) t.ns [] j an;simp only[ko,dp]at h;unfold xA;rw[dB,show((j:Int).toNat)=j from by omega,h,mb];refine ar _ _ _ λk ae=>?_;have:=pD al j an k ae;rw[dB,dB,mM,cF (by omega)]
end
def free(g:Nat->Nat)(s:List Bool):Nat->Nat
 |0=>0| i+1=>free g s i+(bif s.getD i false then 0 else g i)
def WA{g:Nat->Nat}{s:List Bool}{k:Nat}:∀ {i:Nat},i<=k->free g (s.set k true) i=free g s i
 |0,_=>rfl| i+1,h=>by unfold free;rw[WA (by omega)];simp only[dB,qi];rw[b8 (by omega)]
def WB{g:Nat->Nat}{s:List Bool}{k:Nat}(ax:s.getD k false=false)(aE:k<s.length):∀ {i:Nat},k<i->free g (s.set k true) i+g k=free g s i
 |i+1,h=>by
  unfold free;by_cases e:i=k;·subst e;rw[WA (b2 _),ax];simp[dB,aE]
  ·have:=WB (g:=g) ax aE (i:=i) (by omega);simp only[dB,qi]at this |-;rw[b8 (by omega)];omega
def pE(g:Int->Nat)(ks:List Int):Nat:=(ks.map g).sum
def WC{g:Nat->Nat}{i:Nat}:∀ {ks:List Int} {s cH:List Bool},lx i ks s=some cH->i<=s.length->cH.length=s.length/\free g cH i+pE (λk=>g k.toNat) ks=free g s i
 |[],s,cH,h,_=>by simp only[lx,hq]at h;subst h;exact⟨rfl,rfl⟩
 |x::ks,s,cH,h,aE=>by
  unfold lx at h;cases ag:(decide (x<0)||(decide ((i:Int)<=x)||s.getD x.toNat false))with
  |true=>rw[ag]at h;cases h| false=>rw[ag]at h;simp only[n8,ny]at ag;obtain⟨U,aa,af⟩:=ag;obtain⟨aC,aA⟩:=WC (g:=g) h (by simpa using aE);have bx:=WB (g:=g) af (by omega) (i:=i) (by omega);refine⟨by simpa using aC,?_⟩;simp only[pE,dQ,k']at aA |-;omega
def Ps{g:Nat->Nat}{c:bh->Nat}:∀ {ds:List bh} {i:Nat} {s cH:List Bool},mm i ds s=some cH->i+ds.length<=s.length->(∀ j (h:j<ds.length),g (i+j)<=c ds[j]+pE (λk=>g k.toNat) ds[j].aS) -> cH.length=s.length/\free g cH (i+ds.length)<=free g s i+(ds.map c).sum
 |[],i,s,cH,h,_,_=>by simp only[mm,hq]at h;subst h;simp
 |d::ds,i,s,cH,h,aE,aB=>by
  unfold mm at h;cases ar:fits d d.aS.length with
  |false=>rw[ar]at h;cases h
  |true=>
   rw[ar]at h;simp only[a4]at h;cases aD:lx i d.aS s with
   |none=>rw[aD]at h;cases h
   |some s1=>
    rw[aD]at h;simp only[eM]at aE;obtain⟨aC,aA⟩:=WC (g:=g) aD (by omega);obtain⟨bx,cU⟩:=Ps (g:=g) (c:=c) h (by omega) (λj an=>by
     have:=aB (j+1) (by simp;omega);simp only[KF]at this;rw[show i+1+j=i+(j+1)from by omega];exact this)
    have ay:=aB 0 (by simp);simp only[p',y4]at ay;refine⟨by omega,?_⟩;have e8:free g s1 (i+1)<=free g s1 i+g i:=by
     show free g s1 i+_<=_;cases s1.getD i false<;>simp
    simp only[eM,dQ,k'];rw[show i+(ds.length+1)=i+1+ds.length from by omega];omega
def WD{bR:Int}:∀ {s:List Bool} {i:Nat},sj bR i s=true->∀ j,j<s.length->(i+j:Nat)=bR->s.getD j false=false
 |b::s,i,h,j,an,e=>by
  unfold sj at h;cases ag:(b == decide ((i:Int)=bR))with
  |true=>rw[ag]at h;cases h
  |false=>
   rw[ag]at h;cases j with
   |zero=>
    have:decide ((i:Int)=bR)=true:=by simpa using e
    rw[this]at ag;simpa using ag
   |succ j=>have:=WD (i:=i+1) h j (by simpa using an) (by omega);simpa using this
def WE{g:Nat->Nat}{s:List Bool}{k:Nat}(ae:s.getD k false=false):∀ {n:Nat},k<n->g k<=free g s n
 |n+1,h=>by
  unfold free;by_cases e:n=k;·subst e;rw[ae];simp
  ·have:=WE (g:=g) ae (n:=n) (by omega);omega
def WG{t:eH}(al:right t=true){g:Int->Nat}{c:bh->Nat}(h:∀ j (an:j<t.ns.length),g j<=c t.ns[j]+pE g t.ns[j].aS):g t.bR<=(t.ns.map c).sum:=by
 have sm:=Cs al;have ae:=pD al;unfold right at al;simp only[ct]at al;obtain⟨_,_,al⟩:=al;split at al
 ·rename_i s ax;obtain⟨aC,aA⟩:=Ps (g:=λk=>g k) (c:=c) ax (by simp) (λj an=>by refine iU (by rw[dp];exact h j an) (Nat.le_of_eq ?_);congr 1;unfold pE;congr 1;refine xo λk h7=>?_;have:=ae j an k h7;rw[Aw this.1]);simp only[y5,dp]at aC aA;have bk:=WD al t.bR.toNat (by omega) (by omega);have:=WE (g:=λk=>g k) bk (n:=t.ns.length) (by omega);rw[Aw sm.1]at this;simp only[free]at aA;omega
 ·cases al
def Ep{t:eH}(al:right t=true)(an:j<t.ns.length):fits t.ns[j] t.ns[j].aS.length=true:=by
 have aux:∀ {ds:List bh} {i:Nat} {s cH:List Bool},mm i ds s=some cH->∀ j (h:j<ds.length),fits ds[j] ds[j].aS.length=true:=by
  intro ds
  induction ds with
  |nil=>intro i s cH _ j an;cases an
  |cons d ds be=>
   intro i s cH h j an;unfold mm at h;cases ar:fits d d.aS.length with
   |false=>rw[ar]at h;cases h
   |true=>
    rw[ar]at h;simp only[a4]at h;cases aD:lx i d.aS s with
    |none=>rw[aD]at h;cases h
    |some s1=>
     rw[aD]at h;cases j with
     |zero=>exact ar| succ j=>exact be h j (by simpa using an)
 unfold right at al;simp only[ct]at al;obtain⟨_,_,al⟩:=al;split at al
 ·rename_i s ax;exact aux ax j an
 ·cases al
def agS(t u ty e:Nat)(i:TypeInfo)(aI:P.underlying t=some (.slice e))(hu:P.underlying u=some pz)(q6:∀ k,pz≠.int k)(hi:P.info? e=some i)
 {n:Nat} (oQ:n<=c) (ay:(∃ b c,xt=.slice b 0 c)\/xt=.string .empty):(Builtin.append_ #[t,u] ty #[.slice sa n c,xt]).run P w=.ok (.slice sa n c) w:=by
 have Ha:(match pz with | .int _=>true | _=>false)=false:=by cases pz<;>first | rfl | exact(q6 _ rfl).elim
 rcases ay with⟨b,c',rfl⟩ | rfl
 ·cases b<;>cases sa<;>simp[Builtin.append_,run_underlying aI,run_underlying hu,sizeOf,typeInfo,hi,Ha,Builtin.lenOf,oQ,Builtin.firstCells,Builtin.zeroCells,loadCells,loadCellsFrom,storeCells]
 ·cases sa<;>simp[Builtin.append_,run_underlying aI,run_underlying hu,sizeOf,typeInfo,hi,Ha,Builtin.lenOf,oQ,Builtin.firstCells,loadCells,storeCells]
section
variable{X:dw}{β:Nat->Nat}{a:Act}{w:World}{F:Fr}{C:dX}{I:a5}{M:List aF}{o:Oper}{K:hb}
def bE.bin{op:BinOp}(aD:o.op=.binOp op t x y fw)(ah:∀ d,o.dst=some d->d<X.n){q:Value}(ab:bU F x=.val p)(aT:bU F y=.val q)
  (aB:∀ w,(eqGuard op t x y p q).run X.P w=.ok () w) (al:∀ w,e1 I M w->(binOp op t p q).run X.P w=.ok v w) (h:K (put o.dst (.val v) F) C I M):bE X o F C I M K:=by
 refine⟨λac w Q ⟨β,ba⟩=>?_⟩;have ex:=dJ ba.ak ab;have q8:=dJ ba.ak aT;refine w7 ba ah (by rw[aD];simp) ?_ h;unfold execOp;simp only[aD,cG,ex,q8,aB,ck,al w ba.holds,dv]
def bE.conv{s:Nat}(aD:o.op=.convert s t x)(ah:∀ d,o.dst=some d->d<X.n)(ab:bU F x=.val p)
  (al:∀ w,e1 I M w->(convert s t p).run X.P w=.ok v w) (h:K (put o.dst (.val v) F) C I M):bE X o F C I M K:=by
 refine⟨λac w Q ⟨β,ba⟩=>?_⟩;have ex:=dJ ba.ak ab;refine w7 ba ah (by rw[aD];simp) ?_ h;unfold execOp;simp only[aD,cG,ex,ck,al w ba.holds,dv]
def bE.un{op:UnOp}(aD:o.op=.unOp op t x)(ah:∀ d,o.dst=some d->d<X.n)(ab:bU F x=.val p)
  (al:∀ w,e1 I M w->(Op.unary op p).run X.P w=.ok v w) (h:K (put o.dst (.val v) F) C I M):bE X o F C I M K:=by
 refine⟨λac w Q ⟨β,ba⟩=>?_⟩;have ex:=dJ ba.ak ab;refine w7 ba ah (by rw[aD];simp) ?_ h;unfold execOp;simp only[aD,cG,ex,ck,al w ba.holds,dv]
def j8(x:Int):Int:=IntKind.u64.wrap (BitVec.ofInt 64 IntKind.u64.max ^^^ BitVec.ofInt 64 x).toNat
def bE.Hg(aD:o.op=.unOp .xor t x)(ah:∀ d,o.dst=some d->d<X.n){n:Int}(ab:bU F x=.val (.int .u64 n))(h:K (put o.dst (.val (.int .u64 (j8 n))) F) C I M):bE X o F C I M K:=
 .un aD ah ab (λw _=>rfl) h
def bE.WH(aW:dm X.P X.E)(aD:o.op=.call { callee:=.builtin .append,args:=#[s,x],argTypes:=#[t,u] })(ah:∀ d,o.dst=some d->d<X.n)
 (aI:X.E t=some dT) (eS:dT.bT=.slice e) (hu:X.E u=some oO) (gK:∀ k,oO.bT≠.int k) (he:X.E e=some aP)
 {n:Nat} (ax:bU F s=.val (.slice sa n c)) (oQ:n<=c)
 (ab:bU F x=.val xt) (ay:(∃ b c,xt=.slice b 0 c)\/xt=.string .empty)
  (h:K (put o.dst (.val (.slice sa n c)) F) C I M):bE X o F C I M K:=by
 refine⟨λa w Q ⟨β,ba⟩=>?_⟩;obtain⟨inf,z,hi,gL,j1,kl,mQ⟩:=(aW _ _ he).inf;obtain⟨d,fH,gd⟩:=(aW _ _ hu).fM;obtain⟨ja,qm,mW⟩:=(aW _ _ aI).fM;have vI:ja=.slice e:=by rw[eS]at mW;cases ja<;>simp_all[fF]
 subst vI;have ff:=agS (w:=w) t u o.type e inf qm fH (λk a'=>gK k (by rw[<-gd,a'];rfl)) hi (sa:=sa) oQ ay;have es:=dJ ba.ak ax;have ex:=dJ ba.ak ab;refine w7 ba ah (by rw[aD];simp) ?_ h;unfold execOp;simp only[aD,resolve,invoke,builtin,cG,dv,ck,xp,dQ,oN,es,ex,ff]
def WI(op:BinOp)(t:Nat)(x y:Operand)(p q:Option Addr)(P:Program)(w:World):(eqGuard op t x y (.pointer p) (.pointer q)).run P w=.ok () w:=by
 unfold eqGuard;cases op<;>rfl
def bE.KK(aW:dm X.P X.E)(aD:o.op=.binOp .eql t x y fw)(ah:∀ d,o.dst=some d->d<X.n)(aI:X.E t=some dT)(eS:dT.bT=.pointer e)
  {p:Option Addr} (ab:bU F x=.val (.pointer p)) (aT:bU F y=.val (.pointer none)) (h:K (put o.dst (.val (.bool p.isNone)) F) C I M):bE X o F C I M K:=by
 obtain⟨d,fH,gd⟩:=(aW _ _ aI).fM;have U:d=.pointer e:=by rw[eS]at gd;cases d<;>simp_all[fF]
 subst U;exact .bin aD ah ab aT (λw=>WI ..) (λw _=>run_eql_pointer_nil w t p (by simp[Program.pointee,fH])) h
def bE.WJ(aW:dm X.P X.E)(aD:o.op=.binOp .neq t x y fw)(ah:∀ d,o.dst=some d->d<X.n){agT:eE}(aI:X.E t=some dT)(eS:dT.bT=.pointer e)(he:X.E e=some agT)
  {p:Addr} (ab:bU F x=.val (.pointer (some p))) (aT:bU F y=.val (.pointer (some p))) (h:K (put o.dst (.val (.bool false)) F) C I M):bE X o F C I M K:=by
 obtain⟨d,fH,gd⟩:=(aW _ _ aI).fM;have U:d=.pointer e:=by rw[eS]at gd;cases d<;>simp_all[fF]
 subst U;obtain⟨inf,z,hi,_⟩:=(aW _ _ he).inf;exact .bin aD ah ab aT (λw=>WI ..) (λw _=>Lib.run_neq_ptr_same w p fH hi) h
end
def WK{f:Nat}{fn:Func}{e:Array Value->Sem Value}{args:List Value}{M:List aF}(ar:P.funcs[f]?=some fn)(KL:(fn.name == "runtime.NumGoroutine")=false)
  (ag:fn.body.isNone=true) (az:Extern.findNext fn=none) (he:Extern.find fn=some e) (al:∀ w,(e args.toArray).run P w=.ok v w):Spec P f args I M λr I' M'=>r=v/\I'=I/\M'=M:=by
 refine .inr λw hw=>⟨v,w,I,M,?_,⟨rfl,rfl,rfl⟩,hw,λ_ _ h=>h,λ_ _ h=>.inl h,λx ab=>.inl ⟨x,ab,rfl⟩,λ_ _ _=>rfl,.refl _,b2 _⟩;rw[run_callFunc_extern ar KL ag az he,al];rfl
def AF(l:List UInt8):List Value:=l.map λb=>.int .u8 b.toNat
structure gR where
 aU:Bool
 os:bf
 c1:List UInt8
def gR.aO(b:Nat)(x:gR):aF:=⟨b,.cells #[.pointer (bif x.aU then some ⟨b,0,none⟩else none),x.os.val] 240 (0,0)⟩
def gR.M(b:Nat)(x:gR):List aF:=x.aO b::x.os.aO 5
structure gR.ok(x:gR):Prop where
 os:x.os.ok 1 (AF x.c1)
 ne:∀ g,x.os.a=some g->x.c1≠[]
def gR.new:gR:=⟨false,⟨none,0,0,[]⟩,[]⟩
def gR.KM:gR.new.ok:=⟨⟨rfl,λ_=>⟨rfl,rfl⟩,λg h=>by cases h⟩,λg h=>by cases h⟩
def gR.ok.n{x:gR}(h:x.ok):x.os.n=x.c1.length:=by have:=h.os.len;simp[AF]at this;omega
def ptr(b:Nat):Value:=.pointer (some ⟨b,0,none⟩)
def dt{M:List aF}{cs:List Value}(a2:(⟨b,.cells cs.toArray T (0,0)⟩:aF)∈M){k n:Nat}(h:k+n<=cs.length):cx I M ((⟨b,0,none⟩:Addr).add k) n ((cs.drop k).take n):=by
 rw[dY _ rfl];refine⟨rfl,_,T,(0,0),.inr ⟨_,a2,rfl,rfl⟩,?_,?_⟩
 ·simp
 ·simp;omega
def Pt{M:List aF}(v:Value):Spec Tryz.prog 224 [v] I M λr I' M'=>r=v/\I'=I/\M'=M:=
 WK Tryz.func224 (by kernel_rfl) (by kernel_rfl) (by kernel_rfl) (e:=Extern.AbiNoEscape.same) (by kernel_rfl) (λw=>Lib.run_noEscape w _)
def WL{M:List aF}(s:ByteArray)(c:UInt8):Spec Tryz.prog 291 [.string s,.int .u8 c.toNat] I M λr I' M'=>r=.int .i64 (Lib.indexByte s.data.toList c)/\I'=I/\M'=M:=
 WK Tryz.func291 (by kernel_rfl) (by kernel_rfl) (by kernel_rfl) (e:=Extern.BytealgIndexByte.indexByte) (by kernel_rfl) (λw=>by
  have:=Lib.run_indexByteString (P:=Tryz.prog) s (c.toNat:Int) w;simpa using this)
def agU(s:ByteArray)(c:UInt8):Spec Tryz.prog 275 [.string s,.int .u8 c.toNat] I [] λr I' M'=>r=.int .i64 (Lib.indexByte s.data.toList c)/\I'=I/\M'=[]:=by refine bY [] aV Tryz.func275 rfl rfl rfl ?_;intro B ay;refine a9.mk [] [] _ (.refl _) (WL s c) ?_;rintro v I' M' -⟨rfl,rfl,rfl⟩;exact⟨_,_,.refl,rfl,rfl,rfl⟩
def WM(s:ByteArray)(c:UInt8):Spec Tryz.prog 256 [.string s,.int .u8 c.toNat] I [] λr I' M'=>r=.int .i64 (Lib.indexByte s.data.toList c)/\I'=I/\M'=[]:=by refine bY [] aV Tryz.func256 rfl rfl rfl ?_;intro B ay;refine a9.mk [] [] _ (.refl _) (agU s c) ?_;rintro v I' M' -⟨rfl,rfl,rfl⟩;exact⟨_,_,.refl,rfl,rfl,rfl⟩
def KN{M:List aF}(h:e1 I M w){ak:Nat×Nat}(a2:(⟨b,.cells cs T ak⟩:aF)∈M):w.shape? b=some (T,cs.size):=by have:=h.m _ a2;simp only at this;simp[World.shape?,this]
def WN(b:Nat)(x:gR):Spec Tryz.prog 191 [ptr b] I [x.aO b] λr I' M'=>r=.tuple #[]/\I'=I/\M'=[{ x with aU:=true:gR }.aO b]:=by
 obtain⟨aU,os,c1⟩:=x;obtain⟨inf,z,hi,gL,_⟩:=(aV 240 _ rfl).inf;refine bY [] aV Tryz.func191 rfl rfl rfl ?_;intro B ay;cases aU with
 |false=>refine aw.mk [.pointer none] (dt (cs:=[.pointer none,os.val]) (k:=0) (n:=1) (T:=240) (jw.2 rfl) (by simp)) ?_;refine .other (bE.KK aV rfl (by simp) rfl rfl rfl rfl ?_);refine aM.mk (λ_=>?_) (λh=>by cases h);refine bE.conv rfl (by simp) rfl (λw hw=>Lib.run_to_unsafe (t:=240) (e:=240) (cells:=2) w ⟨b,0,none⟩ (by kernel_rfl) (by kernel_rfl) (j:=inf) hi (by rw[gL];decide) (KN (cs:=#[.pointer none,os.val]) hw (jw.2 rfl)) (by simp)) ?_;refine a9.mk [gR.aO b ⟨false,os,c1⟩] [] _ (by simp) (Pt _) ?_;rintro v I' M' -⟨rfl,rfl,rfl⟩;refine bE.conv rfl (by simp) rfl (λw hw=>Lib.run_from_unsafe (u:=240) (e:=240) (cells:=2) w ⟨b,0,none⟩ (by kernel_rfl) (by kernel_rfl) (j:=inf) hi (KN (cs:=#[.pointer none,os.val]) hw (jw.2 rfl)) (by kernel_rfl)) ?_;refine cc.add [] [] _ _ rfl (bP rfl) rfl ?_;exact⟨_,_,.refl,rfl,rfl,rfl⟩
 |true=>refine aw.mk [ptr b] (dt (cs:=[ptr b,os.val]) (k:=0) (n:=1) (T:=240) (jw.2 rfl) (by simp)) ?_;refine .other (bE.KK aV rfl (by simp) rfl rfl rfl rfl ?_);refine aM.mk (λh=>by cases h) (λ_=>?_);refine aw.mk [ptr b] (dt (cs:=[ptr b,os.val]) (k:=0) (n:=1) (T:=240) (jw.2 rfl) (by simp)) ?_;refine .other (bE.WJ aV rfl (by simp) rfl rfl rfl rfl rfl ?_);refine aM.mk (λh=>by cases h) (λ_=>?_);exact⟨_,_,.refl,rfl,rfl,rfl⟩
def qo(b:Nat){x:gR}(ab:x.ok)(c:UInt8)(aE:x.c1.length<70368744177664):Spec Tryz.prog 260 [ptr b,.int .u8 c.toNat] I (x.M b)
  λr I' M'=>r=.nilIface/\I'=I/\∃ y:gR,y.ok/\y.c1=x.c1++[c]/\M'=y.M b:=by
 refine bY [] aV Tryz.func260 rfl rfl rfl ?_;intro B ay;have az:=ab.n;refine a9.mk [x.aO b] (x.os.aO 5) _ (.refl _) (WN b x) ?_;rintro v I' M' -⟨rfl,rfl,rfl⟩;refine aw.mk [x.os.val] (dt (cs:=[ptr b,x.os.val]) (k:=1) (n:=1) (T:=240) (.head _) (by simp)) ?_;refine cy.mk λg aB vK=>?_;refine bE.append aV rfl (by simp) (e:=5) rfl rfl rfl x.os (xs:=AF x.c1) ab.os rfl (m:=1) rfl (dd:=[.int .u8 c.toNat]) (by decide) ?_ rfl (Mr:=[⟨g,.cells #[.int .u8 c.toNat] 5 (0,0)⟩,{ x with aU:=true:gR }.aO b]) ?_ ?_ ?_ ?_
 ·exact dt (cs:=[.int .u8 c.toNat]) (k:=0) (n:=1) (T:=5) (.head _) (by simp)
 ·exact i' (l₁:=[_,_]) (l₂:=x.os.aO 5)
 ·simp only[maxLen];omega
 ·show(x.os.n+1)*1<=_;omega
 ·intro eD c' aY U aa af aN;refine cc.add [⟨eD,.cells aY.toArray 5 (0,0)⟩,⟨g,.cells #[.int .u8 c.toNat] 5 (0,0)⟩] [] _ _ rfl (bP rfl) rfl ?_;refine⟨_,_,.perm (M1:=[⟨g,.cells #[.int .u8 c.toNat] 5 (0,0)⟩]++gR.M b ⟨true,⟨some eD,x.os.n+1,c',aY⟩,x.c1++[c]⟩) ?_ (.sub (mU _ _) .refl),rfl,rfl,_,?_,rfl,rfl⟩
  ·exact i' (l₁:=[_]) (l₂:=[_,_])
  ·refine⟨⟨?_,λh=>by simp at h,?_⟩,by simp⟩
   ·simp[AF,az]
   ·intro a6 iJ;refine⟨U,aa,af,?_⟩;rw[aN];simp[AF]
def vL(b:Nat){x:gR}(ab:x.ok)(s:ByteArray)(aE:x.c1.length+s.size<=70368744177664):Spec Tryz.prog 128 [ptr b,.string s] I (x.M b)
  λr I' M'=>r=.tuple #[.int .i64 s.size,.nilIface]/\I'=I/\∃ y:gR,y.ok/\y.c1=x.c1++s.data.toList/\M'=y.M b:=by
 refine bY [] aV Tryz.func128 rfl rfl rfl ?_;intro B ay;have az:=ab.n;refine a9.mk [x.aO b] (x.os.aO 5) _ (.refl _) (WN b x) ?_;rintro v I' M' -⟨rfl,rfl,rfl⟩;refine aw.mk [x.os.val] (dt (cs:=[ptr b,x.os.val]) (k:=1) (n:=1) (T:=240) (.head _) (by simp)) ?_;by_cases ax:s.size=0
 ·have he:s=.empty:=w1 (O3 ax);subst he;have oQ:x.os.n<=x.os.c:=by
   cases aH:x.os.a with
   |none=>obtain⟨U,aa⟩:=ab.os.nil aH;omega
   |some g=>exact(ab.os.cap g aH).2.1
  refine bE.WH aV rfl (by simp) (e:=5) rfl rfl rfl (by simp) rfl rfl oQ rfl (.inr rfl) ?_;refine cc.add [] (x.os.aO 5) _ _ rfl (bP rfl) rfl ?_;exact⟨_,_,.refl,rfl,rfl,⟨true,x.os,x.c1⟩,⟨ab.os,ab.ne⟩,by simp,rfl⟩
 ·refine bE.agB aV rfl (by simp) (e:=5) rfl rfl rfl rfl rfl rfl x.os (xs:=AF x.c1) ab.os rfl rfl (by omega) (Mr:=[{ x with aU:=true:gR }.aO b]) (i' (l₁:=[_])) ?_ ?_ ?_
  ·simp only[maxLen];omega
  ·show(x.os.n+s.size)*1<=_;omega
  ·intro eD c' aY U aa af aN;refine cc.add [⟨eD,.cells aY.toArray 5 (0,0)⟩] [] _ _ rfl (bP rfl) rfl ?_;refine⟨_,_,.perm (M1:=gR.M b ⟨true,⟨some eD,x.os.n+s.size,c',aY⟩,x.c1++s.data.toList⟩) ?_ .refl,rfl,rfl,_,?_,rfl,rfl⟩
   ·exact i' (l₁:=[_]) (l₂:=[_])
   ·refine⟨⟨?_,λh=>by simp at h,?_⟩,λg _ h=>?_⟩
    ·simp[AF,az]
    ·intro a6 iJ;refine⟨U,aa,af,?_⟩;rw[aN];simp[AF,lY]
    ·have bq:=congrArg List.length (List.append_eq_nil_iff.1 h).2;exact ax (by simpa using bq)
def y9(b:Nat){x:gR}(ab:x.ok)(aE:x.c1.length<=70368744177664):Spec Tryz.prog 130 [ptr b] I (x.M b)
  λr I' M'=>r=.string ⟨x.c1.toArray⟩/\I'=I/\M'=[]:=by
 refine bY [] aV Tryz.func130 rfl rfl rfl ?_;intro B ay;have az:=ab.n;obtain⟨aU,⟨a,n,c,aY⟩,c1⟩:=x;simp only at az aE;subst az;refine cq.draw aV rfl rfl rfl ?_;cases a with
 |none=>obtain⟨U,aa⟩:=ab.os.nil rfl;simp only at U aa;have pF:c1=[]:=nx U;subst pF;subst aa;refine aw.mk [.slice none 0 0] (dt (cs:=[.pointer (bif aU then some ⟨b,0,none⟩else none),.slice none 0 0]) (k:=1) (n:=1) (T:=240) (.head _) (by simp)) ?_;refine aw.mk [.slice none 0 0] (dt (cs:=[.pointer (bif aU then some ⟨b,0,none⟩else none),.slice none 0 0]) (k:=1) (n:=1) (T:=240) (.head _) (by simp)) ?_;refine bE.V6 rfl (by simp) rfl rfl ?_;exact⟨_,_,.sub (eN _) .refl,rfl,rfl,rfl⟩
 |some g=>
  obtain⟨U,aa,af,aN⟩:=ab.os.cap g rfl;have bM:=ab.ne g rfl;simp only at U aa af aN bM;have n4:c1.length≠0:=λh=>bM (nx h);refine aw.mk [.slice (some ⟨g,0,none⟩) c1.length c] (dt (cs:=[.pointer (bif aU then some ⟨b,0,none⟩else none),.slice (some ⟨g,0,none⟩) c1.length c]) (k:=1) (n:=1) (T:=240) (.head _) (by simp)) ?_;refine qa.mk (by omega) ?_;refine aw.mk [.slice (some ⟨g,0,none⟩) c1.length c] (dt (cs:=[.pointer (bif aU then some ⟨b,0,none⟩else none),.slice (some ⟨g,0,none⟩) c1.length c]) (k:=1) (n:=1) (T:=240) (.head _) (by simp)) ?_;refine bE.Pj aV rfl (by simp) (e:=5) rfl rfl rfl rfl (l:=c1) (g:=g) (cs:=aY.toArray) rfl rfl bM (by omega) (Mr:=[gR.aO b ⟨aU,⟨some g,c1.length,c,aY⟩,c1⟩]) (i' (l₁:=[_]) (l₂:=[_])) ?_ ?_;·rw[jk]at aN;exact aN
  ·exact⟨_,_,.sub (eN _) .refl,rfl,rfl,rfl⟩
def Ct(c:UInt8)(left:ByteArray):Bool:=decide ((32:Int)<=c.toNat)&&(decide ((c.toNat:Int)<=126)&&(!decide ((c.toNat:Int)=92)&&decide (Lib.indexByte left.data.toList c<0)))
def agV(c:UInt8)(left:ByteArray):Spec Tryz.prog 299 [.int .u8 c.toNat,.string left] I [] λr I' M'=>r=.bool (Ct c left)/\I'=I/\M'=[]:=by
 refine bY [] aV Tryz.func299 rfl rfl rfl ?_;intro B ay;refine c0.mk (λU=>?_) (λU=>?_)
 ·refine c0.mk (λaa=>?_) (λaa=>?_)
  ·refine c0.mk (λaf=>?_) (λaf=>?_)
   ·refine a9.mk [] [] _ (.refl _) (WM left c) ?_;rintro v I' M' -⟨rfl,rfl,rfl⟩;refine⟨_,_,.refl,?_,rfl,rfl⟩;simp only[Ct,U,aa,af,q3]
   ·refine⟨_,_,.refl,?_,rfl,rfl⟩;simp only[Ct,U,aa,af,q3,r1,uE]
  ·refine⟨_,_,.refl,?_,rfl,rfl⟩;simp only[Ct,U,aa,q3,r1,uE]
 ·refine⟨_,_,.refl,?_,rfl,rfl⟩;simp only[Ct,U,q3,r1,uE]
def Er:ByteArray:=⟨#[48,49,50,51,52,53,54,55,56,57,97,98,99,100,101,102]⟩
def AG(n:Nat):UInt8:=Er.data.toList.getD n 0
def pG(c:UInt8)(left:ByteArray):List UInt8:=
 bif Ct c left then [c]else
 bif decide ((c.toNat:Int)=10)then [92,110]else
 bif decide ((c.toNat:Int)=13)then [92,114]else
 bif decide ((c.toNat:Int)=9)then [92,116]else
 bif decide ((c.toNat:Int)=92)||decide ((0:Int)<=Lib.indexByte left.data.toList c)then [92,c]else [92,120,AG (c.toNat/16),AG (c.toNat%16)]
def Hh(c:UInt8)(left:ByteArray):(pG c left).length<=4:=by
 unfold pG;cases Ct c left<;>cases decide ((c.toNat:Int)=10)<;>cases decide ((c.toNat:Int)=13)<;>cases decide ((c.toNat:Int)=9)<;>cases(decide ((c.toNat:Int)=92)||decide ((0:Int)<=Lib.indexByte left.data.toList c))<;>simp
def agW:∀ n:Nat,n<256->IntKind.u8.wrap ((BitVec.ofInt 8 (n:Int)) &&& (BitVec.ofInt 8 15)).toNat=((n%16:Nat):Int):=by decide +kernel
def WO(an:j<Er.size):Er[j]=AG j:=by have:j<Er.data.toList.length:=an;simp only[AG,dB,g5 this,mb];rfl
def KO(b:Nat){x:gR}(ab:x.ok)(c:UInt8)(left:ByteArray)(aE:x.c1.length<=70368744177600):Spec Tryz.prog 292 [ptr b,.int .u8 c.toNat,.string left] I (x.M b)
  λr I' M'=>I'=I/\∃ y:gR,y.ok/\y.c1=x.c1++pG c left/\M'=y.M b:=by
 refine bY [] aV Tryz.func292 rfl rfl rfl ?_;intro B ay;refine a9.mk [] (x.M b) _ (.refl _) (agV c left) ?_;rintro v I' M' -⟨rfl,rfl,rfl⟩;refine aM.mk (λU=>?_) (λU=>?_)
 ·refine a9.mk (x.M b) [] _ (by simp) (qo b ab c (by omega)) ?_;rintro v I' M' -⟨rfl,rfl,y,aT,ia,rfl⟩;refine⟨_,_,.refl,rfl,y,aT,?_,by simp⟩;rw[ia,pG,U];rfl
 ·refine aM.mk (λaa=>?_) (λaa=>?_)
  ·refine a9.mk (x.M b) [] _ (by simp) (vL b ab _ (by show _+2<=_;omega)) ?_;rintro v I' M' -⟨rfl,rfl,y,aT,ia,rfl⟩;refine⟨_,_,.refl,rfl,y,aT,?_,by simp⟩;rw[ia,pG,U,aa];rfl
  ·refine aM.mk (λaf=>?_) (λaf=>?_)
   ·refine a9.mk (x.M b) [] _ (by simp) (vL b ab _ (by show _+2<=_;omega)) ?_;rintro v I' M' -⟨rfl,rfl,y,aT,ia,rfl⟩;refine⟨_,_,.refl,rfl,y,aT,?_,by simp⟩;rw[ia,pG,U,aa,af];rfl
   ·refine aM.mk (λaN=>?_) (λaN=>?_)
    ·refine a9.mk (x.M b) [] _ (by simp) (vL b ab _ (by show _+2<=_;omega)) ?_;rintro v I' M' -⟨rfl,rfl,y,aT,ia,rfl⟩;refine⟨_,_,.refl,rfl,y,aT,?_,by simp⟩;rw[ia,pG,U,aa,af,aN];rfl
    ·have two:∀ (cW:a5),(decide ((c.toNat:Int)=92)||decide ((0:Int)<=Lib.indexByte left.data.toList c))=true->pG c left=[92,c]:=λ_ h=>by rw[pG,U,aa,af,aN,h];rfl
     have other:(decide ((c.toNat:Int)=92)||decide ((0:Int)<=Lib.indexByte left.data.toList c))=false->pG c left=[92,120,AG (c.toNat/16),AG (c.toNat%16)]:=λh=>by rw[pG,U,aa,af,aN,h];rfl
     have aJ:=c.toNat_lt;refine c0.mk (λbq=>?_) (λbq=>?_)
     ·refine a9.mk [] (x.M b) _ (.refl _) (WM left c) ?_;rintro v I' M' -⟨rfl,rfl,rfl⟩;refine aM.mk (λbp=>?_) (λbp=>?_)
      ·refine a9.mk (x.M b) [] _ (by simp) (qo b ab 92 (by omega)) ?_;rintro v I' M' -⟨rfl,rfl,y,aT,ia,rfl⟩;refine a9.mk (y.M b) [] _ (by simp) (qo b aT c (by rw[ia];simp;omega)) ?_;rintro v I' M' -⟨rfl,rfl,z,bk,uJ,rfl⟩;refine⟨_,_,.refl,rfl,z,bk,?_,by simp⟩;rw[uJ,ia,two I' (by rw[bq];exact bp)];simp
      ·refine a9.mk (x.M b) [] _ (by simp) (vL b ab _ (by show _+2<=_;omega)) ?_;rintro v I' M' -⟨rfl,rfl,y,aT,ia,rfl⟩;have WQ:y.c1.length=x.c1.length+2:=by rw[ia];simp
       refine tb.mk 4 rfl ?_;refine yR.mk (s:=Er) (c.toNat/16) ?_ (by show _<16;omega) ?_
       ·show(c.toNat:Int).fdiv (2^(min 4 (IntKind.u8.bits)))=_;have agX:((2:Int)^(min 4 IntKind.u8.bits))=16:=by decide
        rw[agX,GV _ (by omega)];omega
       rw[WO];refine a9.mk (y.M b) [] _ (by simp) (qo b aT (AG (c.toNat/16)) (by omega)) ?_;rintro v I' M' -⟨rfl,rfl,z,bk,uJ,rfl⟩;have KP:z.c1.length=x.c1.length+3:=by rw[uJ];simp;omega
       refine yR.mk (s:=Er) (c.toNat%16) (agW c.toNat aJ) (by show _<16;omega) ?_;rw[WO];refine a9.mk (z.M b) [] _ (by simp) (qo b bk (AG (c.toNat%16)) (by omega)) ?_;rintro v I' M' -⟨rfl,rfl,u,hu,y',rfl⟩;refine⟨_,_,.refl,rfl,u,hu,?_,by simp⟩;rw[y',uJ,ia,other (by rw[bq];exact bp)];simp
     ·refine a9.mk (x.M b) [] _ (by simp) (qo b ab 92 (by omega)) ?_;rintro v I' M' -⟨rfl,rfl,y,aT,ia,rfl⟩;refine a9.mk (y.M b) [] _ (by simp) (qo b aT c (by rw[ia];simp;omega)) ?_;rintro v I' M' -⟨rfl,rfl,z,bk,uJ,rfl⟩;refine⟨_,_,.refl,rfl,z,bk,?_,by simp⟩;rw[uJ,ia,two I' (by rw[bq];rfl)];simp
def n9(n:Nat):List UInt8:=bif Nat.blt n 10 then [UInt8.ofNat (48+n)]else [UInt8.ofNat (48+n/10),UInt8.ofNat (48+n%10)]
def AH(n:Nat):ByteArray:=⟨(n9 n).toArray⟩
def WR:ByteArray:=⟨((List.range 10).map (λn=>UInt8.ofNat (48+n))++(List.range 26).map (λn=>UInt8.ofNat (97+n))).toArray⟩
def WS:ByteArray:=⟨((List.range 100).flatMap λn=>[UInt8.ofNat (48+n/10),UInt8.ofNat (48+n%10)]).toArray⟩
def agY:∀ n:Fin 10,(WR.extract n.val (n.val+1)).data.toList=n9 n.val:=by decide +kernel
def agZ:∀ n:Fin 100,10<=n.val->(WS.extract (n.val*2) (n.val*2+2)).data.toList=n9 n.val:=by decide +kernel
def Es{a b:ByteArray}(h:a.data.toList=b.data.toList):a=b:=w1 (hJ h)
def Hi(n:Nat):(n9 n).length<=2:=by
 unfold n9;cases Nat.blt n 10<;>simp
def ag0(n:Nat)(az:n<100):Spec Tryz.prog 245 [.int .i64 n] I [] λr I' M'=>r=.string (AH n)/\I'=I/\M'=[]:=by
 refine bY [] aV Tryz.func245 rfl rfl rfl ?_;intro B ay;refine aM.mk (λh=>?_) (λh=>?_)
 ·have a0:n<10:=by simp at h;omega
  refine bb.mk ((n+1:Nat):Int) (by rw[wrap_i64 ⟨by omega,by omega⟩];omega) ?_;refine jI.mk n (n+1) rfl rfl (by omega) (by show _<=36;omega) ?_;refine⟨_,_,.refl,?_,rfl,rfl⟩;have:WR.extract n (n+1)=AH n:=Es (agY ⟨n,a0⟩);rw[<-this];rfl
 ·have cE:10<=n:=by simp at h;omega
  refine bb.mk ((n*2:Nat):Int) (by rw[wrap_i64 ⟨by omega,by omega⟩];omega) ?_;refine bb.mk ((n*2:Nat):Int) (by rw[wrap_i64 ⟨by omega,by omega⟩];omega) ?_;refine bb.mk ((n*2+2:Nat):Int) (by rw[wrap_i64 ⟨by omega,by omega⟩];omega) ?_;refine jI.mk (n*2) (n*2+2) rfl rfl (by omega) (by show _<=200;omega) ?_;refine⟨_,_,.refl,?_,rfl,rfl⟩;have:WS.extract (n*2) (n*2+2)=AH n:=Es (agZ ⟨n,az⟩ cE);rw[<-this];rfl
def ag1(n:Nat)(az:n<100):Spec Tryz.prog 235 [.int .i64 n,.int .i64 10] I [] λr I' M'=>r=.string (AH n)/\I'=I/\M'=[]:=by refine bY [] aV Tryz.func235 rfl rfl rfl ?_;intro B ay;refine aM.mk (λh=>?_) (λh=>by cases h);refine c0.mk (λh=>?_) (λh=>by simp at h;try omega);refine aM.mk (λh=>?_) (λh=>by simp at h;try omega);refine a9.mk [] [] _ (.refl _) (ag0 n az) ?_;rintro v I' M' -⟨rfl,rfl,rfl⟩;exact⟨_,_,.refl,rfl,rfl,rfl⟩
def ag2(n:Nat)(az:n<100):Spec Tryz.prog 225 [.int .i64 n] I [] λr I' M'=>r=.string (AH n)/\I'=I/\M'=[]:=by refine bY [] aV Tryz.func225 rfl rfl rfl ?_;intro B ay;refine a9.mk [] [] _ (.refl _) (ag1 n az) ?_;rintro v I' M' -⟨rfl,rfl,rfl⟩;exact⟨_,_,.refl,rfl,rfl,rfl⟩
def ag3(n:Nat)(az:n<100):Spec Tryz.prog 192 [.int .i64 n] I [] λr I' M'=>r=.string (AH n)/\I'=I/\M'=[]:=by refine bY [] aV Tryz.func192 rfl rfl rfl ?_;intro B ay;refine a9.mk [] [] _ (.refl _) (ag2 n az) ?_;rintro v I' M' -⟨rfl,rfl,rfl⟩;exact⟨_,_,.refl,rfl,rfl,rfl⟩
def KQ(n:Nat)(az:n<100):Spec Tryz.prog 129 [.int .i64 n] I [] λr I' M'=>r=.string (AH n)/\I'=I/\M'=[]:=by refine bY [] aV Tryz.func129 rfl rfl rfl ?_;intro B ay;refine a9.mk [] [] _ (.refl _) (ag3 n az) ?_;rintro v I' M' -⟨rfl,rfl,rfl⟩;exact⟨_,_,.refl,rfl,rfl,rfl⟩
def im(node AI:Int):Bool:=
 bif decide (node=5)then decide (AI=5)else
 bif decide (node=4)||(decide (node=7)||decide (node=8))then decide (AI=4)||decide (AI=5)else
 bif decide (node=6)then decide (AI=4)||(decide (AI=5)||(decide (AI=6)||(decide (AI=7)||decide (AI=8))))else false
def Pu(a b:Int):Spec Tryz.prog 262 [.int .u8 a,.int .u8 b] I [] λr I' M'=>r=.bool (im a b)/\I'=I/\M'=[]:=by
 refine bY [] aV Tryz.func262 rfl rfl rfl ?_;intro B ay;refine aM.mk (λU=>?_) (λU=>?_)
 ·refine⟨_,_,.refl,?_,rfl,rfl⟩;simp only[im,U];rfl
 ·have two:∀ (cW:a5) (h:(decide (a=4)||(decide (a=7)||decide (a=8)))=true),im a b=(decide (b=4)||decide (b=5)):=λ_ h=>by simp only[im,U,h];rfl
  have Pv:(decide (a=4)||(decide (a=7)||decide (a=8)))=true->c0 (decide (b=4)) false (xe [] I [] λI' M'=>Value.bool (decide (b=5))=.bool (im a b)/\I'=I/\M'=[]) (xe [] I [] λI' M'=>Value.bool true=.bool (im a b)/\I'=I/\M'=[]):=λh=>by
   refine c0.mk (λaN=>?_) (λaN=>?_);·refine⟨_,_,.refl,?_,rfl,rfl⟩;rw[two I h,aN];rfl
   ·refine⟨_,_,.refl,?_,rfl,rfl⟩;rw[two I h,aN];rfl
  refine aM.mk (λaa=>?_) (λaa=>?_);·refine aM.mk (λ_=>?_) (λh=>by rw[aa]at h;cases h);exact Pv (by rw[aa];rfl)
  ·refine aM.mk (λaf=>?_) (λaf=>?_)
   ·refine aM.mk (λ_=>?_) (λh=>by rw[af]at h;cases h);exact Pv (by rw[af];simp)
   ·refine aM.mk (λaN=>?_) (λaN=>?_)
    ·exact Pv (by rw[aN];simp)
    ·have hw:im a b=(bif decide (a=6)then decide (b=4)||(decide (b=5)||(decide (b=6)||(decide (b=7)||decide (b=8))))else false):=by simp only[im,U,aa,af,aN];rfl
     refine aM.mk (λbq=>?_) (λbq=>?_)
     ·rw[bq]at hw;simp only[a4]at hw;refine c0.mk (λeJ=>?_) (λeJ=>?_)
      ·refine c0.mk (λc3=>?_) (λc3=>?_)
       ·refine c0.mk (λgr=>?_) (λgr=>?_)
        ·refine c0.mk (λmZ=>?_) (λmZ=>?_)
         ·refine⟨_,_,.refl,?_,rfl,rfl⟩;rw[hw,eJ,c3,gr,mZ];rfl
         ·refine⟨_,_,.refl,?_,rfl,rfl⟩;rw[hw,eJ,c3,gr,mZ];rfl
        ·refine⟨_,_,.refl,?_,rfl,rfl⟩;rw[hw,eJ,c3,gr];rfl
       ·refine⟨_,_,.refl,?_,rfl,rfl⟩;rw[hw,eJ,c3];rfl
      ·refine⟨_,_,.refl,?_,rfl,rfl⟩;rw[hw,eJ];rfl
     ·refine⟨_,_,.refl,?_,rfl,rfl⟩;rw[hw,bq];rfl
def wrap_u64(x:Int):hh (IntKind.u64.wrap x):=by unfold IntKind.wrap hh;simp only[IntKind.bits,IntKind.signed];simp;omega
def wrap_u8(x:Int):0<=IntKind.u8.wrap x/\IntKind.u8.wrap x<256:=by unfold IntKind.wrap;simp only[IntKind.bits,IntKind.signed];simp;omega
def WT{x:Int}(h:hh x):IntKind.u64.wrap x=x:=by obtain⟨U,aa⟩:=h;unfold IntKind.wrap;simp only[IntKind.bits,IntKind.signed];simp;omega
def tt(I:a5)(aX:List Int):Prop:=aX.length=64/\(∀ x∈aX,0<=x/\x<256)/\∃ T ak,I 5=some (.cells (aX.map (Value.int .u8)).toArray T ak)
def tt.rd(h:tt I aX)(M:List aF)(an:j<64):cx I M (Addr.add ⟨5,0,none⟩ (j*1)) 1 [.int .u8 (aX.getD j 0)]:=by
 obtain⟨aE,_,T,ak,h⟩:=h;rw[dY _ rfl];refine⟨rfl,_,T,ak,.inl h,?_,rfl⟩;have U:j<(aX.map (Value.int .u8)).length:=by simp[aE,an]
 have aa:j<aX.length:=by omega
 simp only[dp,jk];rw[fg U,oL,oM];simp[dB,aa]
def tt.at(h:tt I aX)(j:Nat):0<=aX.getD j 0/\aX.getD j 0<256:=by
 rw[dB];by_cases an:j<aX.length
 ·rw[g5 an];exact h.2.1 _ (dr an)
 ·simp[an]
def Hj(x y:Int):Int:=IntKind.u64.wrap (BitVec.ofInt 64 x &&& BitVec.ofInt 64 y).toNat
def uK(x:Int):Int:=IntKind.u64.wrap (Hj x (IntKind.u64.wrap (0-x))*285870213051353865)
def vM(aX:List Int)(x:Int):Int:=bif decide (x=0)then 64 else aX.getD ((uK x).toNat/2^58) 0
def ag4(h:tt I aX)(x:Int):0<=vM aX x/\vM aX x<256:=by
 unfold vM;cases decide (x=0)
 ·exact h.at _
 ·simp
def ag5(ag:tt I aX)(x:Int):Spec Tryz.prog 282 [.int .u64 x] I [] λr I' M'=>r=.int .i64 (vM aX x)/\I'=I/\M'=[]:=by
 refine bY [] aV Tryz.func282 rfl rfl rfl ?_;intro B ay;refine aM.mk (λh=>?_) (λh=>?_)
 ·refine⟨_,_,.refl,?_,rfl,rfl⟩;simp only[vM,h];rfl
 ·have aH:=wrap_u64 (Hj x (IntKind.u64.wrap (0-x))*285870213051353865);refine bb.mk _ rfl ?_;refine bb.mk (uK x) rfl ?_;refine tb.mk 58 rfl ?_;have aC:((2:Int)^(min 58 IntKind.u64.bits))=2^58:=by decide
  rw[aC];obtain⟨pH,pI⟩:=aH;have aA:(uK x).fdiv (2^58)=(((uK x).toNat/2^58:Nat):Int):=by rw[GV _ (by decide)];have:uK x=((uK x).toNat:Int):=(Aw pH).symm;omega
  rw[aA];have an:(uK x).toNat/2^58<64:=by have:uK x<18446744073709551616:=pI;omega
  refine dR.mk ((uK x).toNat/2^58) rfl an ?_;refine aw.mk [.int .u8 (aX.getD ((uK x).toNat/2^58) 0)] (ag.rd _ an) ?_;have ah:=ag.at ((uK x).toNat/2^58);refine bb.mk (aX.getD ((uK x).toNat/2^58) 0) (wrap_i64 ⟨by omega,by omega⟩) ?_;refine⟨_,_,.refl,?_,rfl,rfl⟩;simp only[vM,h];rfl
def ag6(a b c d:Int):Nat->List Value
 |0=>[.int .u64 (a),.int .u64 (b),.int .u64 (c),.int .u64 (d)]| 1=>[.int .u64 (j8 a),.int .u64 (b),.int .u64 (c),.int .u64 (d)]| 2=>[.int .u64 (j8 a),.int .u64 (j8 b),.int .u64 (c),.int .u64 (d)]| 3=>[.int .u64 (j8 a),.int .u64 (j8 b),.int .u64 (j8 c),.int .u64 (d)]| _=>[.int .u64 (j8 a),.int .u64 (j8 b),.int .u64 (j8 c),.int .u64 (j8 d)]
def ag7(a b c d:Int):Spec Tryz.prog 290 [.agg #[.int .u64 a,.int .u64 b,.int .u64 c,.int .u64 d]] I [] λr I' M'=>r=.agg #[.int .u64 (j8 a),.int .u64 (j8 b),.int .u64 (j8 c),.int .u64 (j8 d)]/\I'=I/\M'=[]:=by
 refine bY [] aV Tryz.func290 rfl rfl rfl ?_;intro B ay;refine ea.inv (ι:=Nat) (λi=>{ bK:=[(1,.ref 1 0),(2,.ref 2 0),(5,.val (.agg #[.int .u64 a,.int .u64 b,.int .u64 c,.int .u64 d])),(6,.val (.int .i64 i))],cl:=[(1,ag6 a b c d i),(2,[.int .u64 0,.int .u64 0,.int .u64 0,.int .u64 0])],dz:=I }) (λi=>i<=4) (λi=>4-i) ?_ ?_
 ·exact⟨0,by simp,.refl,fo,.cons rfl (.cons rfl .nil)⟩
 ·intro i hi
  match i,hi with
  |0,_=>refine aM.mk (λ_=>?_) (λh=>by simp at h);refine dR.mk 0 rfl (by decide) ?_;refine bE.Hg rfl (by simp) rfl ?_;refine dR.mk 0 rfl (by decide) ?_;refine bb.mk 1 (by decide) ?_;exact⟨1,⟨by simp,by simp⟩,.refl,fo,.cons rfl (.cons rfl .nil)⟩| 1,_=>refine aM.mk (λ_=>?_) (λh=>by simp at h);refine dR.mk 1 rfl (by decide) ?_;refine bE.Hg rfl (by simp) rfl ?_;refine dR.mk 1 rfl (by decide) ?_;refine bb.mk 2 (by decide) ?_;exact⟨2,⟨by simp,by simp⟩,.refl,fo,.cons rfl (.cons rfl .nil)⟩| 2,_=>refine aM.mk (λ_=>?_) (λh=>by simp at h);refine dR.mk 2 rfl (by decide) ?_;refine bE.Hg rfl (by simp) rfl ?_;refine dR.mk 2 rfl (by decide) ?_;refine bb.mk 3 (by decide) ?_;exact⟨3,⟨by simp,by simp⟩,.refl,fo,.cons rfl (.cons rfl .nil)⟩| 3,_=>refine aM.mk (λ_=>?_) (λh=>by simp at h);refine dR.mk 3 rfl (by decide) ?_;refine bE.Hg rfl (by simp) rfl ?_;refine dR.mk 3 rfl (by decide) ?_;refine bb.mk 4 (by decide) ?_;exact⟨4,⟨by simp,by simp⟩,.refl,fo,.cons rfl (.cons rfl .nil)⟩| 4,_=>refine aM.mk (λh=>by simp at h) (λ_=>?_);exact⟨_,_,.refl,rfl,rfl,rfl⟩
def ag8:Spec Tryz.prog 273 [] I [] λr I' M'=>r=.agg #[.int .u64 (j8 0),.int .u64 (j8 0),.int .u64 (j8 0),.int .u64 (j8 0)]/\I'=I/\M'=[]:=by refine bY [] aV Tryz.func273 rfl rfl rfl ?_;intro B ay;refine a9.mk [] [] _ (.refl _) (ag7 0 0 0 0) ?_;rintro v I' M' -⟨rfl,rfl,rfl⟩;exact⟨_,_,.refl,rfl,rfl,rfl⟩
def pJ(I:a5)(b:Nat)(o:Obj):ins I b o b=some o:=by simp[ins]
def ku(ag:I b=none):∀ c p,I c=some p->ins I b o c=some p:=by
 intro c p h;unfold ins;cases e:Nat.beq c b with
 |false=>exact h| true=>have:=cj e;subst this;rw[ag]at h;cases h
def ag9{x y:Int}(ab:hh x)(aT:hh y):Hj x y=((x.toNat &&& y.toNat:Nat):Int):=by
 obtain⟨x,rfl⟩:=lX ab.1;obtain⟨y,rfl⟩:=lX aT.1;have U:x<18446744073709551616:=by have:=ab.2;omega
 have aa:y<18446744073709551616:=by have:=aT.2;omega
 have e:∀ z:Nat,z<18446744073709551616->(BitVec.ofInt 64 (z:Int)).toNat=z:=λz bk=>by rw[BitVec.toNat_ofInt];omega
 unfold Hj;rw[GY,e x U,e y aa,WT]
 ·simp
 ·have:=Nat.and_le_left (n:=x) (m:=y);exact⟨by omega,by omega⟩
def AJ(x:Int):Int:=Hj x (IntKind.u64.wrap (x-1))
def Cu(n:Nat):Nat:=((List.range 64).filter n.testBit).length
def aha(n:Nat):Cu n<=64:=by have:=Gl n.testBit (List.range 64);simpa[Cu]using this
def ahb{x:Int}(ab:hh x)(ay:x≠0):hh (AJ x)/\Cu (AJ x).toNat<Cu x.toNat:=by
 obtain⟨n,rfl⟩:=lX ab.1;have U:n<18446744073709551616:=by have:=ab.2;omega
 have n4:0<n:=by omega
 have ax:hh ((n:Int)-1):=⟨by omega,by omega⟩;have e:AJ (n:Int)=((n &&& (n-1):Nat):Int):=by unfold AJ;rw[WT ax,ag9 ab ax];congr 2;omega
 have bz:n &&& (n-1)<=n-1:=Nat.and_le_right;refine⟨by rw[e];exact⟨by omega,by omega⟩,?_⟩;rw[e];simp only[qS];unfold Cu;have nF:List.Sublist ((List.range 64).filter (n &&& (n-1)).testBit) ((List.range 64).filter n.testBit):=by
  have:(List.range 64).filter (n &&& (n-1)).testBit=((List.range 64).filter n.testBit).filter (n-1).testBit:=by rw[List.filter_filter];congr 1;funext i;rw[Nat.testBit_and,Bool.and_comm]
  rw[this];exact List.filter_sublist
 rcases Nat.lt_or_eq_of_le nF.length_le with h | h
 ·exact h
 ·exfalso;have ahc:=nF.eq_of_length h;have:n &&& (n-1)=n:=by
   apply Nat.eq_of_testBit_eq;intro i;by_cases hi:i<64
   ·have hm:i∈(List.range 64).filter (n &&& (n-1)).testBit ↔ i∈(List.range 64).filter n.testBit:=by rw[ahc]
    simp only[yN,me,hi,true_and]at hm;cases U:(n &&& (n-1)).testBit i<;>cases aa:n.testBit i<;>simp_all
   ·have aa:2^64<=2^i:=Nat.pow_le_pow_right (by omega) (by omega);rw[Nat.testBit_lt_two_pow (by omega),Nat.testBit_lt_two_pow (by omega)]
  omega
def byteOf(aX:List Int)(i:Nat)(w:Int):UInt8:=UInt8.ofNat (IntKind.u8.wrap ((i:Int)*64+vM aX w)).toNat
def ahd(aX:List Int)(i:Nat)(w:Int):((byteOf aX i w).toNat:Int)=IntKind.u8.wrap ((i:Int)*64+vM aX w):=by have:=wrap_u8 ((i:Int)*64+vM aX w);unfold byteOf;rw[UInt8.toNat_ofNat'];omega
def vN(aX:List Int)(i:Nat):Nat->Int->List UInt8
 |0,_=>[]| f+1,w=>bif decide (w=0)then []else byteOf aX i w::vN aX i f (AJ w)
def jP(aX:List Int):Nat->List Int->List UInt8
 |_,[]=>[]| i,w::ws=>vN aX i 64 w++jP aX (i+1) ws
def WU(aX:List Int)(i:Nat):∀ f w,(vN aX i f w).length<=f
 |0,_=>by simp[vN]
 |f+1,w=>by
  unfold vN;have:=WU aX i f (AJ w);cases decide (w=0)<;>simp
  exact this
def Pw(aX:List Int):∀ ws i,(jP aX i ws).length<=64*ws.length
 |[],_=>by simp[jP]
 |w::ws,i=>by have U:=WU aX i 64 w;have aa:=Pw aX ws (i+1);simp only[jP,di,eM];omega
def uL(l:List UInt8):List (List Value):=l.map λc=>[.int .u8 c.toNat]
def Et(a b c d:Int):List Value:=[.int .u64 a,.int .u64 b,.int .u64 c,.int .u64 d]
def ahe(a b c d:Int):Spec Tryz.prog 300 [.agg #[.int .u64 a,.int .u64 b,.int .u64 c,.int .u64 d]] I [] λr I' M'=>∃ g,r=.func (.func 305) #[] #[ptr g]/\I' g=some (.cells (Et a b c d).toArray 49 (0,0))/\(∀ b o,I b=some o->I' b=some o)/\M'=[]:=by refine bY [1] aV Tryz.func300 rfl rfl rfl ?_;intro B ay;refine cy.mk λg aB vK=>?_;exact⟨_,_,.n2 rfl (by simp) .refl,g,rfl,pJ ..,ku aB,rfl⟩
def ahf(Cv:tt I aX){a b c:Int}(xB:∀ x∈[a,b,c,d],hh x)(aB:I g=some (.cells (Et a b c d).toArray 49 (0,0))) :
  Iter Tryz.prog 305 [ptr g] I (uL (jP aX 0 [a,b,c,d])):=by
 intro l R tn uM dZ M0 n' kN;refine An [] aV Tryz.func305 rfl rfl rfl ?_;intro B ay;have br:∀ (cW:a5) (M:List aF),(∀ b o,I b=some o->cW b=some o)->cx cW M ⟨g,0,none⟩ 4 (Et a b c d):=λcW M h=>⟨rfl,_,_,_,.inl (h _ _ aB),rfl,rfl⟩;refine aw.mk _ (br _ _ n') ?_;refine ea.inv (ι:=Nat×Nat×a5×List aF) (λx=>{ bK:=[(0,.val (.func (.yield l) #[] #[])),(5,.val (.agg (Et a b c d).toArray)),(6,.val (.int .i64 x.1))],dz:=x.2.2.1,d':=x.2.2.2 }) (λx=>x.1<=4/\(∀ b o,I b=some o->x.2.2.1 b=some o)/\R x.2.1 x.2.2.1 x.2.2.2/\x.2.1<=(jP aX 0 [a,b,c,d]).length/\(jP aX 0 [a,b,c,d]).drop x.2.1=jP aX x.1 ([a,b,c,d].drop x.1)) (λx=>4-x.1) ?_ ?_
 ·exact⟨(0,0,dZ,M0),⟨by simp,n',kN,by simp,rfl⟩,.refl,gX,.nil⟩
 ·rintro⟨i,k,cW,M1⟩⟨hi,b4,hB,e4,fx⟩;simp only at hi b4 hB e4 fx;refine aM.mk (λh=>?_) (λh=>?_)
  ·have a0:i<4:=by simp at h;omega
   have bZ:i < [a,b,c,d].length:=a0;refine dR.mk i rfl a0 ?_;have rc:pack false ((((Et a b c d).toArray).toList.drop (i*1)).take 1)=.int .u64 [a,b,c,d][i]:=by
    match i,a0 with
    |0,_=>rfl| 1,_=>rfl| 2,_=>rfl| 3,_=>rfl
   have j7:[a,b,c,d].drop i=[a,b,c,d][i]::[a,b,c,d].drop (i+1):=fg bZ;refine ea.inv (ι:=Int×Nat×Nat×a5×List aF) (λx=>{ bK:=[(0,.val (.func (.yield l) #[] #[])),(3,.val (.int .i64 i)),(4,.val (.int .u64 x.1)),(5,.val (.agg (Et a b c d).toArray)),(6,.val (.int .i64 i))],dz:=x.2.2.2.1,d':=x.2.2.2.2 }) (λx=>hh x.1/\Cu x.1.toNat<=x.2.1/\(∀ b o,I b=some o->x.2.2.2.1 b=some o)/\R x.2.2.1 x.2.2.2.1 x.2.2.2.2/\x.2.2.1<=(jP aX 0 [a,b,c,d]).length/\(jP aX 0 [a,b,c,d]).drop x.2.2.1=vN aX i x.2.1 x.1++jP aX (i+1) ([a,b,c,d].drop (i+1))) (λx=>Cu x.1.toNat) ?_ ?_
   ·refine⟨([a,b,c,d][i],64,k,cW,M1),⟨xB _ (dr bZ),aha _,b4,hB,e4,?_⟩,.refl,.cons .refl (.cons .refl (.cons ?_ (Cf))),.nil⟩
    ·simp only;rw[fx,j7];rfl
    ·simp only;rw[<-rc];exact .refl
   ·rintro⟨w,f,k,cW,M1⟩⟨hw,ar,b4,hB,e4,fx⟩;simp only at hw ar b4 hB e4 fx;refine aM.mk (λh=>?_) (λh=>?_)
    ·have KR:w≠0:=by simpa using h
     obtain⟨gZ,hQ⟩:=ahb hw KR;obtain⟨f,rfl⟩:∃ f',f=f'+1:=⟨f-1,by omega⟩;have ag:vN aX i (f+1) w=byteOf aX i w::vN aX i f (AJ w):=by simp[vN,KR]
     rw[ag,py]at fx;have ae:k<(jP aX 0 [a,b,c,d]).length:=by apply Nat.lt_of_not_le;intro bz;rw[iG bz]at fx;cases fx
     have kr:=fg ae;rw[fx]at kr;obtain⟨tu,fI⟩:=G1 kr;have qp:k<(uL (jP aX 0 [a,b,c,d])).length:=by simpa[uL]using ae
     have aj:(uL (jP aX 0 [a,b,c,d]))[k]=[.int .u8 (IntKind.u8.wrap ((i:Int)*64+vM aX w))]:=by simp only[uL,lu,<-tu,ahd]
     have WV:tt cW aX:=by obtain⟨ed,dP,T,ak,gS⟩:=Cv;exact⟨ed,dP,T,ak,b4 _ _ gS⟩
     have atj:=ag4 WV w;refine bb.mk ((i:Int)*64) (wrap_i64 ⟨by omega,by omega⟩) ?_;refine a9.mk [] M1 _ (.refl _) (ag5 WV w) ?_;rintro v I' M' -⟨rfl,rfl,rfl⟩;refine bb.mk ((i:Int)*64+vM aX w) (wrap_i64 ⟨by omega,by omega⟩) ?_;refine bb.mk _ rfl ?_;refine bE.yield rfl (by simp) rfl rfl ?_;have aT:=uM k qp I' M1 b4 hB;rw[aj]at aT;refine Ej.mk M1 [] _ (by simp) aT ?_;rintro v eC dU h5 (⟨rfl,ik⟩ | ⟨rfl,ab⟩);·refine aM.mk (λh=>by simp at h) (λ_=>?_);refine bb.mk _ rfl ?_;exact⟨(AJ w,f,k+1,eC,dU),⟨⟨gZ,by simp only;omega,λb o h=>h5 b o (b4 b o h),ik,ae,fI.symm⟩,by simp only;exact hQ⟩,.perm (by simp) .refl,jj,.nil⟩
     ·refine aM.mk (λ_=>?_) (λh=>by simp at h);exact⟨_,_,.perm (by simp) .refl,.inr ab⟩
    ·have KR:w=0:=by simpa using h
     have gB:IntKind.i64.wrap ((i:Int)+1)=((i+1:Nat):Int):=by rw[wrap_i64 ⟨by omega,by omega⟩];omega
     refine bb.mk _ gB ?_;have ag:vN aX i f w=[]:=by cases f<;>simp[vN,KR]
     rw[ag,nz]at fx;exact⟨(i+1,k,cW,M1),⟨⟨by simp only;omega,b4,hB,e4,fx⟩,by simp only;omega⟩,.refl,gX,.nil⟩
  ·have mQ:i=4:=by simp at h;omega
   subst mQ;refine⟨_,_,.refl,.inl ?_⟩;have q1:(jP aX 0 [a,b,c,d]).drop k=[]:=by rw[fx];rfl
   have vO:k=(uL (jP aX 0 [a,b,c,d])).length:=by have:=GW.1 q1;simp only[uL,eW];omega
   rw[<-vO];exact hB
def vP(l:List (UInt8×UInt8))(b:UInt8):List (UInt8×UInt8):=match l.getLast? with
 |some p=>bif decide ((p.2.toNat:Int)+1=b.toNat)then l.dropLast++[(p.1,b)]else l++[(b,b)]| none=>[(b,b)]
def qq(l:List UInt8):List (UInt8×UInt8):=l.foldl vP []
def kP(p:UInt8×UInt8):List Value:=[.int .u8 p.1.toNat,.int .u8 p.2.toNat]
def qs(l:List (UInt8×UInt8)):List Value:=l.flatMap kP
def KS(l:List (UInt8×UInt8)):(qs l).length=l.length*2:=fu kP 2 (λ_=>rfl) l
def ahg(l:List (UInt8×UInt8))(b:UInt8):(vP l b).length<=l.length+1:=by
 unfold vP;split
 ·rename_i p h;cases decide ((p.2.toNat:Int)+1=b.toNat)<;>simp
 ·simp
def WW(l:List UInt8):(qq l).length<=l.length:=by
 have:∀ (l:List UInt8) (bc:List (UInt8×UInt8)),(l.foldl vP bc).length<=bc.length+l.length:=by
  intro l
  induction l with
  |nil=>intro bc;simp| cons b l be=>intro bc;have U:=be (vP bc b);have aa:=ahg bc b;simp only[uj,eM];omega
 simpa[qq]using this l []
def AK:((⟨b,0,none⟩:Addr).add i).add j=(⟨b,0,none⟩:Addr).add (i+j):=by rw[dY ⟨_,0,none⟩ rfl i,dY _ rfl j,dY _ rfl (i+j)];simp
def oa{M:List aF}{cs:List Value}(a2:(⟨b,.cells cs.toArray T (0,0)⟩:aF)∈M)(h:cs[i+j]?=some v):cx I M (((⟨b,0,none⟩:Addr).add i).add j) 1 [v]:=by obtain⟨aE,rfl⟩:=kG.1 h;have:=dt (I:=I) a2 (k:=i+j) (n:=1) (by omega);rw[fg aE,oL,oM]at this;rw[AK];exact this
def WX(bi:List Value)(u v z:Value)(au:List Value)(k:Nat)(ae:k=bi.length+1):bQ (bi++([u,v]++au)) k [z]=bi++([u,z]++au):=by
 subst ae;unfold bQ;have aC:(bi++([u,v]++au)).take (bi.length+1)=bi++[u]:=by rw[show bi++([u,v]++au)=(bi++[u])++(v::au)from by simp];exact sf (by simp)
 have aA:(bi++([u,v]++au)).drop (bi.length+1+[z].length)=au:=by rw[show bi++([u,v]++au)=(bi++[u,v])++au from by simp];exact GZ (by simp)
 rw[aC,aA];simp
def Px{os:bf}{bj:List (UInt8×UInt8)}{x:UInt8}(cr:os.ok 2 (qs bj)){aY:List Value}(U:aY.length=c*2)(aa:os.n+1<=c)(af:c<=maxLen)(aN:aY.take ((os.n+1)*2)=qs bj++kP (x,x)) :
  bf.ok ⟨some g,os.n+1,c,aY⟩ 2 (qs (bj++[(x,x)])):=by
 have Hk:qs (bj++[(x,x)])=qs bj++kP (x,x):=by simp[qs]
 have aE:=cr.len;refine⟨?_,(λh=>by cases h),λbN mq=>⟨U,aa,af,by rw[Hk];exact aN⟩⟩;rw[Hk,di,aE];simp[kP];omega
def ahh(l:List UInt8)(x:UInt8):qq (l++[x])=vP (qq l) x:=by simp[qq]
def ahi(Cv:tt I aX){a b c:Int}(xB:∀ x∈[a,b,c,d],hh x):Spec Tryz.prog 293 [.agg #[.int .u64 a,.int .u64 b,.int .u64 c,.int .u64 d]] I []
  λr I' M'=>(∀ b o,I b=some o->I' b=some o)/\∃ os:bf,r=os.val/\os.ok 2 (qs (qq (jP aX 0 [a,b,c,d])))/\M'=os.aO 386:=by
 refine bY [3] aV Tryz.func293 rfl rfl rfl ?_;intro B ay;refine cy.mk λg aB vK=>?_;refine a9.mk [] [⟨g,.cells #[.slice none 0 0] 384 (0,0)⟩] _ (.refl _) (ahe a b c d) ?_;rintro v cW M1 -⟨a3,rfl,g6,b4,rfl⟩;have ahj:tt cW aX:=by obtain⟨ed,dP,T,ak,gS⟩:=Cv;exact⟨ed,dP,T,ak,b4 _ _ gS⟩
 have c4:=Pw aX [a,b,c,d] 0;refine cq.range aV rfl rfl rfl .refl (ahf ahj xB g6) (λvs h=>?_) (λk I' M'=>(∀ b o,cW b=some o->I' b=some o)/\∃ os:bf,os.ok 2 (qs (qq ((jP aX 0 [a,b,c,d]).take k)))/\M'=⟨g,.cells #[os.val] 384 (0,0)⟩::os.aO 386) (λ_ _ _=>False) ⟨λ_ _ h=>h,⟨none,0,0,[]⟩,⟨rfl,λ_=>⟨rfl,rfl⟩,λg h=>by cases h⟩,rfl⟩ ?_ ?_ (λ_ _ _ _ h=>h.elim)
 ·obtain⟨c,_,rfl⟩:=eh.1 h;rfl
 ·rintro k ae I' M' -⟨hY,os,cr,rfl⟩l B ay j4;have Eu:k<(jP aX 0 [a,b,c,d]).length:=by simpa[uL]using ae
  generalize atk:jP aX 0 [a,b,c,d]=L at *;generalize ab:L[k]=x;have aj:(uL L)[k]=[.int .u8 x.toNat]:=by simp[uL,ab]
  rw[aj];have kO:qq (L.take (k+1))=vP (qq (L.take k)) x:=by rw[iT Eu,ab,ahh]
  rw[kO];have hA:(qq (L.take k)).length<=256:=by have U:=WW (L.take k);have aa:=GX k L;simp only[eM,ko]at c4;omega
  generalize mS:qq (L.take k)=bj at *;have m0:=x.toNat_lt;obtain⟨za,n,fy,aY⟩:=os;have az:bj.length=n:=by have:=cr.len;rw[KS]at this;simp only at this;omega
  cases za with
  |none=>
   obtain⟨aC,aA⟩:=cr.nil rfl;simp only at aC aA;subst aC;subst aA;have ra:bj=[]:=nx az;have hj:vP bj x=bj++[(x,x)]:=by rw[ra];rfl
   refine aw.mk [.slice none 0 0] (dt (cs:=[.slice none 0 0]) (k:=0) (n:=1) (T:=384) (.head _) (by simp)) ?_;refine bb.mk (-1) (by decide) ?_;refine c0.mk (λh=>by simp at h) (λ_=>?_);refine aw.mk [.slice none 0 0] (dt (cs:=[.slice none 0 0]) (k:=0) (n:=1) (T:=384) (.head _) (by simp)) ?_;refine cy.mk λa6 iJ WY=>?_;refine bE.append aV rfl (by simp) (e:=386) rfl rfl rfl (⟨none,0,0,aY⟩:bf) cr rfl (m:=1) rfl (dd:=kP (x,x)) (by decide) (dt (cs:=kP (x,x)) (k:=0) (n:=2) (T:=386) (.head _) (by simp[kP])) rfl (Mr:=[⟨a6,.cells (kP (x,x)).toArray 386 (0,0)⟩,⟨g,.cells #[.slice none 0 0] 384 (0,0)⟩]) (i' (l₁:=[_,_])) (by simp only[maxLen];omega) (by show(_+1)*2<=_;simp only;omega) ?_;intro eD c' kQ ed dP gS iq;refine cc.mk [⟨eD,.cells kQ.toArray 386 (0,0)⟩,⟨a6,.cells (kP (x,x)).toArray 386 (0,0)⟩] [] _ _ rfl rfl (bP rfl) rfl ?_;refine⟨_,_,.perm (M1:=[⟨a6,.cells (kP (x,x)).toArray 386 (0,0)⟩]++(⟨g,.cells #[bf.val ⟨some eD,(⟨none,0,0,aY⟩:bf).n+1,c',kQ⟩] 384 (0,0)⟩::bf.aO ⟨some eD,(⟨none,0,0,aY⟩:bf).n+1,c',kQ⟩ 386)) (i' (l₁:=[_]) (l₂:=[_,_])) (.sub (mU _ _) .refl),hY,⟨some eD,(⟨none,0,0,aY⟩:bf).n+1,c',kQ⟩,?_,rfl⟩;rw[hj];exact Px cr ed dP gS iq
  |some c6=>
   obtain⟨ft,oQ,nC,hk⟩:=cr.cap c6 rfl;simp only at ft oQ nC hk;refine aw.mk [.slice (some ⟨c6,0,none⟩) n fy] (dt (cs:=[.slice (some ⟨c6,0,none⟩) n fy]) (k:=0) (n:=1) (T:=384) (.head _) (by simp)) ?_;refine bb.mk ((n:Int)-1) (wrap_i64 ⟨by omega,by omega⟩) ?_;refine c0.mk (λU=>?_) (λU=>?_)
   ·have n4:1<=n:=by simp at U;omega
    obtain⟨vQ,p,rfl⟩:∃ vQ p,bj=vQ++[p]:=by
     rcases List.eq_nil_or_concat bj with h | ⟨r,p,h⟩;·subst h;simp at az;omega
     ·exact⟨r,p,by simpa using h⟩
    have hP:vQ.length=n-1:=by simp at az;omega
    have jQ:(qs vQ).length=(n-1)*2:=by rw[KS,hP]
    obtain⟨au,ob⟩:∃ au,aY=qs vQ++([.int .u8 p.1.toNat,.int .u8 p.2.toNat]++au):=by refine⟨aY.drop (n*2),?_⟩;have aa:=y6 (n*2) aY;rw[hk]at aa;rw[<-aa,GZ (by rw[KS,az])];simp[qs,kP]
    have hl:aY[(n-1)*2+1*1]?=some (.int .u8 p.2.toNat):=by rw[ob,<-jQ,qg (by omega)];simp
    have uN:=p.2.toNat_lt;refine aw.mk [.slice (some ⟨c6,0,none⟩) n fy] (dt (cs:=[.slice (some ⟨c6,0,none⟩) n fy]) (k:=0) (n:=1) (T:=384) (.head _) (by simp)) ?_;refine bl.mk ⟨c6,0,none⟩ (n-1) rfl (by omega) (by omega) ?_;refine dR.mk 1 rfl (by decide) ?_;refine aw.mk [.int .u8 p.2.toNat] (oa (b:=c6) (cs:=aY) (T:=386) (by simp[bf.aO]) hl) ?_;refine bb.mk (p.2.toNat:Int) (wrap_i64 ⟨by omega,by omega⟩) ?_;refine bb.mk ((p.2.toNat:Int)+1) (wrap_i64 ⟨by omega,by omega⟩) ?_;refine bb.mk (x.toNat:Int) (wrap_i64 ⟨by omega,by omega⟩) ?_;have hj:vP (vQ++[p]) x=bif decide ((p.2.toNat:Int)+1=x.toNat)then vQ++[(p.1,x)]else vQ++[p]++[(x,x)]:=by simp[vP]
    refine aM.mk (λaa=>?_) (λaa=>?_)
    ·rw[aa]at hj;refine aw.mk [.slice (some ⟨c6,0,none⟩) n fy] (dt (cs:=[.slice (some ⟨c6,0,none⟩) n fy]) (k:=0) (n:=1) (T:=384) (.head _) (by simp)) ?_;refine bl.mk ⟨c6,0,none⟩ (n-1) rfl (by omega) (by omega) ?_;refine dR.mk 1 rfl (by decide) ?_;rw[AK];refine cc.add [⟨g,.cells #[.slice (some ⟨c6,0,none⟩) n fy] 384 (0,0)⟩] [] aY.toArray _ rfl ?_ rfl ?_
     ·simp only[vp];show 0+((n-1)*2+1)+1<=_;omega
     ·refine⟨_,_,.refl,hY,⟨some c6,n,fy,bQ aY (0+((n-1)*2+1*1)) [.int .u8 x.toNat]⟩,?_,rfl⟩;have bL:bQ aY (0+((n-1)*2+1*1)) [.int .u8 x.toNat]=qs vQ++([.int .u8 p.1.toNat,.int .u8 x.toNat]++au):=by rw[ob];exact WX _ _ _ _ _ _ (by omega)
      rw[hj,bL];have Hk:qs (vQ++[(p.1,x)])=qs vQ++[.int .u8 p.1.toNat,.int .u8 x.toNat]:=by simp[qs,kP]
      refine⟨?_,(λh=>by cases h),λbN mq=>⟨?_,oQ,nC,?_⟩⟩;·simp only[a4];rw[Hk,di,jQ];simp;omega
      ·simp only;rw[<-ft,ob];simp
      ·simp only[a4];rw[Hk,<-gz];refine sf ?_;rw[di,jQ];simp;omega
    ·rw[aa]at hj;simp only[aQ]at hj;refine aw.mk [.slice (some ⟨c6,0,none⟩) n fy] (dt (cs:=[.slice (some ⟨c6,0,none⟩) n fy]) (k:=0) (n:=1) (T:=384) (.head _) (by simp)) ?_;refine cy.mk λa6 iJ WY=>?_;refine bE.append aV rfl (by simp) (e:=386) rfl rfl rfl (⟨some c6,n,fy,aY⟩:bf) cr rfl (m:=1) rfl (dd:=kP (x,x)) (by decide) (dt (cs:=kP (x,x)) (k:=0) (n:=2) (T:=386) (.head _) (by simp[kP])) rfl (Mr:=[⟨a6,.cells (kP (x,x)).toArray 386 (0,0)⟩,⟨g,.cells #[.slice (some ⟨c6,0,none⟩) n fy] 384 (0,0)⟩]) (i' (l₁:=[_,_])) (by simp only[maxLen];omega) (by show(_+1)*2<=_;simp only;omega) ?_;intro eD c' kQ ed dP gS iq;refine cc.mk [⟨eD,.cells kQ.toArray 386 (0,0)⟩,⟨a6,.cells (kP (x,x)).toArray 386 (0,0)⟩] [] _ _ rfl rfl (bP rfl) rfl ?_;refine⟨_,_,.perm (M1:=[⟨a6,.cells (kP (x,x)).toArray 386 (0,0)⟩]++(⟨g,.cells #[bf.val ⟨some eD,(⟨some c6,n,fy,aY⟩:bf).n+1,c',kQ⟩] 384 (0,0)⟩::bf.aO ⟨some eD,(⟨some c6,n,fy,aY⟩:bf).n+1,c',kQ⟩ 386)) (i' (l₁:=[_]) (l₂:=[_,_])) (.sub (mU _ _) .refl),hY,⟨some eD,(⟨some c6,n,fy,aY⟩:bf).n+1,c',kQ⟩,?_,rfl⟩;rw[hj];exact Px cr ed dP gS iq
   ·have hP:n=0:=by simp at U;omega
    have ra:bj=[]:=nx (by omega);have hj:vP bj x=bj++[(x,x)]:=by rw[ra];rfl
    refine aw.mk [.slice (some ⟨c6,0,none⟩) n fy] (dt (cs:=[.slice (some ⟨c6,0,none⟩) n fy]) (k:=0) (n:=1) (T:=384) (.head _) (by simp)) ?_;refine cy.mk λa6 iJ WY=>?_;refine bE.append aV rfl (by simp) (e:=386) rfl rfl rfl (⟨some c6,n,fy,aY⟩:bf) cr rfl (m:=1) rfl (dd:=kP (x,x)) (by decide) (dt (cs:=kP (x,x)) (k:=0) (n:=2) (T:=386) (.head _) (by simp[kP])) rfl (Mr:=[⟨a6,.cells (kP (x,x)).toArray 386 (0,0)⟩,⟨g,.cells #[.slice (some ⟨c6,0,none⟩) n fy] 384 (0,0)⟩]) (i' (l₁:=[_,_])) (by simp only[maxLen];omega) (by show(_+1)*2<=_;simp only;omega) ?_;intro eD c' kQ ed dP gS iq;refine cc.mk [⟨eD,.cells kQ.toArray 386 (0,0)⟩,⟨a6,.cells (kP (x,x)).toArray 386 (0,0)⟩] [] _ _ rfl rfl (bP rfl) rfl ?_;refine⟨_,_,.perm (M1:=[⟨a6,.cells (kP (x,x)).toArray 386 (0,0)⟩]++(⟨g,.cells #[bf.val ⟨some eD,(⟨some c6,n,fy,aY⟩:bf).n+1,c',kQ⟩] 384 (0,0)⟩::bf.aO ⟨some eD,(⟨some c6,n,fy,aY⟩:bf).n+1,c',kQ⟩ 386)) (i' (l₁:=[_]) (l₂:=[_,_])) (.sub (mU _ _) .refl),hY,⟨some eD,(⟨some c6,n,fy,aY⟩:bf).n+1,c',kQ⟩,?_,rfl⟩;rw[hj];exact Px cr ed dP gS iq
 ·rintro I' M' -⟨hY,os,cr,rfl⟩;refine aw.mk [os.val] (dt (cs:=[os.val]) (k:=0) (n:=1) (T:=384) (.head _) (by simp)) ?_;refine⟨_,_,.sub (List.sublist_cons_self _ _) .refl,λb o h=>hY _ _ (b4 _ _ h),os,rfl,?_,rfl⟩;have:(jP aX 0 [a,b,c,d]).take (uL (jP aX 0 [a,b,c,d])).length=jP aX 0 [a,b,c,d]:=gM (by simp[uL]);rw[this]at cr;exact cr
end Go.V
