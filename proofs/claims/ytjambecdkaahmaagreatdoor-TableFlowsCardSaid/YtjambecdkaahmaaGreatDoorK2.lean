/- Part 2 of what the proofs of this seat share: the executor, data in memory, walks.
-/
import Derived.Test.YtjambecdkaahmaaGreatDoorK1
import Derived.Lib.UnsafeStr
import Derived.Test.YtjambecdkaahmaaGreatDoorProg
import Derived.KernelRfl
import Derived.Lib.Builder
import Derived.Lib.Bytealg
import Derived.Laws.Pointers
import Derived.Laws.StructEq
set_option linter.all false
set_option maxHeartbeats 4000000
set_option maxRecDepth 100000
namespace Go.V
open Go
def cU:=@List.length_append
def dK:=@List.getElem_mem
def dF:=@List.append_nil
def g0:=@List.getElem?_eq_getElem
def dk:=@Nat.zero_add
def eX:=@List.length_map
def hn:=@List.take_of_length_le
def ha:=@List.perm_append_comm
def ir:=@List.drop_eq_nil_of_le
def gl:=@List.append_assoc
def l':=@List.eq_nil_of_length_eq_zero
def kH:=@List.sublist_append_right
def ho:=@List.nil_sublist
def mS:=@List.getElem?_append_right
def nP:=@decide_eq_false_iff_not
def jh:=@List.length_nil
def oV:=@Int.eq_ofNat_of_zero_le
def lD:=@List.flatMap_cons
def oW:=@Bool.or_eq_false_iff
def lE:=@List.getElem_map
def ma:=@List.length_take
def xM:=@List.set_eq_take_append_cons_drop
def mT:=@List.nil_append
def qI:=@List.take_succ_cons
def jG:=@Nat.add_mul
def kd:=@Nat.mul_one
def uB:=@List.take_append_drop
def uC:=@Array.length_toList
def mU:=@List.map_nil
def qJ:=@List.take_left'
def pR:=@List.take_zero
def sW:=@List.getElem?_set
def xN:=@List.getElem_cons_zero
def sX:=@List.map_toArray
def sY:=@List.cons_append
def xO:=@List.length_replicate
def qK:=@List.sum_cons
def uD:=@List.ext_getElem
def zG:=@World.putObj_heap_same
def oX:=@Nat.one_mul
def xP:=@Int.toNat_of_nonneg
def sZ:=@List.take_take
def E5:=@Array.eq_empty_of_size_eq_zero
def vR:=@List.length_drop
def E6:=@List.take_append_of_le_length
def s0:=@Bool.true_and
def uE:=@List.drop_take
def zH:=@List.length_take_le
def E7:=@Int.fdiv_eq_ediv_of_nonneg
def BZ:=@List.map_congr_left
def xQ:=@List.drop_drop
def E8:=@List.getElem_cons_succ
def Og:=@Std.Legacy.Range.forIn_eq_forIn_range'
def zI:=@List.take_left
def zJ:=@List.drop_zero
def zK:=@Bool.false_and
def B0:=@List.drop_left'
def IH:=@ByteArray.size_extract
def E9:=@List.ext_getElem?
def E':=@BitVec.toNat_and
def II:=@List.drop_eq_nil_iff
def Oh:=@List.drop_length_add_append
def B1:=@Nat.zero_mul
def Oi:=@Lib.run_firstCells_string
variable{P:Program}{a sa:Option Addr}{w:World}{c g m t u e c' b rJ it T size j i eS:Nat}{X:cD}{F:Fr}{C:c2}{I I':aS}{K:List ay->Prop}{o:Obj}{f x s y:Operand}{vs xs ct:List Value}{mb:TypeDesc}{dc lF aD:dz}{s3 p v:Value}{Mr:List ay}{ad:Addr}{k:IntKind}{other:Prop}{cs:Array Value}{α:Type}{aW:List Int}{d:Int}
def Oj{pN:Fence}{n:Nat}{Q:Exit->Act->World->Prop}{a:Act}{c:Code}(J:Nat->Nat->Act->World->Prop)
  (first:c.wpIn pN n P (λe bS w'=>match e with
   | .goto l=>∃ m,J l m bS w'| e=>Q e bS w') a w)
  (pass:∀ l m a w,J l m a w->∃ a2,findLabel c l=some a2/\a2.wpIn pN n P (λe bS w'=>match e with
   | .goto c4=>∃ m',m'<m/\J c4 m' bS w'| e=>Q e bS w') a w):(Code.scope c).wpIn pN n P Q a w:=by
 intro b k cs kc ai al;have dJ:step P (lone (b.atR a (.code (.scope c)::k)) cs w)=.next (lone (b.atR a (.code c::.inScope c::k)) cs w):=
  step_lone_go (by simp[stepG,stepG.exec,Frame.atR])
 have s1:∀ a w,step P (lone (b.atR a (.inScope c::k)) cs w)=.next (lone (b.atR a k) cs w):=λa w=>
  step_lone_go (by simp[stepG,stepG.exec,Frame.atR])
 have ab:∀ id,exitTo id (.inScope c::k)=exitTo id k:=λid=>by simp[exitTo]
 have fin:∀ {m:Machine} {e:Exit} {ik:Act} {il:World},(∀ l,e≠.goto l)->ArrivesIn (Machine.fenced P pN) P m b (.inScope c::k) cs e ik il->ArrivesIn (Machine.fenced P pN) P m b k cs e ik il:=by
  intro m e ik il bB hj;cases e with
  |normal=>exact StepsIn.trans hj (.one (fenced_calm ai al rfl) (s1 _ _))| exit id=>exact⟨λdq ae=>hj.1 dq (by rw[ab];exact ae),λgj ae=>hj.2 gj (by rw[ab];exact ae)⟩| goto l=>exact(bB l rfl).elim| ret=>exact hj| panic sM=>exact hj| outgrown=>exact hj
 have key:∀ m l a w,J l m a w->∀ a2,findLabel c l=some a2->∃ e bS w',Q e bS w'/\ArrivesIn (Machine.fenced P pN) P (lone (b.atR a (.code a2::.inScope c::k)) cs w) b k cs e bS w':=by
  intro m
  induction m using Nat.strongRecOn with
  |_ m be=>
   intro l a w dm a2 vS;obtain⟨zL,az,hw⟩:=pass l m a w dm;rw[vS]at az;cases az;obtain⟨e,ik,il,aO,hj⟩:=hw b (.inScope c::k) cs kc ai al;cases e with
   |goto c4=>
    obtain⟨m',aK,B2⟩:=aO;obtain⟨zL,vT,_⟩:=pass c4 m' ik il B2;have aA:gotoIn c4 (.inScope c::k)=some (.code zL::.inScope c::k):=by simp[gotoIn,vT]
    obtain⟨BG,BH,BI,BJ,BK⟩:=be m' aK c4 ik il B2 zL vT;exact⟨BG,BH,BI,BJ,.of_steps (hj.1 _ aA) BK⟩
   |normal=>exact⟨_,ik,il,aO,fin (by simp) hj⟩| exit id=>exact⟨_,ik,il,aO,fin (by simp) hj⟩| ret=>exact⟨_,ik,il,aO,fin (by simp) hj⟩| panic sM=>exact⟨_,ik,il,aO,fin (by simp) hj⟩| outgrown=>exact⟨_,ik,il,aO,fin (by simp) hj⟩
 have ao:(lone (b.atR a (.code (.scope c)::k)) cs w).fenced P pN:=fenced_calm ai al rfl;obtain⟨e,ik,il,aO,hj⟩:=first b (.inScope c::k) cs kc ai al
 cases e with
 |goto c4=>
  obtain⟨m',B2⟩:=aO;obtain⟨zL,vT,_⟩:=pass c4 m' ik il B2;have aA:gotoIn c4 (.inScope c::k)=some (.code zL::.inScope c::k):=by simp[gotoIn,vT]
  obtain⟨BG,BH,BI,BJ,BK⟩:=key m' c4 ik il B2 zL vT;exact⟨BG,BH,BI,BJ,.of_steps (.head ao dJ (hj.1 _ aA)) BK⟩
 |normal=>exact⟨_,ik,il,aO,.of_steps (.one ao dJ) (fin (by simp) hj)⟩| exit id=>exact⟨_,ik,il,aO,.of_steps (.one ao dJ) (fin (by simp) hj)⟩| ret=>exact⟨_,ik,il,aO,.of_steps (.one ao dJ) (fin (by simp) hj)⟩| panic sM=>exact⟨_,ik,il,aO,.of_steps (.one ao dJ) (fin (by simp) hj)⟩| outgrown=>exact⟨_,ik,il,aO,.of_steps (.one ao dJ) (fin (by simp) hj)⟩
def IJ(N:Nat->fo)(K:jC):jC
 | .goto l=>N l| e=>K e
def cW.scope{c:Code}{M:List ay}{K:jC}(aE:cE X.P X.E)(bf:codeOk X.n c=true){ι:Type}(au:ι->ur)(s4:ι->Nat)(inv:ι->Prop)(μ:ι->Nat)(a2:Nat->Code)(vS:∀ i,inv i->findLabel c (s4 i)=some (a2 (s4 i))/\codeOk X.n (a2 (s4 i))=true)(first:V X c F C I M (IJ (λl=>nE X.bW au λj=>inv j/\s4 j=l) K))(pass:∀ i,inv i->V X (a2 (s4 i)) (oL (au i).bj) (oM (au i).cl) (au i).c5 (au i).dv (IJ (λl=>nE X.bW au λj=>(inv j/\s4 j=l)/\μ j<μ i) K)) :
  cW X (.scope c) F C I M K:=by
 refine⟨λa w a1=>?_⟩;let J (l m:Nat) (a:Act) (w:World):Prop:=∃ i,inv i/\s4 i=l/\μ i=m/\Rel X a w (oL (au i).bj) (oM (au i).cl) (au i).c5 (au i).dv
 have vI:∀ {p:ι->Prop} {l:Nat} {a w},(∀ i,p i->inv i/\s4 i=l)->Sat X (nE X.bW au p) a w->∃ i,p i/\J l (μ i) a w:=by rintro p l a w aG⟨F,C,I,M,⟨β,al⟩,⟨j,pO,hw,cr,nC⟩⟩;exact⟨j,pO,j,(aG j pO).1,(aG j pO).2,rfl,β,(al.a3 cr nC).hh hw⟩
 refine Oj J (wpIn_mono (oN aE c bf a1 first) ?_) ?_
 ·intro e a w h;cases e with
  |goto l=>obtain⟨j,an,dm⟩:=vI (p:=λj=>inv j/\s4 j=l) (l:=l) (λ_ h=>h) h;exact⟨_,dm⟩
  |_=>exact h
 ·rintro l m a w⟨i,hi,rfl,rfl,al⟩;obtain⟨U,aa⟩:=vS i hi;refine⟨_,U,wpIn_mono (oN aE _ aa al (pass i hi)) ?_⟩;intro e a w h;cases e with
  |goto c4=>obtain⟨j,an,dm⟩:=vI (p:=λj=>(inv j/\s4 j=c4)/\μ j<μ i) (l:=c4) (λ_ h=>h.1) h;exact⟨_,an.2,dm⟩
  |_=>exact h
def B3(P:Program)(l:Nat)(args:List Value)(I:aS)(M:List ay)(post:Value->aS->List ay->Prop):Prop:=
 ∀ w,dY I M w->∃ f tmps assign body,(Instr.yield l args.toArray).run P w=.ok (.round l f tmps assign body) w /\ RoundIn Fence.wide 0 P l f tmps assign body w λe w'=>∃ v I' M',e=.returned v/\post v I' M'/\dY I' M' w'/\Kept I M w I' M' w'
inductive Fa(P:Program)(l:Nat)(args:List Value)(I:aS)(M:List ay)(K:Value->aS->List ay->Prop):Prop
 |mk(db Mr:List ay)(post:Value->aS->List ay->Prop)(a4:M.Perm (db++Mr))(ap:B3 P l args I db post)(k:∀ v I' M',(∀ b o,I b=some o->I' b=some o)->post v I' M'->K v I' (M'++Mr))
def bl.yield{o:Oper}{M:List ay}{K:fo}{args:Array Operand}{ts:Array TypeId}{l:Nat}(aq:o.op=.call { callee:=.value f,args,argTypes:=ts })(ah:∀ d,o.dst=some d->d<X.n)(az:br F f=.val (.func (.yield l) #[] #[]))(g7:kz F args.toList=some vs)
  (h:Fa X.P l vs I M λv I' M'=>K (put o.dst (.val v) F) C I' M'):bl X o F C I M K:=by
 refine⟨λa w Q ⟨β,a1⟩=>?_⟩;obtain⟨db,Mr,post,a4,ap,ae⟩:=h;obtain⟨fn,tmps,assign,body,aN,al⟩:=ap w (a1.holds.part a4);have aw:=qw a1.aj g7;have dA:args.map a.eval=vs.toArray:=by apply fM;simpa using aw
 have aB:=cV a1.aj az;obtain⟨dst,op,ty,pos,after,guard⟩:=o;simp only at aq;subst aq;refine⟨λ_ _=>trivial,?_⟩;rw[Ex _ _ _ (by simp)];have eK:(execOp a.eval ⟨dst,.call { callee:=.value f,args,argTypes:=ts },ty,pos,after,guard⟩).run X.P w=.ok (.round l fn tmps assign body) w:=by simp only[execOp,resolve,aB,Deferred.ofValue,bZ,cG,bK,dA,invoke];simpa using aN
 rw[eK,Oper.uponIn_round];refine⟨(λh=>by cases h),?_⟩;have gj:RoundIn (fN X) (0-1) X.P l fn tmps assign body w _:=al;refine gj.mono ?_;rintro e w'⟨v,I',M',rfl,aG,oG,e9⟩;exact⟨_,_,_,_,⟨β,(a1.after a4 oG e9).put (x:=.val v) ah rfl⟩,ae v I' M' e9.le aG⟩
def Iter(P:Program)(g:Nat)(cap:List Value)(I:aS)(mV:List (List Value)):Prop:=
 ∀ (l:Nat) (R:Nat->aS->List ay->Prop) (rK:aS->List ay->Prop),(∀ k (ae:k<mV.length) I' M',(∀ b o,I b=some o->I' b=some o)->R k I' M'->B3 P l mV[k] I' M' λv B4 lG=>(v=.bool true/\R (k+1) B4 lG)\/(v=.bool false/\rK B4 lG)) -> ∀ dj M0,(∀ b o,I b=some o->dj b=some o)->R 0 dj M0->uh P g (.func (.yield l) #[] #[]::cap) dj M0 λ_ I' M'=>R mV.length I' M'\/rK I' M'
def B5:List Nat->List Value->Fr->Fr
 |t::ps,v::vs,F=>B5 ps vs (fG F t (.val v))| _,_,F=>F
def WY(bW:List Nat)(N:aS->List ay->Prop)(rK:qB->aS->List ay->Prop):jC:=λex F C I M=>match ex with
 | .normal=>sN bW I M N| ex=>sN bW I M (rK ex)
def zM:qB->Option Code
 | .normal=>none| .exit id=>some (.exit id)| .goto l=>some (.goto l)| .ret=>some .ret
section
variable{X:cD}{β:Nat->Nat}{a:Act}{w:World}{F:Fr}{C:c2}{I:aS}{M:List ay}
def Ok:∀ (ps:List Nat) (vs:List Value) (F:Fr) (tmps:Array Value),(∀ t∈ps,t<tmps.size)->(∀ t,dZ β (F t) (tmps.getD t undef)) ->
  let r:=(ps.zip vs).foldl (λ(tmps:Array Value) (p:Nat×Value)=>tmps.setIfInBounds p.1 p.2) tmps
  r.size=tmps.size/\∀ t,dZ β (B5 ps vs F t) (r.getD t undef)
 |[],vs,F,tmps,_,h=>⟨rfl,h⟩| t::ps,[],F,tmps,_,h=>⟨rfl,h⟩
 |t::ps,v::vs,F,tmps,aG,h=>by
  have U:∀ s,dZ β (fG F t (.val v) s) ((tmps.setIfInBounds t v).getD s undef):=λs=>by have:=Ie (β:=β) (F:=F) (a:=⟨tmps,[]⟩) h (d:=t) (x:=.val v) (v:=v) (aG t (by simp)) rfl s;exact this
  have be:=Ok ps vs (fG F t (.val v)) (tmps.setIfInBounds t v) (λs ap=>by simpa using aG s (by simp[ap])) U;simp only[List.zip_cons_cons,uc,B5];exact⟨by simpa using be.1,be.2⟩
def cp.Ol(h:cp X β a w F C I M):cp X β { a with defers:=uj w.heap.size::a.defers } (w.alloc (.deferred (some []))) F C I M where
 size:=h.size
 defers:=by
  obtain⟨bd,U,aa,af⟩:=h.defers;refine⟨w.heap.size::bd,by simp[U],?_,?_⟩;·rw[lA];refine⟨λhm=>?_,aa⟩;have:=(jS.1 (af _ hm).aH).1;omega
  ·intro r al;rcases eg.1 al with rfl | al
   ·exact⟨Ib w _,h.sz,h.holds.pK,h.holds.oF⟩
   ·exact(af r al).alloc _
 holds:=h.holds.alloc _
 aj:=h.aj
 b5 s cs ap:=(h.b5 s cs ap).alloc _
 inj:=h.inj
 gP:=h.gP
 gu:=h.gu
 own:=h.own
 c3:=Ig h.c3 h.sz _
 out:=h.out
 sz:=by have:=h.sz;simp;omega
def cp.B6{n:Nat}{o':Obj}(h:cp X β a w F C I (⟨n,o⟩::M)):cp X β a (w.putObj n o') F C I M:=by
 have e7:(⟨n,o⟩:ay)∈(⟨n,o⟩:ay)::M:=by simp
 have cJ:=h.holds.ch;simp only[dV,lA]at cJ;exact {
  size:=h.size
  defers:=h.defers.mono λr al=>by have bB:n≠r:=al.ec _ e7;refine { al with aH:=?_,ec:=λx ab=>al.ec x (by simp[ab]) };rw[k1 (qo bB)];exact al.aH
  holds:={
   i:=λb o hW=>by rw[k1 (λe=>by have:=h.holds.d _ e7;simp only at this;rw[e,this]at hW;cases hW)];exact h.holds.i b o hW
   m:=λx ab=>by rw[k1 (λe=>cJ.1 (ej.2 ⟨x,ab,e⟩))];exact h.holds.m x (by simp[ab])
   d:=λx ab=>h.holds.d x (by simp[ab])
   ch:=cJ.2 }
  aj:=h.aj
  b5:=λs cs ap=>by have ai:=h.b5 s cs ap;have bB:n≠β s:=ai.ec _ e7;obtain⟨T,b6⟩:=ai.aH;refine { ai with aH:=⟨T,?_⟩,ec:=λx ab=>ai.ec x (by simp[ab]) };rw[k1 (qo bB)];exact b6
  inj:=h.inj
  gP:=h.gP
  gu:=h.gu
  own:=λx ab=>h.own x (by simp[ab])
  c3:=λb ai az=>by
   rw[k1 (λe=>by
    rcases h.own _ e7 with U | U;·simp only at U;exact az (e ▸ U)
    ·simp only at U;omega)]
   exact h.c3 b ai az
  out:=h.out.trans (ED _ _ _)
  sz:=by have:=h.sz;simpa using this }
def cW.range{K:jC}{ps:Array Nat}{eC body:Code}{cap:Array Value}{mV:List (List Value)}(aE:cE X.P X.E)(kc:X.ro=none)(bf:(codeOk X.n eC&&(codeOk X.n body&&ps.toList.all (λt=>Nat.blt t X.n)))=true)(WZ:br F f=.val (.func (.func g) #[] cap)){cL:aS}{M1:List ay}(W0:i' X.bW I M cL M1)(W1:Iter X.P g cap.toList cL mV)(bV:∀ vs∈mV,vs.length=ps.size)(R:Nat->aS->List ay->Prop)(rK:qB->aS->List ay->Prop)(start:R 0 cL M1)(round:∀ k (ae:k<mV.length) I' M',(∀ b o,cL b=some o->I' b=some o)->R k I' M'->∀ l B ao hp,V ⟨X.P,X.E,X.fH,X.n,B,ao,I',M'.map (·.num),some l⟩ eC (B5 ps.toList mV[k] F) (λ_=>none) I' M' (xI (λF C I M=>V ⟨X.P,X.E,X.fH,X.n,B,hp,I',M'.map (·.num),some l⟩ body F C I M (WY (M'.map (·.num)) (R (k+1)) rK)) (λ_ _ _ _ _=>False)))(done:∀ I' M',(∀ b o,cL b=some o->I' b=some o)->R mV.length I' M'->K .normal F C I' M')(stop:∀ ex I' M',(∀ b o,cL b=some o->I' b=some o)->rK ex I' M'->ex≠.normal/\K ex F C I' M') :
  cW X (.rangeFunc f ps eC body) F C I M K:=by
 refine⟨λa w ⟨β,jY⟩=>?_⟩;have a1:=jY.hh W0;simp only[b3]at bf;obtain⟨vU,h0,xR⟩:=bf;refine wpIn_rangeFunc λfn _=>?_;let gm (s:LoopState) (nK:Option Code):Loop:={ state:=s,pending:=nK,fn:=fn,tmps:=a.tmps,params:=ps,assign:=eC,body:=body,defers:=w.heap.size }
 let l:=w.heap.size+1
 let kI:World:=(w.alloc (.deferred (some []))).alloc (.loop (gm .ready none))
 have xS:=a1.Ol.mM (.loop (gm .ready none));have ar:(w.alloc (.deferred (some []))).heap.size=l:=by simp[l]
 rw[ar]at xS;let IK (k:Nat) (I':aS) (M':List ay):Prop:=∃ dr,M'=⟨l,.loop (gm .ready none)⟩::dr/\R k I' dr
 let Om (I':aS) (M':List ay):Prop:=∃ ex c dr,zM ex=some c/\M'=⟨l,.loop (gm .done (some c))⟩::dr/\rK ex I' dr
 have aN:∀ k (ae:k<mV.length) I' M',(∀ b o,cL b=some o->I' b=some o)->IK k I' M'->B3 X.P l mV[k] I' M' λv B4 lG=>(v=.bool true/\IK (k+1) B4 lG)\/(v=.bool false/\Om B4 lG):=by
  rintro k ae I' _ bo⟨dr,rfl,W2⟩W fY;have B7:W.heap[l]?=some (.loop (gm .ready none)):=fY.m ⟨l,.loop (gm .ready none)⟩ (by simp);have aK:l<W.heap.size:=(jS.1 B7).1;have cJ:=fY.ch;simp only[dV,lA]at cJ;have On:I' l=none:=fY.d ⟨l,.loop (gm .ready none)⟩ (by simp);refine⟨_,_,_,_,run_yield B7 (by simpa using bV _ (dK ae)),?_⟩;have IL:((gm LoopState.ready none).params.zip mV[k].toArray).foldl (λtmps (x:Nat×Value)=>match x with | (t,a)=>tmps.setIfInBounds t a) (gm LoopState.ready none).tmps=(ps.toList.zip mV[k]).foldl (λ(tmps:Array Value) (p:Nat×Value)=>tmps.setIfInBounds p.1 p.2) a.tmps:=by rw[<-H6];simp[gm]
  have IM:=Ok (β:=β) ps.toList mV[k] F a.tmps (λt av=>by
   have:=gi.1 xR t av;rw[a1.size];exact bJ this) a1.aj
  rw[<-IL]at IM;refine roundIn_of_wpIn (F:=Fence.wide) (n:=0) trivial ?_;let s5:cD:=⟨X.P,X.E,X.fH,X.n,W.heap.size,W,I',dr.map (·.num),some l⟩
  let hp:=W.putObj l (.loop (gm .busy none))
  let B8:cD:=⟨X.P,X.E,X.fH,X.n,W.heap.size,hp,I',dr.map (·.num),some l⟩
  have ag:=round k ae I' dr bo W2 l W.heap.size W hp;have BL:cp s5 β { tmps:=((gm LoopState.ready none).params.zip mV[k].toArray).foldl (λtmps (x:Nat×Value)=>match x with | (t,a)=>tmps.setIfInBounds t a) (gm LoopState.ready none).tmps,defers:=[] } W (B5 ps.toList mV[k] F) (λ_=>none) I' dr:={
   size:=IM.1.trans a1.size
   defers:=⟨[],rfl,xt,λr al=>by cases al⟩
   holds:=⟨fY.i,λx ab=>fY.m x (by simp[ab]),λx ab=>fY.d x (by simp[ab]),cJ.2⟩
   aj:=IM.2
   b5:=λs cs ap=>by cases ap
   inj:=λs cq U=>by simp at U
   gP:=λb o ai=>ai
   gu:=λb o ai=>.inl ai
   own:=λx ab=>.inl (ej.2 ⟨x,ab,rfl⟩)
   c3:=λb ai az=>rfl
   out:=.refl _
   sz:=cC _ }
  have EP:=oN (X:=s5) aE eC vU ⟨β,BL⟩ ag;refine wpIn_mono (Q:=kC s5 _) EP ?_;intro e cc hK ap;cases e with
  |exit id=>obtain⟨_,_,_,_,_,ae⟩:=ap;exact ae.elim
  |goto id=>obtain⟨_,_,_,_,_,ae⟩:=ap;exact ae.elim
  |ret=>obtain⟨_,_,_,_,_,ae⟩:=ap;exact ae.elim
  |panic sM=>exact ap.elim| outgrown=>exact ap.elim
  |normal=>
   obtain⟨jE,W3,dP,mc,⟨Oo,iN⟩,xG⟩:=ap;have xT:hK.heap[l]?=some (.loop (gm .ready none)):=by rw[iN.c3 l aK cJ.1];exact B7
   refine⟨_,run_beginRound xT rfl,?_⟩;have W4:dP l=none:=by
    cases bF:dP l with
    |none=>rfl
    |some o=>
     rcases iN.gu _ _ bF with U | U;·rw[show s5.dj=I' from rfl,On]at U;cases U
     ·exact absurd U (Nat.not_le.2 aK)
   have W5:∀ x∈mc,x.num≠l:=λx ab e=>by
    rcases iN.own x ab with U | U;·rw[e]at U;exact cJ.1 U
    ·rw[e]at U;exact absurd U (Nat.not_le.2 aK)
   have uy:cp B8 Oo cc (hK.putObj l (.loop (gm .busy none))) jE W3 dP mc:={
    size:=iN.size
    defers:=by obtain⟨bd,aT,aU,bG⟩:=iN.defers;refine⟨bd,aT,aU,λr g9=>?_⟩;have al:=bG r g9;refine { aH:=?_,a3:=al.a3,ig:=al.ig,ec:=al.ec };rw[k1 (λe=>by have U:=al.aH;rw[e,xT]at U;cases U)];exact al.aH
    holds:={
     i:=λb o hW=>by rw[k1 (λe=>by rw[e,W4]at hW;cases hW)];exact iN.holds.i b o hW
     m:=λx ab=>by rw[k1 (W5 x ab)];exact iN.holds.m x ab
     d:=iN.holds.d
     ch:=iN.holds.ch }
    aj:=iN.aj
    b5:=λs cs ap=>by have ai:=iN.b5 s cs ap;obtain⟨T,b6⟩:=ai.aH;refine { aH:=⟨T,?_⟩,a3:=ai.a3,ig:=ai.ig,ec:=ai.ec };rw[k1 (λe=>by rw[e,xT]at b6;cases b6)];exact b6
    inj:=iN.inj
    gP:=iN.gP
    gu:=iN.gu
    own:=iN.own
    c3:=λb ai az=>by
     by_cases e:b=l;·subst e;rw[zG (jS.1 xT).1];exact(zG aK).symm
     ·rw[k1 e];show _=(W.putObj l (.loop (gm .busy none))).heap[b]?;rw[k1 e];exact iN.c3 b ai az
    out:=⟨iN.out.1,iN.out.2⟩
    sz:=by have:=iN.sz;simpa using this }
   have W6:=oN (X:=B8) aE body h0 ⟨Oo,uy⟩ xG;refine wpIn_mono (Q:=kC B8 _) W6 ?_;have fin:∀ (df:Act) (me:World) (s6:Fr) (s7:c2) (hL:aS) (nQ:List ay) (jump:Option Code),Rel B8 df me s6 s7 hL nQ->∃ iu,(Instr.endRound l jump).run X.P me=.ok (.bool jump.isNone) iu /\
     dY hL (⟨l,.loop (gm (if jump.isNone then .ready else .done) jump)⟩::nQ) iu/\Kept I' (⟨l,.loop (gm .ready none)⟩::dr) W hL (⟨l,.loop (gm (if jump.isNone then .ready else .done) jump)⟩::nQ) iu:=by
    rintro df me s6 s7 hL nQ jump⟨vV,af⟩;have xU:me.heap[l]?=some (.loop (gm .busy none)):=by rw[af.c3 l aK cJ.1];exact zG aK
    have Oq:hL l=none:=by
     cases bF:hL l with
     |none=>rfl
     |some o=>
      rcases af.gu _ _ bF with U | U;·rw[show B8.dj=I' from rfl,On]at U;cases U
      ·exact absurd U (Nat.not_le.2 aK)
    have Ot:∀ x∈nQ,x.num≠l:=λx ab e=>by
     rcases af.own x ab with U | U;·rw[e]at U;exact cJ.1 U
     ·rw[e]at U;exact absurd U (Nat.not_le.2 aK)
    refine⟨_,run_endRound jump xU,?_,?_⟩
    ·exact {
      i:=λb o hW=>by rw[k1 (λe=>by rw[e,Oq]at hW;cases hW)];exact af.holds.i b o hW
      m:=λx ab=>by
       rcases eg.1 ab with rfl | ab;·exact zG (jS.1 xU).1
       ·rw[k1 (Ot x ab)];exact af.holds.m x ab
      d:=λx ab=>by
       rcases eg.1 ab with rfl | ab;·exact Oq
       ·exact af.holds.d x ab
      ch:=by
       simp only[dV,lA];refine⟨λhm=>?_,af.holds.ch⟩;obtain⟨x,ab,e⟩:=ej.1 hm;exact Ot x ab e }
    ·exact {
      le:=af.gP
      sF:=af.gu
      ug:=λx ab=>by
       rcases eg.1 ab with rfl | ab;·exact .inl ⟨⟨l,.loop (gm .ready none)⟩,by simp,rfl⟩
       ·rcases af.own x ab with U | U
        ·obtain⟨y,aN,e⟩:=ej.1 U;exact .inl ⟨y,by simp[aN],e⟩
        ·exact .inr U
      c3:=λb ai bB=>by
       have oY:b≠l:=λe=>bB ⟨l,.loop (gm .ready none)⟩ (by simp) e.symm;rw[k1 oY,af.c3 b ai (λhm=>by
        obtain⟨y,aN,e⟩:=ej.1 hm;exact bB y (by simp[aN]) e)]
       exact k1 oY
      out:=⟨af.out.1,af.out.2⟩
      sz:=by have:=af.sz;simpa using this }
   intro e df me vW;cases e with
   |normal=>obtain⟨s6,s7,hL,nQ,⟨vV,af⟩,⟨mf,mW,xV,aG⟩⟩:=vW;obtain⟨iu,aR,bC,bO⟩:=fin df me s6 s7 mf mW none ⟨vV,af.hh xV⟩;exact⟨_,iu,aR,_,_,_,rfl,.inl ⟨rfl,_,rfl,aG⟩,bC,bO⟩
   |exit id=>obtain⟨s6,s7,hL,nQ,⟨vV,af⟩,⟨mf,mW,xV,aG⟩⟩:=vW;obtain⟨iu,aR,bC,bO⟩:=fin df me s6 s7 mf mW (some (.exit id)) ⟨vV,af.hh xV⟩;exact⟨_,iu,aR,_,_,_,rfl,.inr ⟨rfl,.exit id,_,_,rfl,rfl,aG⟩,bC,bO⟩
   |goto id=>obtain⟨s6,s7,hL,nQ,⟨vV,af⟩,⟨mf,mW,xV,aG⟩⟩:=vW;obtain⟨iu,aR,bC,bO⟩:=fin df me s6 s7 mf mW (some (.goto id)) ⟨vV,af.hh xV⟩;exact⟨_,iu,aR,_,_,_,rfl,.inr ⟨rfl,.goto id,_,_,rfl,rfl,aG⟩,bC,bO⟩
   |ret=>obtain⟨s6,s7,hL,nQ,⟨vV,af⟩,⟨mf,mW,xV,aG⟩⟩:=vW;obtain⟨iu,aR,bC,bO⟩:=fin df me s6 s7 mf mW (some .ret) ⟨vV,af.hh xV⟩;exact⟨_,iu,aR,_,_,_,rfl,.inr ⟨rfl,.ret,_,_,rfl,rfl,aG⟩,bC,bO⟩
   |panic sM=>exact vW.elim| outgrown=>exact vW.elim
 obtain⟨nB,xF⟩:=W1 l IK Om aN cL (⟨l,.loop (gm .ready none)⟩::M1) (λ_ _ h=>h) ⟨M1,rfl,start⟩;have kJ:=xF kI xS.holds;have aB:=cV a1.aj WZ;refine⟨l,[uj w.heap.size],kI,{ target:=.fn (.func g) cap,args:=#[.func (.yield l) #[] #[]] },kI,g,(.func (.yield l) #[] #[]::cap.toList).toArray,kI,?_,?_,λ_ _=>trivial,?_,(λh=>by cases h),?_⟩
 ·have IN:(fN X).round=none:=kc;rw[IN];exact run_enterLoop_outer fn a.tmps ps eC body
 ·show(Deferred.ofValue (a.eval f) (#[Operand.const (.func (.yield l) #[] #[])].map a.eval)).run X.P kI=_;rw[aB];simp[Deferred.ofValue,Act.eval]
 ·simp only[invoke];rw[show #[Value.func (.yield l) #[] #[]]++cap=(.func (.yield l) #[] #[]::cap.toList).toArray from by apply fM;simp];exact nB _ _
 ·refine(Ij (X:=X) kJ _).mono ?_;rintro e me⟨v,I',M',rfl,aG,oG,e9⟩;have vX:=xS.after (Mr:=[]) (by simp) oG e9;rw[dF]at vX;have bo:=e9.le;rcases aG with⟨dr,rfl,W7⟩ | ⟨ex,c,dr,aL,rfl,W8⟩
  ·refine⟨none,_,run_endLoop (oG.m ⟨l,.loop (gm .ready none)⟩ (by simp)) (by simp[gm]),?_⟩;exact⟨F,C,I',dr,⟨β,vX.B6⟩,done I' dr bo W7⟩
  ·refine⟨some c,_,run_endLoop (oG.m ⟨l,.loop (gm .done (some c))⟩ (by simp)) (by simp[gm]),?_⟩;obtain⟨bB,ae⟩:=stop ex I' dr bo W8;cases ex with
   |normal=>exact(bB rfl).elim| exit id=>cases aL;exact wpIn_exit ⟨F,C,I',dr,⟨β,vX.B6⟩,ae⟩| goto id=>cases aL;exact wpIn_goto ⟨F,C,I',dr,⟨β,vX.B6⟩,ae⟩| ret=>cases aL;exact wpIn_ret ⟨F,C,I',dr,⟨β,vX.B6⟩,ae⟩
end
structure bk where
 a:Option Nat
 n:Nat
 c:Nat
 aJ:List Value
def bk.val(o:bk):Value:=.slice (o.a.map λg=>⟨g,0,none⟩) o.n o.c
def bk.aY(o:bk)(e:Nat):List ay:=match o.a with
 |some g=>[⟨g,.cells o.aJ.toArray e (0,0)⟩]| none=>[]
structure bk.ok(o:bk)(size:Nat)(xs:List Value):Prop where
 len:xs.length=o.n*size
 nil:o.a=none->o.n=0/\o.c=0
 cap:∀ g,o.a=some g->o.aJ.length=o.c*size/\o.n<=o.c/\o.c<=maxLen/\o.aJ.take (o.n*size)=xs
section
variable{P:Program}{w:World}
def Ou(t u ty e:Nat)(i:TypeInfo)(z:Value)(av:P.underlying t=some (.slice e))(hu:P.underlying u=some mb)(nR:∀ k,mb≠.int k)(hi:P.info? e=some i)(bg:i.zero=some z)(uF:z.cells.size=i.size)
  {os:bk} (bf:os.ok i.size xs) (aA:∀ g,os.a=some g->w.heap[g]?=some (.cells os.aJ.toArray e (0,0)))
  {x:Value} (hm:0<m) (ar:ct.length=m*i.size) (U:∀ v∈ct,v.oneCell'=true)
  (bV:∀ w',(Builtin.lenOf x).run P w'=.ok m w') (gn:∀ w':World,w'.heap=w.heap->(Builtin.firstCells i.size m x).run P w'=.ok ct.toArray w')
  (bI:os.n+m<=maxLen) (cx:(os.n+m)*i.bytes<=140737488355328) :
  ∃ (g c:Nat) (aJ:List Value) (w':World),(Builtin.append_ #[t,u] ty #[os.val,x]).run P w=.ok (.slice (some ⟨g,0,none⟩) (os.n+m) c) w'/\aJ.length=c*i.size/\os.n+m<=c/\c<=maxLen/\aJ.take ((os.n+m)*i.size)=xs++ct /\
   ((os.a=some g/\w'=w.setRow g aJ.toArray)\/(g=w.heap.size/\w'=w.drew.alloc (.cells aJ.toArray e (0,0)))):=by
 obtain⟨a,n,c,aJ⟩:=os;have IP:(xs++ct).length=(n+m)*i.size:=by rw[cU,bf.len,ar,jG]
 have Ov:∀ c3,(xs++ct++(Builtin.zeroCells z.cells (grownCap w (n+m) c3 e-(n+m))).toList).length=grownCap w (n+m) c3 e*i.size/\n+m<=grownCap w (n+m) c3 e/\grownCap w (n+m) c3 e<=maxLen /\
   (xs++ct++(Builtin.zeroCells z.cells (grownCap w (n+m) c3 e-(n+m))).toList).take ((n+m)*i.size)=xs++ct:=by
  intro c3;have c1:=grownCap_ge w (n+m) c3 e;have kK:grownCap w (n+m) c3 e<=maxLen:=grownCap_le_maxLen w (n+m) c3 e bI;refine⟨?_,c1,kK,?_⟩;·rw[cU,IP,uC,size_zeroCells,uF,<-jG];congr 1;omega
  ·rw[<-IP];exact zI
 have B9:(match mb with | .int _=>true | _=>false)=false:=by cases mb<;>first | rfl | exact(nR _ rfl).elim
 have nS:n+m<=9223372036854775807:=by simp only[maxLen]at bI;exact bI
 cases a with
 |none=>
  obtain⟨lH,zN⟩:=bf.nil rfl;simp only at lH zN;subst lH;subst zN;have ab:xs=[]:=l' (by simpa using bf.len);subst ab;simp only[dk,mT]at *;have ao:0<m:=hm;have ax:m≠0:=by omega
  have B':¬ (9223372036854775807<(m:Int)):=by omega
  have Ca:¬ (281474976710656<Builtin.nextslicecap m 0*i.bytes):=by rw[nextslicecap_zero ao];omega
  have az:=gn w.drew rfl;obtain⟨aT,aU,bG,fk⟩:=Ov 0;refine⟨w.heap.size,grownCap w m 0 e,_,w.drew.alloc (.cells (ct++(Builtin.zeroCells z.cells (grownCap w m 0 e-m)).toList).toArray e),?_,aT,aU,bG,fk,.inr ⟨rfl,rfl⟩⟩;simp[bk.val,Builtin.append_,run_underlying av,run_underlying hu,sizeOf,typeInfo,zeroValue,hi,bg,bV,ax,B',Ca,Question.forced,run_firstCells_none,az,newRow,grownCap];congr 2;apply fM;simp
 |some g=>
  obtain⟨e3,lI,kK,nT⟩:=bf.cap g rfl;have IQ:=aA g rfl;simp only at e3 lI kK nT IQ;by_cases qL:n+m<=c
  ·have fS:n*i.size+ct.length<=aJ.length:=by rw[ar,e3,<-jG];exact rr _ qL
   have dw:=run_storeCells_at P g (n*i.size) e ct 0 aJ.toArray w IQ (by simpa using fS) U;simp only[qn]at dw;refine⟨g,c,aJ.take (n*i.size)++ct++aJ.drop (n*i.size+ct.length),_,?_,?_,qL,kK,?_,.inl ⟨rfl,rfl⟩⟩;·have az:=gn w rfl;simp[bk.val,Builtin.append_,run_underlying av,run_underlying hu,sizeOf,typeInfo,hi,bV,qL,az,Addr.add_lit,dw]
   ·simp only[cU,ma,vR];omega
   ·rw[nT,<-IP];exact zI
  ·have ax:¬ (n+m<=c):=by omega
   have B':¬ (9223372036854775807<((n:Int)+(m:Int))):=by omega
   have Ca:¬ (281474976710656<Builtin.nextslicecap (n+m) c*i.bytes):=by have:=growslice_fits (by omega:c<n+m) cx;omega
   have az:=gn w.drew rfl;have W9:∀ j v,xs[j]?=some v->w.drew.cell? ((⟨g,0,none⟩:Addr).add j)=some v:=by
    intro j v an;have IR:w.drew.heap[g]?=some (.cells aJ.toArray e (0,0)):=IQ;rw[dS _ rfl,sH IR];rw[<-nT,kx]at an;split at an;·simpa using an
    ·cases an
   have W':=run_firstCells_some (P:=P) w.drew i.size n ⟨g,0,none⟩ n c xs bf.len W9;obtain⟨aT,aU,bG,fk⟩:=Ov c;refine⟨w.heap.size,grownCap w (n+m) c e,_,w.drew.alloc (.cells (xs++ct++(Builtin.zeroCells z.cells (grownCap w (n+m) c e-(n+m))).toList).toArray e),?_,aT,aU,bG,fk,.inr ⟨rfl,rfl⟩⟩;simp[bk.val,Builtin.append_,run_underlying av,run_underlying hu,sizeOf,typeInfo,zeroValue,hi,bg,bV,ax,B',Ca,Question.forced,az,W',newRow,grownCap];congr 2;apply fM;simp
end
section
variable{X:cD}{β:Nat->Nat}{a:Act}{w:World}{F:Fr}{C:c2}{I:aS}{M:List ay}{o:Oper}{K:fo}
def IS(aE:cE X.P X.E)(aq:o.op=.call { callee:=.builtin .append,args:=#[s,x],argTypes:=#[t,u] })(ah:∀ d,o.dst=some d->d<X.n)
 (av:X.E t=some dc) (dL:dc.bz=.slice e) (hu:X.E u=some lF) (e':∀ k,lF.bz≠.int k) (he:X.E e=some aD)
  (os:bk) (bf:os.ok aD.size xs) (ap:br F s=.val os.val)
 (ab:br F x=.val s3) (hm:0<m) (ar:ct.length=m*aD.size) (U:hH ct=true)
  (bV:∀ w',(Builtin.lenOf s3).run X.P w'=.ok m w') (gn:∀ w,dY I M w->(Builtin.firstCells aD.size m s3).run X.P w=.ok ct.toArray w)
 (a4:M.Perm (os.aY e++Mr)) (bI:os.n+m<=maxLen) (cx:(os.n+m)*aD.bytes<=140737488355328)
  (k:∀ (g c:Nat) (aJ:List Value),I g=none->aJ.length=c*aD.size->os.n+m<=c->c<=maxLen->aJ.take ((os.n+m)*aD.size)=xs++ct ->
   K (put o.dst (.val (.slice (some ⟨g,0,none⟩) (os.n+m) c)) F) C I (⟨g,.cells aJ.toArray e (0,0)⟩::Mr)):bl X o F C I M K:=by
 refine⟨λa w Q ⟨β,jY⟩=>?_⟩;have a1:cp X β a w F C I (os.aY e++Mr):=jY.hh (.perm a4 .refl);obtain⟨inf,z,hi,fa,g8,hY,ka⟩:=(aE _ _ he).inf;obtain⟨d,eM,e4⟩:=(aE _ _ hu).eJ;obtain⟨fl,pS,ke⟩:=(aE _ _ av).eJ;have rL:fl=.slice e:=by rw[dL]at ke;cases fl<;>simp_all[eD]
 subst rL;have uF:z.cells.size=inf.size:=by rw[fa,<-(aE _ _ he).len,<-ka];simp
 rw[<-fa]at bf ar gn;obtain⟨g,c,aJ,w',eK,aT,aU,bG,fk,mX⟩:=Ou (P:=X.P) (w:=w) t u o.type e inf z pS eM (λk bn=>e' k (by rw[<-e4,bn];rfl)) hi hY uF bf (λg aA=>a1.holds.m ⟨g,.cells os.aJ.toArray e (0,0)⟩ (by simp[bk.aY,aA])) (x:=s3) hm ar (xx U) bV (λw' IT=>gn w' (jY.holds.heap IT)) bI (by rw[g8];exact cx);rw[fa]at aT fk;have IU:I g=none:=by
  rcases mX with⟨aA,_⟩ | ⟨rfl,_⟩;·exact a1.holds.d ⟨g,.cells os.aJ.toArray e (0,0)⟩ (by simp[bk.aY,aA])
  ·cases bF:I w.heap.size with
   |none=>rfl| some mg=>have:=a1.holds.i _ _ bF;simp at this
 have es:=cV a1.aj ap;have ex:=cV a1.aj ab;refine hV (by rw[aq];simp) (v:=.slice (some ⟨g,0,none⟩) (os.n+m) c) (w':=w') ?_ ⟨_,_,_,_,⟨β,cp.put (x:=.val (.slice (some ⟨g,0,none⟩) (os.n+m) c)) ?_ ah rfl⟩,k g c aJ IU aT aU bG fk⟩
 ·unfold execOp;simp only[aq,resolve,invoke,builtin,bZ,cG,bK,sX,dV,mU,es,ex,eK]
 ·rcases mX with⟨aA,rfl⟩ | ⟨rfl,rfl⟩
  ·have ai:os.aY e=[⟨g,.cells os.aJ.toArray e (0,0)⟩]:=by simp[bk.aY,aA]
   rw[ai]at a1;exact a1.vy (a6:=[]) (post:=Mr) rfl
  ·have aa:cp X β a w.drew F C I (os.aY e++Mr):=a1.world rfl;have af:=aa.mM (.cells aJ.toArray e (0,0));refine af.hh (.sub ?_ .refl);exact List.Sublist.cons_cons _ (kH _ _)
def bl.append(aE:cE X.P X.E)(aq:o.op=.call { callee:=.builtin .append,args:=#[s,x],argTypes:=#[t,t] })(ah:∀ d,o.dst=some d->d<X.n)
 (av:X.E t=some dc) (dL:dc.bz=.slice e) (he:X.E e=some aD)
  (os:bk) (bf:os.ok aD.size xs) (ap:br F s=.val os.val)
 (ab:br F x=.val (.slice (some ad) m c')) (hm:0<m) (ax:ca I M ad (m*aD.size) ct) (U:hH ct=true)
 (a4:M.Perm (os.aY e++Mr)) (bI:os.n+m<=maxLen) (cx:(os.n+m)*aD.bytes<=140737488355328)
  (k:∀ (g c:Nat) (aJ:List Value),aJ.length=c*aD.size->os.n+m<=c->c<=maxLen->aJ.take ((os.n+m)*aD.size)=xs++ct ->
   K (put o.dst (.val (.slice (some ⟨g,0,none⟩) (os.n+m) c)) F) C I (⟨g,.cells aJ.toArray e (0,0)⟩::Mr)):bl X o F C I M K:=by
 refine IS aE aq ah av dL av (λk=>by rw[dL];simp) he os bf ap ab hm ?_ U (λ_=>rfl) (λw hw=>?_) a4 bI cx (λg c aJ _=>k g c aJ)
 ·obtain⟨_,_,_,_,_,_,h⟩:=ax;exact h
 ·obtain⟨b0,cs,T,aj,dR,ag,ar⟩:=ax;refine run_firstCells_some (P:=X.P) w aD.size m ad m c' ct ar λj v an=>?_;rw[dS _ b0,sH (dR.heap hw)];rw[<-ag,kx]at an;split at an
  ·rw[pI]at an;simpa using an
  ·cases an
def bl.Xa(aE:cE X.P X.E)(aq:o.op=.call { callee:=.builtin .append,args:=#[s,x],argTypes:=#[t,t] })(ah:∀ d,o.dst=some d->d<X.n)
 (av:X.E t=some dc) (dL:dc.bz=.slice e) (he:X.E e=some aD)
  (os:bk) (bf:os.ok aD.size xs) (ap:br F s=.val os.val)
 (ab:br F x=.val (.slice (some ad) m c')) (hm:0<m) (ax:ca I M ad (m*aD.size) ct) (U:hH ct=true)
 (a4:M.Perm (os.aY e++Mr)) (bI:os.n+m<=maxLen) (cx:(os.n+m)*aD.bytes<=140737488355328)
  (k:∀ (g c:Nat) (aJ:List Value),I g=none->aJ.length=c*aD.size->os.n+m<=c->c<=maxLen->aJ.take ((os.n+m)*aD.size)=xs++ct ->
   K (put o.dst (.val (.slice (some ⟨g,0,none⟩) (os.n+m) c)) F) C I (⟨g,.cells aJ.toArray e (0,0)⟩::Mr)):bl X o F C I M K:=by
 refine IS aE aq ah av dL av (λk=>by rw[dL];simp) he os bf ap ab hm ?_ U (λ_=>rfl) (λw hw=>?_) a4 bI cx k
 ·obtain⟨_,_,_,_,_,_,h⟩:=ax;exact h
 ·obtain⟨b0,cs,T,aj,dR,ag,ar⟩:=ax;refine run_firstCells_some (P:=X.P) w aD.size m ad m c' ct ar λj v an=>?_;rw[dS _ b0,sH (dR.heap hw)];rw[<-ag,kx]at an;split at an
  ·rw[pI]at an;simpa using an
  ·cases an
def jH(s:ByteArray):List Value:=s.data.toList.map λb=>.int .u8 b.toNat
def bl.Xb(aE:cE X.P X.E)(aq:o.op=.call { callee:=.builtin .append,args:=#[s,x],argTypes:=#[t,u] })(ah:∀ d,o.dst=some d->d<X.n)
 (av:X.E t=some dc) (dL:dc.bz=.slice e) (hu:X.E u=some lF) (e':lF.bz=.string) (he:X.E e=some aD) (cI:aD.size=1)
  (os:bk) (bf:os.ok aD.size xs) (ap:br F s=.val os.val)
  {str:ByteArray} (ab:br F x=.val (.string str)) (hm:0<str.size)
 (a4:M.Perm (os.aY e++Mr)) (bI:os.n+str.size<=maxLen) (cx:(os.n+str.size)*aD.bytes<=140737488355328)
  (k:∀ (g c:Nat) (aJ:List Value),aJ.length=c*aD.size->os.n+str.size<=c->c<=maxLen->aJ.take ((os.n+str.size)*aD.size)=xs++jH str ->
   K (put o.dst (.val (.slice (some ⟨g,0,none⟩) (os.n+str.size) c)) F) C I (⟨g,.cells aJ.toArray e (0,0)⟩::Mr)):bl X o F C I M K:=by
 refine IS aE aq ah av dL hu (λk=>by rw[e'];simp) he os bf ap ab hm ?_ ?_ (λ_=>rfl) (λw hw=>?_) a4 bI cx (λg c aJ _=>k g c aJ)
 ·simp[jH,cI]
 ·refine gi.2 λv ag=>?_;obtain⟨b,_,rfl⟩:=ej.1 ag;rfl
 ·simp only[Builtin.firstCells,cG];congr 1;apply fM;have aw:str.extract 0 str.size=str:=by apply ry;simp[Ep]
  simp[jH,aw]
end
section
variable{X:cD}{F:Fr}{C:c2}{I:aS}{M:List ay}{o:Oper}{K:fo}
def Ow(av:P.underlying t=some (.array 4 e))(he:P.underlying e=some (.int k)){inf:TypeInfo}(hi:P.info? e=some inf)(ap:inf.size=1)(en cc dd df kL bI cx dx:Int)(w:World) :
  (Op.equal t (.agg #[.int k en,.int k cc,.int k dd,.int k df]) (.agg #[.int k kL,.int k bI,.int k cx,.int k dx])).run P w=.ok (en == kL&&(cc == bI&&(dd == cx&&df == dx))) w:=by
 have Ox:∀ (xs:Array Value) (i:Nat) (v:Value) (w:World),xs[i]?=some v->(part e xs i).run P w=.ok v w:=λxs i v w h=>by
  have Bz:(isAgg e).run P w=.ok false w:=by unfold isAgg;simp[run_underlying he]
  unfold part;simp[Bz,sizeOf,typeInfo,hi,ap,h]
 have hint:∀ (d:Nat) (x y:Int) (w:World),(Op.equalIn (d+1) e (.int k x) (.int k y)).run P w=.ok (x == y) w:=λd x y w=>by simp[Op.equalIn,run_underlying he]
 have key:∀ m,(∀ (x y:Int) (w:World),(Op.equalIn m e (.int k x) (.int k y)).run P w=.ok (x == y) w)->(Op.equalIn (m+1) t (.agg #[.int k en,.int k cc,.int k dd,.int k df]) (.agg #[.int k kL,.int k bI,.int k cx,.int k dx])).run P w=.ok (en == kL&&(cc == bI&&(dd == cx&&df == dx))) w:=λm hint=>by
  rw[Op.equalIn];simp only[bZ,run_underlying av,bK,sizeOf,typeInfo,hi,run_program,cG,ap];simp only[Og];have al:List.range' 0 ([:4]:Std.Legacy.Range).size=[0,1,2,3]:=by decide
  rw[al];have pa:=λ(i:Nat) (v:Value) (w:World)=>Ox #[.int k en,.int k cc,.int k dd,.int k df] i v w;have Fb:=λ(i:Nat) (v:Value) (w:World)=>Ox #[.int k kL,.int k bI,.int k cx,.int k dx] i v w;simp only[List.forIn_cons,List.forIn_nil,bZ];rw[pa (0*1) (.int k en) w rfl];simp only[bK,bZ];rw[Fb (0*1) (.int k kL) w rfl];simp only[bK,bZ];rw[hint];simp only[bK];cases(en == kL);·simp
  simp only[oB,jw,j8,cG,bK,bZ];rw[pa (1*1) (.int k cc) w rfl];simp only[bK,bZ];rw[Fb (1*1) (.int k bI) w rfl];simp only[bK,bZ];rw[hint];simp only[bK];cases(cc == bI);·simp
  simp only[oB,jw,j8,cG,bK,bZ];rw[pa (2*1) (.int k dd) w rfl];simp only[bK,bZ];rw[Fb (2*1) (.int k cx) w rfl];simp only[bK,bZ];rw[hint];simp only[bK];cases(dd == cx);·simp
  simp only[oB,jw,j8,cG,bK,bZ];rw[pa (3*1) (.int k df) w rfl];simp only[bK,bZ];rw[Fb (3*1) (.int k dx) w rfl];simp only[bK,bZ];rw[hint];simp only[bK];cases(df == dx);·simp
  simp
 exact key 9999 (hint 9998)
def fh.Oy{E:Env}(aE:cE P E)(av:E t=some dc)(dL:dc.bz=.array 4 e)(he:E e=some aD)(kf:aD.bz=.int k)(aA:P.eqGuardType P.depth t=false){en cc dd df kL bI cx dx:Int}{V:Value->Prop}
  (h:V (.bool (en == kL&&(cc == bI&&(dd == cx&&df == dx))))):fh P .eql t x y (.val (.agg #[.int k en,.int k cc,.int k dd,.int k df])) (.val (.agg #[.int k kL,.int k bI,.int k cx,.int k dx])) V other:=by
 obtain⟨d,eM,e4⟩:=(aE _ _ av).eJ;obtain⟨nU,IV,IW⟩:=(aE _ _ he).eJ;obtain⟨inf,z,hi,fa,_⟩:=(aE _ _ he).inf;have U:d=.array 4 e:=by rw[dL]at e4;cases d<;>simp_all[eD]
 have aa:nU=.int k:=by rw[kf]at IW;cases nU<;>simp_all[eD]
 subst U;subst aa;have gQ:inf.size=1:=by rw[fa];exact(aE _ _ he).Ez (by rw[kf];rfl)
 refine .mk _ _ _ rfl rfl (λw=>?_) h;simp only[bZ,run_eqGuard_agg (hm:=aA),bK,binOp,Ow eM IV hi gQ,cG]
def fh.concat{a b:ByteArray}(ap:a.size+b.size<=9223372036854775807){V:Value->Prop}(h:V (.string (a++b))):fh P .add t x y (.val (.string a)) (.val (.string b)) V other:=by refine .mk _ _ _ rfl rfl (λw=>?_) h;simp only[bZ,Ii,bK,binOp,run_string_add_sum _ _ _ ap,cG]
end
section
variable{X:cD}{β:Nat->Nat}{a:Act}{w:World}{F:Fr}{C:c2}{I:aS}{M:List ay}{o:Oper}{K:fo}
def cp.Oz{n:Nat}{mg:Obj}{w':World}(h:cp X β a w F C I (⟨n,mg⟩::M))(ap:w'.heap.size=w.heap.size)(ai:∀ b,b≠n->w'.heap[b]?=w.heap[b]?)(aq:l5 w w'):cp X β a w' F C I M:=by
 have e7:(⟨n,mg⟩:ay)∈(⟨n,mg⟩:ay)::M:=by simp
 have cJ:=h.holds.ch;simp only[dV,lA]at cJ;exact {
  size:=h.size
  defers:=h.defers.mono λr al=>by have bB:n≠r:=al.ec _ e7;refine { al with aH:=?_,ec:=λx ab=>al.ec x (by simp[ab]) };rw[ai r (qo bB)];exact al.aH
  holds:={
   i:=λb o hW=>by rw[ai b (λe=>by have:=h.holds.d _ e7;simp only at this;rw[e,this]at hW;cases hW)];exact h.holds.i b o hW
   m:=λx ab=>by rw[ai _ (λe=>cJ.1 (ej.2 ⟨x,ab,e⟩))];exact h.holds.m x (by simp[ab])
   d:=λx ab=>h.holds.d x (by simp[ab])
   ch:=cJ.2 }
  aj:=h.aj
  b5:=λs cs jd=>by have rH:=h.b5 s cs jd;have bB:n≠β s:=rH.ec _ e7;obtain⟨T,b6⟩:=rH.aH;refine { rH with aH:=⟨T,?_⟩,ec:=λx ab=>rH.ec x (by simp[ab]) };rw[ai _ (qo bB)];exact b6
  inj:=h.inj
  gP:=h.gP
  gu:=h.gu
  own:=λx ab=>h.own x (by simp[ab])
  c3:=λb aK az=>by
   rw[ai b (λe=>by
    rcases h.own _ e7 with U | U;·simp only at U;exact az (e ▸ U)
    ·simp only at U;omega)]
   exact h.c3 b aK az
  out:=h.out.trans aq
  sz:=by rw[ap];exact h.sz }
def Xc(w:World)(p:Addr)(n:Nat):(w.freeze p n).heap.size=w.heap.size:=by
 unfold World.freeze;split<;>simp
def Xd(w:World)(p:Addr)(n:Nat):l5 w (w.freeze p n):=by
 unfold World.freeze;split<;>exact⟨rfl,rfl⟩
def Xe(w:World)(p:Addr)(n b:Nat)(h:b≠p.block):(w.freeze p n).heap[b]?=w.heap[b]?:=by
 unfold World.freeze;split
 ·rfl
 ·simp only[Array.getElem?_modify];rw[cA (qo h)]
def bl.IX(aE:cE X.P X.E){p n:Operand}(aq:o.op=.call { callee:=.builtin .unsafeString,args:=#[p,n],argTypes:=#[rJ,it] })(ah:∀ d,o.dst=some d->d<X.n)
 (av:X.E rJ=some dc) (dL:dc.bz=.pointer e) (he:X.E e=some aD) (kf:aD.size=1)
 {l:List UInt8} (aG:br F p=.val (.pointer (some ⟨g,0,none⟩))) (ax:br F n=.val (.int .i64 l.length)) (ao:l≠[]) (zO:l.length<=9223372036854775807)
 (a4:M.Perm (⟨g,.cells cs e (0,0)⟩::Mr)) (jd:cs.toList.take l.length=l.map λb=>.int .u8 b.toNat)
  (h:K (put o.dst (.val (.string ⟨l.toArray⟩)) F) C I Mr):bl X o F C I M K:=by
 refine⟨λa w Q ⟨β,jY⟩=>?_⟩;have a1:cp X β a w F C I (⟨g,.cells cs e (0,0)⟩::Mr):=jY.hh (.perm a4 .refl);have aA:w.heap[g]?=some (.cells cs e (0,0)):=a1.holds.m ⟨g,.cells cs e (0,0)⟩ (by simp);obtain⟨d,eM,e4⟩:=(aE _ _ av).eJ;have U:d=.pointer e:=by rw[dL]at e4;cases d<;>simp_all[eD]
 subst U;obtain⟨inf,z,hi,fa,_⟩:=(aE _ _ he).inf;have aL:X.P.cellsOf e=1:=by simp[Program.cellsOf,hi,fa,kf]
 have bV:l.length<=cs.size:=by have:=congrArg List.length jd;simp only[ma,eX,uC]at this;omega
 have eK:=Lib.run_unsafeString_row (P:=X.P) w rJ it o.type e eM aL g cs.size (by simp[World.shape?,aA]) l ao bV zO (λj x an=>by
  rw[dS _ rfl,sH aA];have aa:(cs.toList.take l.length)[j]?=some (.int .u8 x.toNat):=by rw[jd];simp[an]
  rw[kx]at aa;split at aa;·simpa using aa
  ·cases aa)
 have IY:=cV a1.aj aG;have ey:=cV a1.aj ax;refine hV (by rw[aq];simp) (v:=.string ⟨l.toArray⟩) (w':=w.freeze ⟨g,0,none⟩ l.length) ?_ ⟨_,_,_,_,⟨β,cp.put (x:=.val (.string ⟨l.toArray⟩)) (a1.Oz (Xc _ _ _) (λb ai=>Xe _ _ _ _ ai) (Xd _ _ _)) ah rfl⟩,h⟩;unfold execOp;simp only[aq,resolve,invoke,builtin,bZ,cG,bK,sX,dV,mU,IY,ey,eK]
def bl.OA{p n:Operand}(aq:o.op=.call { callee:=.builtin .unsafeString,args:=#[p,n],argTypes:=#[rJ,it] })(ah:∀ d,o.dst=some d->d<X.n)
  {q:Option Addr} (aG:br F p=.val (.pointer q)) (ax:br F n=.val (.int .i64 0)) (h:K (put o.dst (.val (.string .empty)) F) C I M):bl X o F C I M K:=by
 refine⟨λa w Q ⟨β,a1⟩=>?_⟩;have IY:=cV a1.aj aG;have ey:=cV a1.aj ax;refine sI a1 ah (by rw[aq];simp) ?_ h;unfold execOp;simp only[aq,resolve,invoke,builtin,bZ,cG,bK,sX,dV,mU,IY,ey,Lib.run_unsafeString_none]
def bl.OB(aE:cE X.P X.E)(aq:o.op=.call { callee:=.builtin .copy,args:=#[x,y],argTypes:=#[t,u] })(ah:∀ d,o.dst=some d->d<X.n)
 (av:X.E t=some dc) (dL:dc.bz=.slice e) (he:X.E e=some aD) (kf:aD.size=1)
 {off dl OC:Nat} {s:ByteArray} (ab:br F x=.val (.slice (some ⟨g,off,none⟩) dl OC)) (aN:br F y=.val (.string s)) (bo:s.size<=dl) (fS:off+s.size<=cs.size)
 (a4:M.Perm (⟨g,.cells cs T (0,0)⟩::Mr))
  (h:K (put o.dst (.val (.int .i64 s.size)) F) C I (⟨g,.cells (bu cs.toList off (jH s)).toArray T (0,0)⟩::Mr)):bl X o F C I M K:=by
 refine⟨λa w Q ⟨β,jY⟩=>?_⟩;have a1:cp X β a w F C I (⟨g,.cells cs T (0,0)⟩::Mr):=jY.hh (.perm a4 .refl);have aA:w.heap[g]?=some (.cells cs T (0,0)):=a1.holds.m ⟨g,.cells cs T (0,0)⟩ (by simp);obtain⟨d,eM,e4⟩:=(aE _ _ av).eJ;have U:d=.slice e:=by rw[dL]at e4;cases d<;>simp_all[eD]
 subst U;obtain⟨inf,z,hi,fa,_⟩:=(aE _ _ he).inf;have ar:(jH s).length=s.size:=by simp[jH]
 have U:∀ v∈jH s,v.oneCell'=true:=λv ag=>by obtain⟨b,_,rfl⟩:=ej.1 ag;rfl
 have dw:=run_storeCells_at X.P g off T (jH s) 0 cs w aA (by rw[ar];simpa using fS) U;simp only[qn]at dw;have uG:Nat.min s.size dl=s.size:=Bs bo;have az:(Builtin.firstCells inf.size s.size (.string s)).run X.P w=.ok (jH s).toArray w:=Oi w inf.size s;have ex:=cV a1.aj ab;have nV:=cV a1.aj aN;have oZ:=a1.vy (a6:=[]) (post:=Mr) (cs':=(bu cs.toList off (jH s)).toArray) rfl;refine hV (by rw[aq];simp) (v:=.int .i64 s.size) (w':=w.setRow g (bu cs.toList off (jH s)).toArray) ?_ ⟨_,_,_,_,⟨β,cp.put (x:=.val (.int .i64 s.size)) oZ ah rfl⟩,h⟩;have eK:(Builtin.copy_ #[t,u] o.type #[.slice (some ⟨g,off,none⟩) dl OC,.string s]).run X.P w=.ok (.int .i64 s.size) (w.setRow g (bu cs.toList off (jH s)).toArray):=by simp[Builtin.copy_,run_underlying eM,Builtin.lenOf,uG,sizeOf,typeInfo,hi,az,dw,bu,goInt]
 unfold execOp;simp only[aq,resolve,invoke,builtin,bZ,cG,bK,sX,dV,mU,ex,nV,eK]
end
structure fb(I:aS)(a:Option Addr)(n c size b:Nat)(vs:List Value):Prop where
 len:vs.length=n*size
 cap:n<=c/\n*b<=140737488355328
 rd:n=0\/∃ ad,a=some ad/\ad.spot=none/\∃ cs T aj,I ad.block=some (.cells cs T aj)/\(cs.toList.drop ad.off).take (n*size)=vs
def fb.mono{n:Nat}(h:fb I a n c size b vs)(bF:∀ b o,I b=some o->I' b=some o):fb I' a n c size b vs:=
 ⟨h.len,h.cap,h.rd.imp id λ⟨ad,U,aa,cs,T,aj,af,aR⟩=>⟨ad,U,aa,cs,T,aj,bF _ _ af,aR⟩⟩
def fb.idx{n:Nat}(h:fb I a n c size b vs)(an:j<n) :
  ∃ ad,a=some ad/\∀ M,ca I M (ad.add (j*size)) size ((vs.drop (j*size)).take size):=by
 obtain⟨ar,_,ao | ⟨ad,aC,ap,cs,T,aj,bF,ag⟩⟩:=h
 ·omega
 ·refine⟨ad,aC,λM=>?_⟩;have bo:j*size+size<=n*size:=by have:=rr size (show j+1<=n from an);rw[jG,oX]at this;exact this
  refine⟨by rw[dS _ ap],cs,T,aj,.inl (by rw[dS _ ap];exact bF),?_,?_⟩;·rw[dS _ ap,<-ag,uE,xQ,sZ];congr 1;omega
  ·rw[ma,vR,ar];omega
def fb.one{n:Nat}{f:α->Value}{l:List α}(h:fb I a n c 1 b (l.map f))(an:j<n)(ij:j<l.length) :
  ∃ ad,a=some ad/\∀ M,ca I M (ad.add (j*1)) 1 [f l[j]]:=by
 obtain⟨ad,U,aa⟩:=h.idx an;refine⟨ad,U,λM=>?_⟩;have:=aa M;rw[kd,<-List.map_drop,<-List.map_take,fg ij,qI,pR]at this;rw[kd];exact this
def rM{α:Type}(f:α->List Value)(size:Nat)(az:∀ x,(f x).length=size):∀ (l:List α) (j:Nat) (an:j<l.length),((l.flatMap f).drop (j*size)).take size=f l[j]
 |x::l,0,_=>by simp only[lD,B1,zJ,xN];rw[<-az x];exact zI
 |x::l,j+1,an=>by have be:=rM f size az l j (by simpa using an);simp only[lD,E8];rw[<-be,show(j+1)*size=(f x).length+j*size from by rw[az,jG];omega,Oh]
def hb{α:Type}(f:α->List Value)(size:Nat)(az:∀ x,(f x).length=size):∀ (l:List α),(l.flatMap f).length=l.length*size
 |[]=>by simp
 |x::l=>by simp[hb f size az l,az x,jG];omega
def fb.row{n:Nat}{f:α->List Value}(az:∀ x,(f x).length=size){l:List α}(h:fb I a n c size b (l.flatMap f))(an:j<n)(ij:j<l.length) :
  ∃ ad,a=some ad/\∀ M,ca I M (ad.add (j*size)) size (f l[j]):=by
 obtain⟨ad,U,aa⟩:=h.idx an;refine⟨ad,U,λM=>?_⟩;have:=aa M;rwa [rM f size az l j ij]at this
def ca.part{M:List ay}{a:Addr}{n k:Nat}(h:ca I M a n vs)(ae:k+m<=n):ca I M (a.add k) m ((vs.drop k).take m):=by
 obtain⟨ap,cs,T,aj,U,aa,af⟩:=h;refine⟨by rw[dS _ ap],cs,T,aj,by rw[dS _ ap];exact U,?_,?_⟩
 ·rw[dS _ ap,<-aa,uE,xQ,sZ];congr 1;omega
 ·rw[ma,vR,af];omega
structure a9 where
 k:Int
 dJ:Int
 s1:Int
 s2:Int
 dQ:Int
 t:ByteArray
 lo:Int
 hi:Int
 kg:Option Addr
 kn:Nat
 jc:Nat
 aX:List Int
def a9.cells(d:a9):List Value:=[.int .u8 d.k,.int .u64 d.dJ,.int .u64 d.s1,.int .u64 d.s2,.int .u64 d.dQ,.string d.t,.int .i64 d.lo,.int .i64 d.hi,.slice d.kg d.kn d.jc]
def a9.val(d:a9):Value:=.agg #[.int .u8 d.k,.int .u64 d.dJ,.int .u64 d.s1,.int .u64 d.s2,.int .u64 d.dQ,.string d.t,.int .i64 d.lo,.int .i64 d.hi,.slice d.kg d.kn d.jc]
def mY(x:Int):Prop:=-9223372036854775808<=x/\x<=9223372036854775807
def eh(x:Int):Prop:=0<=x/\x<18446744073709551616
structure a9.ok(I:aS)(d:a9):Prop where
 k:0<=d.k/\d.k<256
 dJ:eh d.dJ
 s1:eh d.s1
 s2:eh d.s2
 dQ:eh d.dQ
 t:d.t.size<=9223372036854775807
 lo:mY d.lo
 hi:mY d.hi
 bd:fb I d.kg d.kn d.jc 1 8 (d.aX.map (.int .i64 ·))
 aX:∀ x∈d.aX,mY x
def a9.de(d:a9):d.cells.length=9:=rfl
def a9.ok.kn{d:a9}(h:d.ok I):d.aX.length=d.kn:=by have:=h.bd.len;simpa using this
structure dG where
 ns:List a9
 a:Option Addr
 n:Nat
 c:Nat
 b1:Int
def dG.cells(t:dG):List Value:=[.slice t.a t.n t.c,.int .i64 t.b1]
def dG.val(t:dG):Value:=.agg #[.slice t.a t.n t.c,.int .i64 t.b1]
structure dG.ok(I:aS)(t:dG):Prop where
 bd:fb I t.a t.n t.c 9 96 (t.ns.flatMap a9.cells)
 ns:∀ d∈t.ns,d.ok I
 b1:mY t.b1
def dG.ok.n{t:dG}(h:t.ok I):t.ns.length=t.n:=by have:=h.bd.len;rw[hb _ 9 a9.de]at this;omega
structure bE where
 name:ByteArray
 t:dG
def bE.cells(d:bE):List Value:=[.string d.name,.slice d.t.a d.t.n d.t.c,.int .i64 d.t.b1]
structure bE.ok(I:aS)(d:bE):Prop where
 name:d.name.size<=140737488355328
 t:d.t.ok I
def bE.de(d:bE):d.cells.length=3:=rfl
structure dX where
 ds:List bE
 a:Option Addr
 n:Nat
 c:Nat
def dX.val(g:dX):Value:=.agg #[.slice g.a g.n g.c]
structure dX.ok(I:aS)(g:dX):Prop where
 bd:fb I g.a g.n g.c 3 48 (g.ds.flatMap bE.cells)
 ds:∀ d∈g.ds,d.ok I
def dX.ok.n{g:dX}(h:g.ok I):g.ds.length=g.n:=by have:=h.bd.len;rw[hb _ 3 bE.de]at this;omega
def a9.ok.mono{d:a9}(h:d.ok I)(bF:∀ b o,I b=some o->I' b=some o):d.ok I':={ h with bd:=h.bd.mono bF }
def dG.ok.mono{t:dG}(h:t.ok I)(bF:∀ b o,I b=some o->I' b=some o):t.ok I':=⟨h.bd.mono bF,λd ah=>(h.ns d ah).mono bF,h.b1⟩
def bE.ok.mono{d:bE}(h:d.ok I)(bF:∀ b o,I b=some o->I' b=some o):d.ok I':=⟨h.name,h.t.mono bF⟩
def dX.ok.mono{g:dX}(h:g.ok I)(bF:∀ b o,I b=some o->I' b=some o):g.ok I':=⟨h.bd.mono bF,λd ah=>(h.ds d ah).mono bF⟩
def wrap_i64{x:Int}(h:mY x):IntKind.i64.wrap x=x:=by obtain⟨U,aa⟩:=h;unfold IntKind.wrap;simp only[IntKind.bits,IntKind.signed];simp;omega
open Go Go.Proofs
def aQ(t n:Nat)(a b:Option dz):Option dz:=bif Nat.blt t n then a else b
def nW(n:Nat):Option dz:=some ⟨1,8,[.pointer none],.pointer n⟩
def iO(n:Nat):Option dz:=some ⟨1,24,[.slice none 0 0],.slice n⟩
def fT:Option dz:=none
def bH:Option dz:=some ⟨1,8,[.nilFunc],.other⟩
def IZ:Option dz:=some ⟨1,8,[.int .i64 0],.int .i64⟩
def Fc:Option dz:=some ⟨1,1,[.int .u8 0],.int .u8⟩
def I0:Option dz:=some ⟨1,8,[.int .u64 0],.int .u64⟩
def OD:Option dz:=some ⟨1,8,[.pointer none],.struct [(17,0)]⟩
def OE:Option dz:=some ⟨1,4,[.int .i32 0],.int .i32⟩
def OF:Option dz:=some ⟨2,32,[.slice none 0 0,.int .i64 0],.struct [(26,0),(3,1)]⟩
def OG:Option dz:=some ⟨3,40,[.bool false,.int .i64 0,.slice none 0 0],.struct [(4,0),(3,1),(40,2)]⟩
def OH:Option dz:=some ⟨4,32,[.int .u64 0,.int .u64 0,.int .u64 0,.int .u64 0],.array 4 47⟩
def OI:Option dz:=some ⟨5,40,[.int .u64 0,.int .u64 0,.int .u64 0,.int .u64 0,.bool false],.struct [(49,0),(4,4)]⟩
def OJ:Option dz:=some ⟨3,48,[.string ⟨#[]⟩,.slice none 0 0,.int .i64 0],.struct [(9,0),(28,1)]⟩
def OK:Option dz:=some ⟨5,48,[.int .u8 0,.int .u8 0,.int .i64 0,.slice none 0 0,.int .i64 0],.struct [(5,0),(5,1),(3,2),(70,3),(3,4)]⟩
def OL:Option dz:=some ⟨9,96,[.int .u8 0,.int .u64 0,.int .u64 0,.int .u64 0,.int .u64 0,.string ⟨#[]⟩,.int .i64 0,.int .i64 0,.slice none 0 0],.struct [(5,0),(49,1),(9,5),(3,6),(3,7),(70,8)]⟩
def OM:Option dz:=some ⟨3,8,[.int .i32 0,.int .i16 0,.int .u8 0],.struct [(21,0),(139,1),(5,2)]⟩
def ON:Option dz:=some ⟨64,512,List.replicate 64 (.int .u64 0),.array 64 47⟩
def OO:Option dz:=some ⟨10,120,[.int .u8 0,.int .u64 0,.int .u64 0,.int .u64 0,.int .u64 0,.string ⟨#[]⟩,.int .i64 0,.int .i64 0,.slice none 0 0,.slice none 0 0],.struct [(83,0),(70,9)]⟩
def OP:Option dz:=some ⟨5,20,[.int .i32 0,.int .i32 0,.int .i32 0,.int .i32 0,.int .i32 0],.struct [(21,0),(21,1),(21,2),(21,3),(21,4)]⟩
def Fe:Option dz:=some ⟨2,16,[.int .i64 0,.int .i64 0],.struct [(3,0),(3,1)]⟩
def OQ:Option dz:=some ⟨10,88,[.int .u8 0,.int .i64 0,.int .i64 0,.string ⟨#[]⟩,.int .u64 0,.int .u64 0,.int .u64 0,.int .u64 0,.int .i64 0,.int .i64 0],.struct [(5,0),(3,1),(3,2),(9,3),(49,4),(3,8),(3,9)]⟩
def OR:Option dz:=some ⟨1,24,[.slice none 0 0],.struct [(26,0)]⟩
def OS:Option dz:=some ⟨6,64,[.string ⟨#[]⟩,.string ⟨#[]⟩,.int .u8 0,.map none,.int .i64 0,.int .i64 0],.struct [(9,0),(9,1),(5,2),(376,3),(3,4),(31,5)]⟩
def jI:Env:=λt=>bif Nat.blt t 410 then(aQ t 205 (aQ t 102 (aQ t 51 (aQ t 25 (aQ t 12 (aQ t 6 (aQ t 3 (aQ t 1 fT (aQ t 2 bH IZ)) (aQ t 4 IZ (aQ t 5 (some ⟨1,1,[.bool false],.bool⟩) Fc))) (aQ t 9 (aQ t 7 Fc (some ⟨4,24,[.int .i64 0,.int .i64 0,.bool false,.int .u8 0],.struct [(2,0),(3,1),(4,2),(6,3)]⟩)) (some ⟨1,16,[.string ⟨#[]⟩],.string⟩))) (aQ t 18 (aQ t 15 (aQ t 13 I0 (some ⟨2,24,[.string ⟨#[]⟩,.int .u64 0],.struct [(9,0),(12,1)]⟩)) (aQ t 16 (nW 399) (aQ t 17 (nW 402) (nW 409)))) (aQ t 21 (aQ t 19 OD (aQ t 20 OD (some ⟨1,16,[.nilIface],.other⟩))) (aQ t 23 (aQ t 22 OE (iO 58)) (some ⟨1,24,[.slice none 0 0],.struct [(22,0)]⟩))))) (aQ t 38 (aQ t 31 (aQ t 28 (aQ t 26 bH (aQ t 27 (iO 83) OF)) (aQ t 29 OF (aQ t 30 bH (nW 91)))) (aQ t 34 (aQ t 32 IZ (aQ t 33 fT bH)) (aQ t 36 (aQ t 35 (iO 46) fT) (aQ t 37 bH (iO 51))))) (aQ t 44 (aQ t 41 (aQ t 39 fT (aQ t 40 bH (iO 110))) (aQ t 42 OG (aQ t 43 OG fT))) (aQ t 47 (aQ t 45 bH (some ⟨3,3,[.bool false,.bool false,.bool false],.struct [(4,0),(4,1),(4,2)]⟩)) (aQ t 49 (aQ t 48 I0 OH) (aQ t 50 OH OI)))))) (aQ t 76 (aQ t 63 (aQ t 57 (aQ t 54 (aQ t 52 OI bH) (aQ t 55 bH (aQ t 56 bH I0))) (aQ t 60 (aQ t 58 OJ (aQ t 59 OJ bH)) (aQ t 61 bH (aQ t 62 fT bH)))) (aQ t 69 (aQ t 66 bH (aQ t 67 (iO 72) (aQ t 68 bH fT))) (aQ t 72 (aQ t 70 bH (aQ t 71 (iO 3) OK)) (aQ t 74 (aQ t 73 OK bH) (aQ t 75 fT bH))))) (aQ t 89 (aQ t 82 (aQ t 79 (aQ t 77 bH (aQ t 78 fT bH)) bH) (aQ t 85 (aQ t 83 OL (aQ t 84 OL bH)) (aQ t 87 bH (aQ t 88 (iO 9) bH)))) (aQ t 95 (aQ t 92 (aQ t 90 (iO 105) (some ⟨5,112,[.string ⟨#[]⟩,.slice none 0 0,.slice none 0 0,.slice none 0 0,.slice none 0 0],.struct [(9,0),(87,1),(70,2),(26,3),(89,4)]⟩)) bH) (aQ t 98 (aQ t 96 bH (aQ t 97 (some ⟨1,8,[.map none],.map 9 3⟩) bH)) (aQ t 100 (aQ t 99 bH (iO 34)) (aQ t 101 fT bH))))))) (aQ t 153 (aQ t 127 (aQ t 114 (aQ t 108 (aQ t 105 bH (aQ t 106 (iO 107) (some ⟨4,16,[.int .i64 0,.int .i32 0,.int .u8 0,.int .u8 0],.struct [(2,0),(21,1),(5,2),(5,3)]⟩))) (aQ t 111 (aQ t 109 bH (some ⟨3,32,[.string ⟨#[]⟩,.int .i64 0,.int .i64 0],.struct [(9,0),(3,1),(3,2)]⟩)) (aQ t 112 bH (aQ t 113 bH (iO 28))))) (aQ t 120 bH (aQ t 123 bH (aQ t 125 bH (aQ t 126 bH fT))))) (aQ t 140 (aQ t 133 (aQ t 130 (aQ t 128 bH (some ⟨64,64,List.replicate 64 (.bool false),.array 64 4⟩)) bH) (aQ t 136 bH (aQ t 138 (aQ t 137 (nW 148) fT) (aQ t 139 bH (some ⟨1,2,[.int .i16 0],.int .i16⟩))))) (aQ t 146 (aQ t 143 (aQ t 141 OM (aQ t 142 OM fT)) (aQ t 144 bH (aQ t 145 (iO 206) (iO 269)))) (aQ t 149 (aQ t 147 (iO 215) (some ⟨7,112,[.string ⟨#[]⟩,.int .i64 0,.int .i64 0,.int .i64 0,.slice none 0 0,.slice none 0 0,.slice none 0 0],.struct [(9,0),(3,1),(3,2),(3,3),(144,4),(145,5),(146,6)]⟩)) bH)))) (aQ t 179 (aQ t 166 (aQ t 159 (aQ t 156 (aQ t 154 bH (aQ t 155 fT bH)) (aQ t 157 fT (aQ t 158 bH fT))) (aQ t 162 bH (aQ t 164 (aQ t 163 fT bH) bH))) (aQ t 172 (aQ t 169 bH (aQ t 170 (some ⟨10,80,[.nilFunc,.nilFunc,.nilFunc,.nilFunc,.nilFunc,.nilFunc,.nilFunc,.nilFunc,.nilFunc,.nilFunc],.array 10 168⟩) bH)) (aQ t 175 bH (aQ t 177 (aQ t 176 bH (some ⟨10,80,[.nilFunc,.nilFunc,.nilFunc,.nilFunc,.nilFunc,.nilFunc,.nilFunc,.nilFunc,.nilFunc,.nilFunc],.array 10 175⟩)) bH)))) (aQ t 192 (aQ t 185 (aQ t 182 (aQ t 180 (some ⟨10,80,[.nilFunc,.nilFunc,.nilFunc,.nilFunc,.nilFunc,.nilFunc,.nilFunc,.nilFunc,.nilFunc,.nilFunc],.array 10 178⟩) (aQ t 181 bH ON)) (aQ t 183 ON (some ⟨66,528,[.int .i64 0,.int .u64 0,.int .u64 0,.int .u64 0,.int .u64 0,.int .u64 0,.int .u64 0,.int .u64 0,.int .u64 0,.int .u64 0,.int .u64 0,.int .u64 0,.int .u64 0,.int .u64 0,.int .u64 0,.int .u64 0,.int .u64 0,.int .u64 0,.int .u64 0,.int .u64 0,.int .u64 0,.int .u64 0,.int .u64 0,.int .u64 0,.int .u64 0,.int .u64 0,.int .u64 0,.int .u64 0,.int .u64 0,.int .u64 0,.int .u64 0,.int .u64 0,.int .u64 0,.int .u64 0,.int .u64 0,.int .u64 0,.int .u64 0,.int .u64 0,.int .u64 0,.int .u64 0,.int .u64 0,.int .u64 0,.int .u64 0,.int .u64 0,.int .u64 0,.int .u64 0,.int .u64 0,.int .u64 0,.int .u64 0,.int .u64 0,.int .u64 0,.int .u64 0,.int .u64 0,.int .u64 0,.int .u64 0,.int .u64 0,.int .u64 0,.int .u64 0,.int .u64 0,.int .u64 0,.int .u64 0,.int .u64 0,.int .u64 0,.int .u64 0,.int .u64 0,.int .u64 0],.struct [(3,0),(182,1),(47,65)]⟩))) (aQ t 188 (aQ t 186 fT bH) (aQ t 190 (aQ t 189 bH (iO 4)) bH))) (aQ t 198 (aQ t 195 bH (aQ t 196 bH (aQ t 197 bH fT))) (aQ t 201 (aQ t 199 bH (aQ t 200 (iO 70) fT)) bH)))))) (aQ t 307 (aQ t 256 (aQ t 230 (aQ t 217 (aQ t 211 (aQ t 208 (aQ t 206 OO (aQ t 207 OO (nW 215))) (aQ t 209 bH (aQ t 210 bH (some ⟨10,80,[.nilFunc,.nilFunc,.nilFunc,.nilFunc,.nilFunc,.nilFunc,.nilFunc,.nilFunc,.nilFunc,.nilFunc],.array 10 209⟩)))) (aQ t 214 (aQ t 212 bH (aQ t 213 (nW 141) bH)) (aQ t 215 OP (aQ t 216 OP fT)))) (aQ t 223 (aQ t 220 (aQ t 218 bH (aQ t 219 fT bH)) (aQ t 221 fT (aQ t 222 (nW 206) Fe))) (aQ t 226 (aQ t 224 Fe (aQ t 225 (iO 223) bH)) (aQ t 228 bH (aQ t 229 (nW 235) fT))))) (aQ t 243 (aQ t 236 (aQ t 233 (aQ t 231 bH (aQ t 232 bH (iO 274))) (aQ t 234 (iO 280) (some ⟨8,160,[.slice none 0 0,.int .i64 0,.int .i64 0,.slice none 0 0,.slice none 0 0,.slice none 0 0,.slice none 0 0,.slice none 0 0],.struct [(232,0),(3,1),(3,2),(26,3),(233,4),(22,5),(232,6),(232,7)]⟩))) (aQ t 239 (aQ t 237 bH (aQ t 238 (nW 240) (iO 5))) (aQ t 241 (some ⟨2,32,[.pointer none,.slice none 0 0],.struct [(237,0),(238,1)]⟩) (some ⟨1,16,[.nilIface],.other⟩)))) (aQ t 249 (aQ t 246 (aQ t 244 fT bH) (aQ t 247 fT bH)) (aQ t 252 bH (aQ t 254 (aQ t 253 bH Fe) (aQ t 255 Fe (iO 254))))))) (aQ t 281 (aQ t 268 (aQ t 262 (aQ t 259 bH (aQ t 260 bH (aQ t 261 bH (some ⟨2,16,[.int .i64 0,.int .i64 0],.array 2 3⟩)))) (aQ t 265 (aQ t 263 (some ⟨20,160,List.replicate 20 (.int .i64 0),.array 10 261⟩) bH) bH)) (aQ t 274 (aQ t 271 (aQ t 269 bH (aQ t 270 (iO 141) bH)) (aQ t 272 bH (aQ t 273 bH OQ))) (aQ t 277 (aQ t 275 OQ (aQ t 276 bH (nW 5))) (aQ t 279 (aQ t 278 fT bH) (some ⟨5,96,[.int .u8 0,.string ⟨#[]⟩,.slice none 0 0,.slice none 0 0,.slice none 0 0],.struct [(5,0),(9,1),(70,2),(70,3),(238,4)]⟩))))) (aQ t 294 (aQ t 287 (aQ t 284 (aQ t 282 fT bH) (aQ t 285 bH (aQ t 286 (nW 280) bH))) bH) (aQ t 300 bH (aQ t 303 bH (aQ t 305 (aQ t 304 bH (some ⟨1,8,[.pointer none],.other⟩)) bH)))))) (aQ t 358 (aQ t 332 (aQ t 319 (aQ t 313 (aQ t 310 bH (aQ t 311 fT (aQ t 312 bH OR))) (aQ t 316 (aQ t 314 OR (aQ t 315 bH (some ⟨10,80,[.nilFunc,.nilFunc,.nilFunc,.nilFunc,.nilFunc,.nilFunc,.nilFunc,.nilFunc,.nilFunc,.nilFunc],.array 10 314⟩))) (aQ t 317 bH (aQ t 318 (nW 313) bH)))) (aQ t 325 (aQ t 322 bH (aQ t 323 bH (aQ t 324 bH (some ⟨1,8,[.map none],.map 5 328⟩)))) (aQ t 328 bH (aQ t 330 (aQ t 329 bH fT) (aQ t 331 fT bH))))) (aQ t 345 (aQ t 338 (aQ t 335 (aQ t 333 bH (aQ t 334 bH (some ⟨24,24,List.replicate 24 (.int .u8 0),.array 24 5⟩))) (aQ t 336 bH (aQ t 337 bH fT))) bH) (aQ t 351 (aQ t 348 (aQ t 346 bH (some ⟨3,24,[.int .i64 0,.int .i64 0,.bool false],.struct [(3,0),(3,1),(4,2)]⟩)) (aQ t 349 (iO 347) (aQ t 350 (nW 347) bH))) (aQ t 354 (aQ t 352 bH (aQ t 353 (some ⟨3,48,[.string ⟨#[]⟩,.string ⟨#[]⟩,.string ⟨#[]⟩],.struct [(9,0),(9,1),(9,2)]⟩) (some ⟨30,480,List.replicate 30 (.string ⟨#[]⟩),.array 10 352⟩))) (aQ t 356 bH (aQ t 357 (some ⟨20,160,List.replicate 20 (.int .u64 0),.array 20 47⟩) (some ⟨1,4,[.int .u32 0],.int .u32⟩))))))) (aQ t 384 (aQ t 371 (aQ t 364 (aQ t 361 (aQ t 359 (some ⟨65,65,List.replicate 65 (.int .u8 0),.array 65 5⟩) (aQ t 360 bH fT)) (aQ t 362 bH (aQ t 363 bH fT))) (aQ t 367 (aQ t 365 bH (aQ t 366 fT bH)) bH)) (aQ t 377 (aQ t 374 (aQ t 372 (nW 378) bH) (aQ t 375 bH (aQ t 376 bH (some ⟨1,8,[.map none],.map 5 5⟩)))) (aQ t 380 (aQ t 378 OS (aQ t 379 OS fT)) bH))) (aQ t 397 (aQ t 390 (aQ t 387 (aQ t 385 (iO 386) (aQ t 386 bH (some ⟨2,2,[.int .u8 0,.int .u8 0],.array 2 5⟩))) (aQ t 388 (some ⟨3,32,[.int .i64 0,.int .i64 0,.string ⟨#[]⟩],.struct [(3,0),(3,1),(9,2)]⟩) (aQ t 389 (some ⟨9,96,[.int .i64 0,.int .i64 0,.string ⟨#[]⟩,.int .i64 0,.int .i64 0,.string ⟨#[]⟩,.int .i64 0,.int .i64 0,.string ⟨#[]⟩],.array 3 387⟩) (some ⟨32,32,List.replicate 32 (.int .u8 0),.array 32 5⟩)))) (aQ t 393 (aQ t 391 (some ⟨64,64,List.replicate 64 (.int .u8 0),.array 64 5⟩) bH) (aQ t 395 bH (aQ t 396 bH fT)))) (aQ t 403 (aQ t 400 (aQ t 398 bH (some ⟨4,40,[.pointer none,.pointer none,.pointer none,.string ⟨#[]⟩],.struct [(17,0),(17,1),(17,2),(9,3)]⟩)) (aQ t 401 (some ⟨0,0,[],.array 0 16⟩) (some ⟨0,0,[],.struct [(400,0)]⟩))) (aQ t 406 (aQ t 404 Fc (aQ t 405 Fc bH)) (aQ t 408 OE (some ⟨11,48,[.int .u64 0,.int .u64 0,.int .u32 0,.int .u8 0,.int .u8 0,.int .u8 0,.int .u8 0,.nilFunc,.pointer none,.int .i32 0,.int .i32 0],.struct [(12,0),(12,1),(357,2),(403,3),(5,4),(5,5),(404,6),(405,7),(276,8),(406,9),(407,10)]⟩)))))))))else none
def aV:cE Tryz.prog jI:=Wg 410 (λt h=>by
 have a':Nat.blt t 410=false:=by
  cases ai:Nat.blt t 410 with
  |false=>rfl| true=>exact absurd (bJ ai) (by omega)
 simp only[jI,a',ba]) (by kernel_rfl)
def letter(c:UInt8):Bool:=decide (97<=c.toNat/\c.toNat<=122)||(decide (65<=c.toNat/\c.toNat<=90)||decide (c.toNat=95))
def digit(c:UInt8):Bool:=decide (48<=c.toNat/\c.toNat<=57)
def OT(I:aS)(c:UInt8):Spec Tryz.prog 203 [.int .u8 c.toNat] I [] (λv I' M'=>v=.bool (letter c)/\I'=I/\M'=[]):=by
 refine bX [] aV Tryz.func203 rfl rfl rfl ?_;intro B ao
 repeat' (refine cB.mk (λh=>?_) (λh=>?_))
 all_goals
  refine⟨_,_,.refl,?_⟩;refine⟨?_,rfl,rfl⟩;simp_all[letter]
  all_goals first
   |omega|(rw[l2];simp;omega)
def Xf(I:aS)(c:UInt8):Spec Tryz.prog 204 [.int .u8 c.toNat] I [] (λv I' M'=>v=.bool (digit c)/\I'=I/\M'=[]):=by
 refine bX [] aV Tryz.func204 rfl rfl rfl ?_;intro B ao
 repeat' (refine cB.mk (λh=>?_) (λh=>?_))
 all_goals
  refine⟨_,_,.refl,?_⟩;refine⟨?_,rfl,rfl⟩;simp_all[digit]
  all_goals first
   |omega|(rw[l2];simp;omega)
def xW(s:ByteArray):s.data.toList.length=s.size:=uC
def Xg(I:aS)(s:ByteArray)(ap:s.size<=140737488355328):Spec Tryz.prog 230 [.string s] I [] (λv I' M'=>v=.string s/\I'=I/\M'=[]):=by
 refine bX [] aV Tryz.func230 rfl rfl rfl ?_;intro B ao;refine a0.mk (λh=>?_) (λh=>?_)
 ·refine⟨_,_,.refl,?_,rfl,rfl⟩;have U:s.size=0:=by simpa using h
  have:s=.empty:=by apply ry;exact E5 U
  rw[this];rfl
 ·have U:s.size≠0:=by simpa using h
  refine oD.mk s.size s.size rfl rfl (cC _) (by show 1*s.size<=_;omega) (by omega) ?_;refine cz.mk λb ai Ff=>?_;refine bl.OB aV rfl (by simp) (e:=5) rfl rfl rfl rfl rfl rfl (cC _) ?_ (.refl _) ?_;·simp[vx,madeCells]
  refine bc.mk ⟨b,0,none⟩ 0 rfl rfl (by omega) ?_;refine bl.IX aV rfl (by simp) (e:=5) rfl rfl rfl rfl (g:=b) (l:=s.data.toList) rfl ?_ ?_ ?_ (.refl _) ?_ ?_;·show c6.val (.int .i64 (s.size:Int))=c6.val (.int .i64 (s.data.toList.length:Int));rw[xW]
  ·intro e;have:=congrArg List.length e;rw[xW]at this;exact U this
  ·rw[xW];omega
  ·rw[xW];have ar:(jH s).length=s.size:=by simp[jH]
   simp only[bu];rw[pR,mT,E6 (by rw[ar];exact cC _),<-ar,List.take_length];rfl
  ·exact⟨_,_,.refl,rfl,rfl,rfl⟩
def OU(I:aS)(s:ByteArray)(ap:s.size<=140737488355328):Spec Tryz.prog 205 [.string s] I [] (λv I' M'=>v=.string s/\I'=I/\M'=[]):=by refine bX [] aV Tryz.func205 rfl rfl rfl ?_;intro B ao;refine bb.mk [] [] _ (.refl _) (Xg I s ap) ?_;rintro v I' M' -⟨rfl,rfl,rfl⟩;exact⟨_,_,.refl,rfl,rfl,rfl⟩
def qM(c:UInt8):Bool:=letter c||digit c
def qN(s:ByteArray):Nat:=match s.data.toList with
 |[]=>0| c::r=>bif letter c then 1+(r.takeWhile qM).length else 0
def OV{α:Type}(p:α->Bool):∀ (l:List α) (i:Nat),i<=l.length->(∀ j (h:j<l.length),j<i->p l[j]=true)->(∀ (h:i<l.length),p l[i]=false)->(l.takeWhile p).length=i
 |[],i,h,_,_=>by simp at h;simp[h]
 |x::l,0,_,_,h=>by have:=h (by simp);simp only[xN]at this;simp[this]
 |x::l,i+1,hi,U,aa=>by have ab:=U 0 (by simp) (by omega);simp only[xN]at ab;have be:=OV p l i (by simpa using hi) (λj an BS=>by have:=U (j+1) (by simpa using an) (by omega);simpa using this) (λh=>by have:=aa (by simpa using h);simpa using this);simp[ab,be]
def Xh{s:ByteArray}(ao:0<s.size)(ar:letter s[0]=true)(U:1<=i)(hi:i<=s.size)(aC:∀ j (h:j<s.size),1<=j->j<i->qM s[j]=true)(ai:∀ (h:i<s.size),qM s[i]=false):qN s=i:=by
 have get:∀ j (h:j<s.size),s[j]=s.data.toList[j]'(by rw[xW];exact h):=λj h=>rfl;unfold qN;have bV:=xW s;cases ah:s.data.toList with
 |nil=>rw[ah]at bV;simp at bV;omega
 |cons c r=>
  have g:∀ j (h:j<s.size),s[j]=(c::r)[j]'(by rw[<-ah,bV];exact h):=λj h=>by rw[get j h];simp only[ah]
  rw[ah]at bV;have aL:letter c=true:=by rw[g 0 ao]at ar;simpa using ar
  simp only[aL,bh];simp only[e1]at bV;rw[OV qM r (i-1) (by omega) (λj an BS=>by
   have af:j+1<s.size:=by omega
   have:=aC (j+1) af (by omega) (by omega);rw[g (j+1) af]at this;simpa using this) (λh=>by
   have af:i<s.size:=by omega
   have:=ai af;rw[g i af]at this;have e:i=(i-1)+1:=by omega
   rw[List.getElem_cons]at this;rw[dif_neg (by omega)]at this;exact this)]
  omega
def Xi(I:aS)(s:ByteArray)(ap:s.size<=140737488355328):Spec Tryz.prog 134 [.string s] I [] (λv I' M'=>v=.string (s.extract 0 (qN s))/\I'=I/\M'=[]):=by
 refine bX [] aV Tryz.func134 rfl rfl rfl ?_;intro B ao;have cv:∀ {s:ByteArray},qN s=0->s.extract 0 (qN s)=⟨#[]⟩:=λh=>by rw[h];apply ry;simp[Ep]
 refine cB.mk (λh=>?_) (λh=>?_)
 ·have U:s≠⟨#[]⟩:=by simpa using h
  have jX:0<s.size:=by refine Nat.pos_of_ne_zero λe=>U ?_;apply ry;exact E5 e
  refine oC.mk 0 rfl jX ?_;refine bb.mk [] [] _ (.refl _) (OT I s[0]) ?_;rintro v I' M' -⟨rfl,rfl,rfl⟩;refine a0.mk (λh=>?_) (λh=>?_)
  ·have ar:letter s[0]=false:=by simpa using h
   refine⟨_,_,.refl,?_,rfl,rfl⟩;rw[cv]
   ·unfold qN;cases ah:s.data.toList with
    |nil=>rfl
    |cons c r=>
     have:s[0]=c:=by show s.data.toList[0]=c;simp only[ah];rfl
     rw[this]at ar;simp[ar]
  ·have ar:letter s[0]=true:=by simpa using h
   refine dB.inv (ι:=Nat) (λi=>{ bj:=[(0,.val (.string s)),(3,.val (.int .i64 i))],c5:=I' }) (λi=>1<=i/\i<=s.size/\∀ j (h:j<s.size),1<=j->j<i->qM s[j]=true) (λi=>s.size-i) ?_ ?_;·exact⟨1,⟨by omega,by omega,λj _ U aa=>by omega⟩,.refl,vK,.nil⟩
   ·rintro i⟨fa,g8,hY⟩;have next:∀ (aK:i<s.size),qM s[i]=true->(1<=i+1/\i+1<=s.size/\∀ k (h:k<s.size),1<=k->k<i+1->qM s[k]=true)/\s.size-(i+1)<s.size-i:=λaK aL=>
     ⟨⟨by omega,by omega,λj an U aa=>by
      by_cases e:j=i;·subst e;exact aL
      ·exact hY j an U (by omega)⟩,by omega⟩
    have out:(∀ (h:i<s.size),qM s[i]=false)->s.extract 0 i=s.extract 0 (qN s):=λax=>by rw[Xh jX ar fa g8 hY ax]
    have cI:(s.extract 0 i).size<=140737488355328:=by rw[IH];omega
    have fq:IntKind.i64.wrap ((i:Int)+1)=((i+1:Nat):Int):=by rw[wrap_i64 ⟨by omega,by omega⟩];omega
    refine cB.mk (λh=>?_) (λh=>?_)
    ·have aK:i<s.size:=by simpa using h
     refine oC.mk i rfl aK ?_;refine bb.mk [] [] _ (.refl _) (OT I' s[i]) ?_;rintro v I' M' -⟨rfl,rfl,rfl⟩;refine cB.mk (λh=>?_) (λh=>?_)
     ·refine oC.mk i rfl aK ?_;refine bb.mk [] [] _ (.refl _) (Xf _ s[i]) ?_;rintro v I' M' -⟨rfl,rfl,rfl⟩;refine a0.mk (λaa=>?_) (λaa=>?_)
      ·refine a5.mk _ fq ?_;exact⟨i+1,next aK (by simp only[qM];rw[show digit s[i]=true from aa];simp),.refl,vK,.nil⟩
      ·refine ie.mk 0 i rfl rfl (by omega) (by omega) ?_;refine bb.mk [] [] _ (.refl _) (OU _ _ cI) ?_;rintro v I' M' -⟨rfl,rfl,rfl⟩;refine⟨_,_,.refl,?_,rfl,rfl⟩;rw[<-out λ_=>by simp only[qM];rw[show letter s[i]=false from h,show digit s[i]=false from aa];rfl]
     ·refine a5.mk _ fq ?_;exact⟨i+1,next aK (by simp only[qM];rw[show letter s[i]=true from h];simp),.refl,vK,.nil⟩
    ·have c1:¬ i<s.size:=by simpa using h
     refine ie.mk 0 i rfl rfl (by omega) (by omega) ?_;refine bb.mk [] [] _ (.refl _) (OU _ _ cI) ?_;rintro v I' M' -⟨rfl,rfl,rfl⟩;refine⟨_,_,.refl,?_,rfl,rfl⟩;rw[<-out λh=>(c1 h).elim]
 ·have U:s=⟨#[]⟩:=by simpa using h
  subst U;refine⟨_,_,.refl,?_,rfl,rfl⟩;rw[cv];rfl
def kM(s:ByteArray):Bool:=decide (s≠⟨#[]⟩)&&(decide (s.size<=32)&&decide (qN s=s.size))
def Xj(s:ByteArray):qN s<=s.size:=by
 unfold qN;have ar:=xW s;cases ah:s.data.toList with
 |nil=>simp
 |cons c r=>
  rw[ah]at ar;simp only[e1]at ar;simp only;cases letter c;·simp
  ·simp only[bh];have:=(List.takeWhile_sublist (p:=qM) (l:=r)).length_le;omega
def I1(I:aS)(s:ByteArray):Spec Tryz.prog 87 [.string s] I [] (λv I' M'=>v=.bool (kM s)/\I'=I/\M'=[]):=by
 refine bX [] aV Tryz.func87 rfl rfl rfl ?_;intro B ao;refine cB.mk (λU=>?_) (λU=>?_)
 ·refine cB.mk (λaa=>?_) (λaa=>?_)
  ·have nX:s.size<=32:=by simp at aa;omega
   refine bb.mk [] [] _ (.refl _) (Xi I s (by omega)) ?_;rintro v I' M' -⟨rfl,rfl,rfl⟩;refine⟨_,_,.refl,?_,rfl,rfl⟩;have bo:=Xj s;have aw:(s.extract 0 (qN s)).size=qN s:=by rw[IH];omega
   simp_all[kM]
   all_goals omega
  ·refine⟨_,_,.refl,?_,rfl,rfl⟩;simp_all[kM]
   all_goals omega
 ·refine⟨_,_,.refl,?_,rfl,rfl⟩;simp_all[kM]
def lJ:List Int:=[0,0,0,0,0,0,0,0,2,-1,2,-1,1,1,1,1,1,1,1,1]
def qO(k:Nat):Int:=lJ.getD (k*2) 0
def mZ(k:Nat):Int:=lJ.getD (k*2+1) 0
def o0(I:aS):Prop:=∃ T aj,I 0=some (.cells (lJ.map (Value.int .i64)).toArray T aj)
def o0.rd(h:o0 I)(M:List ay)(an:j<20):ca I M (Addr.add ⟨0,0,none⟩ j) 1 [.int .i64 (lJ.getD j 0)]:=by
 obtain⟨T,aj,h⟩:=h;rw[dS _ rfl];refine⟨rfl,_,T,aj,.inl h,?_,rfl⟩;simp only[dk];have:∀ j:Fin 20,(((lJ.map (Value.int .i64)).toArray.toList.drop j.val).take 1)=[Value.int .i64 (lJ.getD j.val 0)]:=by
  intro j;have U:j.val<(lJ.map (Value.int .i64)).length:=by simp[lJ]
  rw[H5,fg U,qI,pR];have aa:j.val<lJ.length:=by simp[lJ]
  simp[dh,aa]
 exact this ⟨j,an⟩
def o0.Xk(h:o0 I)(M:List ay)(an:i+j<20):ca I M ((Addr.add ⟨0,0,none⟩ i).add j) 1 [.int .i64 (lJ.getD (i+j) 0)]:=by
 have e:(Addr.add ⟨0,0,none⟩ i).add j=Addr.add ⟨0,0,none⟩ (i+j):=by rw[dS ⟨_,0,none⟩ rfl i,dS _ rfl j,dS _ rfl (i+j)];simp
 rw[e];exact h.rd M an
def a9.lK(d:a9):Bool:=d.dJ == 0&&(d.s1 == 0&&(d.s2 == 0&&d.dQ == 0))
def fits(d:a9)(n:Int):Bool:=
 bif decide (10<=d.k)then false else
 bif decide (n<qO d.k.toNat)||(decide (0<=mZ d.k.toNat)&&decide (mZ d.k.toNat<n))then false else
 bif decide (d.k=1)then decide (d.t=⟨#[]⟩)&&(decide (d.lo=0)&&decide (d.hi=0))else
 bif decide (d.k=2)then(!(decide (d.t=⟨#[]⟩)||decide (255<d.t.size)))&&(d.lK&&(decide (d.lo=0)&&decide (d.hi=0)))else
 bif decide (d.k=3)||decide (d.k=9)then kM d.t&&(d.lK&&(decide (d.lo=0)&&decide (d.hi=0)))else
 bif decide (d.k=6)then(!(decide (d.lo<0)||(decide (99<d.lo)||(decide (d.hi≠-1)&&(decide (d.hi<d.lo)||decide (99<d.hi))))))&&(d.lK&&decide (d.t=⟨#[]⟩))else
 d.lK&&(decide (d.t=⟨#[]⟩)&&(decide (d.lo=0)&&decide (d.hi=0)))
def OW(aL:o0 I){d:a9}(ah:d.ok I)(n:Int):Spec Tryz.prog 102 [d.val,.int .i64 n] I [] (λv I' M'=>v=.bool (fits d n)/\I'=I/\M'=[]):=by
 refine bX [] aV Tryz.func102 rfl rfl rfl ?_;intro B ao;have ae:=ah.k;refine a5.mk d.k (by unfold IntKind.wrap;simp[IntKind.bits,IntKind.signed];omega) ?_;refine a0.mk (λh=>?_) (λh=>?_)
 ·refine⟨_,_,.refl,?_,rfl,rfl⟩;simp at h;simp[fits,h]
 ·have o1:d.k<10:=by simpa using h
  have an:d.k=((d.k.toNat:Nat):Int):=by omega
  have OX:d.k.toNat<10:=by omega
  refine cW.draw aV rfl rfl rfl ?_;refine cH.mk d.k.toNat an OX ?_;refine cH.mk 0 rfl (by omega) ?_;refine aF.mk [.int .i64 (qO d.k.toNat)] (aL.rd _ (j:=d.k.toNat*2) (by omega)) ?_;refine cH.mk d.k.toNat an OX ?_;refine cH.mk 1 rfl (by omega) ?_;refine aF.mk [.int .i64 (mZ d.k.toNat)] (aL.Xk _ (i:=d.k.toNat*2) (j:=1) (by omega)) ?_
  repeat' first
   |refine cB.mk (λh=>?_) (λh=>?_)| refine a0.mk (λh=>?_) (λh=>?_)| refine fh.Oy aV (e:=47) rfl rfl rfl rfl (by kernel_rfl) ?_|(refine bb.mk [] [] _ (.refl _) (I1 _ _) ?_;rintro v I' M' -⟨rfl,rfl,rfl⟩)
  all_goals refine⟨_,_,.refl,?_⟩
  all_goals refine⟨?_,rfl,rfl⟩
  all_goals clear aL ah an
  all_goals (first | (simp_all[fits,a9.lK];done) | (simp_all[fits,a9.lK];omega) | (simp_all[fits,a9.lK];rw[l2];simp;omega))
def kh(i:Nat):List Int->List Bool->Option (List Bool)
 |[],s=>some s| k::ks,s=>bif decide (k<0)||(decide ((i:Int)<=k)||s.getD k.toNat false)then none else kh i ks (s.set k.toNat true)
def k5:Nat->List a9->List Bool->Option (List Bool)
 |_,[],s=>some s
 |i,d::ds,s=>bif fits d d.aX.length then(match kh i d.aX s with
  |some cq=>k5 (i+1) ds cq| none=>none)else none
def o2(b1:Int):Nat->List Bool->Bool
 |_,[]=>true| i,b::s=>bif b == decide ((i:Int)=b1)then false else o2 b1 (i+1) s
def right(t:dG):Bool:=decide (0<=t.b1)&&(decide (t.b1<t.ns.length)&&(match k5 0 t.ns (List.replicate t.ns.length false)with
 |some s=>o2 t.b1 0 s| none=>false))
def Fg(v:Value)(n:Nat):rowOf [v] n=List.replicate n v:=by
 apply uD
 ·simp[vx,madeCells]
 ·intro i U aa;simp[vx,madeCells,Nat.mod_one]
def vY(b:Nat)(s:List Bool):ay:=⟨b,.cells (s.map Value.bool).toArray 4 (0,0)⟩
def OY{M:List ay}{s:List Bool}(a4:vY b s∈M)(an:j<s.length):ca I M ((⟨b,0,none⟩:Addr).add (j*1)) 1 [.bool s[j]]:=by
 rw[dS _ rfl];refine⟨rfl,_,4,(0,0),.inr ⟨_,a4,rfl,rfl⟩,?_,rfl⟩;have U:j<(s.map Value.bool).length:=by simpa using an
 simp only[dk,kd];rw[fg U,qI,pR];simp
def Xl(s:List Bool)(j:Nat)(an:j<s.length)(b:Bool):bu (s.map Value.bool) j [.bool b]=(s.set j b).map Value.bool:=by unfold bu;rw[List.map_set,xM];simp[an]
def cg.add{M:List ay}{o k:Nat}(a6 post:List ay)(cs:Array Value)(T:Nat)(a4:M=a6++⟨b,.cells cs T (0,0)⟩::post)(ai:o+k+vs.length<=cs.size)(U:hH vs=true)
  (h:K (a6++⟨b,.cells (bu cs.toList (o+k) vs).toArray T (0,0)⟩::post)):cg M ((⟨b,o,none⟩:Addr).add k) vs K:=by
 rw[dS _ rfl];exact .mk a6 post cs T a4 rfl ai U h
def cg.f'{M:List ay}{o k:Nat}(a6 post:List ay)(cs:List Value)(T:Nat)(a4:M=a6++⟨b,.cells cs.toArray T (0,0)⟩::post)(ai:Nat.ble (o+k+vs.length) cs.length=true)(U:hH vs=true)(cs':List Value)(he:bu cs (o+k) vs=cs')(h:K (a6++⟨b,.cells cs'.toArray T (0,0)⟩::post)):cg M ((⟨b,o,none⟩:Addr).add k) vs K:=
 cg.add a6 post _ _ a4 (by simpa using bJ ai) U (by rw[<-he]at h;exact h)
def xX(aL:o0 I){t:dG}(av:t.ok I):Spec Tryz.prog 53 [t.val] I [] (λv I' M'=>v=.bool (right t)/\I'=I/\M'=[]):=by
 refine bX [] aV Tryz.func53 rfl rfl rfl ?_;intro B ao;have ax:=av.n;have ki:=av.bd.cap;refine cB.mk (λU=>?_) (λU=>?_)
 ·refine a0.mk (λaa=>?_) (λaa=>?_)
  ·refine⟨_,_,.refl,?_,rfl,rfl⟩;simp at aa;have:¬ t.b1<t.ns.length:=by omega
   simp[right,this]
  ·have aT:0<=t.b1:=by simpa using U
   have aU:t.b1<t.ns.length:=by simp at aa;omega
   refine oD.mk t.n t.n rfl rfl (cC _) (by show 1*t.n<=_;omega) (by omega) ?_;refine cz.mk λb ai Ff=>?_;refine dB.inv (ι:=Nat×List Bool) (λx=>{ bj:=[(1,.ref 1 0),(3,.val (.slice (some ⟨b,0,none⟩) t.n t.n)),(26,.val (.slice t.a t.n t.c)),(27,.val (.int .i64 t.n)),(28,.val (.int .i64 x.1))],cl:=[(1,t.cells)],c5:=I,dv:=[vY b x.2] }) (λx=>x.1<=t.n/\x.2.length=t.n/\k5 0 t.ns (List.replicate t.ns.length false)=k5 x.1 (t.ns.drop x.1) x.2) (λx=>t.n-x.1) ?_ ?_;·refine⟨(0,List.replicate t.n false),⟨by omega,by simp,by simp[ax]⟩,?_,g',.cons rfl .nil⟩;show i' _ _ [⟨b,.cells (rowOf [Value.bool false] (t.n*1)).toArray 4 (0,0)⟩] _ [vY b (List.replicate t.n false)];rw[Fg,kd];simp only[vY,List.map_replicate];exact .refl
   ·rintro⟨i,s⟩⟨fa,g8,hY⟩;simp only at fa g8 hY;refine a0.mk (λh=>?_) (λh=>?_)
    ·have aK:i<t.n:=by simpa using h
     have bP:i<t.ns.length:=by omega
     obtain⟨ad,b7,bs⟩:=av.bd.row a9.de aK bP;have h1:=av.ns t.ns[i] (dK bP);have dR:=h1.kn;have ji:t.ns.drop i=t.ns[i]::t.ns.drop (i+1):=fg bP;refine bc.mk ad i b7 rfl aK ?_;refine aF.mk t.ns[i].cells (bs _) ?_;refine bb.mk [] [vY b s] _ (.refl _) (OW aL h1 t.ns[i].kn) ?_;rintro v I' M' -⟨rfl,rfl,rfl⟩;refine a0.mk (λaf=>?_) (λaf=>?_)
     ·refine⟨_,_,.sub (ho _) .refl,?_,rfl,rfl⟩;have az:fits t.ns[i] t.ns[i].aX.length=false:=by rw[dR];simpa using af
      have:right t=false:=by unfold right;rw[hY,ji];simp[k5,az]
      rw[this]
     ·have az:fits t.ns[i] t.ns[i].aX.length=true:=by rw[dR];simpa using af
      refine dB.inv (ι:=Nat×List Bool) (λx=>{ bj:=[(1,.ref 1 0),(3,.val (.slice (some ⟨b,0,none⟩) t.n t.n)),(4,.val (.int .i64 i)),(26,.val (.slice t.a t.n t.c)),(27,.val (.int .i64 t.n)),(28,.val (.int .i64 i)),(40,.val (.slice t.ns[i].kg t.ns[i].kn t.ns[i].jc)),(41,.val (.int .i64 t.ns[i].kn)),(42,.val (.int .i64 x.1))],cl:=[(1,t.cells)],c5:=I',dv:=[vY b x.2] }) (λx=>x.1<=t.ns[i].kn/\x.2.length=t.n/\kh i t.ns[i].aX s=kh i (t.ns[i].aX.drop x.1) x.2) (λx=>t.ns[i].kn-x.1) ?_ ?_;·exact⟨(0,s),⟨by omega,g8,rfl⟩,.refl,hk,.cons rfl .nil⟩
      ·rintro⟨j,cq⟩⟨nY,o3,zP⟩;simp only at nY o3 zP;refine a0.mk (λh=>?_) (λh=>?_)
       ·have fU:j<t.ns[i].kn:=by simpa using h
        have mh:j<t.ns[i].aX.length:=by omega
        obtain⟨hq,h2,gI⟩:=h1.bd.one fU mh;refine bc.mk hq j h2 rfl fU ?_;refine aF.mk [.int .i64 t.ns[i].aX[j]] (gI _) ?_;have hM:t.ns[i].aX.drop j=t.ns[i].aX[j]::t.ns[i].aX.drop (j+1):=fg mh;have bad:(decide (t.ns[i].aX[j]<0)||(decide ((i:Int)<=t.ns[i].aX[j])||cq.getD t.ns[i].aX[j].toNat false))=true->right t=false:=λai=>by unfold right;rw[hY,ji];simp only[k5,az,bh,zP,hM,kh,ai];simp
        refine cB.mk (λaR=>?_) (λaR=>?_)
        ·refine cB.mk (λbC=>?_) (λbC=>?_)
         ·simp only[nP,Int.not_lt,Int.not_le]at aR bC;have fI:t.ns[i].aX[j]=((t.ns[i].aX[j].toNat:Nat):Int):=by omega
          have fr:t.ns[i].aX[j].toNat<t.n:=by omega
          have uH:t.ns[i].aX[j].toNat<cq.length:=by omega
          refine bc.mk ⟨b,0,none⟩ t.ns[i].aX[j].toNat rfl fI fr ?_;refine aF.mk [.bool cq[t.ns[i].aX[j].toNat]] (OY (by simp) uH) ?_;refine a0.mk (λbO=>?_) (λbO=>?_);·refine⟨_,_,.sub (ho _) .refl,?_,rfl,rfl⟩;rw[bad];simp[dh,uH,bO]
          ·refine bc.mk ⟨b,0,none⟩ t.ns[i].aX[j].toNat rfl fI fr ?_;refine cg.add [] [] _ 4 rfl ?_ rfl ?_
           ·simp only[rs,eX];show 0+t.ns[i].aX[j].toNat*1+1<=_;omega
           have fq:IntKind.i64.wrap ((j:Int)+1)=((j+1:Nat):Int):=by rw[wrap_i64 ⟨by omega,by have:=h1.bd.cap;omega⟩];omega
           refine a5.mk _ fq ?_;refine⟨(j+1,cq.set t.ns[i].aX[j].toNat true),⟨⟨by omega,by simp[o3],?_⟩,by show _<_;simp only;omega⟩,?_,hk,.cons rfl .nil⟩
           ·simp only;rw[zP,hM];have aO:(decide (t.ns[i].aX[j]<0)||(decide ((i:Int)<=t.ns[i].aX[j])||cq.getD t.ns[i].aX[j].toNat false))=false:=by
             have aw:¬ t.ns[i].aX[j]<0:=by omega
             have aB:¬ (i:Int)<=t.ns[i].aX[j]:=by omega
             simp[aw,aB,dh,uH,show cq[t.ns[i].aX[j].toNat]=false from bO]
            simp only[kh,aO,ba]
           ·have e:=Xl cq t.ns[i].aX[j].toNat uH true;simp only[vY];rw[<-e];simp only[dk,kd];exact .refl
         ·refine⟨_,_,.sub (ho _) .refl,?_,rfl,rfl⟩;rw[bad];simp at bC;simp[bC]
        ·refine⟨_,_,.sub (ho _) .refl,?_,rfl,rfl⟩;rw[bad];simp at aR;simp[aR]
       ·have fU:¬ j<t.ns[i].kn:=by simpa using h
        have xY:t.ns[i].aX.drop j=[]:=ir (by omega);have fq:IntKind.i64.wrap ((i:Int)+1)=((i+1:Nat):Int):=by rw[wrap_i64 ⟨by omega,by omega⟩];omega
        refine a5.mk _ fq ?_;refine⟨(i+1,cq),⟨⟨by omega,o3,?_⟩,by show _<_;simp only;omega⟩,.refl,g',.cons rfl .nil⟩;simp only;rw[hY,ji];simp only[k5,az,bh,zP,xY,kh]
    ·have c1:¬ i<t.n:=by simpa using h
     have fz:t.ns.drop i=[]:=ir (by omega);have gS:k5 0 t.ns (List.replicate t.ns.length false)=some s:=by rw[hY,fz];rfl
     have al:right t=o2 t.b1 0 s:=by unfold right;rw[gS];simp[aT,aU]
     refine dB.inv (ι:=Nat) (λm=>{ bj:=[(1,.ref 1 0),(64,.val (.slice (some ⟨b,0,none⟩) t.n t.n)),(65,.val (.int .i64 t.n)),(66,.val (.int .i64 m))],cl:=[(1,t.cells)],c5:=I,dv:=[vY b s] }) (λm=>m<=t.n/\o2 t.b1 0 s=o2 t.b1 m (s.drop m)) (λm=>t.n-m) ?_ ?_;·exact⟨0,⟨by omega,rfl⟩,.refl,ew,.cons rfl .nil⟩
     ·rintro m⟨zQ,pT⟩;refine a0.mk (λh=>?_) (λh=>?_)
      ·have zR:m<t.n:=by simpa using h
       have OZ:m<s.length:=by omega
       have o4:s.drop m=s[m]::s.drop (m+1):=fg OZ;refine bc.mk ⟨b,0,none⟩ m rfl rfl zR ?_;refine aF.mk [.bool s[m]] (OY (by simp) OZ) ?_;refine a0.mk (λeo=>?_) (λeo=>?_)
       ·refine⟨_,_,.sub (ho _) .refl,?_,rfl,rfl⟩;have:right t=false:=by rw[al,pT,o4];simp only[o2,show(s[m] == decide ((m:Int)=t.b1))=true from eo,bh]
        rw[this]
       ·have fq:IntKind.i64.wrap ((m:Int)+1)=((m+1:Nat):Int):=by rw[wrap_i64 ⟨by omega,by omega⟩];omega
        refine a5.mk _ fq ?_;refine⟨m+1,⟨⟨by omega,?_⟩,by omega⟩,.refl,ew,.cons rfl .nil⟩;rw[pT,o4];simp only[o2,show(s[m] == decide ((m:Int)=t.b1))=false from eo,ba]
      ·have zR:¬ m<t.n:=by simpa using h
       have o4:s.drop m=[]:=ir (by omega);refine⟨_,_,.sub (ho _) .refl,?_,rfl,rfl⟩;rw[al,pT,o4];rfl
 ·refine⟨_,_,.refl,?_,rfl,rfl⟩;have:¬ 0<=t.b1:=by simp at U;omega
  simp[right,this]
def vZ(b:Nat)(s:List Int):ay:=⟨b,.cells (s.map (Value.int .i64)).toArray 3 (0,0)⟩
def Xm{M:List ay}{s:List Int}(a4:vZ b s∈M)(an:j<s.length):ca I M ((⟨b,0,none⟩:Addr).add (j*1)) 1 [.int .i64 s[j]]:=by
 rw[dS _ rfl];refine⟨rfl,_,3,(0,0),.inr ⟨_,a4,rfl,rfl⟩,?_,rfl⟩;have U:j<(s.map (Value.int .i64)).length:=by simpa using an
 simp only[dk,kd];rw[fg U,qI,pR];simp
def Fh{M:List ay}{s:List Int}{v:Int}(an:j<s.length)(ag:s[j]=v)(a4:vZ b s∈M):ca I M ((⟨b,0,none⟩:Addr).add (j*1)) 1 [.int .i64 v]:=ag ▸ Xm a4 an
def O0(s:List Int)(j:Nat)(an:j<s.length)(b:Int):bu (s.map (Value.int .i64)) j [.int .i64 b]=(s.set j b).map (Value.int .i64):=by unfold bu;rw[List.map_set,xM];simp[an]
def Xn(aL:o0 I){t:dG}(av:t.ok I):Spec Tryz.prog 206 [t.val] I [] (λv I' M'=>v=.int .i64 (bif right t then(t.n:Int)else 0)/\I'=I/\M'=[]):=by
 refine bX [] aV Tryz.func206 rfl rfl rfl ?_;intro B ao;refine bb.mk [] [] _ (.refl _) (xX aL av) ?_;rintro v I' M' -⟨rfl,rfl,rfl⟩;refine a0.mk (λh=>?_) (λh=>?_)
 ·refine⟨_,_,.refl,?_,rfl,rfl⟩;rw[show right t=false by simpa using h];rfl
 ·refine⟨_,_,.refl,?_,rfl,rfl⟩;rw[show right t=true by simpa using h];rfl
def O1{i:Nat}:∀ {ks:List Int} {s cq:List Bool},kh i ks s=some cq->∀ k∈ks,0<=k/\k<i
 |[],s,cq,_,k,ae=>by cases ae
 |x::ks,s,cq,h,k,ae=>by
  unfold kh at h;cases ai:(decide (x<0)||(decide ((i:Int)<=x)||s.getD x.toNat false))with
  |true=>rw[ai]at h;cases h
  |false=>
   rw[ai]at h;simp only[oW,nP]at ai;rcases eg.1 ae with rfl | ae;·omega
   ·exact O1 h k ae
def O2:∀ {i:Nat} {ds:List a9} {s cq:List Bool},k5 i ds s=some cq->∀ j (h:j<ds.length),∀ k∈ds[j].aX,0<=k/\k<(i+j:Nat)
 |i,[],s,cq,_,j,an,_,_=>by cases an
 |i,d::ds,s,cq,h,j,an,k,ae=>by
  unfold k5 at h;cases az:fits d d.aX.length with
  |false=>rw[az]at h;cases h
  |true=>
   rw[az]at h;simp only[bh]at h;cases aq:kh i d.aX s with
   |none=>rw[aq]at h;cases h
   |some s1=>
    rw[aq]at h;cases j with
    |zero=>exact O1 aq k (by simpa using ae)| succ j=>have:=O2 h j (by simpa using an) k (by simpa using ae);omega
def qP{t:dG}(h:right t=true):∀ j (an:j<t.ns.length),∀ k∈t.ns[j].aX,0<=k/\k<j:=by
 unfold right at h;simp only[b3]at h;obtain⟨_,_,h⟩:=h;split at h
 ·rename_i s ap;intro j an k ae;have:=O2 ap j an k ae;omega
 ·cases h
def Cb{t:dG}(h:right t=true):0<=t.b1/\t.b1<t.ns.length:=by unfold right at h;simp only[b3,e0]at h;exact⟨h.1,h.2.1⟩
def Cc(gw:List Int):List Int->Int->Int
 |[],m=>m| k::ks,m=>Cc gw ks (max m (gw.getD k.toNat 0))
def zS:Nat->List a9->List Int->List Int
 |_,[],gw=>gw| i,d::ds,gw=>zS (i+1) ds (gw.set i (Cc gw d.aX 0+1))
def depth(t:dG):Int:=bif right t then(zS 0 t.ns (List.replicate t.ns.length 0)).getD t.b1.toNat 0 else 0
def Xo(aL:o0 I){t:dG}(av:t.ok I):Spec Tryz.prog 101 [t.val] I [] (λv I' M'=>v=.int .i64 (depth t)/\I'=I/\M'=[]):=by
 refine bX [] aV Tryz.func101 rfl rfl rfl ?_;intro B ao;have ax:=av.n;have ki:=av.bd.cap;refine bb.mk [] [] _ (.refl _) (xX aL av) ?_;rintro v I' M' -⟨rfl,rfl,rfl⟩;refine a0.mk (λh=>?_) (λh=>?_)
 ·refine⟨_,_,.refl,?_,rfl,rfl⟩;simp[depth,show right t=false by simpa using h]
 ·have al:right t=true:=by simpa using h
  have m0:=qP al;obtain⟨aT,aU⟩:=Cb al;refine oD.mk t.n t.n rfl rfl (cC _) (by show 8*t.n<=_;omega) (by omega) ?_;refine cz.mk λb ai Ff=>?_;refine dB.inv (ι:=Nat×List Int) (λx=>{ bj:=[(1,.ref 1 0),(3,.val (.slice (some ⟨b,0,none⟩) t.n t.n)),(16,.val (.slice t.a t.n t.c)),(17,.val (.int .i64 t.n)),(18,.val (.int .i64 x.1))],cl:=[(1,t.cells)],c5:=I',dv:=[vZ b x.2] }) (λx=>x.1<=t.n/\x.2.length=t.n/\(∀ j,0<=x.2.getD j 0/\x.2.getD j 0<=x.1)/\(∀ j,x.1<=j->x.2.getD j 0=0)/\zS 0 t.ns (List.replicate t.ns.length 0)=zS x.1 (t.ns.drop x.1) x.2) (λx=>t.n-x.1) ?_ ?_
  ·have z:∀ j,(List.replicate t.n (0:Int)).getD j 0=0:=λj=>by
    by_cases an:j<t.n<;>simp[dh,an]
   refine⟨(0,List.replicate t.n 0),⟨by omega,by simp,λj=>by rw[z];simp,λj _=>z j,by simp[ax]⟩,?_,g',.cons rfl .nil⟩;show i' _ _ [⟨b,.cells (rowOf [Value.int .i64 0] (t.n*1)).toArray 3 (0,0)⟩] _ [vZ b (List.replicate t.n 0)];rw[Fg,kd];simp only[vZ,List.map_replicate];exact .refl
  ·rintro⟨i,gw⟩⟨fa,g8,hY,ka,xE⟩;simp only at fa g8 hY ka xE;refine a0.mk (λh=>?_) (λh=>?_)
   ·have aK:i<t.n:=by simpa using h
    have bP:i<t.ns.length:=by omega
    obtain⟨ad,b7,bs⟩:=av.bd.row a9.de aK bP;have h1:=av.ns t.ns[i] (dK bP);have dR:=h1.kn;have ji:t.ns.drop i=t.ns[i]::t.ns.drop (i+1):=fg bP;refine bc.mk ad i b7 rfl aK ?_;refine aF.mk t.ns[i].cells (bs _) ?_;refine dB.inv (ι:=Nat×Int) (λx=>{ bj:=[(1,.ref 1 0),(3,.val (.slice (some ⟨b,0,none⟩) t.n t.n)),(4,.val (.int .i64 i)),(16,.val (.slice t.a t.n t.c)),(17,.val (.int .i64 t.n)),(18,.val (.int .i64 i)),(24,.val (.slice t.ns[i].kg t.ns[i].kn t.ns[i].jc)),(25,.val (.int .i64 t.ns[i].kn)),(26,.val (.int .i64 x.1))],cl:=[(1,t.cells)],c5:=I',dv:=[vZ b (gw.set i x.2)] }) (λx=>x.1<=t.ns[i].kn/\0<=x.2/\x.2<=i/\Cc gw t.ns[i].aX 0=Cc gw (t.ns[i].aX.drop x.1) x.2) (λx=>t.ns[i].kn-x.1) ?_ ?_
    ·refine⟨(0,0),⟨by omega,by omega,by simp,rfl⟩,?_,hk,.cons rfl .nil⟩;have e:gw.set i 0=gw:=by
      have U:=ka i (cC _);rw[dh]at U;apply E9;intro j;rw[sW];split
      ·rename_i e;subst e;have:i<gw.length:=by omega
       simp[this]at U |-;exact U.symm
      ·rfl
     simp only;rw[e];exact .refl
    ·rintro⟨j,m⟩⟨nY,o3,zP,I2⟩;simp only at nY o3 zP I2;refine a0.mk (λh=>?_) (λh=>?_)
     ·have fU:j<t.ns[i].kn:=by simpa using h
      have mh:j<t.ns[i].aX.length:=by omega
      obtain⟨hq,h2,gI⟩:=h1.bd.one fU mh;have hM:t.ns[i].aX.drop j=t.ns[i].aX[j]::t.ns[i].aX.drop (j+1):=fg mh;have ae:=m0 i bP t.ns[i].aX[j] (dK mh);have fI:t.ns[i].aX[j]=((t.ns[i].aX[j].toNat:Nat):Int):=by omega
      have fr:t.ns[i].aX[j].toNat<t.n:=by omega
      refine bc.mk hq j h2 rfl fU ?_;refine aF.mk [.int .i64 t.ns[i].aX[j]] (gI _) ?_;refine cW.draw aV rfl rfl rfl ?_;have ek:i<(gw.set i m).length:=by simp;omega
      have uH:t.ns[i].aX[j].toNat<(gw.set i m).length:=by simp;omega
      have I3:(gw.set i m)[i]=m:=by simp
      have gv:(gw.set i m)[t.ns[i].aX[j].toNat]=gw.getD t.ns[i].aX[j].toNat 0:=by
       have bB:i≠t.ns[i].aX[j].toNat:=by omega
       have eT:t.ns[i].aX[j].toNat<gw.length:=by omega
       rw[List.getElem_set,cA bB];simp[dh,eT]
      refine bc.mk ⟨b,0,none⟩ i rfl rfl aK ?_;refine aF.mk [.int .i64 m] (Fh ek I3 (by simp)) ?_;refine bc.mk ⟨b,0,none⟩ t.ns[i].aX[j].toNat rfl fI fr ?_;refine aF.mk [.int .i64 (gw.getD t.ns[i].aX[j].toNat 0)] (Fh uH gv (by simp)) ?_;refine bc.mk ⟨b,0,none⟩ i rfl rfl aK ?_;refine cg.add [] [] _ 3 rfl ?_ rfl ?_;·simp only[rs,eX];show 0+i*1+1<=_;simp;omega
      have fq:IntKind.i64.wrap ((j:Int)+1)=((j+1:Nat):Int):=by rw[wrap_i64 ⟨by omega,by have:=h1.bd.cap;omega⟩];omega
      refine a5.mk _ fq ?_;have ahU:=hY t.ns[i].aX[j].toNat;refine⟨(j+1,max m (gw.getD t.ns[i].aX[j].toNat 0)),⟨⟨by omega,by simp only;omega,by simp only;omega,?_⟩,by show _<_;simp only;omega⟩,?_,hk,.cons rfl .nil⟩;·simp only;rw[I2,hM];rfl
      ·have e:=O0 (gw.set i m) i ek (max m (gw.getD t.ns[i].aX[j].toNat 0));simp only[vZ];rw[List.set_set]at e;rw[<-e];simp only[dk,kd];exact .refl
     ·have fU:¬ j<t.ns[i].kn:=by simpa using h
      have xY:t.ns[i].aX.drop j=[]:=ir (by omega);have hm:Cc gw t.ns[i].aX 0=m:=by rw[I2,xY];rfl
      have ek:i<(gw.set i m).length:=by simp;omega
      have I3:(gw.set i m)[i]=m:=by simp
      have Xp:IntKind.i64.wrap (m+1)=m+1:=wrap_i64 ⟨by omega,by omega⟩;have fq:IntKind.i64.wrap ((i:Int)+1)=((i+1:Nat):Int):=by rw[wrap_i64 ⟨by omega,by omega⟩];omega
      refine bc.mk ⟨b,0,none⟩ i rfl rfl aK ?_;refine aF.mk [.int .i64 m] (Fh ek I3 (by simp)) ?_;refine a5.mk _ Xp ?_;refine bc.mk ⟨b,0,none⟩ i rfl rfl aK ?_;refine cg.add [] [] _ 3 rfl ?_ rfl ?_;·simp only[rs,eX];show 0+i*1+1<=_;omega
      refine a5.mk _ fq ?_;refine⟨(i+1,gw.set i (m+1)),⟨⟨by omega,by simp[g8],?_,?_,?_⟩,by show _<_;simp only;omega⟩,?_,g',.cons rfl .nil⟩
      ·intro q;have Xq:=hY q;simp only[dh,sW]at Xq |-;split
       ·rename_i e;subst e;have:i<gw.length:=by omega
        simp[this];omega
       ·omega
      ·intro q aO;have O3:=ka q (by omega);simp only at aO;simp only[dh,sW]at O3 |-;rw[cA (by omega)];exact O3
      ·simp only;rw[xE,ji];simp only[zS,hm]
      ·have e:=O0 (gw.set i m) i ek (m+1);simp only[vZ];rw[List.set_set]at e;rw[<-e];simp only[dk,kd];exact .refl
   ·have c1:¬ i<t.n:=by simpa using h
    have fz:t.ns.drop i=[]:=ir (by omega);have gS:zS 0 t.ns (List.replicate t.ns.length 0)=gw:=by rw[xE,fz];rfl
    have pU:t.b1=((t.b1.toNat:Nat):Int):=by omega
    have gx:t.b1.toNat<gw.length:=by omega
    refine bc.mk ⟨b,0,none⟩ t.b1.toNat rfl pU (by omega) ?_;refine aF.mk [.int .i64 gw[t.b1.toNat]] (Fh gx rfl (by simp)) ?_;refine⟨_,_,.sub (ho _) .refl,?_,rfl,rfl⟩;have:depth t=gw[t.b1.toNat]:=by unfold depth;rw[al,gS];simp[dh,gx]
    rw[this];rfl
def rN(t:dG):Bool:=decide (t.n<=1024)&&(right t&&decide (depth t<=32))
def Xr(aL:o0 I){t:dG}(av:t.ok I):Spec Tryz.prog 51 [t.val] I [] (λv I' M'=>v=.bool (rN t)/\I'=I/\M'=[]):=by
 refine bX [] aV Tryz.func51 rfl rfl rfl ?_;intro B ao;refine cB.mk (λU=>?_) (λU=>?_)
 ·refine bb.mk [] [] _ (.refl _) (xX aL av) ?_;rintro v I' M' -⟨rfl,rfl,rfl⟩;refine cB.mk (λaa=>?_) (λaa=>?_)
  ·refine bb.mk [] [] _ (.refl _) (Xo aL av) ?_;rintro v I' M' -⟨rfl,rfl,rfl⟩;refine⟨_,_,.refl,?_,rfl,rfl⟩;have Cd:t.n<=1024:=by simp at U;omega
   simp[rN,Cd,aa]
  ·refine⟨_,_,.refl,?_,rfl,rfl⟩;have nX:right t=false:=aa;simp[rN,nX]
 ·refine⟨_,_,.refl,?_,rfl,rfl⟩;have Cd:¬ t.n<=1024:=by simp at U;omega
  simp[rN,Cd]
def pV{α:Type}(z:α)(f:a9->(Int->α)->α):List a9->List α->List α
 |[],aM=>aM| d::ds,aM=>pV z f ds (aM++[f d λk=>aM.getD k.toNat z])
section
variable{α:Type}{z:α}{f:a9->(Int->α)->α}
def I4:∀ (ds:List a9) (aM:List α) (j:Nat),j<aM.length->(pV z f ds aM)[j]?=aM[j]?
 |[],aM,j,_=>rfl| d::ds,aM,j,h=>by rw[pV,I4 ds _ j (by simp;omega),oy h]
def O4:∀ (ds:List a9) (aM:List α) (j:Nat) (h:j<ds.length),(pV z f ds aM)[aM.length+j]?=some (f ds[j] λk=>((pV z f ds aM).take (aM.length+j)).getD k.toNat z)
 |d::ds,aM,0,_=>by
  rw[pV,qn,I4 ds _ aM.length (by simp)];simp only[List.getElem?_concat_length,xN,iJ];congr 1;funext k;have:(pV z f ds (aM++[f d λk=>aM.getD k.toNat z])).take aM.length=aM:=by
   apply E9;intro i;rw[kx];split;·rename_i hi;rw[I4 ds _ i (by simp;omega),oy hi]
   ·rw[xo (by omega)]
  rw[this]
 |d::ds,aM,j+1,h=>by have:=O4 ds (aM++[f d λk=>aM.getD k.toNat z]) j (by simpa using h);rw[pV];simp only[cU,e1,jh,dk,E8]at this |-;rw[show aM.length+(j+1)=aM.length+1+j from by omega];exact this
def xZ(z:α)(f:a9->(Int->α)->α)(ns:List a9)(k:Int):α:=(pV z f ns []).getD k.toNat z
def I5(az:∀ d g dD,(∀ k∈d.aX,g k=dD k)->f d g=f d dD){t:dG}(al:right t=true)(an:j<t.ns.length):xZ z f t.ns j=f t.ns[j] (xZ z f t.ns):=by have h:=O4 (z:=z) (f:=f) t.ns [] j an;simp only[jh,dk]at h;unfold xZ;rw[dh,show((j:Int).toNat)=j from by omega,h,j6];refine az _ _ _ λk ae=>?_;have:=qP al j an k ae;rw[dh,dh,kx,cK (by omega)]
end
def free(g:Nat->Nat)(s:List Bool):Nat->Nat
 |0=>0| i+1=>free g s i+(bif s.getD i false then 0 else g i)
def O5{g:Nat->Nat}{s:List Bool}{k:Nat}:∀ {i:Nat},i<=k->free g (s.set k true) i=free g s i
 |0,_=>rfl| i+1,h=>by unfold free;rw[O5 (by omega)];simp only[dh,sW];rw[cA (by omega)]
def O6{g:Nat->Nat}{s:List Bool}{k:Nat}(ap:s.getD k false=false)(ar:k<s.length):∀ {i:Nat},k<i->free g (s.set k true) i+g k=free g s i
 |i+1,h=>by
  unfold free;by_cases e:i=k;·subst e;rw[O5 (cC _),ap];simp[dh,ar]
  ·have:=O6 (g:=g) ap ar (i:=i) (by omega);simp only[dh,sW]at this |-;rw[cA (by omega)];omega
def mi(g:Int->Nat)(ks:List Int):Nat:=(ks.map g).sum
def O7{g:Nat->Nat}{i:Nat}:∀ {ks:List Int} {s cq:List Bool},kh i ks s=some cq->i<=s.length->cq.length=s.length/\free g cq i+mi (λk=>g k.toNat) ks=free g s i
 |[],s,cq,h,_=>by simp only[kh,iJ]at h;subst h;exact⟨rfl,rfl⟩
 |x::ks,s,cq,h,ar=>by
  unfold kh at h;cases ai:(decide (x<0)||(decide ((i:Int)<=x)||s.getD x.toNat false))with
  |true=>rw[ai]at h;cases h| false=>rw[ai]at h;simp only[oW,nP]at ai;obtain⟨U,aa,af⟩:=ai;obtain⟨aw,aB⟩:=O7 (g:=g) h (by simpa using ar);have bD:=O6 (g:=g) af (by omega) (i:=i) (by omega);refine⟨by simpa using aw,?_⟩;simp only[mi,dV,qK]at aB |-;omega
def O8{g:Nat->Nat}{c:a9->Nat}:∀ {ds:List a9} {i:Nat} {s cq:List Bool},k5 i ds s=some cq->i+ds.length<=s.length->(∀ j (h:j<ds.length),g (i+j)<=c ds[j]+mi (λk=>g k.toNat) ds[j].aX) -> cq.length=s.length/\free g cq (i+ds.length)<=free g s i+(ds.map c).sum
 |[],i,s,cq,h,_,_=>by simp only[k5,iJ]at h;subst h;simp
 |d::ds,i,s,cq,h,ar,aA=>by
  unfold k5 at h;cases az:fits d d.aX.length with
  |false=>rw[az]at h;cases h
  |true=>
   rw[az]at h;simp only[bh]at h;cases aq:kh i d.aX s with
   |none=>rw[aq]at h;cases h
   |some s1=>
    rw[aq]at h;simp only[e1]at ar;obtain⟨aw,aB⟩:=O7 (g:=g) aq (by omega);obtain⟨bD,dH⟩:=O8 (g:=g) (c:=c) h (by omega) (λj an=>by
     have:=aA (j+1) (by simp;omega);simp only[E8]at this;rw[show i+1+j=i+(j+1)from by omega];exact this)
    have ao:=aA 0 (by simp);simp only[qn,xN]at ao;refine⟨by omega,?_⟩;have gJ:free g s1 (i+1)<=free g s1 i+g i:=by
     show free g s1 i+_<=_;cases s1.getD i false<;>simp
    simp only[e1,dV,qK];rw[show i+(ds.length+1)=i+1+ds.length from by omega];omega
def O9{b1:Int}:∀ {s:List Bool} {i:Nat},o2 b1 i s=true->∀ j,j<s.length->(i+j:Nat)=b1->s.getD j false=false
 |b::s,i,h,j,an,e=>by
  unfold o2 at h;cases ai:(b == decide ((i:Int)=b1))with
  |true=>rw[ai]at h;cases h
  |false=>
   rw[ai]at h;cases j with
   |zero=>
    have:decide ((i:Int)=b1)=true:=by simpa using e
    rw[this]at ai;simpa using ai
   |succ j=>have:=O9 (i:=i+1) h j (by simpa using an) (by omega);simpa using this
def O'{g:Nat->Nat}{s:List Bool}{k:Nat}(ae:s.getD k false=false):∀ {n:Nat},k<n->g k<=free g s n
 |n+1,h=>by
  unfold free;by_cases e:n=k;·subst e;rw[ae];simp
  ·have:=O' (g:=g) ae (n:=n) (by omega);omega
def Pa{t:dG}(al:right t=true){g:Int->Nat}{c:a9->Nat}(h:∀ j (an:j<t.ns.length),g j<=c t.ns[j]+mi g t.ns[j].aX):g t.b1<=(t.ns.map c).sum:=by
 have zT:=Cb al;have ae:=qP al;unfold right at al;simp only[b3]at al;obtain⟨_,_,al⟩:=al;split at al
 ·rename_i s ap;obtain⟨aw,aB⟩:=O8 (g:=λk=>g k) (c:=c) ap (by simp) (λj an=>by refine jx (by rw[dk];exact h j an) (Nat.le_of_eq ?_);congr 1;unfold mi;congr 1;refine BZ λk gv=>?_;have:=ae j an k gv;rw[xP this.1]);simp only[xO,dk]at aw aB;have bg:=O9 al t.b1.toNat (by omega) (by omega);have:=O' (g:=λk=>g k) bg (n:=t.ns.length) (by omega);rw[xP zT.1]at this;simp only[free]at aB;omega
 ·cases al
def Fi{t:dG}(al:right t=true)(an:j<t.ns.length):fits t.ns[j] t.ns[j].aX.length=true:=by
 have aux:∀ {ds:List a9} {i:Nat} {s cq:List Bool},k5 i ds s=some cq->∀ j (h:j<ds.length),fits ds[j] ds[j].aX.length=true:=by
  intro ds
  induction ds with
  |nil=>intro i s cq _ j an;cases an
  |cons d ds be=>
   intro i s cq h j an;unfold k5 at h;cases az:fits d d.aX.length with
   |false=>rw[az]at h;cases h
   |true=>
    rw[az]at h;simp only[bh]at h;cases aq:kh i d.aX s with
    |none=>rw[aq]at h;cases h
    |some s1=>
     rw[aq]at h;cases j with
     |zero=>exact az| succ j=>exact be h j (by simpa using an)
 unfold right at al;simp only[b3]at al;obtain⟨_,_,al⟩:=al;split at al
 ·rename_i s ap;exact aux ap j an
 ·cases al
def Xs(t u ty e:Nat)(i:TypeInfo)(av:P.underlying t=some (.slice e))(hu:P.underlying u=some mb)(nR:∀ k,mb≠.int k)(hi:P.info? e=some i)
 {n:Nat} (lI:n<=c) (ao:(∃ b c,s3=.slice b 0 c)\/s3=.string .empty):(Builtin.append_ #[t,u] ty #[.slice sa n c,s3]).run P w=.ok (.slice sa n c) w:=by
 have B9:(match mb with | .int _=>true | _=>false)=false:=by cases mb<;>first | rfl | exact(nR _ rfl).elim
 rcases ao with⟨b,c',rfl⟩ | rfl
 ·cases b<;>cases sa<;>simp[Builtin.append_,run_underlying av,run_underlying hu,sizeOf,typeInfo,hi,B9,Builtin.lenOf,lI,Builtin.firstCells,Builtin.zeroCells,loadCells,loadCellsFrom,storeCells]
 ·cases sa<;>simp[Builtin.append_,run_underlying av,run_underlying hu,sizeOf,typeInfo,hi,B9,Builtin.lenOf,lI,Builtin.firstCells,loadCells,storeCells]
section
variable{X:cD}{β:Nat->Nat}{a:Act}{w:World}{F:Fr}{C:c2}{I:aS}{M:List ay}{o:Oper}{K:fo}
def bl.bin{op:BinOp}(aq:o.op=.binOp op t x y eS)(ah:∀ d,o.dst=some d->d<X.n){q:Value}(ab:br F x=.val p)(aN:br F y=.val q)
  (aA:∀ w,(eqGuard op t x y p q).run X.P w=.ok () w) (al:∀ w,dY I M w->(binOp op t p q).run X.P w=.ok v w) (h:K (put o.dst (.val v) F) C I M):bl X o F C I M K:=by
 refine⟨λac w Q ⟨β,a1⟩=>?_⟩;have ex:=cV a1.aj ab;have nV:=cV a1.aj aN;refine sI a1 ah (by rw[aq];simp) ?_ h;unfold execOp;simp only[aq,bZ,ex,nV,aA,bK,al w a1.holds,cG]
def bl.conv{s:Nat}(aq:o.op=.convert s t x)(ah:∀ d,o.dst=some d->d<X.n)(ab:br F x=.val p)
  (al:∀ w,dY I M w->(convert s t p).run X.P w=.ok v w) (h:K (put o.dst (.val v) F) C I M):bl X o F C I M K:=by
 refine⟨λac w Q ⟨β,a1⟩=>?_⟩;have ex:=cV a1.aj ab;refine sI a1 ah (by rw[aq];simp) ?_ h;unfold execOp;simp only[aq,bZ,ex,bK,al w a1.holds,cG]
def bl.un{op:UnOp}(aq:o.op=.unOp op t x)(ah:∀ d,o.dst=some d->d<X.n)(ab:br F x=.val p)
  (al:∀ w,dY I M w->(Op.unary op p).run X.P w=.ok v w) (h:K (put o.dst (.val v) F) C I M):bl X o F C I M K:=by
 refine⟨λac w Q ⟨β,a1⟩=>?_⟩;have ex:=cV a1.aj ab;refine sI a1 ah (by rw[aq];simp) ?_ h;unfold execOp;simp only[aq,bZ,ex,bK,al w a1.holds,cG]
def hN(x:Int):Int:=IntKind.u64.wrap (BitVec.ofInt 64 IntKind.u64.max ^^^ BitVec.ofInt 64 x).toNat
def bl.Ce(aq:o.op=.unOp .xor t x)(ah:∀ d,o.dst=some d->d<X.n){n:Int}(ab:br F x=.val (.int .u64 n))(h:K (put o.dst (.val (.int .u64 (hN n))) F) C I M):bl X o F C I M K:=
 .un aq ah ab (λw _=>rfl) h
def bl.Pb(aE:cE X.P X.E)(aq:o.op=.call { callee:=.builtin .append,args:=#[s,x],argTypes:=#[t,u] })(ah:∀ d,o.dst=some d->d<X.n)
 (av:X.E t=some dc) (dL:dc.bz=.slice e) (hu:X.E u=some lF) (e':∀ k,lF.bz≠.int k) (he:X.E e=some aD)
 {n:Nat} (ap:br F s=.val (.slice sa n c)) (lI:n<=c)
 (ab:br F x=.val s3) (ao:(∃ b c,s3=.slice b 0 c)\/s3=.string .empty)
  (h:K (put o.dst (.val (.slice sa n c)) F) C I M):bl X o F C I M K:=by
 refine⟨λa w Q ⟨β,a1⟩=>?_⟩;obtain⟨inf,z,hi,fa,g8,hY,ka⟩:=(aE _ _ he).inf;obtain⟨d,eM,e4⟩:=(aE _ _ hu).eJ;obtain⟨fl,pS,ke⟩:=(aE _ _ av).eJ;have rL:fl=.slice e:=by rw[dL]at ke;cases fl<;>simp_all[eD]
 subst rL;have eK:=Xs (w:=w) t u o.type e inf pS eM (λk bn=>e' k (by rw[<-e4,bn];rfl)) hi (sa:=sa) lI ao;have es:=cV a1.aj ap;have ex:=cV a1.aj ab;refine sI a1 ah (by rw[aq];simp) ?_ h;unfold execOp;simp only[aq,resolve,invoke,builtin,bZ,cG,bK,sX,dV,mU,es,ex,eK]
def Pc(op:BinOp)(t:Nat)(x y:Operand)(p q:Option Addr)(P:Program)(w:World):(eqGuard op t x y (.pointer p) (.pointer q)).run P w=.ok () w:=by
 unfold eqGuard;cases op<;>rfl
def bl.Fj(aE:cE X.P X.E)(aq:o.op=.binOp .eql t x y eS)(ah:∀ d,o.dst=some d->d<X.n)(av:X.E t=some dc)(dL:dc.bz=.pointer e)
  {p:Option Addr} (ab:br F x=.val (.pointer p)) (aN:br F y=.val (.pointer none)) (h:K (put o.dst (.val (.bool p.isNone)) F) C I M):bl X o F C I M K:=by
 obtain⟨d,eM,e4⟩:=(aE _ _ av).eJ;have U:d=.pointer e:=by rw[dL]at e4;cases d<;>simp_all[eD]
 subst U;exact .bin aq ah ab aN (λw=>Pc ..) (λw _=>run_eql_pointer_nil w t p (by simp[Program.pointee,eM])) h
def bl.Pd(aE:cE X.P X.E)(aq:o.op=.binOp .neq t x y eS)(ah:∀ d,o.dst=some d->d<X.n){Xt:dz}(av:X.E t=some dc)(dL:dc.bz=.pointer e)(he:X.E e=some Xt)
  {p:Addr} (ab:br F x=.val (.pointer (some p))) (aN:br F y=.val (.pointer (some p))) (h:K (put o.dst (.val (.bool false)) F) C I M):bl X o F C I M K:=by
 obtain⟨d,eM,e4⟩:=(aE _ _ av).eJ;have U:d=.pointer e:=by rw[dL]at e4;cases d<;>simp_all[eD]
 subst U;obtain⟨inf,z,hi,_⟩:=(aE _ _ he).inf;exact .bin aq ah ab aN (λw=>Pc ..) (λw _=>Lib.run_neq_ptr_same w p eM hi) h
end
def Pe{f:Nat}{fn:Func}{e:Array Value->Sem Value}{args:List Value}{M:List ay}(az:P.funcs[f]?=some fn)(Fk:(fn.name == "runtime.NumGoroutine")=false)
  (ai:fn.body.isNone=true) (ax:Extern.findNext fn=none) (he:Extern.find fn=some e) (al:∀ w,(e args.toArray).run P w=.ok v w):Spec P f args I M λr I' M'=>r=v/\I'=I/\M'=M:=by
 refine .inr λw hw=>⟨v,w,I,M,?_,⟨rfl,rfl,rfl⟩,hw,λ_ _ h=>h,λ_ _ h=>.inl h,λx ab=>.inl ⟨x,ab,rfl⟩,λ_ _ _=>rfl,.refl _,cC _⟩;rw[run_callFunc_extern az Fk ai ax he,al];rfl
def v0(l:List UInt8):List Value:=l.map λb=>.int .u8 b.toNat
structure fc where
 pW:Bool
 os:bk
 cd:List UInt8
def fc.aY(b:Nat)(x:fc):ay:=⟨b,.cells #[.pointer (bif x.pW then some ⟨b,0,none⟩else none),x.os.val] 240 (0,0)⟩
def fc.M(b:Nat)(x:fc):List ay:=x.aY b::x.os.aY 5
structure fc.ok(x:fc):Prop where
 os:x.os.ok 1 (v0 x.cd)
 ne:∀ g,x.os.a=some g->x.cd≠[]
def fc.new:fc:=⟨false,⟨none,0,0,[]⟩,[]⟩
def fc.Fl:fc.new.ok:=⟨⟨rfl,λ_=>⟨rfl,rfl⟩,λg h=>by cases h⟩,λg h=>by cases h⟩
def fc.ok.n{x:fc}(h:x.ok):x.os.n=x.cd.length:=by have:=h.os.len;simp[v0]at this;omega
def ptr(b:Nat):Value:=.pointer (some ⟨b,0,none⟩)
def dn{M:List ay}{cs:List Value}(a4:(⟨b,.cells cs.toArray T (0,0)⟩:ay)∈M){k n:Nat}(h:k+n<=cs.length):ca I M ((⟨b,0,none⟩:Addr).add k) n ((cs.drop k).take n):=by
 rw[dS _ rfl];refine⟨rfl,_,T,(0,0),.inr ⟨_,a4,rfl,rfl⟩,?_,?_⟩
 ·simp
 ·simp;omega
def I6{M:List ay}(v:Value):Spec Tryz.prog 224 [v] I M λr I' M'=>r=v/\I'=I/\M'=M:=
 Pe Tryz.func224 (by kernel_rfl) (by kernel_rfl) (by kernel_rfl) (e:=Extern.AbiNoEscape.same) (by kernel_rfl) (λw=>Lib.run_noEscape w _)
def Pf{M:List ay}(s:ByteArray)(c:UInt8):Spec Tryz.prog 291 [.string s,.int .u8 c.toNat] I M λr I' M'=>r=.int .i64 (Lib.indexByte s.data.toList c)/\I'=I/\M'=M:=
 Pe Tryz.func291 (by kernel_rfl) (by kernel_rfl) (by kernel_rfl) (e:=Extern.BytealgIndexByte.indexByte) (by kernel_rfl) (λw=>by
  have:=Lib.run_indexByteString (P:=Tryz.prog) s (c.toNat:Int) w;simpa using this)
def Xu(s:ByteArray)(c:UInt8):Spec Tryz.prog 275 [.string s,.int .u8 c.toNat] I [] λr I' M'=>r=.int .i64 (Lib.indexByte s.data.toList c)/\I'=I/\M'=[]:=by refine bX [] aV Tryz.func275 rfl rfl rfl ?_;intro B ao;refine bb.mk [] [] _ (.refl _) (Pf s c) ?_;rintro v I' M' -⟨rfl,rfl,rfl⟩;exact⟨_,_,.refl,rfl,rfl,rfl⟩
def Pg(s:ByteArray)(c:UInt8):Spec Tryz.prog 256 [.string s,.int .u8 c.toNat] I [] λr I' M'=>r=.int .i64 (Lib.indexByte s.data.toList c)/\I'=I/\M'=[]:=by refine bX [] aV Tryz.func256 rfl rfl rfl ?_;intro B ao;refine bb.mk [] [] _ (.refl _) (Xu s c) ?_;rintro v I' M' -⟨rfl,rfl,rfl⟩;exact⟨_,_,.refl,rfl,rfl,rfl⟩
def Fm{M:List ay}(h:dY I M w){aj:Nat×Nat}(a4:(⟨b,.cells cs T aj⟩:ay)∈M):w.shape? b=some (T,cs.size):=by have:=h.m _ a4;simp only at this;simp[World.shape?,this]
def Ph(b:Nat)(x:fc):Spec Tryz.prog 191 [ptr b] I [x.aY b] λr I' M'=>r=.tuple #[]/\I'=I/\M'=[{ x with pW:=true:fc }.aY b]:=by
 obtain⟨pW,os,cd⟩:=x;obtain⟨inf,z,hi,fa,_⟩:=(aV 240 _ rfl).inf;refine bX [] aV Tryz.func191 rfl rfl rfl ?_;intro B ao;cases pW with
 |false=>refine aF.mk [.pointer none] (dn (cs:=[.pointer none,os.val]) (k:=0) (n:=1) (T:=240) (iY.2 rfl) (by simp)) ?_;refine .other (bl.Fj aV rfl (by simp) rfl rfl rfl rfl ?_);refine a0.mk (λ_=>?_) (λh=>by cases h);refine bl.conv rfl (by simp) rfl (λw hw=>Lib.run_to_unsafe (t:=240) (e:=240) (cells:=2) w ⟨b,0,none⟩ (by kernel_rfl) (by kernel_rfl) (j:=inf) hi (by rw[fa];decide) (Fm (cs:=#[.pointer none,os.val]) hw (iY.2 rfl)) (by simp)) ?_;refine bb.mk [fc.aY b ⟨false,os,cd⟩] [] _ (by simp) (I6 _) ?_;rintro v I' M' -⟨rfl,rfl,rfl⟩;refine bl.conv rfl (by simp) rfl (λw hw=>Lib.run_from_unsafe (u:=240) (e:=240) (cells:=2) w ⟨b,0,none⟩ (by kernel_rfl) (by kernel_rfl) (j:=inf) hi (Fm (cs:=#[.pointer none,os.val]) hw (iY.2 rfl)) (by kernel_rfl)) ?_;refine cg.add [] [] _ _ rfl (bJ rfl) rfl ?_;exact⟨_,_,.refl,rfl,rfl,rfl⟩
 |true=>refine aF.mk [ptr b] (dn (cs:=[ptr b,os.val]) (k:=0) (n:=1) (T:=240) (iY.2 rfl) (by simp)) ?_;refine .other (bl.Fj aV rfl (by simp) rfl rfl rfl rfl ?_);refine a0.mk (λh=>by cases h) (λ_=>?_);refine aF.mk [ptr b] (dn (cs:=[ptr b,os.val]) (k:=0) (n:=1) (T:=240) (iY.2 rfl) (by simp)) ?_;refine .other (bl.Pd aV rfl (by simp) rfl rfl rfl rfl rfl ?_);refine a0.mk (λh=>by cases h) (λ_=>?_);exact⟨_,_,.refl,rfl,rfl,rfl⟩
def m1(b:Nat){x:fc}(ab:x.ok)(c:UInt8)(ar:x.cd.length<70368744177664):Spec Tryz.prog 260 [ptr b,.int .u8 c.toNat] I (x.M b)
  λr I' M'=>r=.nilIface/\I'=I/\∃ y:fc,y.ok/\y.cd=x.cd++[c]/\M'=y.M b:=by
 refine bX [] aV Tryz.func260 rfl rfl rfl ?_;intro B ao;have ax:=ab.n;refine bb.mk [x.aY b] (x.os.aY 5) _ (.refl _) (Ph b x) ?_;rintro v I' M' -⟨rfl,rfl,rfl⟩;refine aF.mk [x.os.val] (dn (cs:=[ptr b,x.os.val]) (k:=1) (n:=1) (T:=240) (.head _) (by simp)) ?_;refine cz.mk λg aA zU=>?_;refine bl.append aV rfl (by simp) (e:=5) rfl rfl rfl x.os (xs:=v0 x.cd) ab.os rfl (m:=1) rfl (ct:=[.int .u8 c.toNat]) (by decide) ?_ rfl (Mr:=[⟨g,.cells #[.int .u8 c.toNat] 5 (0,0)⟩,{ x with pW:=true:fc }.aY b]) ?_ ?_ ?_ ?_
 ·exact dn (cs:=[.int .u8 c.toNat]) (k:=0) (n:=1) (T:=5) (.head _) (by simp)
 ·exact ha (l₁:=[_,_]) (l₂:=x.os.aY 5)
 ·simp only[maxLen];omega
 ·show(x.os.n+1)*1<=_;omega
 ·intro dD c' aJ U aa af aR;refine cg.add [⟨dD,.cells aJ.toArray 5 (0,0)⟩,⟨g,.cells #[.int .u8 c.toNat] 5 (0,0)⟩] [] _ _ rfl (bJ rfl) rfl ?_;refine⟨_,_,.perm (M1:=[⟨g,.cells #[.int .u8 c.toNat] 5 (0,0)⟩]++fc.M b ⟨true,⟨some dD,x.os.n+1,c',aJ⟩,x.cd++[c]⟩) ?_ (.sub (kH _ _) .refl),rfl,rfl,_,?_,rfl,rfl⟩
  ·exact ha (l₁:=[_]) (l₂:=[_,_])
  ·refine⟨⟨?_,λh=>by simp at h,?_⟩,by simp⟩
   ·simp[v0,ax]
   ·intro aU jj;refine⟨U,aa,af,?_⟩;rw[aR];simp[v0]
def rO(b:Nat){x:fc}(ab:x.ok)(s:ByteArray)(ar:x.cd.length+s.size<=70368744177664):Spec Tryz.prog 128 [ptr b,.string s] I (x.M b)
  λr I' M'=>r=.tuple #[.int .i64 s.size,.nilIface]/\I'=I/\∃ y:fc,y.ok/\y.cd=x.cd++s.data.toList/\M'=y.M b:=by
 refine bX [] aV Tryz.func128 rfl rfl rfl ?_;intro B ao;have ax:=ab.n;refine bb.mk [x.aY b] (x.os.aY 5) _ (.refl _) (Ph b x) ?_;rintro v I' M' -⟨rfl,rfl,rfl⟩;refine aF.mk [x.os.val] (dn (cs:=[ptr b,x.os.val]) (k:=1) (n:=1) (T:=240) (.head _) (by simp)) ?_;by_cases ap:s.size=0
 ·have he:s=.empty:=ry (E5 ap);subst he;have lI:x.os.n<=x.os.c:=by
   cases aC:x.os.a with
   |none=>obtain⟨U,aa⟩:=ab.os.nil aC;omega
   |some g=>exact(ab.os.cap g aC).2.1
  refine bl.Pb aV rfl (by simp) (e:=5) rfl rfl rfl (by simp) rfl rfl lI rfl (.inr rfl) ?_;refine cg.add [] (x.os.aY 5) _ _ rfl (bJ rfl) rfl ?_;exact⟨_,_,.refl,rfl,rfl,⟨true,x.os,x.cd⟩,⟨ab.os,ab.ne⟩,by simp,rfl⟩
 ·refine bl.Xb aV rfl (by simp) (e:=5) rfl rfl rfl rfl rfl rfl x.os (xs:=v0 x.cd) ab.os rfl rfl (by omega) (Mr:=[{ x with pW:=true:fc }.aY b]) (ha (l₁:=[_])) ?_ ?_ ?_
  ·simp only[maxLen];omega
  ·show(x.os.n+s.size)*1<=_;omega
  ·intro dD c' aJ U aa af aR;refine cg.add [⟨dD,.cells aJ.toArray 5 (0,0)⟩] [] _ _ rfl (bJ rfl) rfl ?_;refine⟨_,_,.perm (M1:=fc.M b ⟨true,⟨some dD,x.os.n+s.size,c',aJ⟩,x.cd++s.data.toList⟩) ?_ .refl,rfl,rfl,_,?_,rfl,rfl⟩
   ·exact ha (l₁:=[_]) (l₂:=[_])
   ·refine⟨⟨?_,λh=>by simp at h,?_⟩,λg _ h=>?_⟩
    ·simp[v0,ax]
    ·intro aU jj;refine⟨U,aa,af,?_⟩;rw[aR];simp[v0,jH]
    ·have bC:=congrArg List.length (List.append_eq_nil_iff.1 h).2;exact ap (by simpa using bC)
def uI(b:Nat){x:fc}(ab:x.ok)(ar:x.cd.length<=70368744177664):Spec Tryz.prog 130 [ptr b] I (x.M b)
  λr I' M'=>r=.string ⟨x.cd.toArray⟩/\I'=I/\M'=[]:=by
 refine bX [] aV Tryz.func130 rfl rfl rfl ?_;intro B ao;have ax:=ab.n;obtain⟨pW,⟨a,n,c,aJ⟩,cd⟩:=x;simp only at ax ar;subst ax;refine cW.draw aV rfl rfl rfl ?_;cases a with
 |none=>obtain⟨U,aa⟩:=ab.os.nil rfl;simp only at U aa;have Cf:cd=[]:=l' U;subst Cf;subst aa;refine aF.mk [.slice none 0 0] (dn (cs:=[.pointer (bif pW then some ⟨b,0,none⟩else none),.slice none 0 0]) (k:=1) (n:=1) (T:=240) (.head _) (by simp)) ?_;refine aF.mk [.slice none 0 0] (dn (cs:=[.pointer (bif pW then some ⟨b,0,none⟩else none),.slice none 0 0]) (k:=1) (n:=1) (T:=240) (.head _) (by simp)) ?_;refine bl.OA rfl (by simp) rfl rfl ?_;exact⟨_,_,.sub (ho _) .refl,rfl,rfl,rfl⟩
 |some g=>
  obtain⟨U,aa,af,aR⟩:=ab.os.cap g rfl;have bB:=ab.ne g rfl;simp only at U aa af aR bB;have jX:cd.length≠0:=λh=>bB (l' h);refine aF.mk [.slice (some ⟨g,0,none⟩) cd.length c] (dn (cs:=[.pointer (bif pW then some ⟨b,0,none⟩else none),.slice (some ⟨g,0,none⟩) cd.length c]) (k:=1) (n:=1) (T:=240) (.head _) (by simp)) ?_;refine l4.mk (by omega) ?_;refine aF.mk [.slice (some ⟨g,0,none⟩) cd.length c] (dn (cs:=[.pointer (bif pW then some ⟨b,0,none⟩else none),.slice (some ⟨g,0,none⟩) cd.length c]) (k:=1) (n:=1) (T:=240) (.head _) (by simp)) ?_;refine bl.IX aV rfl (by simp) (e:=5) rfl rfl rfl rfl (l:=cd) (g:=g) (cs:=aJ.toArray) rfl rfl bB (by omega) (Mr:=[fc.aY b ⟨pW,⟨some g,cd.length,c,aJ⟩,cd⟩]) (ha (l₁:=[_]) (l₂:=[_])) ?_ ?_;·rw[kd]at aR;exact aR
  ·exact⟨_,_,.sub (ho _) .refl,rfl,rfl,rfl⟩
def x0(c:UInt8)(left:ByteArray):Bool:=decide ((32:Int)<=c.toNat)&&(decide ((c.toNat:Int)<=126)&&(!decide ((c.toNat:Int)=92)&&decide (Lib.indexByte left.data.toList c<0)))
def Xv(c:UInt8)(left:ByteArray):Spec Tryz.prog 299 [.int .u8 c.toNat,.string left] I [] λr I' M'=>r=.bool (x0 c left)/\I'=I/\M'=[]:=by
 refine bX [] aV Tryz.func299 rfl rfl rfl ?_;intro B ao;refine cB.mk (λU=>?_) (λU=>?_)
 ·refine cB.mk (λaa=>?_) (λaa=>?_)
  ·refine cB.mk (λaf=>?_) (λaf=>?_)
   ·refine bb.mk [] [] _ (.refl _) (Pg left c) ?_;rintro v I' M' -⟨rfl,rfl,rfl⟩;refine⟨_,_,.refl,?_,rfl,rfl⟩;simp only[x0,U,aa,af,s0]
   ·refine⟨_,_,.refl,?_,rfl,rfl⟩;simp only[x0,U,aa,af,s0,oB,zK]
  ·refine⟨_,_,.refl,?_,rfl,rfl⟩;simp only[x0,U,aa,s0,oB,zK]
 ·refine⟨_,_,.refl,?_,rfl,rfl⟩;simp only[x0,U,s0,oB,zK]
def zV:ByteArray:=⟨#[48,49,50,51,52,53,54,55,56,57,97,98,99,100,101,102]⟩
def v3(n:Nat):UInt8:=zV.data.toList.getD n 0
def mj(c:UInt8)(left:ByteArray):List UInt8:=
 bif x0 c left then [c]else
 bif decide ((c.toNat:Int)=10)then [92,110]else
 bif decide ((c.toNat:Int)=13)then [92,114]else
 bif decide ((c.toNat:Int)=9)then [92,116]else
 bif decide ((c.toNat:Int)=92)||decide ((0:Int)<=Lib.indexByte left.data.toList c)then [92,c]else [92,120,v3 (c.toNat/16),v3 (c.toNat%16)]
def Cg(c:UInt8)(left:ByteArray):(mj c left).length<=4:=by
 unfold mj;cases x0 c left<;>cases decide ((c.toNat:Int)=10)<;>cases decide ((c.toNat:Int)=13)<;>cases decide ((c.toNat:Int)=9)<;>cases(decide ((c.toNat:Int)=92)||decide ((0:Int)<=Lib.indexByte left.data.toList c))<;>simp
def Xw:∀ n:Nat,n<256->IntKind.u8.wrap ((BitVec.ofInt 8 (n:Int)) &&& (BitVec.ofInt 8 15)).toNat=((n%16:Nat):Int):=by decide +kernel
def Pj(an:j<zV.size):zV[j]=v3 j:=by have:j<zV.data.toList.length:=an;simp only[v3,dh,g0 this,j6];rfl
def Fo(b:Nat){x:fc}(ab:x.ok)(c:UInt8)(left:ByteArray)(ar:x.cd.length<=70368744177600):Spec Tryz.prog 292 [ptr b,.int .u8 c.toNat,.string left] I (x.M b)
  λr I' M'=>I'=I/\∃ y:fc,y.ok/\y.cd=x.cd++mj c left/\M'=y.M b:=by
 refine bX [] aV Tryz.func292 rfl rfl rfl ?_;intro B ao;refine bb.mk [] (x.M b) _ (.refl _) (Xv c left) ?_;rintro v I' M' -⟨rfl,rfl,rfl⟩;refine a0.mk (λU=>?_) (λU=>?_)
 ·refine bb.mk (x.M b) [] _ (by simp) (m1 b ab c (by omega)) ?_;rintro v I' M' -⟨rfl,rfl,y,aN,gp,rfl⟩;refine⟨_,_,.refl,rfl,y,aN,?_,by simp⟩;rw[gp,mj,U];rfl
 ·refine a0.mk (λaa=>?_) (λaa=>?_)
  ·refine bb.mk (x.M b) [] _ (by simp) (rO b ab _ (by show _+2<=_;omega)) ?_;rintro v I' M' -⟨rfl,rfl,y,aN,gp,rfl⟩;refine⟨_,_,.refl,rfl,y,aN,?_,by simp⟩;rw[gp,mj,U,aa];rfl
  ·refine a0.mk (λaf=>?_) (λaf=>?_)
   ·refine bb.mk (x.M b) [] _ (by simp) (rO b ab _ (by show _+2<=_;omega)) ?_;rintro v I' M' -⟨rfl,rfl,y,aN,gp,rfl⟩;refine⟨_,_,.refl,rfl,y,aN,?_,by simp⟩;rw[gp,mj,U,aa,af];rfl
   ·refine a0.mk (λaR=>?_) (λaR=>?_)
    ·refine bb.mk (x.M b) [] _ (by simp) (rO b ab _ (by show _+2<=_;omega)) ?_;rintro v I' M' -⟨rfl,rfl,y,aN,gp,rfl⟩;refine⟨_,_,.refl,rfl,y,aN,?_,by simp⟩;rw[gp,mj,U,aa,af,aR];rfl
    ·have two:∀ (cL:aS),(decide ((c.toNat:Int)=92)||decide ((0:Int)<=Lib.indexByte left.data.toList c))=true->mj c left=[92,c]:=λ_ h=>by rw[mj,U,aa,af,aR,h];rfl
     have other:(decide ((c.toNat:Int)=92)||decide ((0:Int)<=Lib.indexByte left.data.toList c))=false->mj c left=[92,120,v3 (c.toNat/16),v3 (c.toNat%16)]:=λh=>by rw[mj,U,aa,af,aR,h];rfl
     have aL:=c.toNat_lt;refine cB.mk (λbC=>?_) (λbC=>?_)
     ·refine bb.mk [] (x.M b) _ (.refl _) (Pg left c) ?_;rintro v I' M' -⟨rfl,rfl,rfl⟩;refine a0.mk (λbO=>?_) (λbO=>?_)
      ·refine bb.mk (x.M b) [] _ (by simp) (m1 b ab 92 (by omega)) ?_;rintro v I' M' -⟨rfl,rfl,y,aN,gp,rfl⟩;refine bb.mk (y.M b) [] _ (by simp) (m1 b aN c (by rw[gp];simp;omega)) ?_;rintro v I' M' -⟨rfl,rfl,z,bg,qQ,rfl⟩;refine⟨_,_,.refl,rfl,z,bg,?_,by simp⟩;rw[qQ,gp,two I' (by rw[bC];exact bO)];simp
      ·refine bb.mk (x.M b) [] _ (by simp) (rO b ab _ (by show _+2<=_;omega)) ?_;rintro v I' M' -⟨rfl,rfl,y,aN,gp,rfl⟩;have Pk:y.cd.length=x.cd.length+2:=by rw[gp];simp
       refine qq.mk 4 rfl ?_;refine oC.mk (s:=zV) (c.toNat/16) ?_ (by show _<16;omega) ?_
       ·show(c.toNat:Int).fdiv (2^(min 4 (IntKind.u8.bits)))=_;have Xx:((2:Int)^(min 4 IntKind.u8.bits))=16:=by decide
        rw[Xx,E7 _ (by omega)];omega
       rw[Pj];refine bb.mk (y.M b) [] _ (by simp) (m1 b aN (v3 (c.toNat/16)) (by omega)) ?_;rintro v I' M' -⟨rfl,rfl,z,bg,qQ,rfl⟩;have Fp:z.cd.length=x.cd.length+3:=by rw[qQ];simp;omega
       refine oC.mk (s:=zV) (c.toNat%16) (Xw c.toNat aL) (by show _<16;omega) ?_;rw[Pj];refine bb.mk (z.M b) [] _ (by simp) (m1 b bg (v3 (c.toNat%16)) (by omega)) ?_;rintro v I' M' -⟨rfl,rfl,u,hu,uJ,rfl⟩;refine⟨_,_,.refl,rfl,u,hu,?_,by simp⟩;rw[uJ,qQ,gp,other (by rw[bC];exact bO)];simp
     ·refine bb.mk (x.M b) [] _ (by simp) (m1 b ab 92 (by omega)) ?_;rintro v I' M' -⟨rfl,rfl,y,aN,gp,rfl⟩;refine bb.mk (y.M b) [] _ (by simp) (m1 b aN c (by rw[gp];simp;omega)) ?_;rintro v I' M' -⟨rfl,rfl,z,bg,qQ,rfl⟩;refine⟨_,_,.refl,rfl,z,bg,?_,by simp⟩;rw[qQ,gp,two I' (by rw[bC];rfl)];simp
def k6(n:Nat):List UInt8:=bif Nat.blt n 10 then [UInt8.ofNat (48+n)]else [UInt8.ofNat (48+n/10),UInt8.ofNat (48+n%10)]
def v5(n:Nat):ByteArray:=⟨(k6 n).toArray⟩
def Pl:ByteArray:=⟨((List.range 10).map (λn=>UInt8.ofNat (48+n))++(List.range 26).map (λn=>UInt8.ofNat (97+n))).toArray⟩
def Pm:ByteArray:=⟨((List.range 100).flatMap λn=>[UInt8.ofNat (48+n/10),UInt8.ofNat (48+n%10)]).toArray⟩
def Xy:∀ n:Fin 10,(Pl.extract n.val (n.val+1)).data.toList=k6 n.val:=by decide +kernel
def Xz:∀ n:Fin 100,10<=n.val->(Pm.extract (n.val*2) (n.val*2+2)).data.toList=k6 n.val:=by decide +kernel
def zW{a b:ByteArray}(h:a.data.toList=b.data.toList):a=b:=ry (fM h)
def Ch(n:Nat):(k6 n).length<=2:=by
 unfold k6;cases Nat.blt n 10<;>simp
def XA(n:Nat)(ax:n<100):Spec Tryz.prog 245 [.int .i64 n] I [] λr I' M'=>r=.string (v5 n)/\I'=I/\M'=[]:=by
 refine bX [] aV Tryz.func245 rfl rfl rfl ?_;intro B ao;refine a0.mk (λh=>?_) (λh=>?_)
 ·have aK:n<10:=by simp at h;omega
  refine a5.mk ((n+1:Nat):Int) (by rw[wrap_i64 ⟨by omega,by omega⟩];omega) ?_;refine ie.mk n (n+1) rfl rfl (by omega) (by show _<=36;omega) ?_;refine⟨_,_,.refl,?_,rfl,rfl⟩;have:Pl.extract n (n+1)=v5 n:=zW (Xy ⟨n,aK⟩);rw[<-this];rfl
 ·have c1:10<=n:=by simp at h;omega
  refine a5.mk ((n*2:Nat):Int) (by rw[wrap_i64 ⟨by omega,by omega⟩];omega) ?_;refine a5.mk ((n*2:Nat):Int) (by rw[wrap_i64 ⟨by omega,by omega⟩];omega) ?_;refine a5.mk ((n*2+2:Nat):Int) (by rw[wrap_i64 ⟨by omega,by omega⟩];omega) ?_;refine ie.mk (n*2) (n*2+2) rfl rfl (by omega) (by show _<=200;omega) ?_;refine⟨_,_,.refl,?_,rfl,rfl⟩;have:Pm.extract (n*2) (n*2+2)=v5 n:=zW (Xz ⟨n,ax⟩ c1);rw[<-this];rfl
def XB(n:Nat)(ax:n<100):Spec Tryz.prog 235 [.int .i64 n,.int .i64 10] I [] λr I' M'=>r=.string (v5 n)/\I'=I/\M'=[]:=by refine bX [] aV Tryz.func235 rfl rfl rfl ?_;intro B ao;refine a0.mk (λh=>?_) (λh=>by cases h);refine cB.mk (λh=>?_) (λh=>by simp at h;try omega);refine a0.mk (λh=>?_) (λh=>by simp at h;try omega);refine bb.mk [] [] _ (.refl _) (XA n ax) ?_;rintro v I' M' -⟨rfl,rfl,rfl⟩;exact⟨_,_,.refl,rfl,rfl,rfl⟩
def XC(n:Nat)(ax:n<100):Spec Tryz.prog 225 [.int .i64 n] I [] λr I' M'=>r=.string (v5 n)/\I'=I/\M'=[]:=by refine bX [] aV Tryz.func225 rfl rfl rfl ?_;intro B ao;refine bb.mk [] [] _ (.refl _) (XB n ax) ?_;rintro v I' M' -⟨rfl,rfl,rfl⟩;exact⟨_,_,.refl,rfl,rfl,rfl⟩
def XD(n:Nat)(ax:n<100):Spec Tryz.prog 192 [.int .i64 n] I [] λr I' M'=>r=.string (v5 n)/\I'=I/\M'=[]:=by refine bX [] aV Tryz.func192 rfl rfl rfl ?_;intro B ao;refine bb.mk [] [] _ (.refl _) (XC n ax) ?_;rintro v I' M' -⟨rfl,rfl,rfl⟩;exact⟨_,_,.refl,rfl,rfl,rfl⟩
def Fq(n:Nat)(ax:n<100):Spec Tryz.prog 129 [.int .i64 n] I [] λr I' M'=>r=.string (v5 n)/\I'=I/\M'=[]:=by refine bX [] aV Tryz.func129 rfl rfl rfl ?_;intro B ao;refine bb.mk [] [] _ (.refl _) (XD n ax) ?_;rintro v I' M' -⟨rfl,rfl,rfl⟩;exact⟨_,_,.refl,rfl,rfl,rfl⟩
def gy(node v7:Int):Bool:=
 bif decide (node=5)then decide (v7=5)else
 bif decide (node=4)||(decide (node=7)||decide (node=8))then decide (v7=4)||decide (v7=5)else
 bif decide (node=6)then decide (v7=4)||(decide (v7=5)||(decide (v7=6)||(decide (v7=7)||decide (v7=8))))else false
def I7(a b:Int):Spec Tryz.prog 262 [.int .u8 a,.int .u8 b] I [] λr I' M'=>r=.bool (gy a b)/\I'=I/\M'=[]:=by
 refine bX [] aV Tryz.func262 rfl rfl rfl ?_;intro B ao;refine a0.mk (λU=>?_) (λU=>?_)
 ·refine⟨_,_,.refl,?_,rfl,rfl⟩;simp only[gy,U];rfl
 ·have two:∀ (cL:aS) (h:(decide (a=4)||(decide (a=7)||decide (a=8)))=true),gy a b=(decide (b=4)||decide (b=5)):=λ_ h=>by simp only[gy,U,h];rfl
  have I8:(decide (a=4)||(decide (a=7)||decide (a=8)))=true->cB (decide (b=4)) false (sN [] I [] λI' M'=>Value.bool (decide (b=5))=.bool (gy a b)/\I'=I/\M'=[]) (sN [] I [] λI' M'=>Value.bool true=.bool (gy a b)/\I'=I/\M'=[]):=λh=>by
   refine cB.mk (λaR=>?_) (λaR=>?_);·refine⟨_,_,.refl,?_,rfl,rfl⟩;rw[two I h,aR];rfl
   ·refine⟨_,_,.refl,?_,rfl,rfl⟩;rw[two I h,aR];rfl
  refine a0.mk (λaa=>?_) (λaa=>?_);·refine a0.mk (λ_=>?_) (λh=>by rw[aa]at h;cases h);exact I8 (by rw[aa];rfl)
  ·refine a0.mk (λaf=>?_) (λaf=>?_)
   ·refine a0.mk (λ_=>?_) (λh=>by rw[af]at h;cases h);exact I8 (by rw[af];simp)
   ·refine a0.mk (λaR=>?_) (λaR=>?_)
    ·exact I8 (by rw[aR];simp)
    ·have hw:gy a b=(bif decide (a=6)then decide (b=4)||(decide (b=5)||(decide (b=6)||(decide (b=7)||decide (b=8))))else false):=by simp only[gy,U,aa,af,aR];rfl
     refine a0.mk (λbC=>?_) (λbC=>?_)
     ·rw[bC]at hw;simp only[bh]at hw;refine cB.mk (λdO=>?_) (λdO=>?_)
      ·refine cB.mk (λbL=>?_) (λbL=>?_)
       ·refine cB.mk (λfB=>?_) (λfB=>?_)
        ·refine cB.mk (λk7=>?_) (λk7=>?_)
         ·refine⟨_,_,.refl,?_,rfl,rfl⟩;rw[hw,dO,bL,fB,k7];rfl
         ·refine⟨_,_,.refl,?_,rfl,rfl⟩;rw[hw,dO,bL,fB,k7];rfl
        ·refine⟨_,_,.refl,?_,rfl,rfl⟩;rw[hw,dO,bL,fB];rfl
       ·refine⟨_,_,.refl,?_,rfl,rfl⟩;rw[hw,dO,bL];rfl
      ·refine⟨_,_,.refl,?_,rfl,rfl⟩;rw[hw,dO];rfl
     ·refine⟨_,_,.refl,?_,rfl,rfl⟩;rw[hw,bC];rfl
def wrap_u64(x:Int):eh (IntKind.u64.wrap x):=by unfold IntKind.wrap eh;simp only[IntKind.bits,IntKind.signed];simp;omega
def wrap_u8(x:Int):0<=IntKind.u8.wrap x/\IntKind.u8.wrap x<256:=by unfold IntKind.wrap;simp only[IntKind.bits,IntKind.signed];simp;omega
def Pn{x:Int}(h:eh x):IntKind.u64.wrap x=x:=by obtain⟨U,aa⟩:=h;unfold IntKind.wrap;simp only[IntKind.bits,IntKind.signed];simp;omega
def pX(I:aS)(aW:List Int):Prop:=aW.length=64/\(∀ x∈aW,0<=x/\x<256)/\∃ T aj,I 5=some (.cells (aW.map (Value.int .u8)).toArray T aj)
def pX.rd(h:pX I aW)(M:List ay)(an:j<64):ca I M (Addr.add ⟨5,0,none⟩ (j*1)) 1 [.int .u8 (aW.getD j 0)]:=by
 obtain⟨ar,_,T,aj,h⟩:=h;rw[dS _ rfl];refine⟨rfl,_,T,aj,.inl h,?_,rfl⟩;have U:j<(aW.map (Value.int .u8)).length:=by simp[ar,an]
 have aa:j<aW.length:=by omega
 simp only[dk,kd];rw[fg U,qI,pR];simp[dh,aa]
def pX.at(h:pX I aW)(j:Nat):0<=aW.getD j 0/\aW.getD j 0<256:=by
 rw[dh];by_cases an:j<aW.length
 ·rw[g0 an];exact h.2.1 _ (dK an)
 ·simp[an]
def Ci(x y:Int):Int:=IntKind.u64.wrap (BitVec.ofInt 64 x &&& BitVec.ofInt 64 y).toNat
def qR(x:Int):Int:=IntKind.u64.wrap (Ci x (IntKind.u64.wrap (0-x))*285870213051353865)
def rP(aW:List Int)(x:Int):Int:=bif decide (x=0)then 64 else aW.getD ((qR x).toNat/2^58) 0
def XE(h:pX I aW)(x:Int):0<=rP aW x/\rP aW x<256:=by
 unfold rP;cases decide (x=0)
 ·exact h.at _
 ·simp
def XF(ai:pX I aW)(x:Int):Spec Tryz.prog 282 [.int .u64 x] I [] λr I' M'=>r=.int .i64 (rP aW x)/\I'=I/\M'=[]:=by
 refine bX [] aV Tryz.func282 rfl rfl rfl ?_;intro B ao;refine a0.mk (λh=>?_) (λh=>?_)
 ·refine⟨_,_,.refl,?_,rfl,rfl⟩;simp only[rP,h];rfl
 ·have aC:=wrap_u64 (Ci x (IntKind.u64.wrap (0-x))*285870213051353865);refine a5.mk _ rfl ?_;refine a5.mk (qR x) rfl ?_;refine qq.mk 58 rfl ?_;have aw:((2:Int)^(min 58 IntKind.u64.bits))=2^58:=by decide
  rw[aw];obtain⟨m3,o5⟩:=aC;have aB:(qR x).fdiv (2^58)=(((qR x).toNat/2^58:Nat):Int):=by rw[E7 _ (by decide)];have:qR x=((qR x).toNat:Int):=(xP m3).symm;omega
  rw[aB];have an:(qR x).toNat/2^58<64:=by have:qR x<18446744073709551616:=o5;omega
  refine cH.mk ((qR x).toNat/2^58) rfl an ?_;refine aF.mk [.int .u8 (aW.getD ((qR x).toNat/2^58) 0)] (ai.rd _ an) ?_;have ah:=ai.at ((qR x).toNat/2^58);refine a5.mk (aW.getD ((qR x).toNat/2^58) 0) (wrap_i64 ⟨by omega,by omega⟩) ?_;refine⟨_,_,.refl,?_,rfl,rfl⟩;simp only[rP,h];rfl
def XG(a b c d:Int):Nat->List Value
 |0=>[.int .u64 (a),.int .u64 (b),.int .u64 (c),.int .u64 (d)]| 1=>[.int .u64 (hN a),.int .u64 (b),.int .u64 (c),.int .u64 (d)]| 2=>[.int .u64 (hN a),.int .u64 (hN b),.int .u64 (c),.int .u64 (d)]| 3=>[.int .u64 (hN a),.int .u64 (hN b),.int .u64 (hN c),.int .u64 (d)]| _=>[.int .u64 (hN a),.int .u64 (hN b),.int .u64 (hN c),.int .u64 (hN d)]
def XH(a b c d:Int):Spec Tryz.prog 290 [.agg #[.int .u64 a,.int .u64 b,.int .u64 c,.int .u64 d]] I [] λr I' M'=>r=.agg #[.int .u64 (hN a),.int .u64 (hN b),.int .u64 (hN c),.int .u64 (hN d)]/\I'=I/\M'=[]:=by
 refine bX [] aV Tryz.func290 rfl rfl rfl ?_;intro B ao;refine dB.inv (ι:=Nat) (λi=>{ bj:=[(1,.ref 1 0),(2,.ref 2 0),(5,.val (.agg #[.int .u64 a,.int .u64 b,.int .u64 c,.int .u64 d])),(6,.val (.int .i64 i))],cl:=[(1,XG a b c d i),(2,[.int .u64 0,.int .u64 0,.int .u64 0,.int .u64 0])],c5:=I }) (λi=>i<=4) (λi=>4-i) ?_ ?_
 ·exact⟨0,by simp,.refl,ew,.cons rfl (.cons rfl .nil)⟩
 ·intro i hi
  match i,hi with
  |0,_=>refine a0.mk (λ_=>?_) (λh=>by simp at h);refine cH.mk 0 rfl (by decide) ?_;refine bl.Ce rfl (by simp) rfl ?_;refine cH.mk 0 rfl (by decide) ?_;refine a5.mk 1 (by decide) ?_;exact⟨1,⟨by simp,by simp⟩,.refl,ew,.cons rfl (.cons rfl .nil)⟩| 1,_=>refine a0.mk (λ_=>?_) (λh=>by simp at h);refine cH.mk 1 rfl (by decide) ?_;refine bl.Ce rfl (by simp) rfl ?_;refine cH.mk 1 rfl (by decide) ?_;refine a5.mk 2 (by decide) ?_;exact⟨2,⟨by simp,by simp⟩,.refl,ew,.cons rfl (.cons rfl .nil)⟩| 2,_=>refine a0.mk (λ_=>?_) (λh=>by simp at h);refine cH.mk 2 rfl (by decide) ?_;refine bl.Ce rfl (by simp) rfl ?_;refine cH.mk 2 rfl (by decide) ?_;refine a5.mk 3 (by decide) ?_;exact⟨3,⟨by simp,by simp⟩,.refl,ew,.cons rfl (.cons rfl .nil)⟩| 3,_=>refine a0.mk (λ_=>?_) (λh=>by simp at h);refine cH.mk 3 rfl (by decide) ?_;refine bl.Ce rfl (by simp) rfl ?_;refine cH.mk 3 rfl (by decide) ?_;refine a5.mk 4 (by decide) ?_;exact⟨4,⟨by simp,by simp⟩,.refl,ew,.cons rfl (.cons rfl .nil)⟩| 4,_=>refine a0.mk (λh=>by simp at h) (λ_=>?_);exact⟨_,_,.refl,rfl,rfl,rfl⟩
def XI:Spec Tryz.prog 273 [] I [] λr I' M'=>r=.agg #[.int .u64 (hN 0),.int .u64 (hN 0),.int .u64 (hN 0),.int .u64 (hN 0)]/\I'=I/\M'=[]:=by refine bX [] aV Tryz.func273 rfl rfl rfl ?_;intro B ao;refine bb.mk [] [] _ (.refl _) (XH 0 0 0 0) ?_;rintro v I' M' -⟨rfl,rfl,rfl⟩;exact⟨_,_,.refl,rfl,rfl,rfl⟩
def s8(I:aS)(b:Nat)(o:Obj):ins I b o b=some o:=by simp[ins]
def pY(ai:I b=none):∀ c p,I c=some p->ins I b o c=some p:=by
 intro c p h;unfold ins;cases e:Nat.beq c b with
 |false=>exact h| true=>have:=cf e;subst this;rw[ai]at h;cases h
def XJ{x y:Int}(ab:eh x)(aN:eh y):Ci x y=((x.toNat &&& y.toNat:Nat):Int):=by
 obtain⟨x,rfl⟩:=oV ab.1;obtain⟨y,rfl⟩:=oV aN.1;have U:x<18446744073709551616:=by have:=ab.2;omega
 have aa:y<18446744073709551616:=by have:=aN.2;omega
 have e:∀ z:Nat,z<18446744073709551616->(BitVec.ofInt 64 (z:Int)).toNat=z:=λz bg=>by rw[BitVec.toNat_ofInt];omega
 unfold Ci;rw[E',e x U,e y aa,Pn]
 ·simp
 ·have:=Nat.and_le_left (n:=x) (m:=y);exact⟨by omega,by omega⟩
def v8(x:Int):Int:=Ci x (IntKind.u64.wrap (x-1))
def x1(n:Nat):Nat:=((List.range 64).filter n.testBit).length
def XK(n:Nat):x1 n<=64:=by have:=Er n.testBit (List.range 64);simpa[x1]using this
def XL{x:Int}(ab:eh x)(ao:x≠0):eh (v8 x)/\x1 (v8 x).toNat<x1 x.toNat:=by
 obtain⟨n,rfl⟩:=oV ab.1;have U:n<18446744073709551616:=by have:=ab.2;omega
 have jX:0<n:=by omega
 have ap:eh ((n:Int)-1):=⟨by omega,by omega⟩;have e:v8 (n:Int)=((n &&& (n-1):Nat):Int):=by unfold v8;rw[Pn ap,XJ ab ap];congr 2;omega
 have bo:n &&& (n-1)<=n-1:=Nat.and_le_right;refine⟨by rw[e];exact⟨by omega,by omega⟩,?_⟩;rw[e];simp only[oz];unfold x1;have kN:List.Sublist ((List.range 64).filter (n &&& (n-1)).testBit) ((List.range 64).filter n.testBit):=by
  have:(List.range 64).filter (n &&& (n-1)).testBit=((List.range 64).filter n.testBit).filter (n-1).testBit:=by rw[List.filter_filter];congr 1;funext i;rw[Nat.testBit_and,Bool.and_comm]
  rw[this];exact List.filter_sublist
 rcases Nat.lt_or_eq_of_le kN.length_le with h | h
 ·exact h
 ·exfalso;have XM:=kN.eq_of_length h;have:n &&& (n-1)=n:=by
   apply Nat.eq_of_testBit_eq;intro i;by_cases hi:i<64
   ·have hm:i∈(List.range 64).filter (n &&& (n-1)).testBit ↔ i∈(List.range 64).filter n.testBit:=by rw[XM]
    simp only[Bt,l3,hi,true_and]at hm;cases U:(n &&& (n-1)).testBit i<;>cases aa:n.testBit i<;>simp_all
   ·have aa:2^64<=2^i:=Nat.pow_le_pow_right (by omega) (by omega);rw[Nat.testBit_lt_two_pow (by omega),Nat.testBit_lt_two_pow (by omega)]
  omega
def byteOf(aW:List Int)(i:Nat)(w:Int):UInt8:=UInt8.ofNat (IntKind.u8.wrap ((i:Int)*64+rP aW w)).toNat
def XN(aW:List Int)(i:Nat)(w:Int):((byteOf aW i w).toNat:Int)=IntKind.u8.wrap ((i:Int)*64+rP aW w):=by have:=wrap_u8 ((i:Int)*64+rP aW w);unfold byteOf;rw[UInt8.toNat_ofNat'];omega
def rQ(aW:List Int)(i:Nat):Nat->Int->List UInt8
 |0,_=>[]| f+1,w=>bif decide (w=0)then []else byteOf aW i w::rQ aW i f (v8 w)
def hr(aW:List Int):Nat->List Int->List UInt8
 |_,[]=>[]| i,w::ws=>rQ aW i 64 w++hr aW (i+1) ws
def Po(aW:List Int)(i:Nat):∀ f w,(rQ aW i f w).length<=f
 |0,_=>by simp[rQ]
 |f+1,w=>by
  unfold rQ;have:=Po aW i f (v8 w);cases decide (w=0)<;>simp
  exact this
def I9(aW:List Int):∀ ws i,(hr aW i ws).length<=64*ws.length
 |[],_=>by simp[hr]
 |w::ws,i=>by have U:=Po aW i 64 w;have aa:=I9 aW ws (i+1);simp only[hr,cU,e1];omega
def qS(l:List UInt8):List (List Value):=l.map λc=>[.int .u8 c.toNat]
def zX(a b c d:Int):List Value:=[.int .u64 a,.int .u64 b,.int .u64 c,.int .u64 d]
def XO(a b c d:Int):Spec Tryz.prog 300 [.agg #[.int .u64 a,.int .u64 b,.int .u64 c,.int .u64 d]] I [] λr I' M'=>∃ g,r=.func (.func 305) #[] #[ptr g]/\I' g=some (.cells (zX a b c d).toArray 49 (0,0))/\(∀ b o,I b=some o->I' b=some o)/\M'=[]:=by refine bX [1] aV Tryz.func300 rfl rfl rfl ?_;intro B ao;refine cz.mk λg aA zU=>?_;exact⟨_,_,.qs rfl (by simp) .refl,g,rfl,s8 ..,pY aA,rfl⟩
def XP(x2:pX I aW){a b c:Int}(s9:∀ x∈[a,b,c,d],eh x)(aA:I g=some (.cells (zX a b c d).toArray 49 (0,0))) :
  Iter Tryz.prog 305 [ptr g] I (qS (hr aW 0 [a,b,c,d])):=by
 intro l R rK v9 dj M0 pZ jY;refine BM [] aV Tryz.func305 rfl rfl rfl ?_;intro B ao;have bs:∀ (cL:aS) (M:List ay),(∀ b o,I b=some o->cL b=some o)->ca cL M ⟨g,0,none⟩ 4 (zX a b c d):=λcL M h=>⟨rfl,_,_,_,.inl (h _ _ aA),rfl,rfl⟩;refine aF.mk _ (bs _ _ pZ) ?_;refine dB.inv (ι:=Nat×Nat×aS×List ay) (λx=>{ bj:=[(0,.val (.func (.yield l) #[] #[])),(5,.val (.agg (zX a b c d).toArray)),(6,.val (.int .i64 x.1))],c5:=x.2.2.1,dv:=x.2.2.2 }) (λx=>x.1<=4/\(∀ b o,I b=some o->x.2.2.1 b=some o)/\R x.2.1 x.2.2.1 x.2.2.2/\x.2.1<=(hr aW 0 [a,b,c,d]).length/\(hr aW 0 [a,b,c,d]).drop x.2.1=hr aW x.1 ([a,b,c,d].drop x.1)) (λx=>4-x.1) ?_ ?_
 ·exact⟨(0,0,dj,M0),⟨by simp,pZ,jY,by simp,rfl⟩,.refl,fZ,.nil⟩
 ·rintro⟨i,k,cL,M1⟩⟨hi,cM,k8,fr,hc⟩;simp only at hi cM k8 fr hc;refine a0.mk (λh=>?_) (λh=>?_)
  ·have aK:i<4:=by simp at h;omega
   have bP:i < [a,b,c,d].length:=aK;refine cH.mk i rfl aK ?_;have zY:pack false ((((zX a b c d).toArray).toList.drop (i*1)).take 1)=.int .u64 [a,b,c,d][i]:=by
    match i,aK with
    |0,_=>rfl| 1,_=>rfl| 2,_=>rfl| 3,_=>rfl
   have ji:[a,b,c,d].drop i=[a,b,c,d][i]::[a,b,c,d].drop (i+1):=fg bP;refine dB.inv (ι:=Int×Nat×Nat×aS×List ay) (λx=>{ bj:=[(0,.val (.func (.yield l) #[] #[])),(3,.val (.int .i64 i)),(4,.val (.int .u64 x.1)),(5,.val (.agg (zX a b c d).toArray)),(6,.val (.int .i64 i))],c5:=x.2.2.2.1,dv:=x.2.2.2.2 }) (λx=>eh x.1/\x1 x.1.toNat<=x.2.1/\(∀ b o,I b=some o->x.2.2.2.1 b=some o)/\R x.2.2.1 x.2.2.2.1 x.2.2.2.2/\x.2.2.1<=(hr aW 0 [a,b,c,d]).length/\(hr aW 0 [a,b,c,d]).drop x.2.2.1=rQ aW i x.2.1 x.1++hr aW (i+1) ([a,b,c,d].drop (i+1))) (λx=>x1 x.1.toNat) ?_ ?_
   ·refine⟨([a,b,c,d][i],64,k,cL,M1),⟨s9 _ (dK bP),XK _,cM,k8,fr,?_⟩,.refl,.cons .refl (.cons .refl (.cons ?_ (vK))),.nil⟩
    ·simp only;rw[hc,ji];rfl
    ·simp only;rw[<-zY];exact .refl
   ·rintro⟨w,f,k,cL,M1⟩⟨hw,az,cM,k8,fr,hc⟩;simp only at hw az cM k8 fr hc;refine a0.mk (λh=>?_) (λh=>?_)
    ·have Fs:w≠0:=by simpa using h
     obtain⟨hs,kO⟩:=XL hw Fs;obtain⟨f,rfl⟩:∃ Cj,f=Cj+1:=⟨f-1,by omega⟩;have ai:rQ aW i (f+1) w=byteOf aW i w::rQ aW i f (v8 w):=by simp[rQ,Fs]
     rw[ai,sY]at hc;have ae:k<(hr aW 0 [a,b,c,d]).length:=by apply Nat.lt_of_not_le;intro bo;rw[ir bo]at hc;cases hc
     have h1:=fg ae;rw[hc]at h1;obtain⟨Ck,fC⟩:=List.cons.inj h1;have p0:k<(qS (hr aW 0 [a,b,c,d])).length:=by simpa[qS]using ae
     have ag:(qS (hr aW 0 [a,b,c,d]))[k]=[.int .u8 (IntKind.u8.wrap ((i:Int)*64+rP aW w))]:=by simp only[qS,lE,<-Ck,XN]
     have Pp:pX cL aW:=by obtain⟨eY,ez,T,aj,ga⟩:=x2;exact⟨eY,ez,T,aj,cM _ _ ga⟩
     have ahV:=XE Pp w;refine a5.mk ((i:Int)*64) (wrap_i64 ⟨by omega,by omega⟩) ?_;refine bb.mk [] M1 _ (.refl _) (XF Pp w) ?_;rintro v I' M' -⟨rfl,rfl,rfl⟩;refine a5.mk ((i:Int)*64+rP aW w) (wrap_i64 ⟨by omega,by omega⟩) ?_;refine a5.mk _ rfl ?_;refine bl.yield rfl (by simp) rfl rfl ?_;have aN:=v9 k p0 I' M1 cM k8;rw[ag]at aN;refine Fa.mk M1 [] _ (by simp) aN ?_;rintro v dP dr ht (⟨rfl,oZ⟩ | ⟨rfl,ab⟩);·refine a0.mk (λh=>by simp at h) (λ_=>?_);refine a5.mk _ rfl ?_;exact⟨(v8 w,f,k+1,dP,dr),⟨⟨hs,by simp only;omega,λb o h=>ht b o (cM b o h),oZ,ae,fC.symm⟩,by simp only;exact kO⟩,.perm (by simp) .refl,g',.nil⟩
     ·refine a0.mk (λ_=>?_) (λh=>by simp at h);exact⟨_,_,.perm (by simp) .refl,.inr ab⟩
    ·have Fs:w=0:=by simpa using h
     have fq:IntKind.i64.wrap ((i:Int)+1)=((i+1:Nat):Int):=by rw[wrap_i64 ⟨by omega,by omega⟩];omega
     refine a5.mk _ fq ?_;have ai:rQ aW i f w=[]:=by cases f<;>simp[rQ,Fs]
     rw[ai,mT]at hc;exact⟨(i+1,k,cL,M1),⟨⟨by simp only;omega,cM,k8,fr,hc⟩,by simp only;omega⟩,.refl,fZ,.nil⟩
  ·have ka:i=4:=by simp at h;omega
   subst ka;refine⟨_,_,.refl,.inl ?_⟩;have nM:(hr aW 0 [a,b,c,d]).drop k=[]:=by rw[hc];rfl
   have x3:k=(qS (hr aW 0 [a,b,c,d])).length:=by have:=II.1 nM;simp only[qS,eX];omega
   rw[<-x3];exact k8
def rR(l:List (UInt8×UInt8))(b:UInt8):List (UInt8×UInt8):=match l.getLast? with
 |some p=>bif decide ((p.2.toNat:Int)+1=b.toNat)then l.dropLast++[(p.1,b)]else l++[(b,b)]| none=>[(b,b)]
def m4(l:List UInt8):List (UInt8×UInt8):=l.foldl rR []
def iv(p:UInt8×UInt8):List Value:=[.int .u8 p.1.toNat,.int .u8 p.2.toNat]
def m5(l:List (UInt8×UInt8)):List Value:=l.flatMap iv
def Ft(l:List (UInt8×UInt8)):(m5 l).length=l.length*2:=hb iv 2 (λ_=>rfl) l
def XQ(l:List (UInt8×UInt8))(b:UInt8):(rR l b).length<=l.length+1:=by
 unfold rR;split
 ·rename_i p h;cases decide ((p.2.toNat:Int)+1=b.toNat)<;>simp
 ·simp
def Pq(l:List UInt8):(m4 l).length<=l.length:=by
 have:∀ (l:List UInt8) (aM:List (UInt8×UInt8)),(l.foldl rR aM).length<=aM.length+l.length:=by
  intro l
  induction l with
  |nil=>intro aM;simp| cons b l be=>intro aM;have U:=be (rR aM b);have aa:=XQ aM b;simp only[uc,e1];omega
 simpa[m4]using this l []
def v':((⟨b,0,none⟩:Addr).add i).add j=(⟨b,0,none⟩:Addr).add (i+j):=by rw[dS ⟨_,0,none⟩ rfl i,dS _ rfl j,dS _ rfl (i+j)];simp
def k9{M:List ay}{cs:List Value}(a4:(⟨b,.cells cs.toArray T (0,0)⟩:ay)∈M)(h:cs[i+j]?=some v):ca I M (((⟨b,0,none⟩:Addr).add i).add j) 1 [v]:=by obtain⟨ar,rfl⟩:=iI.1 h;have:=dn (I:=I) a4 (k:=i+j) (n:=1) (by omega);rw[fg ar,qI,pR]at this;rw[v'];exact this
def Pr(a6:List Value)(u v z:Value)(a2:List Value)(k:Nat)(ae:k=a6.length+1):bu (a6++([u,v]++a2)) k [z]=a6++([u,z]++a2):=by
 subst ae;unfold bu;have aw:(a6++([u,v]++a2)).take (a6.length+1)=a6++[u]:=by rw[show a6++([u,v]++a2)=(a6++[u])++(v::a2)from by simp];exact qJ (by simp)
 have aB:(a6++([u,v]++a2)).drop (a6.length+1+[z].length)=a2:=by rw[show a6++([u,v]++a2)=(a6++[u,v])++a2 from by simp];exact B0 (by simp)
 rw[aw,aB];simp
def Ja{os:bk}{bd:List (UInt8×UInt8)}{x:UInt8}(ep:os.ok 2 (m5 bd)){aJ:List Value}(U:aJ.length=c*2)(aa:os.n+1<=c)(af:c<=maxLen)(aR:aJ.take ((os.n+1)*2)=m5 bd++iv (x,x)) :
  bk.ok ⟨some g,os.n+1,c,aJ⟩ 2 (m5 (bd++[(x,x)])):=by
 have Cl:m5 (bd++[(x,x)])=m5 bd++iv (x,x):=by simp[m5]
 have ar:=ep.len;refine⟨?_,(λh=>by cases h),λbG ml=>⟨U,aa,af,by rw[Cl];exact aR⟩⟩;rw[Cl,cU,ar];simp[iv];omega
def XR(l:List UInt8)(x:UInt8):m4 (l++[x])=rR (m4 l) x:=by simp[m4]
def XS(x2:pX I aW){a b c:Int}(s9:∀ x∈[a,b,c,d],eh x):Spec Tryz.prog 293 [.agg #[.int .u64 a,.int .u64 b,.int .u64 c,.int .u64 d]] I []
  λr I' M'=>(∀ b o,I b=some o->I' b=some o)/\∃ os:bk,r=os.val/\os.ok 2 (m5 (m4 (hr aW 0 [a,b,c,d])))/\M'=os.aY 386:=by
 refine bX [3] aV Tryz.func293 rfl rfl rfl ?_;intro B ao;refine cz.mk λg aA zU=>?_;refine bb.mk [] [⟨g,.cells #[.slice none 0 0] 384 (0,0)⟩] _ (.refl _) (XO a b c d) ?_;rintro v cL M1 -⟨aT,rfl,kj,cM,rfl⟩;have XT:pX cL aW:=by obtain⟨eY,ez,T,aj,ga⟩:=x2;exact⟨eY,ez,T,aj,cM _ _ ga⟩
 have c7:=I9 aW [a,b,c,d] 0;refine cW.range aV rfl rfl rfl .refl (XP XT s9 kj) (λvs h=>?_) (λk I' M'=>(∀ b o,cL b=some o->I' b=some o)/\∃ os:bk,os.ok 2 (m5 (m4 ((hr aW 0 [a,b,c,d]).take k)))/\M'=⟨g,.cells #[os.val] 384 (0,0)⟩::os.aY 386) (λ_ _ _=>False) ⟨λ_ _ h=>h,⟨none,0,0,[]⟩,⟨rfl,λ_=>⟨rfl,rfl⟩,λg h=>by cases h⟩,rfl⟩ ?_ ?_ (λ_ _ _ _ h=>h.elim)
 ·obtain⟨c,_,rfl⟩:=ej.1 h;rfl
 ·rintro k ae I' M' -⟨o6,os,ep,rfl⟩l B ao hp;have zZ:k<(hr aW 0 [a,b,c,d]).length:=by simpa[qS]using ae
  generalize ahW:hr aW 0 [a,b,c,d]=L at *;generalize ab:L[k]=x;have ag:(qS L)[k]=[.int .u8 x.toNat]:=by simp[qS,ab]
  rw[ag];have nT:m4 (L.take (k+1))=rR (m4 (L.take k)) x:=by rw[hU zZ,ab,XR]
  rw[nT];have gx:(m4 (L.take k)).length<=256:=by have U:=Pq (L.take k);have aa:=zH k L;simp only[e1,jh]at c7;omega
  generalize qC:m4 (L.take k)=bd at *;have kP:=x.toNat_lt;obtain⟨x4,n,er,aJ⟩:=os;have ax:bd.length=n:=by have:=ep.len;rw[Ft]at this;simp only at this;omega
  cases x4 with
  |none=>
   obtain⟨aw,aB⟩:=ep.nil rfl;simp only at aw aB;subst aw;subst aB;have pU:bd=[]:=l' ax;have lL:rR bd x=bd++[(x,x)]:=by rw[pU];rfl
   refine aF.mk [.slice none 0 0] (dn (cs:=[.slice none 0 0]) (k:=0) (n:=1) (T:=384) (.head _) (by simp)) ?_;refine a5.mk (-1) (by decide) ?_;refine cB.mk (λh=>by simp at h) (λ_=>?_);refine aF.mk [.slice none 0 0] (dn (cs:=[.slice none 0 0]) (k:=0) (n:=1) (T:=384) (.head _) (by simp)) ?_;refine cz.mk λaU jj Ps=>?_;refine bl.append aV rfl (by simp) (e:=386) rfl rfl rfl (⟨none,0,0,aJ⟩:bk) ep rfl (m:=1) rfl (ct:=iv (x,x)) (by decide) (dn (cs:=iv (x,x)) (k:=0) (n:=2) (T:=386) (.head _) (by simp[iv])) rfl (Mr:=[⟨aU,.cells (iv (x,x)).toArray 386 (0,0)⟩,⟨g,.cells #[.slice none 0 0] 384 (0,0)⟩]) (ha (l₁:=[_,_])) (by simp only[maxLen];omega) (by show(_+1)*2<=_;simp only;omega) ?_;intro dD c' iw eY ez ga jk;refine cg.mk [⟨dD,.cells iw.toArray 386 (0,0)⟩,⟨aU,.cells (iv (x,x)).toArray 386 (0,0)⟩] [] _ _ rfl rfl (bJ rfl) rfl ?_;refine⟨_,_,.perm (M1:=[⟨aU,.cells (iv (x,x)).toArray 386 (0,0)⟩]++(⟨g,.cells #[bk.val ⟨some dD,(⟨none,0,0,aJ⟩:bk).n+1,c',iw⟩] 384 (0,0)⟩::bk.aY ⟨some dD,(⟨none,0,0,aJ⟩:bk).n+1,c',iw⟩ 386)) (ha (l₁:=[_]) (l₂:=[_,_])) (.sub (kH _ _) .refl),o6,⟨some dD,(⟨none,0,0,aJ⟩:bk).n+1,c',iw⟩,?_,rfl⟩;rw[lL];exact Ja ep eY ez ga jk
  |some cu=>
   obtain⟨e3,lI,kK,iP⟩:=ep.cap cu rfl;simp only at e3 lI kK iP;refine aF.mk [.slice (some ⟨cu,0,none⟩) n er] (dn (cs:=[.slice (some ⟨cu,0,none⟩) n er]) (k:=0) (n:=1) (T:=384) (.head _) (by simp)) ?_;refine a5.mk ((n:Int)-1) (wrap_i64 ⟨by omega,by omega⟩) ?_;refine cB.mk (λU=>?_) (λU=>?_)
   ·have jX:1<=n:=by simp at U;omega
    obtain⟨rS,p,rfl⟩:∃ rS p,bd=rS++[p]:=by
     rcases List.eq_nil_or_concat bd with h | ⟨r,p,h⟩;·subst h;simp at ax;omega
     ·exact⟨r,p,by simpa using h⟩
    have lH:rS.length=n-1:=by simp at ax;omega
    have hv:(m5 rS).length=(n-1)*2:=by rw[Ft,lH]
    obtain⟨a2,k'⟩:∃ a2,aJ=m5 rS++([.int .u8 p.1.toNat,.int .u8 p.2.toNat]++a2):=by refine⟨aJ.drop (n*2),?_⟩;have aa:=uB (n*2) aJ;rw[iP]at aa;rw[<-aa,B0 (by rw[Ft,ax])];simp[m5,iv]
    have jl:aJ[(n-1)*2+1*1]?=some (.int .u8 p.2.toNat):=by rw[k',<-hv,mS (by omega)];simp
    have x5:=p.2.toNat_lt;refine aF.mk [.slice (some ⟨cu,0,none⟩) n er] (dn (cs:=[.slice (some ⟨cu,0,none⟩) n er]) (k:=0) (n:=1) (T:=384) (.head _) (by simp)) ?_;refine bc.mk ⟨cu,0,none⟩ (n-1) rfl (by omega) (by omega) ?_;refine cH.mk 1 rfl (by decide) ?_;refine aF.mk [.int .u8 p.2.toNat] (k9 (b:=cu) (cs:=aJ) (T:=386) (by simp[bk.aY]) jl) ?_;refine a5.mk (p.2.toNat:Int) (wrap_i64 ⟨by omega,by omega⟩) ?_;refine a5.mk ((p.2.toNat:Int)+1) (wrap_i64 ⟨by omega,by omega⟩) ?_;refine a5.mk (x.toNat:Int) (wrap_i64 ⟨by omega,by omega⟩) ?_;have lL:rR (rS++[p]) x=bif decide ((p.2.toNat:Int)+1=x.toNat)then rS++[(p.1,x)]else rS++[p]++[(x,x)]:=by simp[rR]
    refine a0.mk (λaa=>?_) (λaa=>?_)
    ·rw[aa]at lL;refine aF.mk [.slice (some ⟨cu,0,none⟩) n er] (dn (cs:=[.slice (some ⟨cu,0,none⟩) n er]) (k:=0) (n:=1) (T:=384) (.head _) (by simp)) ?_;refine bc.mk ⟨cu,0,none⟩ (n-1) rfl (by omega) (by omega) ?_;refine cH.mk 1 rfl (by decide) ?_;rw[v'];refine cg.add [⟨g,.cells #[.slice (some ⟨cu,0,none⟩) n er] 384 (0,0)⟩] [] aJ.toArray _ rfl ?_ rfl ?_
     ·simp only[rs];show 0+((n-1)*2+1)+1<=_;omega
     ·refine⟨_,_,.refl,o6,⟨some cu,n,er,bu aJ (0+((n-1)*2+1*1)) [.int .u8 x.toNat]⟩,?_,rfl⟩;have b0:bu aJ (0+((n-1)*2+1*1)) [.int .u8 x.toNat]=m5 rS++([.int .u8 p.1.toNat,.int .u8 x.toNat]++a2):=by rw[k'];exact Pr _ _ _ _ _ _ (by omega)
      rw[lL,b0];have Cl:m5 (rS++[(p.1,x)])=m5 rS++[.int .u8 p.1.toNat,.int .u8 x.toNat]:=by simp[m5,iv]
      refine⟨?_,(λh=>by cases h),λbG ml=>⟨?_,lI,kK,?_⟩⟩;·simp only[bh];rw[Cl,cU,hv];simp;omega
      ·simp only;rw[<-e3,k'];simp
      ·simp only[bh];rw[Cl,<-gl];refine qJ ?_;rw[cU,hv];simp;omega
    ·rw[aa]at lL;simp only[ba]at lL;refine aF.mk [.slice (some ⟨cu,0,none⟩) n er] (dn (cs:=[.slice (some ⟨cu,0,none⟩) n er]) (k:=0) (n:=1) (T:=384) (.head _) (by simp)) ?_;refine cz.mk λaU jj Ps=>?_;refine bl.append aV rfl (by simp) (e:=386) rfl rfl rfl (⟨some cu,n,er,aJ⟩:bk) ep rfl (m:=1) rfl (ct:=iv (x,x)) (by decide) (dn (cs:=iv (x,x)) (k:=0) (n:=2) (T:=386) (.head _) (by simp[iv])) rfl (Mr:=[⟨aU,.cells (iv (x,x)).toArray 386 (0,0)⟩,⟨g,.cells #[.slice (some ⟨cu,0,none⟩) n er] 384 (0,0)⟩]) (ha (l₁:=[_,_])) (by simp only[maxLen];omega) (by show(_+1)*2<=_;simp only;omega) ?_;intro dD c' iw eY ez ga jk;refine cg.mk [⟨dD,.cells iw.toArray 386 (0,0)⟩,⟨aU,.cells (iv (x,x)).toArray 386 (0,0)⟩] [] _ _ rfl rfl (bJ rfl) rfl ?_;refine⟨_,_,.perm (M1:=[⟨aU,.cells (iv (x,x)).toArray 386 (0,0)⟩]++(⟨g,.cells #[bk.val ⟨some dD,(⟨some cu,n,er,aJ⟩:bk).n+1,c',iw⟩] 384 (0,0)⟩::bk.aY ⟨some dD,(⟨some cu,n,er,aJ⟩:bk).n+1,c',iw⟩ 386)) (ha (l₁:=[_]) (l₂:=[_,_])) (.sub (kH _ _) .refl),o6,⟨some dD,(⟨some cu,n,er,aJ⟩:bk).n+1,c',iw⟩,?_,rfl⟩;rw[lL];exact Ja ep eY ez ga jk
   ·have lH:n=0:=by simp at U;omega
    have pU:bd=[]:=l' (by omega);have lL:rR bd x=bd++[(x,x)]:=by rw[pU];rfl
    refine aF.mk [.slice (some ⟨cu,0,none⟩) n er] (dn (cs:=[.slice (some ⟨cu,0,none⟩) n er]) (k:=0) (n:=1) (T:=384) (.head _) (by simp)) ?_;refine cz.mk λaU jj Ps=>?_;refine bl.append aV rfl (by simp) (e:=386) rfl rfl rfl (⟨some cu,n,er,aJ⟩:bk) ep rfl (m:=1) rfl (ct:=iv (x,x)) (by decide) (dn (cs:=iv (x,x)) (k:=0) (n:=2) (T:=386) (.head _) (by simp[iv])) rfl (Mr:=[⟨aU,.cells (iv (x,x)).toArray 386 (0,0)⟩,⟨g,.cells #[.slice (some ⟨cu,0,none⟩) n er] 384 (0,0)⟩]) (ha (l₁:=[_,_])) (by simp only[maxLen];omega) (by show(_+1)*2<=_;simp only;omega) ?_;intro dD c' iw eY ez ga jk;refine cg.mk [⟨dD,.cells iw.toArray 386 (0,0)⟩,⟨aU,.cells (iv (x,x)).toArray 386 (0,0)⟩] [] _ _ rfl rfl (bJ rfl) rfl ?_;refine⟨_,_,.perm (M1:=[⟨aU,.cells (iv (x,x)).toArray 386 (0,0)⟩]++(⟨g,.cells #[bk.val ⟨some dD,(⟨some cu,n,er,aJ⟩:bk).n+1,c',iw⟩] 384 (0,0)⟩::bk.aY ⟨some dD,(⟨some cu,n,er,aJ⟩:bk).n+1,c',iw⟩ 386)) (ha (l₁:=[_]) (l₂:=[_,_])) (.sub (kH _ _) .refl),o6,⟨some dD,(⟨some cu,n,er,aJ⟩:bk).n+1,c',iw⟩,?_,rfl⟩;rw[lL];exact Ja ep eY ez ga jk
 ·rintro I' M' -⟨o6,os,ep,rfl⟩;refine aF.mk [os.val] (dn (cs:=[os.val]) (k:=0) (n:=1) (T:=384) (.head _) (by simp)) ?_;refine⟨_,_,.sub (List.sublist_cons_self _ _) .refl,λb o h=>o6 _ _ (cM _ _ h),os,rfl,?_,rfl⟩;have:(hr aW 0 [a,b,c,d]).take (qS (hr aW 0 [a,b,c,d])).length=hr aW 0 [a,b,c,d]:=hn (by simp[qS]);rw[this]at ep;exact ep
end Go.V
