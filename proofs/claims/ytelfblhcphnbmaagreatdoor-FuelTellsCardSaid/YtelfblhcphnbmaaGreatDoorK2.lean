/- Part 2 of what the proofs of this seat share: the executor, data in memory, walks.
-/
import Derived.Test.YtelfblhcphnbmaaGreatDoorK1
import Derived.Lib.UnsafeStr
import Derived.Test.YtelfblhcphnbmaaGreatDoorProg
import Derived.KernelRfl
import Derived.Lib.Builder
import Derived.Lib.Bytealg
import Derived.Laws.Pointers
import Derived.Laws.StructEq
set_option linter.all false
set_option maxHeartbeats 4000000
namespace Go.V
open Go
def ck:=@List.length_append
def cO:=@List.getElem_mem
def dJ:=@List.nil_sublist
def gu:=@List.getElem?_eq_getElem
def f':=@List.perm_append_comm
def gv:=@List.take_of_length_le
def ei:=@List.length_map
def hc:=@List.drop_eq_nil_of_le
def eY:=@List.length_nil
def dK:=@Nat.zero_add
def fN:=@List.append_assoc
def fo:=@List.append_nil
def jf:=@Int.eq_ofNat_of_zero_le
def lV:=@List.eq_nil_of_length_eq_zero
def mA:=@List.sublist_append_right
def ng:=@List.getElem?_append_right
def mB:=@decide_eq_false_iff_not
def lq:=@Bool.or_eq_false_iff
def lr:=@List.flatMap_append
def jJ:=@List.getElem_map
def oe:=@List.take_succ_cons
def mC:=@List.getElem?_set
def hD:=@Nat.mul_one
def og:=@List.flatMap_cons
def nh:=@List.length_take
def jg:=@Nat.add_mul
def nj:=@List.nil_append
def nk:=@Bool.false_and
def p7:=@List.cons_append
def uR:=@List.take_append_drop
def nl:=@Bool.true_and
def oh:=@List.sum_cons
def q':=@List.take_left'
def p8:=@List.take_zero
def CM:=@Array.eq_empty_of_size_eq_zero
def x':=@List.getElem_cons_zero
def tc:=@List.map_toArray
def CN:=@List.take_append_of_le_length
def nm:=@Nat.one_mul
def pi:=@List.map_nil
def Gi:=@List.set_eq_take_append_cons_drop
def Aq:=@World.putObj_heap_same
def ya:=@Array.length_toList
def yb:=@Int.toNat_of_nonneg
def td:=@List.drop_zero
def J1:=@Std.Legacy.Range.forIn_eq_forIn_range'
def wh:=@List.length_drop
def wi:=@List.ext_getElem
def Ar:=@List.map_congr_left
def As:=@List.length_take_le
def CO:=@List.getElem_cons_succ
def CP:=@ByteArray.size_extract
def Gj:=@Int.fdiv_eq_ediv_of_nonneg
def yc:=@List.drop_take
def yd:=@List.drop_drop
def ye:=@List.take_take
def J2:=@List.getElem?_concat_length
def Gk:=@List.length_replicate
def Gl:=@List.drop_eq_nil_iff
def Gm:=@List.map_replicate
def J3:=@Nat.testBit_lt_two_pow
def Gn:=@List.ext_getElem?
def At:=@Nat.zero_mul
def J4:=@List.eq_nil_or_concat
def Gp:=@List.getElem_set
def Gq:=@BitVec.toNat_and
def J5:=@Nat.pow_le_pow_right
def P3:=@List.drop_length_add_append
def Gr:=@List.take_left
def P4:=@Lib.run_firstCells_string
def CQ:=@Nat.mul_add
def J6:=@List.forIn_cons
def Gs:=@List.set_set
def J7:=@List.drop_left'
variable{P:Program}{a sa:Option Addr}{w:World}{c g m t u e c' b rU it T size j i eB:Nat}{X:cx}{F:Fr}{C:c7}{I I':aN}{K:List aC->Prop}{o:Obj}{f x s y:Operand}{vs xs news:List Value}{mD:TypeDesc}{c9 lW aF:dH}{te p v:Value}{Mr:List aC}{ad:Addr}{k:IntKind}{other:Prop}{cs:Array Value}{α:Type}{deb:List Int}{d:Int}
def P5{p2:Fence}{n:Nat}{Q:Exit->Act->World->Prop}{a:Act}{c:Code}(J:Nat->Nat->Act->World->Prop)
  (first:c.wpIn p2 n P (λe bF w'=>match e with
   | .goto l=>∃ m,J l m bF w'| e=>Q e bF w') a w)
  (pass:∀ l m a w,J l m a w->∃ rest,findLabel c l=some rest/\rest.wpIn p2 n P (λe bF w'=>match e with
   | .goto cU=>∃ m',m'<m/\J cU m' bF w'| e=>Q e bF w') a w):(Code.scope c).wpIn p2 n P Q a w:=by
 intro b k cs kp af an;have eh:step P (lone (b.atR a (.code (.scope c)::k)) cs w)=.next (lone (b.atR a (.code c::.inScope c::k)) cs w):=
  step_lone_go (by simp[stepG,stepG.exec,Frame.atR])
 have s1:∀ a w,step P (lone (b.atR a (.inScope c::k)) cs w)=.next (lone (b.atR a k) cs w):=λa w=>
  step_lone_go (by simp[stepG,stepG.exec,Frame.atR])
 have ab:∀ id,exitTo id (.inScope c::k)=exitTo id k:=λid=>by simp[exitTo]
 have fin:∀ {m:Machine} {e:Exit} {iu:Act} {iv:World},(∀ l,e≠.goto l)->ArrivesIn (Machine.fenced P p2) P m b (.inScope c::k) cs e iu iv->ArrivesIn (Machine.fenced P p2) P m b k cs e iu iv:=by
  intro m e iu iv bk hB;cases e with
  |normal=>exact StepsIn.trans hB (.one (fenced_calm af an rfl) (s1 _ _))| exit id=>exact⟨λcd ae=>hB.1 cd (by rw[ab];exact ae),λfH ae=>hB.2 fH (by rw[ab];exact ae)⟩| goto l=>exact(bk l rfl).elim| ret=>exact hB| panic sZ=>exact hB| outgrown=>exact hB
 have key:∀ m l a w,J l m a w->∀ rest,findLabel c l=some rest->∃ e bF w',Q e bF w'/\ArrivesIn (Machine.fenced P p2) P (lone (b.atR a (.code rest::.inScope c::k)) cs w) b k cs e bF w':=by
  intro m
  induction m using Nat.strongRecOn with
  |_ m a2=>
   intro l a w bO rest tf;obtain⟨Au,aw,hw⟩:=pass l m a w bO;rw[tf]at aw;cases aw;obtain⟨e,iu,iv,aE,hB⟩:=hw b (.inScope c::k) cs kp af an;cases e with
   |goto cU=>
    obtain⟨m',aL,CR⟩:=aE;obtain⟨Au,wj,_⟩:=pass cU m' iu iv CR;have ar:gotoIn cU (.inScope c::k)=some (.code Au::.inScope c::k):=by simp[gotoIn,wj]
    obtain⟨Cu,Cv,Cw,Cx,Cy⟩:=a2 m' aL cU iu iv CR Au wj;exact⟨Cu,Cv,Cw,Cx,.of_steps (hB.1 _ ar) Cy⟩
   |normal=>exact⟨_,iu,iv,aE,fin (by simp) hB⟩| exit id=>exact⟨_,iu,iv,aE,fin (by simp) hB⟩| ret=>exact⟨_,iu,iv,aE,fin (by simp) hB⟩| panic sZ=>exact⟨_,iu,iv,aE,fin (by simp) hB⟩| outgrown=>exact⟨_,iu,iv,aE,fin (by simp) hB⟩
 have aq:(lone (b.atR a (.code (.scope c)::k)) cs w).fenced P p2:=fenced_calm af an rfl;obtain⟨e,iu,iv,aE,hB⟩:=first b (.inScope c::k) cs kp af an
 cases e with
 |goto cU=>
  obtain⟨m',CR⟩:=aE;obtain⟨Au,wj,_⟩:=pass cU m' iu iv CR;have ar:gotoIn cU (.inScope c::k)=some (.code Au::.inScope c::k):=by simp[gotoIn,wj]
  obtain⟨Cu,Cv,Cw,Cx,Cy⟩:=key m' cU iu iv CR Au wj;exact⟨Cu,Cv,Cw,Cx,.of_steps (.head aq eh (hB.1 _ ar)) Cy⟩
 |normal=>exact⟨_,iu,iv,aE,.of_steps (.one aq eh) (fin (by simp) hB)⟩| exit id=>exact⟨_,iu,iv,aE,.of_steps (.one aq eh) (fin (by simp) hB)⟩| ret=>exact⟨_,iu,iv,aE,.of_steps (.one aq eh) (fin (by simp) hB)⟩| panic sZ=>exact⟨_,iu,iv,aE,.of_steps (.one aq eh) (fin (by simp) hB)⟩| outgrown=>exact⟨_,iu,iv,aE,.of_steps (.one aq eh) (fin (by simp) hB)⟩
def J8(N:Nat->fG)(K:ko):ko
 | .goto l=>N l| e=>K e
def cL.scope{c:Code}{M:List aC}{K:ko}(aH:cB X.P X.E)(bb:codeOk X.n c=true){ι:Type}(aB:ι->x6)(tg:ι->Nat)(inv:ι->Prop)(μ:ι->Nat)(rest:Nat->Code)(tf:∀ i,inv i->findLabel c (tg i)=some (rest (tg i))/\codeOk X.n (rest (tg i))=true)(first:V X c F C I M (J8 (λl=>q3 X.bP aB λj=>inv j/\tg j=l) K))(pass:∀ i,inv i->V X (rest (tg i)) (q0 (aB i).bA) (q1 (aB i).cl) (aB i).cj (aB i).dx (J8 (λl=>q3 X.bP aB λj=>(inv j/\tg j=l)/\μ j<μ i) K)) :
  cL X (.scope c) F C I M K:=by
 refine⟨λa w aZ=>?_⟩;let J (l m:Nat) (a:Act) (w:World):Prop:=∃ i,inv i/\tg i=l/\μ i=m/\Rel X a w (q0 (aB i).bA) (q1 (aB i).cl) (aB i).cj (aB i).dx
 have v9:∀ {p:ι->Prop} {l:Nat} {a w},(∀ i,p i->inv i/\tg i=l)->Sat X (q3 X.bP aB p) a w->∃ i,p i/\J l (μ i) a w:=by rintro p l a w aO⟨F,C,I,M,⟨β,an⟩,⟨j,rQ,hw,cS,fc⟩⟩;exact⟨j,rQ,j,(aO j rQ).1,(aO j rQ).2,rfl,β,(an.base cS fc).hA hw⟩
 refine P5 J (wpIn_mono (o9 aH c bb aZ first) ?_) ?_
 ·intro e a w h;cases e with
  |goto l=>obtain⟨j,al,bO⟩:=v9 (p:=λj=>inv j/\tg j=l) (l:=l) (λ_ h=>h) h;exact⟨_,bO⟩
  |_=>exact h
 ·rintro l m a w⟨i,hi,rfl,rfl,an⟩;obtain⟨U,aa⟩:=tf i hi;refine⟨_,U,wpIn_mono (o9 aH _ aa an (pass i hi)) ?_⟩;intro e a w h;cases e with
  |goto cU=>obtain⟨j,al,bO⟩:=v9 (p:=λj=>(inv j/\tg j=cU)/\μ j<μ i) (l:=cU) (λ_ h=>h.1) h;exact⟨_,al.2,bO⟩
  |_=>exact h
def CS(P:Program)(l:Nat)(args:List Value)(I:aN)(M:List aC)(post:Value->aN->List aC->Prop):Prop:=
 ∀ w,dU I M w->∃ f tmps assign body,(Instr.yield l args.toArray).run P w=.ok (.round l f tmps assign body) w /\ RoundIn Fence.wide 0 P l f tmps assign body w λe w'=>∃ v I' M',e=.returned v/\post v I' M'/\dU I' M' w'/\Kept I M w I' M' w'
inductive CT(P:Program)(l:Nat)(args:List Value)(I:aN)(M:List aC)(K:Value->aN->List aC->Prop):Prop
 |mk(c4 Mr:List aC)(post:Value->aN->List aC->Prop)(a7:M.Perm (c4++Mr))(ao:CS P l args I c4 post)(k:∀ v I' M',(∀ b o,I b=some o->I' b=some o)->post v I' M'->K v I' (M'++Mr))
def be.yield{o:Oper}{M:List aC}{K:fG}{args:Array Operand}{ts:Array TypeId}{l:Nat}(ap:o.op=.call { callee:=.value f,args,argTypes:=ts })(ai:∀ d,o.dst=some d->d<X.n)(aw:bm F f=.val (.func (.yield l) #[] #[]))(hn:kL F args.toList=some vs)
  (h:CT X.P l vs I M λv I' M'=>K (put o.dst (.val v) F) C I' M'):be X o F C I M K:=by
 refine⟨λa w Q ⟨β,aZ⟩=>?_⟩;obtain⟨c4,Mr,post,a7,ao,ae⟩:=h;obtain⟨fn,tmps,assign,body,aG,an⟩:=ao w (aZ.holds.part a7);have ax:=qY aZ.aj hn;have dy:args.map a.eval=vs.toArray:=by apply fV;simpa using ax
 have az:=cZ aZ.aj aw;obtain⟨dst,op,ty,pos,after,guard⟩:=o;simp only at ap;subst ap;refine⟨λ_ _=>trivial,?_⟩;rw[FI _ _ _ (by simp)];have fb:(execOp a.eval ⟨dst,.call { callee:=.value f,args,argTypes:=ts },ty,pos,after,guard⟩).run X.P w=.ok (.round l fn tmps assign body) w:=by simp only[execOp,resolve,az,Deferred.ofValue,bM,cy,bx,dy,invoke];simpa using aG
 rw[fb,Oper.uponIn_round];refine⟨(λh=>by cases h),?_⟩;have fH:RoundIn (fW X) (0-1) X.P l fn tmps assign body w _:=an;refine fH.mono ?_;rintro e w'⟨v,I',M',rfl,aO,o5,fl⟩;exact⟨_,_,_,_,⟨β,(aZ.after a7 o5 fl).put (x:=.val v) ai rfl⟩,ae v I' M' fl.le aO⟩
def Iter(P:Program)(g:Nat)(cap:List Value)(I:aN)(np:List (List Value)):Prop:=
 ∀ (l:Nat) (R:Nat->aN->List aC->Prop) (ra:aN->List aC->Prop),(∀ k (ae:k<np.length) I' M',(∀ b o,I b=some o->I' b=some o)->R k I' M'->CS P l np[k] I' M' λv CU lX=>(v=.bool true/\R (k+1) CU lX)\/(v=.bool false/\ra CU lX)) -> ∀ dd M0,(∀ b o,I b=some o->dd b=some o)->R 0 dd M0->uD P g (.func (.yield l) #[] #[]::cap) dd M0 λ_ I' M'=>R np.length I' M'\/ra I' M'
def CV:List Nat->List Value->Fr->Fr
 |t::ps,v::vs,F=>CV ps vs (fL F t (.val v))| _,_,F=>F
def Y5(bP:List Nat)(N:aN->List aC->Prop)(ra:q2->aN->List aC->Prop):ko:=λex F C I M=>match ex with
 | .normal=>s0 bP I M N| ex=>s0 bP I M (ra ex)
def Av:q2->Option Code
 | .normal=>none| .exit id=>some (.exit id)| .goto l=>some (.goto l)| .ret=>some .ret
section
variable{X:cx}{β:Nat->Nat}{a:Act}{w:World}{F:Fr}{C:c7}{I:aN}{M:List aC}
def P6:∀ (ps:List Nat) (vs:List Value) (F:Fr) (tmps:Array Value),(∀ t∈ps,t<tmps.size)->(∀ t,dV β (F t) (tmps.getD t undef)) ->
  let r:=(ps.zip vs).foldl (λ(tmps:Array Value) (p:Nat×Value)=>tmps.setIfInBounds p.1 p.2) tmps
  r.size=tmps.size/\∀ t,dV β (CV ps vs F t) (r.getD t undef)
 |[],vs,F,tmps,_,h=>⟨rfl,h⟩| t::ps,[],F,tmps,_,h=>⟨rfl,h⟩
 |t::ps,v::vs,F,tmps,aO,h=>by
  have U:∀ s,dV β (fL F t (.val v) s) ((tmps.setIfInBounds t v).getD s undef):=λs=>by have:=Jz (β:=β) (F:=F) (a:=⟨tmps,[]⟩) h (d:=t) (x:=.val v) (v:=v) (aO t (by simp)) rfl s;exact this
  have a2:=P6 ps vs (fL F t (.val v)) (tmps.setIfInBounds t v) (λs ao=>by simpa using aO s (by simp[ao])) U;simp only[List.zip_cons_cons,Cf,CV];exact⟨by simpa using a2.1,a2.2⟩
def cc.P7(h:cc X β a w F C I M):cc X β { a with defers:=uF w.heap.size::a.defers } (w.alloc (.deferred (some []))) F C I M where
 size:=h.size
 defers:=by
  obtain⟨aU,U,aa,ag⟩:=h.defers;refine⟨w.heap.size::aU,by simp[U],?_,?_⟩;·rw[lg];refine⟨λhm=>?_,aa⟩;have:=(kg.1 (ag _ hm).at_).1;omega
  ·intro r an;rcases dE.1 an with rfl | an
   ·exact⟨Jx w _,h.sz,h.holds.p1,h.holds.o4⟩
   ·exact(ag r an).alloc _
 holds:=h.holds.alloc _
 aj:=h.aj
 bX s cs ao:=(h.bX s cs ao).alloc _
 inj:=h.inj
 g3:=h.g3
 gF:=h.gF
 own:=h.own
 cY:=JB h.cY h.sz _
 out:=h.out
 sz:=by have:=h.sz;simp;omega
def cc.CW{n:Nat}{o':Obj}(h:cc X β a w F C I (⟨n,o⟩::M)):cc X β a (w.putObj n o') F C I M:=by
 have e':(⟨n,o⟩:aC)∈(⟨n,o⟩:aC)::M:=by simp
 have cf:=h.holds.bS;simp only[dA,lg]at cf;exact {
  size:=h.size
  defers:=h.defers.mono λr an=>by have bk:n≠r:=an.dY _ e';refine { an with at_:=?_,dY:=λx ab=>an.dY x (by simp[ab]) };rw[lf (qT bk)];exact an.at_
  holds:={
   i:=λb o im=>by rw[lf (λe=>by have:=h.holds.d _ e';simp only at this;rw[e,this]at im;cases im)];exact h.holds.i b o im
   m:=λx ab=>by rw[lf (λe=>cf.1 (du.2 ⟨x,ab,e⟩))];exact h.holds.m x (by simp[ab])
   d:=λx ab=>h.holds.d x (by simp[ab])
   bS:=cf.2 }
  aj:=h.aj
  bX:=λs cs ao=>by have af:=h.bX s cs ao;have bk:n≠β s:=af.dY _ e';obtain⟨T,br⟩:=af.at_;refine { af with at_:=⟨T,?_⟩,dY:=λx ab=>af.dY x (by simp[ab]) };rw[lf (qT bk)];exact br
  inj:=h.inj
  g3:=h.g3
  gF:=h.gF
  own:=λx ab=>h.own x (by simp[ab])
  cY:=λb af aw=>by
   rw[lf (λe=>by
    rcases h.own _ e' with U | U;·simp only at U;exact aw (e ▸ U)
    ·simp only at U;omega)]
   exact h.cY b af aw
  out:=h.out.trans (FO _ _ _)
  sz:=by have:=h.sz;simpa using this }
def cL.range{K:ko}{ps:Array Nat}{eC body:Code}{cap:Array Value}{np:List (List Value)}(aH:cB X.P X.E)(kp:X.ro=none)(bb:(codeOk X.n eC&&(codeOk X.n body&&ps.toList.all (λt=>Nat.blt t X.n)))=true)(Y6:bm F f=.val (.func (.func g) #[] cap)){c8:aN}{M1:List aC}(J9:hP X.bP I M c8 M1)(Gt:Iter X.P g cap.toList c8 np)(hlen:∀ vs∈np,vs.length=ps.size)(R:Nat->aN->List aC->Prop)(ra:q2->aN->List aC->Prop)(start:R 0 c8 M1)(round:∀ k (ae:k<np.length) I' M',(∀ b o,c8 b=some o->I' b=some o)->R k I' M'->∀ l B aq kr,V ⟨X.P,X.E,X.fM,X.n,B,aq,I',M'.map (·.num),some l⟩ eC (CV ps.toList np[k] F) (λ_=>none) I' M' (x5 (λF C I M=>V ⟨X.P,X.E,X.fM,X.n,B,kr,I',M'.map (·.num),some l⟩ body F C I M (Y5 (M'.map (·.num)) (R (k+1)) ra)) (λ_ _ _ _ _=>False)))(done:∀ I' M',(∀ b o,c8 b=some o->I' b=some o)->R np.length I' M'->K .normal F C I' M')(stop:∀ ex I' M',(∀ b o,c8 b=some o->I' b=some o)->ra ex I' M'->ex≠.normal/\K ex F C I' M') :
  cL X (.rangeFunc f ps eC body) F C I M K:=by
 refine⟨λa w ⟨β,jh⟩=>?_⟩;have aZ:=jh.hA J9;simp only[bL]at bb;obtain⟨Y7,J',Y8⟩:=bb;refine wpIn_rangeFunc λfn _=>?_;let eb (s:LoopState) (od:Option Code):Loop:={ state:=s,pending:=od,fn:=fn,tmps:=a.tmps,params:=ps,assign:=eC,body:=body,defers:=w.heap.size }
 let l:=w.heap.size+1
 let kU:World:=(w.alloc (.deferred (some []))).alloc (.loop (eb .ready none))
 have yf:=aZ.P7.m7 (.loop (eb .ready none));have ay:(w.alloc (.deferred (some []))).heap.size=l:=by simp[l]
 rw[ay]at yf;let Ka (k:Nat) (I':aN) (M':List aC):Prop:=∃ dt,M'=⟨l,.loop (eb .ready none)⟩::dt/\R k I' dt
 let P8 (I':aN) (M':List aC):Prop:=∃ ex c dt,Av ex=some c/\M'=⟨l,.loop (eb .done (some c))⟩::dt/\ra ex I' dt
 have aG:∀ k (ae:k<np.length) I' M',(∀ b o,c8 b=some o->I' b=some o)->Ka k I' M'->CS X.P l np[k] I' M' λv CU lX=>(v=.bool true/\Ka (k+1) CU lX)\/(v=.bool false/\P8 CU lX):=by
  rintro k ae I' _ hle⟨dt,rfl,Y9⟩W gV;have CX:W.heap[l]?=some (.loop (eb .ready none)):=gV.m ⟨l,.loop (eb .ready none)⟩ (by simp);have aL:l<W.heap.size:=(kg.1 CX).1;have cf:=gV.bS;simp only[dA,lg]at cf;have P9:I' l=none:=gV.d ⟨l,.loop (eb .ready none)⟩ (by simp);refine⟨_,_,_,_,run_yield CX (by simpa using hlen _ (cO ae)),?_⟩;have Kb:((eb LoopState.ready none).params.zip np[k].toArray).foldl (λtmps (x:Nat×Value)=>match x with | (t,a)=>tmps.setIfInBounds t a) (eb LoopState.ready none).tmps=(ps.toList.zip np[k]).foldl (λ(tmps:Array Value) (p:Nat×Value)=>tmps.setIfInBounds p.1 p.2) a.tmps:=by rw[<-Jr];simp[eb]
  have mE:=P6 (β:=β) ps.toList np[k] F a.tmps (λt au=>by
   have:=gq.1 Y8 t au;rw[aZ.size];exact bB this) aZ.aj
  rw[<-Kb]at mE;refine roundIn_of_wpIn (F:=Fence.wide) (n:=0) trivial ?_;let th:cx:=⟨X.P,X.E,X.fM,X.n,W.heap.size,W,I',dt.map (·.num),some l⟩
  let kr:=W.putObj l (.loop (eb .busy none))
  let CY:cx:=⟨X.P,X.E,X.fM,X.n,W.heap.size,kr,I',dt.map (·.num),some l⟩
  have ah:=round k ae I' dt hle Y9 l W.heap.size W kr;have Cz:cc th β { tmps:=((eb LoopState.ready none).params.zip np[k].toArray).foldl (λtmps (x:Nat×Value)=>match x with | (t,a)=>tmps.setIfInBounds t a) (eb LoopState.ready none).tmps,defers:=[] } W (CV ps.toList np[k] F) (λ_=>none) I' dt:={
   size:=mE.1.trans aZ.size
   defers:=⟨[],rfl,xP,λr an=>by cases an⟩
   holds:=⟨gV.i,λx ab=>gV.m x (by simp[ab]),λx ab=>gV.d x (by simp[ab]),cf.2⟩
   aj:=mE.2
   bX:=λs cs ao=>by cases ao
   inj:=λs b0 U=>by simp at U
   g3:=λb o af=>af
   gF:=λb o af=>.inl af
   own:=λx ab=>.inl (du.2 ⟨x,ab,rfl⟩)
   cY:=λb af aw=>rfl
   out:=.refl _
   sz:=b6 _ }
  have F1:=o9 (X:=th) aH eC Y7 ⟨β,Cz⟩ ah;refine wpIn_mono (Q:=kP th _) F1 ?_;intro e bN hT ao;cases e with
  |exit id=>obtain⟨_,_,_,_,_,ae⟩:=ao;exact ae.elim
  |goto id=>obtain⟨_,_,_,_,_,ae⟩:=ao;exact ae.elim
  |ret=>obtain⟨_,_,_,_,_,ae⟩:=ao;exact ae.elim
  |panic sZ=>exact ao.elim| outgrown=>exact ao.elim
  |normal=>
   obtain⟨jH,rV,dQ,wk,⟨P',hp⟩,Ah⟩:=ao;have wm:hT.heap[l]?=some (.loop (eb .ready none)):=by rw[hp.cY l aL cf.1];exact CX
   refine⟨_,run_beginRound wm rfl,?_⟩;have Y':dQ l=none:=by
    cases a9:dQ l with
    |none=>rfl
    |some o=>
     rcases hp.gF _ _ a9 with U | U;·rw[show th.dd=I' from rfl,P9]at U;cases U
     ·exact absurd U (Nat.not_le.2 aL)
   have Za:∀ x∈wk,x.num≠l:=λx ab e=>by
    rcases hp.own x ab with U | U;·rw[e]at U;exact cf.1 U
    ·rw[e]at U;exact absurd U (Nat.not_le.2 aL)
   have lp:cc CY P' bN (hT.putObj l (.loop (eb .busy none))) jH rV dQ wk:={
    size:=hp.size
    defers:=by obtain⟨aU,aR,aV,bl⟩:=hp.defers;refine⟨aU,aR,aV,λr iw=>?_⟩;have an:=bl r iw;refine { at_:=?_,base:=an.base,ik:=an.ik,dY:=an.dY };rw[lf (λe=>by have U:=an.at_;rw[e,wm]at U;cases U)];exact an.at_
    holds:={
     i:=λb o im=>by rw[lf (λe=>by rw[e,Y']at im;cases im)];exact hp.holds.i b o im
     m:=λx ab=>by rw[lf (Za x ab)];exact hp.holds.m x ab
     d:=hp.holds.d
     bS:=hp.holds.bS }
    aj:=hp.aj
    bX:=λs cs ao=>by have af:=hp.bX s cs ao;obtain⟨T,br⟩:=af.at_;refine { at_:=⟨T,?_⟩,base:=af.base,ik:=af.ik,dY:=af.dY };rw[lf (λe=>by rw[e,wm]at br;cases br)];exact br
    inj:=hp.inj
    g3:=hp.g3
    gF:=hp.gF
    own:=hp.own
    cY:=λb af aw=>by
     by_cases e:b=l;·subst e;rw[Aq (kg.1 wm).1];exact(Aq aL).symm
     ·rw[lf e];show _=(W.putObj l (.loop (eb .busy none))).heap[b]?;rw[lf e];exact hp.cY b af aw
    out:=⟨hp.out.1,hp.out.2⟩
    sz:=by have:=hp.sz;simpa using this }
   have Zb:=o9 (X:=CY) aH body J' ⟨P',lp⟩ Ah;refine wpIn_mono (Q:=kP CY _) Zb ?_;have fin:∀ (c6:Act) (mF:World) (ti:Fr) (tj:c7) (j1:aN) (p9:List aC) (jump:Option Code),Rel CY c6 mF ti tj j1 p9->∃ iy,(Instr.endRound l jump).run X.P mF=.ok (.bool jump.isNone) iy /\
     dU j1 (⟨l,.loop (eb (if jump.isNone then .ready else .done) jump)⟩::p9) iy/\Kept I' (⟨l,.loop (eb .ready none)⟩::dt) W j1 (⟨l,.loop (eb (if jump.isNone then .ready else .done) jump)⟩::p9) iy:=by
    rintro c6 mF ti tj j1 p9 jump⟨wo,ag⟩;have yg:mF.heap[l]?=some (.loop (eb .busy none)):=by rw[ag.cY l aL cf.1];exact Aq aL
    have Qa:j1 l=none:=by
     cases a9:j1 l with
     |none=>rfl
     |some o=>
      rcases ag.gF _ _ a9 with U | U;·rw[show CY.dd=I' from rfl,P9]at U;cases U
      ·exact absurd U (Nat.not_le.2 aL)
    have Qb:∀ x∈p9,x.num≠l:=λx ab e=>by
     rcases ag.own x ab with U | U;·rw[e]at U;exact cf.1 U
     ·rw[e]at U;exact absurd U (Nat.not_le.2 aL)
    refine⟨_,run_endRound jump yg,?_,?_⟩
    ·exact {
      i:=λb o im=>by rw[lf (λe=>by rw[e,Qa]at im;cases im)];exact ag.holds.i b o im
      m:=λx ab=>by
       rcases dE.1 ab with rfl | ab;·exact Aq (kg.1 yg).1
       ·rw[lf (Qb x ab)];exact ag.holds.m x ab
      d:=λx ab=>by
       rcases dE.1 ab with rfl | ab;·exact Qa
       ·exact ag.holds.d x ab
      bS:=by
       simp only[dA,lg];refine⟨λhm=>?_,ag.holds.bS⟩;obtain⟨x,ab,e⟩:=du.1 hm;exact Qb x ab e }
    ·exact {
      le:=ag.g3
      sV:=ag.gF
      uC:=λx ab=>by
       rcases dE.1 ab with rfl | ab;·exact .inl ⟨⟨l,.loop (eb .ready none)⟩,by simp,rfl⟩
       ·rcases ag.own x ab with U | U
        ·obtain⟨y,aG,e⟩:=du.1 U;exact .inl ⟨y,by simp[aG],e⟩
        ·exact .inr U
      cY:=λb af bk=>by
       have ls:b≠l:=λe=>bk ⟨l,.loop (eb .ready none)⟩ (by simp) e.symm;rw[lf ls,ag.cY b af (λhm=>by
        obtain⟨y,aG,e⟩:=du.1 hm;exact bk y (by simp[aG]) e)]
       exact lf ls
      out:=⟨ag.out.1,ag.out.2⟩
      sz:=by have:=ag.sz;simpa using this }
   intro e c6 mF wq;cases e with
   |normal=>obtain⟨ti,tj,j1,p9,⟨wo,ag⟩,⟨nq,p',yh,aO⟩⟩:=wq;obtain⟨iy,aK,bg,bD⟩:=fin c6 mF ti tj nq p' none ⟨wo,ag.hA yh⟩;exact⟨_,iy,aK,_,_,_,rfl,.inl ⟨rfl,_,rfl,aO⟩,bg,bD⟩
   |exit id=>obtain⟨ti,tj,j1,p9,⟨wo,ag⟩,⟨nq,p',yh,aO⟩⟩:=wq;obtain⟨iy,aK,bg,bD⟩:=fin c6 mF ti tj nq p' (some (.exit id)) ⟨wo,ag.hA yh⟩;exact⟨_,iy,aK,_,_,_,rfl,.inr ⟨rfl,.exit id,_,_,rfl,rfl,aO⟩,bg,bD⟩
   |goto id=>obtain⟨ti,tj,j1,p9,⟨wo,ag⟩,⟨nq,p',yh,aO⟩⟩:=wq;obtain⟨iy,aK,bg,bD⟩:=fin c6 mF ti tj nq p' (some (.goto id)) ⟨wo,ag.hA yh⟩;exact⟨_,iy,aK,_,_,_,rfl,.inr ⟨rfl,.goto id,_,_,rfl,rfl,aO⟩,bg,bD⟩
   |ret=>obtain⟨ti,tj,j1,p9,⟨wo,ag⟩,⟨nq,p',yh,aO⟩⟩:=wq;obtain⟨iy,aK,bg,bD⟩:=fin c6 mF ti tj nq p' (some .ret) ⟨wo,ag.hA yh⟩;exact⟨_,iy,aK,_,_,_,rfl,.inr ⟨rfl,.ret,_,_,rfl,rfl,aO⟩,bg,bD⟩
   |panic sZ=>exact wq.elim| outgrown=>exact wq.elim
 obtain⟨n8,x2⟩:=Gt l Ka P8 aG c8 (⟨l,.loop (eb .ready none)⟩::M1) (λ_ _ h=>h) ⟨M1,rfl,start⟩;have kV:=x2 kU yf.holds;have az:=cZ aZ.aj Y6;refine⟨l,[uF w.heap.size],kU,{ target:=.fn (.func g) cap,args:=#[.func (.yield l) #[] #[]] },kU,g,(.func (.yield l) #[] #[]::cap.toList).toArray,kU,?_,?_,λ_ _=>trivial,?_,(λh=>by cases h),?_⟩
 ·have Kc:(fW X).round=none:=kp;rw[Kc];exact run_enterLoop_outer fn a.tmps ps eC body
 ·show(Deferred.ofValue (a.eval f) (#[Operand.const (.func (.yield l) #[] #[])].map a.eval)).run X.P kU=_;rw[az];simp[Deferred.ofValue,Act.eval]
 ·simp only[invoke];rw[show #[Value.func (.yield l) #[] #[]]++cap=(.func (.yield l) #[] #[]::cap.toList).toArray from by apply fV;simp];exact n8 _ _
 ·refine(JE (X:=X) kV _).mono ?_;rintro e mF⟨v,I',M',rfl,aO,o5,fl⟩;have wu:=yf.after (Mr:=[]) (by simp) o5 fl;rw[fo]at wu;have hle:=fl.le;rcases aO with⟨dt,rfl,CZ⟩ | ⟨ex,c,dt,aA,rfl,Zc⟩
  ·refine⟨none,_,run_endLoop (o5.m ⟨l,.loop (eb .ready none)⟩ (by simp)) (by simp[eb]),?_⟩;exact⟨F,C,I',dt,⟨β,wu.CW⟩,done I' dt hle CZ⟩
  ·refine⟨some c,_,run_endLoop (o5.m ⟨l,.loop (eb .done (some c))⟩ (by simp)) (by simp[eb]),?_⟩;obtain⟨bk,ae⟩:=stop ex I' dt hle Zc;cases ex with
   |normal=>exact(bk rfl).elim| exit id=>cases aA;exact wpIn_exit ⟨F,C,I',dt,⟨β,wu.CW⟩,ae⟩| goto id=>cases aA;exact wpIn_goto ⟨F,C,I',dt,⟨β,wu.CW⟩,ae⟩| ret=>cases aA;exact wpIn_ret ⟨F,C,I',dt,⟨β,wu.CW⟩,ae⟩
end
structure bn where
 a:Option Nat
 n:Nat
 c:Nat
 cur:List Value
def bn.val(o:bn):Value:=.slice (o.a.map λg=>⟨g,0,none⟩) o.n o.c
def bn.aY(o:bn)(e:Nat):List aC:=match o.a with
 |some g=>[⟨g,.cells o.cur.toArray e (0,0)⟩]| none=>[]
structure bn.ok(o:bn)(size:Nat)(xs:List Value):Prop where
 len:xs.length=o.n*size
 nil:o.a=none->o.n=0/\o.c=0
 cap:∀ g,o.a=some g->o.cur.length=o.c*size/\o.n<=o.c/\o.c<=maxLen/\o.cur.take (o.n*size)=xs
section
variable{P:Program}{w:World}
def Qc(t u ty e:Nat)(i:TypeInfo)(z:Value)(au:P.underlying t=some (.slice e))(hu:P.underlying u=some mD)(oi:∀ k,mD≠.int k)(hi:P.info? e=some i)(bd:i.zero=some z)(uS:z.cells.size=i.size)
  {os:bn} (bb:os.ok i.size xs) (ar:∀ g,os.a=some g->w.heap[g]?=some (.cells os.cur.toArray e (0,0)))
  {x:Value} (hm:0<m) (ay:news.length=m*i.size) (U:∀ v∈news,v.oneCell'=true)
  (hlen:∀ w',(Builtin.lenOf x).run P w'=.ok m w') (fO:∀ w':World,w'.heap=w.heap->(Builtin.firstCells i.size m x).run P w'=.ok news.toArray w')
  (cg:os.n+m<=maxLen) (b2:(os.n+m)*i.bytes<=140737488355328) :
  ∃ (g c:Nat) (cur:List Value) (w':World),(Builtin.append_ #[t,u] ty #[os.val,x]).run P w=.ok (.slice (some ⟨g,0,none⟩) (os.n+m) c) w'/\cur.length=c*i.size/\os.n+m<=c/\c<=maxLen/\cur.take ((os.n+m)*i.size)=xs++news /\
   ((os.a=some g/\w'=w.setRow g cur.toArray)\/(g=w.heap.size/\w'=w.drew.alloc (.cells cur.toArray e (0,0)))):=by
 obtain⟨a,n,c,cur⟩:=os;have Kd:(xs++news).length=(n+m)*i.size:=by rw[ck,bb.len,ay,jg]
 have Qd:∀ cY,(xs++news++(Builtin.zeroCells z.cells (grownCap w (n+m) cY e-(n+m))).toList).length=grownCap w (n+m) cY e*i.size/\n+m<=grownCap w (n+m) cY e/\grownCap w (n+m) cY e<=maxLen /\
   (xs++news++(Builtin.zeroCells z.cells (grownCap w (n+m) cY e-(n+m))).toList).take ((n+m)*i.size)=xs++news:=by
  intro cY;have c1:=grownCap_ge w (n+m) cY e;have kW:grownCap w (n+m) cY e<=maxLen:=grownCap_le_maxLen w (n+m) cY e cg;refine⟨?_,c1,kW,?_⟩;·rw[ck,Kd,ya,size_zeroCells,uS,<-jg];congr 1;omega
  ·rw[<-Kd];exact Gr
 have C0:(match mD with | .int _=>true | _=>false)=false:=by cases mD<;>first | rfl | exact(oi _ rfl).elim
 have nr:n+m<=9223372036854775807:=by simp only[maxLen]at cg;exact cg
 cases a with
 |none=>
  obtain⟨qa,Aw⟩:=bb.nil rfl;simp only at qa Aw;subst qa;subst Aw;have ab:xs=[]:=lV (by simpa using bb.len);subst ab;simp only[dK,nj]at *;have aq:0<m:=hm;have av:m≠0:=by omega
  have C1:¬ (9223372036854775807<(m:Int)):=by omega
  have C2:¬ (281474976710656<Builtin.nextslicecap m 0*i.bytes):=by rw[nextslicecap_zero aq];omega
  have aw:=fO w.drew rfl;obtain⟨aR,aV,bl,fP⟩:=Qd 0;refine⟨w.heap.size,grownCap w m 0 e,_,w.drew.alloc (.cells (news++(Builtin.zeroCells z.cells (grownCap w m 0 e-m)).toList).toArray e),?_,aR,aV,bl,fP,.inr ⟨rfl,rfl⟩⟩;simp[bn.val,Builtin.append_,run_underlying au,run_underlying hu,sizeOf,typeInfo,zeroValue,hi,bd,hlen,av,C1,C2,Question.forced,run_firstCells_none,aw,newRow,grownCap];congr 2;apply fV;simp
 |some g=>
  obtain⟨dL,lY,kW,oj⟩:=bb.cap g rfl;have Ke:=ar g rfl;simp only at dL lY kW oj Ke;by_cases rb:n+m<=c
  ·have fe:n*i.size+news.length<=cur.length:=by rw[ay,dL,<-jg];exact qP _ rb
   have dB:=run_storeCells_at P g (n*i.size) e news 0 cur.toArray w Ke (by simpa using fe) U;simp only[o0]at dB;refine⟨g,c,cur.take (n*i.size)++news++cur.drop (n*i.size+news.length),_,?_,?_,rb,kW,?_,.inl ⟨rfl,rfl⟩⟩;·have aw:=fO w rfl;simp[bn.val,Builtin.append_,run_underlying au,run_underlying hu,sizeOf,typeInfo,hi,hlen,rb,aw,Addr.add_lit,dB]
   ·simp only[ck,nh,wh];omega
   ·rw[oj,<-Kd];exact Gr
  ·have av:¬ (n+m<=c):=by omega
   have C1:¬ (9223372036854775807<((n:Int)+(m:Int))):=by omega
   have C2:¬ (281474976710656<Builtin.nextslicecap (n+m) c*i.bytes):=by have:=growslice_fits (by omega:c<n+m) b2;omega
   have aw:=fO w.drew rfl;have Zd:∀ j v,xs[j]?=some v->w.drew.cell? ((⟨g,0,none⟩:Addr).add j)=some v:=by
    intro j v al;have Kf:w.drew.heap[g]?=some (.cells cur.toArray e (0,0)):=Ke;rw[d' _ rfl,sX Kf];rw[<-oj,kK]at al;split at al;·simpa using al
    ·cases al
   have qb:=run_firstCells_some (P:=P) w.drew i.size n ⟨g,0,none⟩ n c xs bb.len Zd;obtain⟨aR,aV,bl,fP⟩:=Qd c;refine⟨w.heap.size,grownCap w (n+m) c e,_,w.drew.alloc (.cells (xs++news++(Builtin.zeroCells z.cells (grownCap w (n+m) c e-(n+m))).toList).toArray e),?_,aR,aV,bl,fP,.inr ⟨rfl,rfl⟩⟩;simp[bn.val,Builtin.append_,run_underlying au,run_underlying hu,sizeOf,typeInfo,zeroValue,hi,bd,hlen,av,C1,C2,Question.forced,aw,qb,newRow,grownCap];congr 2;apply fV;simp
end
section
variable{X:cx}{β:Nat->Nat}{a:Act}{w:World}{F:Fr}{C:c7}{I:aN}{M:List aC}{o:Oper}{K:fG}
def Kg(aH:cB X.P X.E)(ap:o.op=.call { callee:=.builtin .append,args:=#[s,x],argTypes:=#[t,u] })(ai:∀ d,o.dst=some d->d<X.n)
 (au:X.E t=some c9) (dg:c9.bz=.slice e) (hu:X.E u=some lW) (fm:∀ k,lW.bz≠.int k) (he:X.E e=some aF)
  (os:bn) (bb:os.ok aF.size xs) (ao:bm F s=.val os.val)
 (ab:bm F x=.val te) (hm:0<m) (ay:news.length=m*aF.size) (U:gS news=true)
  (hlen:∀ w',(Builtin.lenOf te).run X.P w'=.ok m w') (fO:∀ w,dU I M w->(Builtin.firstCells aF.size m te).run X.P w=.ok news.toArray w)
 (a7:M.Perm (os.aY e++Mr)) (cg:os.n+m<=maxLen) (b2:(os.n+m)*aF.bytes<=140737488355328)
  (k:∀ (g c:Nat) (cur:List Value),I g=none->cur.length=c*aF.size->os.n+m<=c->c<=maxLen->cur.take ((os.n+m)*aF.size)=xs++news ->
   K (put o.dst (.val (.slice (some ⟨g,0,none⟩) (os.n+m) c)) F) C I (⟨g,.cells cur.toArray e (0,0)⟩::Mr)):be X o F C I M K:=by
 refine⟨λa w Q ⟨β,jh⟩=>?_⟩;have aZ:cc X β a w F C I (os.aY e++Mr):=jh.hA (.perm a7 .refl);obtain⟨inf,z,hi,eA,gG,gH,iS⟩:=(aH _ _ he).inf;obtain⟨d,e3,ff⟩:=(aH _ _ hu).e1;obtain⟨lZ,nt,hE⟩:=(aH _ _ au).e1;have rW:lZ=.slice e:=by rw[dg]at hE;cases lZ<;>simp_all[eW]
 subst rW;have uS:z.cells.size=inf.size:=by rw[eA,<-(aH _ _ he).len,<-iS];simp
 rw[<-eA]at bb ay fO;obtain⟨g,c,cur,w',fb,aR,aV,bl,fP,om⟩:=Qc (P:=X.P) (w:=w) t u o.type e inf z nt e3 (λk a0=>fm k (by rw[<-ff,a0];rfl)) hi gH uS bb (λg ar=>aZ.holds.m ⟨g,.cells os.cur.toArray e (0,0)⟩ (by simp[bn.aY,ar])) (x:=te) hm ay (xU U) hlen (λw' Kh=>fO w' (jh.holds.heap Kh)) cg (by rw[gG];exact b2);rw[eA]at aR fP;have Ki:I g=none:=by
  rcases om with⟨ar,_⟩ | ⟨rfl,_⟩;·exact aZ.holds.d ⟨g,.cells os.cur.toArray e (0,0)⟩ (by simp[bn.aY,ar])
  ·cases a9:I w.heap.size with
   |none=>rfl| some mG=>have:=aZ.holds.i _ _ a9;simp at this
 have es:=cZ aZ.aj ao;have ex:=cZ aZ.aj ab;refine hZ (by rw[ap];simp) (v:=.slice (some ⟨g,0,none⟩) (os.n+m) c) (w':=w') ?_ ⟨_,_,_,_,⟨β,cc.put (x:=.val (.slice (some ⟨g,0,none⟩) (os.n+m) c)) ?_ ai rfl⟩,k g c cur Ki aR aV bl fP⟩
 ·unfold execOp;simp only[ap,resolve,invoke,builtin,bM,cy,bx,tc,dA,pi,es,ex,fb]
 ·rcases om with⟨ar,rfl⟩ | ⟨rfl,rfl⟩
  ·have af:os.aY e=[⟨g,.cells os.cur.toArray e (0,0)⟩]:=by simp[bn.aY,ar]
   rw[af]at aZ;exact aZ.vV (pre:=[]) (post:=Mr) rfl
  ·have aa:cc X β a w.drew F C I (os.aY e++Mr):=aZ.world rfl;have ag:=aa.m7 (.cells cur.toArray e (0,0));refine ag.hA (.sub ?_ .refl);exact List.Sublist.cons_cons _ (mA _ _)
def be.append(aH:cB X.P X.E)(ap:o.op=.call { callee:=.builtin .append,args:=#[s,x],argTypes:=#[t,t] })(ai:∀ d,o.dst=some d->d<X.n)
 (au:X.E t=some c9) (dg:c9.bz=.slice e) (he:X.E e=some aF)
  (os:bn) (bb:os.ok aF.size xs) (ao:bm F s=.val os.val)
 (ab:bm F x=.val (.slice (some ad) m c')) (hm:0<m) (av:bE I M ad (m*aF.size) news) (U:gS news=true)
 (a7:M.Perm (os.aY e++Mr)) (cg:os.n+m<=maxLen) (b2:(os.n+m)*aF.bytes<=140737488355328)
  (k:∀ (g c:Nat) (cur:List Value),cur.length=c*aF.size->os.n+m<=c->c<=maxLen->cur.take ((os.n+m)*aF.size)=xs++news ->
   K (put o.dst (.val (.slice (some ⟨g,0,none⟩) (os.n+m) c)) F) C I (⟨g,.cells cur.toArray e (0,0)⟩::Mr)):be X o F C I M K:=by
 refine Kg aH ap ai au dg au (λk=>by rw[dg];simp) he os bb ao ab hm ?_ U (λ_=>rfl) (λw hw=>?_) a7 cg b2 (λg c cur _=>k g c cur)
 ·obtain⟨_,_,_,_,_,_,h⟩:=av;exact h
 ·obtain⟨bQ,cs,T,aj,dP,ah,ay⟩:=av;refine run_firstCells_some (P:=X.P) w aF.size m ad m c' news ay λj v al=>?_;rw[d' _ bQ,sX (dP.heap hw)];rw[<-ah,kK]at al;split at al
  ·rw[pX]at al;simpa using al
  ·cases al
def be.wv(aH:cB X.P X.E)(ap:o.op=.call { callee:=.builtin .append,args:=#[s,x],argTypes:=#[t,t] })(ai:∀ d,o.dst=some d->d<X.n)
 (au:X.E t=some c9) (dg:c9.bz=.slice e) (he:X.E e=some aF)
  (os:bn) (bb:os.ok aF.size xs) (ao:bm F s=.val os.val)
 (ab:bm F x=.val (.slice (some ad) m c')) (hm:0<m) (av:bE I M ad (m*aF.size) news) (U:gS news=true)
 (a7:M.Perm (os.aY e++Mr)) (cg:os.n+m<=maxLen) (b2:(os.n+m)*aF.bytes<=140737488355328)
  (k:∀ (g c:Nat) (cur:List Value),I g=none->cur.length=c*aF.size->os.n+m<=c->c<=maxLen->cur.take ((os.n+m)*aF.size)=xs++news ->
   K (put o.dst (.val (.slice (some ⟨g,0,none⟩) (os.n+m) c)) F) C I (⟨g,.cells cur.toArray e (0,0)⟩::Mr)):be X o F C I M K:=by
 refine Kg aH ap ai au dg au (λk=>by rw[dg];simp) he os bb ao ab hm ?_ U (λ_=>rfl) (λw hw=>?_) a7 cg b2 k
 ·obtain⟨_,_,_,_,_,_,h⟩:=av;exact h
 ·obtain⟨bQ,cs,T,aj,dP,ah,ay⟩:=av;refine run_firstCells_some (P:=X.P) w aF.size m ad m c' news ay λj v al=>?_;rw[d' _ bQ,sX (dP.heap hw)];rw[<-ah,kK]at al;split at al
  ·rw[pX]at al;simpa using al
  ·cases al
def jK(s:ByteArray):List Value:=s.data.toList.map λb=>.int .u8 b.toNat
def be.Ze(aH:cB X.P X.E)(ap:o.op=.call { callee:=.builtin .append,args:=#[s,x],argTypes:=#[t,u] })(ai:∀ d,o.dst=some d->d<X.n)
 (au:X.E t=some c9) (dg:c9.bz=.slice e) (hu:X.E u=some lW) (fm:lW.bz=.string) (he:X.E e=some aF) (cm:aF.size=1)
  (os:bn) (bb:os.ok aF.size xs) (ao:bm F s=.val os.val)
  {str:ByteArray} (ab:bm F x=.val (.string str)) (hm:0<str.size)
 (a7:M.Perm (os.aY e++Mr)) (cg:os.n+str.size<=maxLen) (b2:(os.n+str.size)*aF.bytes<=140737488355328)
  (k:∀ (g c:Nat) (cur:List Value),cur.length=c*aF.size->os.n+str.size<=c->c<=maxLen->cur.take ((os.n+str.size)*aF.size)=xs++jK str ->
   K (put o.dst (.val (.slice (some ⟨g,0,none⟩) (os.n+str.size) c)) F) C I (⟨g,.cells cur.toArray e (0,0)⟩::Mr)):be X o F C I M K:=by
 refine Kg aH ap ai au dg hu (λk=>by rw[fm];simp) he os bb ao ab hm ?_ ?_ (λ_=>rfl) (λw hw=>?_) a7 cg b2 (λg c cur _=>k g c cur)
 ·simp[jK,cm]
 ·refine gq.2 λv ah=>?_;obtain⟨b,_,rfl⟩:=du.1 ah;rfl
 ·simp only[Builtin.firstCells,cy];congr 1;apply fV;have ax:str.extract 0 str.size=str:=by apply oZ;simp[z6]
  simp[jK,ax]
end
section
variable{X:cx}{F:Fr}{C:c7}{I:aN}{M:List aC}{o:Oper}{K:fG}
def Zf(au:P.underlying t=some (.array 4 e))(he:P.underlying e=some (.int k)){inf:TypeInfo}(hi:P.info? e=some inf)(ao:inf.size=1)(dq bN cG c6 g6 cg b2 eQ:Int)(w:World) :
  (Op.equal t (.agg #[.int k dq,.int k bN,.int k cG,.int k c6]) (.agg #[.int k g6,.int k cg,.int k b2,.int k eQ])).run P w=.ok (dq == g6&&(bN == cg&&(cG == b2&&c6 == eQ))) w:=by
 have C3:∀ (xs:Array Value) (i:Nat) (v:Value) (w:World),xs[i]?=some v->(part e xs i).run P w=.ok v w:=λxs i v w h=>by
  have xT:(isAgg e).run P w=.ok false w:=by unfold isAgg;simp[run_underlying he]
  unfold part;simp[xT,sizeOf,typeInfo,hi,ao,h]
 have hint:∀ (d:Nat) (x y:Int) (w:World),(Op.equalIn (d+1) e (.int k x) (.int k y)).run P w=.ok (x == y) w:=λd x y w=>by simp[Op.equalIn,run_underlying he]
 have key:∀ m,(∀ (x y:Int) (w:World),(Op.equalIn m e (.int k x) (.int k y)).run P w=.ok (x == y) w)->(Op.equalIn (m+1) t (.agg #[.int k dq,.int k bN,.int k cG,.int k c6]) (.agg #[.int k g6,.int k cg,.int k b2,.int k eQ])).run P w=.ok (dq == g6&&(bN == cg&&(cG == b2&&c6 == eQ))) w:=λm hint=>by
  rw[Op.equalIn];simp only[bM,run_underlying au,bx,sizeOf,typeInfo,hi,run_program,cy,ao];simp only[J1];have an:List.range' 0 ([:4]:Std.Legacy.Range).size=[0,1,2,3]:=by decide
  rw[an];have pa:=λ(i:Nat) (v:Value) (w:World)=>C3 #[.int k dq,.int k bN,.int k cG,.int k c6] i v w;have yi:=λ(i:Nat) (v:Value) (w:World)=>C3 #[.int k g6,.int k cg,.int k b2,.int k eQ] i v w;simp only[J6,List.forIn_nil,bM];rw[pa (0*1) (.int k dq) w rfl];simp only[bx,bM];rw[yi (0*1) (.int k g6) w rfl];simp only[bx,bM];rw[hint];simp only[bx];cases(dq == g6);·simp
  simp only[lR,iP,jC,cy,bx,bM];rw[pa (1*1) (.int k bN) w rfl];simp only[bx,bM];rw[yi (1*1) (.int k cg) w rfl];simp only[bx,bM];rw[hint];simp only[bx];cases(bN == cg);·simp
  simp only[lR,iP,jC,cy,bx,bM];rw[pa (2*1) (.int k cG) w rfl];simp only[bx,bM];rw[yi (2*1) (.int k b2) w rfl];simp only[bx,bM];rw[hint];simp only[bx];cases(cG == b2);·simp
  simp only[lR,iP,jC,cy,bx,bM];rw[pa (3*1) (.int k c6) w rfl];simp only[bx,bM];rw[yi (3*1) (.int k eQ) w rfl];simp only[bx,bM];rw[hint];simp only[bx];cases(c6 == eQ);·simp
  simp
 exact key 9999 (hint 9998)
def cu.Kj{E:Env}(aH:cB P E)(au:E t=some c9)(dg:c9.bz=.array 4 e)(he:E e=some aF)(jL:aF.bz=.int k)(ar:P.eqGuardType P.depth t=false){dq bN cG c6 g6 cg b2 eQ:Int}{V:Value->Prop}
  (h:V (.bool (dq == g6&&(bN == cg&&(cG == b2&&c6 == eQ))))):cu P .eql t x y (.val (.agg #[.int k dq,.int k bN,.int k cG,.int k c6])) (.val (.agg #[.int k g6,.int k cg,.int k b2,.int k eQ])) V other:=by
 obtain⟨d,e3,ff⟩:=(aH _ _ au).e1;obtain⟨oo,C4,Kk⟩:=(aH _ _ he).e1;obtain⟨inf,z,hi,eA,_⟩:=(aH _ _ he).inf;have U:d=.array 4 e:=by rw[dg]at ff;cases d<;>simp_all[eW]
 have aa:oo=.int k:=by rw[jL]at Kk;cases oo<;>simp_all[eW]
 subst U;subst aa;have fY:inf.size=1:=by rw[eA];exact(aH _ _ he).FK (by rw[jL];rfl)
 refine .mk _ _ _ rfl rfl (λw=>?_) h;simp only[bM,run_eqGuard_agg (hm:=ar),bx,binOp,Zf e3 C4 hi fY,cy]
def cu.concat{a b:ByteArray}(ao:a.size+b.size<=9223372036854775807){V:Value->Prop}(h:V (.string (a++b))):cu P .add t x y (.val (.string a)) (.val (.string b)) V other:=by refine .mk _ _ _ rfl rfl (λw=>?_) h;simp only[bM,JD,bx,binOp,run_string_add_sum _ _ _ ao,cy]
end
section
variable{X:cx}{β:Nat->Nat}{a:Act}{w:World}{F:Fr}{C:c7}{I:aN}{M:List aC}{o:Oper}{K:fG}
def cc.Qe{n:Nat}{mG:Obj}{w':World}(h:cc X β a w F C I (⟨n,mG⟩::M))(ao:w'.heap.size=w.heap.size)(af:∀ b,b≠n->w'.heap[b]?=w.heap[b]?)(ap:mq w w'):cc X β a w' F C I M:=by
 have e':(⟨n,mG⟩:aC)∈(⟨n,mG⟩:aC)::M:=by simp
 have cf:=h.holds.bS;simp only[dA,lg]at cf;exact {
  size:=h.size
  defers:=h.defers.mono λr an=>by have bk:n≠r:=an.dY _ e';refine { an with at_:=?_,dY:=λx ab=>an.dY x (by simp[ab]) };rw[af r (qT bk)];exact an.at_
  holds:={
   i:=λb o im=>by rw[af b (λe=>by have:=h.holds.d _ e';simp only at this;rw[e,this]at im;cases im)];exact h.holds.i b o im
   m:=λx ab=>by rw[af _ (λe=>cf.1 (du.2 ⟨x,ab,e⟩))];exact h.holds.m x (by simp[ab])
   d:=λx ab=>h.holds.d x (by simp[ab])
   bS:=cf.2 }
  aj:=h.aj
  bX:=λs cs kq=>by have rR:=h.bX s cs kq;have bk:n≠β s:=rR.dY _ e';obtain⟨T,br⟩:=rR.at_;refine { rR with at_:=⟨T,?_⟩,dY:=λx ab=>rR.dY x (by simp[ab]) };rw[af _ (qT bk)];exact br
  inj:=h.inj
  g3:=h.g3
  gF:=h.gF
  own:=λx ab=>h.own x (by simp[ab])
  cY:=λb aL aw=>by
   rw[af b (λe=>by
    rcases h.own _ e' with U | U;·simp only at U;exact aw (e ▸ U)
    ·simp only at U;omega)]
   exact h.cY b aL aw
  out:=h.out.trans ap
  sz:=by rw[ao];exact h.sz }
def Zg(w:World)(p:Addr)(n:Nat):(w.freeze p n).heap.size=w.heap.size:=by
 unfold World.freeze;split<;>simp
def Zh(w:World)(p:Addr)(n:Nat):mq w (w.freeze p n):=by
 unfold World.freeze;split<;>exact⟨rfl,rfl⟩
def Zi(w:World)(p:Addr)(n b:Nat)(h:b≠p.block):(w.freeze p n).heap[b]?=w.heap[b]?:=by
 unfold World.freeze;split
 ·rfl
 ·simp only[Array.getElem?_modify];rw[dc (qT h)]
def be.Kl(aH:cB X.P X.E){p n:Operand}(ap:o.op=.call { callee:=.builtin .unsafeString,args:=#[p,n],argTypes:=#[rU,it] })(ai:∀ d,o.dst=some d->d<X.n)
 (au:X.E rU=some c9) (dg:c9.bz=.pointer e) (he:X.E e=some aF) (jL:aF.size=1)
 {l:List UInt8} (aO:bm F p=.val (.pointer (some ⟨g,0,none⟩))) (av:bm F n=.val (.int .i64 l.length)) (aq:l≠[]) (Km:l.length<=9223372036854775807)
 (a7:M.Perm (⟨g,.cells cs e (0,0)⟩::Mr)) (kq:cs.toList.take l.length=l.map λb=>.int .u8 b.toNat)
  (h:K (put o.dst (.val (.string ⟨l.toArray⟩)) F) C I Mr):be X o F C I M K:=by
 refine⟨λa w Q ⟨β,jh⟩=>?_⟩;have aZ:cc X β a w F C I (⟨g,.cells cs e (0,0)⟩::Mr):=jh.hA (.perm a7 .refl);have ar:w.heap[g]?=some (.cells cs e (0,0)):=aZ.holds.m ⟨g,.cells cs e (0,0)⟩ (by simp);obtain⟨d,e3,ff⟩:=(aH _ _ au).e1;have U:d=.pointer e:=by rw[dg]at ff;cases d<;>simp_all[eW]
 subst U;obtain⟨inf,z,hi,eA,_⟩:=(aH _ _ he).inf;have aA:X.P.cellsOf e=1:=by simp[Program.cellsOf,hi,eA,jL]
 have hlen:l.length<=cs.size:=by have:=congrArg List.length kq;simp only[nh,ei,ya]at this;omega
 have fb:=Lib.run_unsafeString_row (P:=X.P) w rU it o.type e e3 aA g cs.size (by simp[World.shape?,ar]) l aq hlen Km (λj x al=>by
  rw[d' _ rfl,sX ar];have aa:(cs.toList.take l.length)[j]?=some (.int .u8 x.toNat):=by rw[kq];simp[al]
  rw[kK]at aa;split at aa;·simpa using aa
  ·cases aa)
 have Kn:=cZ aZ.aj aO;have eE:=cZ aZ.aj av;refine hZ (by rw[ap];simp) (v:=.string ⟨l.toArray⟩) (w':=w.freeze ⟨g,0,none⟩ l.length) ?_ ⟨_,_,_,_,⟨β,cc.put (x:=.val (.string ⟨l.toArray⟩)) (aZ.Qe (Zg _ _ _) (λb af=>Zi _ _ _ _ af) (Zh _ _ _)) ai rfl⟩,h⟩;unfold execOp;simp only[ap,resolve,invoke,builtin,bM,cy,bx,tc,dA,pi,Kn,eE,fb]
def be.Qf{p n:Operand}(ap:o.op=.call { callee:=.builtin .unsafeString,args:=#[p,n],argTypes:=#[rU,it] })(ai:∀ d,o.dst=some d->d<X.n)
  {q:Option Addr} (aO:bm F p=.val (.pointer q)) (av:bm F n=.val (.int .i64 0)) (h:K (put o.dst (.val (.string .empty)) F) C I M):be X o F C I M K:=by
 refine⟨λa w Q ⟨β,aZ⟩=>?_⟩;have Kn:=cZ aZ.aj aO;have eE:=cZ aZ.aj av;refine vW aZ ai (by rw[ap];simp) ?_ h;unfold execOp;simp only[ap,resolve,invoke,builtin,bM,cy,bx,tc,dA,pi,Kn,eE,Lib.run_unsafeString_none]
def be.Qg(aH:cB X.P X.E)(ap:o.op=.call { callee:=.builtin .copy,args:=#[x,y],argTypes:=#[t,u] })(ai:∀ d,o.dst=some d->d<X.n)
 (au:X.E t=some c9) (dg:c9.bz=.slice e) (he:X.E e=some aF) (jL:aF.size=1)
 {off dl Qh:Nat} {s:ByteArray} (ab:bm F x=.val (.slice (some ⟨g,off,none⟩) dl Qh)) (aG:bm F y=.val (.string s)) (hle:s.size<=dl) (fe:off+s.size<=cs.size)
 (a7:M.Perm (⟨g,.cells cs T (0,0)⟩::Mr))
  (h:K (put o.dst (.val (.int .i64 s.size)) F) C I (⟨g,.cells (bw cs.toList off (jK s)).toArray T (0,0)⟩::Mr)):be X o F C I M K:=by
 refine⟨λa w Q ⟨β,jh⟩=>?_⟩;have aZ:cc X β a w F C I (⟨g,.cells cs T (0,0)⟩::Mr):=jh.hA (.perm a7 .refl);have ar:w.heap[g]?=some (.cells cs T (0,0)):=aZ.holds.m ⟨g,.cells cs T (0,0)⟩ (by simp);obtain⟨d,e3,ff⟩:=(aH _ _ au).e1;have U:d=.slice e:=by rw[dg]at ff;cases d<;>simp_all[eW]
 subst U;obtain⟨inf,z,hi,eA,_⟩:=(aH _ _ he).inf;have ay:(jK s).length=s.size:=by simp[jK]
 have U:∀ v∈jK s,v.oneCell'=true:=λv ah=>by obtain⟨b,_,rfl⟩:=du.1 ah;rfl
 have dB:=run_storeCells_at X.P g off T (jK s) 0 cs w ar (by rw[ay];simpa using fe) U;simp only[o0]at dB;have yj:Nat.min s.size dl=s.size:=Ce hle;have aw:(Builtin.firstCells inf.size s.size (.string s)).run X.P w=.ok (jK s).toArray w:=P4 w inf.size s;have ex:=cZ aZ.aj ab;have rX:=cZ aZ.aj aG;have nu:=aZ.vV (pre:=[]) (post:=Mr) (cs':=(bw cs.toList off (jK s)).toArray) rfl;refine hZ (by rw[ap];simp) (v:=.int .i64 s.size) (w':=w.setRow g (bw cs.toList off (jK s)).toArray) ?_ ⟨_,_,_,_,⟨β,cc.put (x:=.val (.int .i64 s.size)) nu ai rfl⟩,h⟩;have fb:(Builtin.copy_ #[t,u] o.type #[.slice (some ⟨g,off,none⟩) dl Qh,.string s]).run X.P w=.ok (.int .i64 s.size) (w.setRow g (bw cs.toList off (jK s)).toArray):=by simp[Builtin.copy_,run_underlying e3,Builtin.lenOf,yj,sizeOf,typeInfo,hi,aw,dB,bw,goInt]
 unfold execOp;simp only[ap,resolve,invoke,builtin,bM,cy,bx,tc,dA,pi,ex,rX,fb]
end
structure dW(I:aN)(a:Option Addr)(n c size b:Nat)(vs:List Value):Prop where
 len:vs.length=n*size
 cap:n<=c/\n*b<=140737488355328
 rd:n=0\/∃ ad,a=some ad/\ad.spot=none/\∃ cs T aj,I ad.block=some (.cells cs T aj)/\(cs.toList.drop ad.off).take (n*size)=vs
def dW.mono{n:Nat}(h:dW I a n c size b vs)(a9:∀ b o,I b=some o->I' b=some o):dW I' a n c size b vs:=
 ⟨h.len,h.cap,h.rd.imp id λ⟨ad,U,aa,cs,T,aj,ag,aK⟩=>⟨ad,U,aa,cs,T,aj,a9 _ _ ag,aK⟩⟩
def dW.idx{n:Nat}(h:dW I a n c size b vs)(al:j<n) :
  ∃ ad,a=some ad/\∀ M,bE I M (ad.add (j*size)) size ((vs.drop (j*size)).take size):=by
 obtain⟨ay,_,aq | ⟨ad,aD,ao,cs,T,aj,a9,ah⟩⟩:=h
 ·omega
 ·refine⟨ad,aD,λM=>?_⟩;have hle:j*size+size<=n*size:=by have:=qP size (show j+1<=n from al);rw[jg,nm]at this;exact this
  refine⟨by rw[d' _ ao],cs,T,aj,.inl (by rw[d' _ ao];exact a9),?_,?_⟩;·rw[d' _ ao,<-ah,yc,yd,ye];congr 1;omega
  ·rw[nh,wh,ay];omega
def dW.one{n:Nat}{f:α->Value}{l:List α}(h:dW I a n c 1 b (l.map f))(al:j<n)(gm:j<l.length) :
  ∃ ad,a=some ad/\∀ M,bE I M (ad.add (j*1)) 1 [f l[j]]:=by
 obtain⟨ad,U,aa⟩:=h.idx al;refine⟨ad,U,λM=>?_⟩;have:=aa M;rw[hD,<-List.map_drop,<-List.map_take,dS gm,oe,p8]at this;rw[hD];exact this
def wx{α:Type}(f:α->List Value)(size:Nat)(aw:∀ x,(f x).length=size):∀ (l:List α) (j:Nat) (al:j<l.length),((l.flatMap f).drop (j*size)).take size=f l[j]
 |x::l,0,_=>by simp only[og,At,td,x'];rw[<-aw x];exact Gr
 |x::l,j+1,al=>by have a2:=wx f size aw l j (by simpa using al);simp only[og,CO];rw[<-a2,show(j+1)*size=(f x).length+j*size from by rw[aw,jg];omega,P3]
def ji{α:Type}(f:α->List Value)(size:Nat)(aw:∀ x,(f x).length=size):∀ (l:List α),(l.flatMap f).length=l.length*size
 |[]=>by simp
 |x::l=>by simp[ji f size aw l,aw x,jg];omega
def dW.row{n:Nat}{f:α->List Value}(aw:∀ x,(f x).length=size){l:List α}(h:dW I a n c size b (l.flatMap f))(al:j<n)(gm:j<l.length) :
  ∃ ad,a=some ad/\∀ M,bE I M (ad.add (j*size)) size (f l[j]):=by
 obtain⟨ad,U,aa⟩:=h.idx al;refine⟨ad,U,λM=>?_⟩;have:=aa M;rwa [wx f size aw l j gm]at this
def bE.part{M:List aC}{a:Addr}{n k:Nat}(h:bE I M a n vs)(ae:k+m<=n):bE I M (a.add k) m ((vs.drop k).take m):=by
 obtain⟨ao,cs,T,aj,U,aa,ag⟩:=h;refine⟨by rw[d' _ ao],cs,T,aj,by rw[d' _ ao];exact U,?_,?_⟩
 ·rw[d' _ ao,<-aa,yc,yd,ye];congr 1;omega
 ·rw[nh,wh,ag];omega
structure aP where
 k:Int
 eh:Int
 s1:Int
 s2:Int
 fJ:Int
 t:ByteArray
 lo:Int
 hi:Int
 kX:Option Addr
 kn:Nat
 j0:Nat
 kids:List Int
def aP.cells(d:aP):List Value:=[.int .u8 d.k,.int .u64 d.eh,.int .u64 d.s1,.int .u64 d.s2,.int .u64 d.fJ,.string d.t,.int .i64 d.lo,.int .i64 d.hi,.slice d.kX d.kn d.j0]
def aP.val(d:aP):Value:=.agg #[.int .u8 d.k,.int .u64 d.eh,.int .u64 d.s1,.int .u64 d.s2,.int .u64 d.fJ,.string d.t,.int .i64 d.lo,.int .i64 d.hi,.slice d.kX d.kn d.j0]
def gj(x:Int):Prop:=-9223372036854775808<=x/\x<=9223372036854775807
def eF(x:Int):Prop:=0<=x/\x<18446744073709551616
structure aP.ok(I:aN)(d:aP):Prop where
 k:0<=d.k/\d.k<256
 eh:eF d.eh
 s1:eF d.s1
 s2:eF d.s2
 fJ:eF d.fJ
 t:d.t.size<=9223372036854775807
 lo:gj d.lo
 hi:gj d.hi
 aU:dW I d.kX d.kn d.j0 1 8 (d.kids.map (.int .i64 ·))
 kids:∀ x∈d.kids,gj x
def aP.c0(d:aP):d.cells.length=9:=rfl
def aP.ok.kn{d:aP}(h:d.ok I):d.kids.length=d.kn:=by have:=h.aU.len;simpa using this
structure bJ where
 ns:List aP
 a:Option Addr
 n:Nat
 c:Nat
 root:Int
def bJ.cells(t:bJ):List Value:=[.slice t.a t.n t.c,.int .i64 t.root]
def bJ.val(t:bJ):Value:=.agg #[.slice t.a t.n t.c,.int .i64 t.root]
structure bJ.ok(I:aN)(t:bJ):Prop where
 aU:dW I t.a t.n t.c 9 96 (t.ns.flatMap aP.cells)
 ns:∀ d∈t.ns,d.ok I
 root:gj t.root
def bJ.ok.n{t:bJ}(h:t.ok I):t.ns.length=t.n:=by have:=h.aU.len;rw[ji _ 9 aP.c0]at this;omega
structure a' where
 name:ByteArray
 t:bJ
def a'.cells(d:a'):List Value:=[.string d.name,.slice d.t.a d.t.n d.t.c,.int .i64 d.t.root]
structure a'.ok(I:aN)(d:a'):Prop where
 name:d.name.size<=140737488355328
 t:d.t.ok I
def a'.c0(d:a'):d.cells.length=3:=rfl
structure b3 where
 ds:List a'
 a:Option Addr
 n:Nat
 c:Nat
def b3.val(g:b3):Value:=.agg #[.slice g.a g.n g.c]
structure b3.ok(I:aN)(g:b3):Prop where
 aU:dW I g.a g.n g.c 3 48 (g.ds.flatMap a'.cells)
 ds:∀ d∈g.ds,d.ok I
def b3.ok.n{g:b3}(h:g.ok I):g.ds.length=g.n:=by have:=h.aU.len;rw[ji _ 3 a'.c0]at this;omega
def aP.ok.mono{d:aP}(h:d.ok I)(a9:∀ b o,I b=some o->I' b=some o):d.ok I':={ h with aU:=h.aU.mono a9 }
def bJ.ok.mono{t:bJ}(h:t.ok I)(a9:∀ b o,I b=some o->I' b=some o):t.ok I':=⟨h.aU.mono a9,λd ai=>(h.ns d ai).mono a9,h.root⟩
def a'.ok.mono{d:a'}(h:d.ok I)(a9:∀ b o,I b=some o->I' b=some o):d.ok I':=⟨h.name,h.t.mono a9⟩
def b3.ok.mono{g:b3}(h:g.ok I)(a9:∀ b o,I b=some o->I' b=some o):g.ok I':=⟨h.aU.mono a9,λd ai=>(h.ds d ai).mono a9⟩
def wrap_i64{x:Int}(h:gj x):IntKind.i64.wrap x=x:=by obtain⟨U,aa⟩:=h;unfold IntKind.wrap;simp only[IntKind.bits,IntKind.signed];simp;omega
open Go Go.Proofs
def aX(t n:Nat)(a b:Option dH):Option dH:=bif Nat.blt t n then a else b
def qc(n:Nat):Option dH:=some ⟨1,8,[.pointer none],.pointer n⟩
def kt(n:Nat):Option dH:=some ⟨1,24,[.slice none 0 0],.slice n⟩
def b4:Option dH:=some ⟨1,8,[.nilFunc],.other⟩
def Ko:Option dH:=some ⟨1,8,[.int .i64 0],.int .i64⟩
def Kp:Option dH:=some ⟨1,1,[.int .u8 0],.int .u8⟩
def Qi:Option dH:=some ⟨4,24,[.int .i64 0,.int .i64 0,.bool false,.int .u8 0],.struct [(2,0),(3,1),(4,2),(6,3)]⟩
def Qj:Option dH:=some ⟨1,16,[.string ⟨#[]⟩],.string⟩
def Kq:Option dH:=some ⟨1,8,[.int .u64 0],.int .u64⟩
def Kr:Option dH:=some ⟨1,4,[.int .i32 0],.int .i32⟩
def Qk:Option dH:=some ⟨1,24,[.slice none 0 0],.struct [(28,0)]⟩
def Ql:Option dH:=some ⟨2,32,[.slice none 0 0,.int .i64 0],.struct [(45,0),(3,1)]⟩
def Qm:Option dH:=some ⟨3,40,[.bool false,.int .i64 0,.slice none 0 0],.struct [(4,0),(3,1),(51,2)]⟩
def Qn:Option dH:=some ⟨9,96,[.int .u8 0,.int .u64 0,.int .u64 0,.int .u64 0,.int .u64 0,.string ⟨#[]⟩,.int .i64 0,.int .i64 0,.slice none 0 0],.struct [(5,0),(69,1),(9,5),(3,6),(3,7),(70,8)]⟩
def Qo:Option dH:=some ⟨2,32,[.pointer none,.slice none 0 0],.struct [(172,0),(37,1)]⟩
def Qp:Option dH:=some ⟨10,88,[.int .u8 0,.int .i64 0,.int .i64 0,.string ⟨#[]⟩,.int .u64 0,.int .u64 0,.int .u64 0,.int .u64 0,.int .i64 0,.int .i64 0],.struct [(5,0),(3,1),(3,2),(9,3),(69,4),(3,8),(3,9)]⟩
def Qq:Option dH:=some ⟨2,16,[.int .i64 0,.int .i64 0],.struct [(3,0),(3,1)]⟩
def Qr:Option dH:=some ⟨3,24,[.int .i64 0,.int .i64 0,.bool false],.struct [(3,0),(3,1),(4,2)]⟩
def Qs:Option dH:=some ⟨4,40,[.pointer none,.pointer none,.pointer none,.string ⟨#[]⟩],.struct [(17,0),(17,1),(17,2),(9,3)]⟩
def yk:Env:=λt=>bif Nat.blt t 325 then(aX t 162 (aX t 81 (aX t 40 (aX t 20 (aX t 10 (aX t 5 (aX t 2 (aX t 1 none b4) (aX t 3 Ko (aX t 4 Ko (some ⟨1,1,[.bool false],.bool⟩)))) (aX t 7 Kp (aX t 8 Qi (aX t 9 Qi Qj)))) (aX t 15 (aX t 12 Qj (aX t 13 Kq (some ⟨2,24,[.string ⟨#[]⟩,.int .u64 0],.struct [(9,0),(12,1)]⟩))) (aX t 17 (aX t 16 (qc 314) (qc 317)) (aX t 18 (qc 324) (some ⟨1,8,[.pointer none],.struct [(17,0)]⟩))))) (aX t 30 (aX t 25 (aX t 22 (aX t 21 (some ⟨1,16,[.nilIface],.other⟩) Kr) b4) (aX t 27 (aX t 26 (some ⟨4,32,[.int .i64 0,.int .i64 0,.int .i64 0,.int .i64 0],.array 4 3⟩) (kt 25)) (aX t 28 b4 (aX t 29 (kt 66) Qk)))) (aX t 35 (aX t 32 (aX t 31 Qk b4) (aX t 33 Ko (aX t 34 none b4))) (aX t 37 b4 (aX t 38 (kt 5) b4))))) (aX t 60 (aX t 50 (aX t 45 (aX t 42 (aX t 41 Kq none) b4) (aX t 47 (aX t 46 (kt 72) Ql) (aX t 48 Ql (aX t 49 (qc 100) none)))) (aX t 55 (aX t 52 (aX t 51 b4 (kt 59)) (aX t 53 Qm (aX t 54 Qm none))) (aX t 57 b4 (aX t 58 b4 (some ⟨3,32,[.string ⟨#[]⟩,.int .i64 0,.int .i64 0],.struct [(9,0),(3,1),(3,2)]⟩))))) (aX t 70 (aX t 65 (aX t 62 b4 (aX t 63 (qc 115) (aX t 64 none b4))) (aX t 67 (some ⟨3,48,[.string ⟨#[]⟩,.slice none 0 0,.int .i64 0],.struct [(9,0),(47,1)]⟩) (aX t 68 Kq (some ⟨4,32,[.int .u64 0,.int .u64 0,.int .u64 0,.int .u64 0],.array 4 67⟩)))) (aX t 75 (aX t 72 (aX t 71 (kt 3) Qn) (aX t 73 Qn b4)) (aX t 78 b4 (aX t 79 b4 (aX t 80 (some ⟨4,56,[.string ⟨#[]⟩,.string ⟨#[]⟩,.int .i64 0,.string ⟨#[]⟩],.struct [(9,0),(9,1),(3,2),(9,3)]⟩) (kt 79)))))))) (aX t 121 (aX t 101 (aX t 91 (aX t 86 (aX t 83 (aX t 82 b4 none) (aX t 84 b4 (aX t 85 b4 none))) b4) (aX t 96 b4 (aX t 98 (aX t 97 (kt 9) b4) (aX t 99 (kt 108) (some ⟨5,112,[.string ⟨#[]⟩,.slice none 0 0,.slice none 0 0,.slice none 0 0,.slice none 0 0],.struct [(9,0),(96,1),(70,2),(45,3),(98,4)]⟩))))) (aX t 111 (aX t 106 b4 (aX t 108 (some ⟨4,16,[.int .i64 0,.int .i32 0,.int .u8 0,.int .u8 0],.struct [(2,0),(21,1),(5,2),(5,3)]⟩) (aX t 109 (kt 107) b4))) (aX t 116 (aX t 113 (aX t 112 b4 (kt 47)) (aX t 114 (kt 163) (some ⟨4,88,[.string ⟨#[]⟩,.slice none 0 0,.slice none 0 0,.slice none 0 0],.struct [(9,0),(30,1),(112,2),(113,3)]⟩))) (aX t 118 (some ⟨3,24,[.int .i64 0,.int .i64 0,.int .i64 0],.struct [(3,0),(3,1),(3,2)]⟩) b4)))) (aX t 141 (aX t 131 (aX t 126 (aX t 123 (aX t 122 b4 none) (aX t 124 b4 (aX t 125 none b4))) (aX t 128 (aX t 127 (some ⟨2,16,[.int .i64 0,.int .i64 0],.array 2 3⟩) (kt 126)) b4)) (aX t 136 (aX t 133 (aX t 132 (qc 59) b4) (aX t 134 (qc 140) (aX t 135 none b4))) (aX t 138 (aX t 137 b4 (kt 182)) (aX t 139 (kt 201) (some ⟨8,160,[.slice none 0 0,.int .i64 0,.int .i64 0,.slice none 0 0,.slice none 0 0,.slice none 0 0,.slice none 0 0,.slice none 0 0],.struct [(137,0),(3,1),(3,2),(45,3),(138,4),(28,5),(137,6),(137,7)]⟩))))) (aX t 151 (aX t 146 (aX t 143 (aX t 142 b4 (some ⟨1,8,[.map none],.map 9 3⟩)) (aX t 144 none b4)) b4) (aX t 156 (aX t 153 b4 (aX t 154 b4 (aX t 155 (some ⟨10,80,[.nilFunc,.nilFunc,.nilFunc,.nilFunc,.nilFunc,.nilFunc,.nilFunc,.nilFunc,.nilFunc,.nilFunc],.array 10 153⟩) b4))) b4))))) (aX t 243 (aX t 202 (aX t 182 (aX t 172 (aX t 167 (aX t 164 (aX t 163 b4 (kt 164)) (aX t 165 (kt 117) b4)) (aX t 169 (aX t 168 b4 none) (aX t 170 b4 (aX t 171 none b4)))) (aX t 177 (aX t 174 (aX t 173 (qc 174) Qo) (aX t 175 Qo (some ⟨1,16,[.nilIface],.other⟩))) (aX t 179 (aX t 178 none b4) (aX t 180 b4 (aX t 181 b4 Qp))))) (aX t 192 (aX t 187 (aX t 184 (aX t 183 Qp b4) b4) (aX t 189 b4 (aX t 190 Qq (aX t 191 Qq (kt 190))))) (aX t 197 (aX t 194 b4 (aX t 195 b4 (aX t 196 b4 (kt 4)))) (aX t 199 (aX t 198 b4 none) (aX t 200 b4 (some ⟨5,96,[.int .u8 0,.string ⟨#[]⟩,.slice none 0 0,.slice none 0 0,.slice none 0 0],.struct [(5,0),(9,1),(70,2),(70,3),(37,4)]⟩)))))) (aX t 222 (aX t 212 (aX t 207 (aX t 204 (aX t 203 none b4) (aX t 205 b4 (aX t 206 b4 (qc 201)))) (aX t 209 b4 (aX t 210 b4 (aX t 211 b4 (qc 5))))) (aX t 217 b4 (aX t 219 (aX t 218 b4 (some ⟨20,160,List.replicate 20 (.int .i64 0),.array 10 126⟩)) b4))) (aX t 232 (aX t 227 (aX t 224 (aX t 223 b4 none) (aX t 225 b4 (some ⟨1,24,[.slice none 0 0],.struct [(45,0)]⟩))) (aX t 229 (aX t 228 b4 (some ⟨10,80,[.nilFunc,.nilFunc,.nilFunc,.nilFunc,.nilFunc,.nilFunc,.nilFunc,.nilFunc,.nilFunc,.nilFunc],.array 10 227⟩)) (aX t 230 b4 (aX t 231 (qc 226) b4)))) (aX t 237 (aX t 234 (aX t 233 (some ⟨1,8,[.pointer none],.other⟩) b4) (aX t 235 b4 (aX t 236 b4 (some ⟨1,8,[.map none],.map 5 240⟩)))) (aX t 240 b4 (aX t 241 b4 none)))))) (aX t 284 (aX t 263 (aX t 253 b4 (aX t 258 (aX t 255 b4 (aX t 256 b4 (aX t 257 b4 (some ⟨24,24,List.replicate 24 (.int .u8 0),.array 24 5⟩)))) (aX t 260 b4 (aX t 261 none (aX t 262 b4 Qr))))) (aX t 273 (aX t 268 (aX t 265 (aX t 264 Qr (kt 263)) (aX t 266 (qc 263) b4)) (aX t 270 (aX t 269 (some ⟨3,48,[.string ⟨#[]⟩,.string ⟨#[]⟩,.string ⟨#[]⟩],.struct [(9,0),(9,1),(9,2)]⟩) (some ⟨30,480,List.replicate 30 (.string ⟨#[]⟩),.array 10 268⟩)) (aX t 271 (kt 272) (aX t 272 b4 (some ⟨2,2,[.int .u8 0,.int .u8 0],.array 2 5⟩))))) (aX t 278 (aX t 275 (aX t 274 b4 none) (aX t 276 b4 (aX t 277 b4 none))) (aX t 281 (aX t 279 b4 (aX t 280 none b4)) (aX t 282 b4 (aX t 283 b4 (some ⟨20,160,List.replicate 20 (.int .u64 0),.array 20 67⟩))))))) (aX t 304 (aX t 294 (aX t 289 (aX t 286 (aX t 285 (some ⟨1,4,[.int .u32 0],.int .u32⟩) (some ⟨65,65,List.replicate 65 (.int .u8 0),.array 65 5⟩)) (aX t 287 b4 (aX t 288 b4 (qc 295)))) (aX t 291 b4 (aX t 292 b4 (aX t 293 b4 (some ⟨1,8,[.map none],.map 5 5⟩))))) (aX t 299 (aX t 296 (some ⟨6,64,[.string ⟨#[]⟩,.string ⟨#[]⟩,.int .u8 0,.map none,.int .i64 0,.int .i64 0],.struct [(9,0),(9,1),(5,2),(293,3),(3,4),(32,5)]⟩) (aX t 297 none b4)) (aX t 301 b4 (aX t 302 b4 (aX t 303 b4 (some ⟨3,32,[.int .i64 0,.int .i64 0,.string ⟨#[]⟩],.struct [(3,0),(3,1),(9,2)]⟩)))))) (aX t 314 (aX t 309 (aX t 306 (aX t 305 (some ⟨9,96,[.int .i64 0,.int .i64 0,.string ⟨#[]⟩,.int .i64 0,.int .i64 0,.string ⟨#[]⟩,.int .i64 0,.int .i64 0,.string ⟨#[]⟩],.array 3 303⟩) b4) (aX t 307 b4 (aX t 308 b4 (some ⟨32,32,List.replicate 32 (.int .u8 0),.array 32 5⟩)))) (aX t 311 (aX t 310 (some ⟨64,64,List.replicate 64 (.int .u8 0),.array 64 5⟩) b4) (aX t 312 none (aX t 313 b4 Qs)))) (aX t 319 (aX t 316 (aX t 315 Qs (some ⟨0,0,[],.array 0 16⟩)) (aX t 317 (some ⟨0,0,[],.struct [(315,0)]⟩) (aX t 318 (some ⟨0,0,[],.struct [(315,0)]⟩) Kp))) (aX t 322 (aX t 320 Kp (aX t 321 b4 Kr)) (aX t 323 Kr (some ⟨11,48,[.int .u64 0,.int .u64 0,.int .u32 0,.int .u8 0,.int .u8 0,.int .u8 0,.int .u8 0,.nilFunc,.pointer none,.int .i32 0,.int .i32 0],.struct [(12,0),(12,1),(284,2),(318,3),(5,4),(5,5),(319,6),(320,7),(211,8),(321,9),(322,10)]⟩)))))))))else none
def aS:cB Tryz.prog yk:=Yp 325 (λt h=>by
 have a1:Nat.blt t 325=false:=by
  cases af:Nat.blt t 325 with
  |false=>rfl| true=>exact absurd (bB af) (by omega)
 simp only[yk,a1,a5]) (by kernel_rfl)
def letter(c:UInt8):Bool:=decide (97<=c.toNat/\c.toNat<=122)||(decide (65<=c.toNat/\c.toNat<=90)||decide (c.toNat=95))
def digit(c:UInt8):Bool:=decide (48<=c.toNat/\c.toNat<=57)
def Qt(I:aN)(c:UInt8):Spec Tryz.prog 136 [.int .u8 c.toNat] I [] (λv I' M'=>v=.bool (letter c)/\I'=I/\M'=[]):=by
 refine bC [] aS Tryz.func136 rfl rfl rfl ?_;intro B aq
 repeat' (refine bo.mk (λh=>?_) (λh=>?_))
 all_goals
  refine⟨_,_,.refl,?_⟩;refine⟨?_,rfl,rfl⟩;simp_all[letter]
  all_goals first
   |omega|(rw[n5];simp;omega)
def Zj(I:aN)(c:UInt8):Spec Tryz.prog 137 [.int .u8 c.toNat] I [] (λv I' M'=>v=.bool (digit c)/\I'=I/\M'=[]):=by
 refine bC [] aS Tryz.func137 rfl rfl rfl ?_;intro B aq
 repeat' (refine bo.mk (λh=>?_) (λh=>?_))
 all_goals
  refine⟨_,_,.refl,?_⟩;refine⟨?_,rfl,rfl⟩;simp_all[digit]
  all_goals first
   |omega|(rw[n5];simp;omega)
def yl(s:ByteArray):s.data.toList.length=s.size:=ya
def Zk(I:aN)(s:ByteArray)(ao:s.size<=140737488355328):Spec Tryz.prog 166 [.string s] I [] (λv I' M'=>v=.string s/\I'=I/\M'=[]):=by
 refine bC [] aS Tryz.func166 rfl rfl rfl ?_;intro B aq;refine aI.mk (λh=>?_) (λh=>?_)
 ·refine⟨_,_,.refl,?_,rfl,rfl⟩;have U:s.size=0:=by simpa using h
  have:s=.empty:=by apply oZ;exact CM U
  rw[this];rfl
 ·have U:s.size≠0:=by simpa using h
  refine qU.mk s.size s.size rfl rfl (b6 _) (by show 1*s.size<=_;omega) (by omega) ?_;refine cz.mk λb af tk=>?_;refine be.Qg aS rfl (by simp) (e:=5) rfl rfl rfl rfl rfl rfl (b6 _) ?_ (.refl _) ?_;·simp[z',madeCells]
  refine a6.mk ⟨b,0,none⟩ 0 rfl rfl (by omega) ?_;refine be.Kl aS rfl (by simp) (e:=5) rfl rfl rfl rfl (g:=b) (l:=s.data.toList) rfl ?_ ?_ ?_ (.refl _) ?_ ?_;·show cW.val (.int .i64 (s.size:Int))=cW.val (.int .i64 (s.data.toList.length:Int));rw[yl]
  ·intro e;have:=congrArg List.length e;rw[yl]at this;exact U this
  ·rw[yl];omega
  ·rw[yl];have ay:(jK s).length=s.size:=by simp[jK]
   simp only[bw];rw[p8,nj,CN (by rw[ay];exact b6 _),<-ay,List.take_length];rfl
  ·exact⟨_,_,.refl,rfl,rfl,rfl⟩
def Qu(I:aN)(s:ByteArray)(ao:s.size<=140737488355328):Spec Tryz.prog 138 [.string s] I [] (λv I' M'=>v=.string s/\I'=I/\M'=[]):=by refine bC [] aS Tryz.func138 rfl rfl rfl ?_;intro B aq;refine aT.mk [] [] _ (.refl _) (Zk I s ao) ?_;rintro v I' M' -⟨rfl,rfl,rfl⟩;exact⟨_,_,.refl,rfl,rfl,rfl⟩
def ku(c:UInt8):Bool:=letter c||digit c
def kv(s:ByteArray):Nat:=match s.data.toList with
 |[]=>0| c::r=>bif letter c then 1+(r.takeWhile ku).length else 0
def Qv{α:Type}(p:α->Bool):∀ (l:List α) (i:Nat),i<=l.length->(∀ j (h:j<l.length),j<i->p l[j]=true)->(∀ (h:i<l.length),p l[i]=false)->(l.takeWhile p).length=i
 |[],i,h,_,_=>by simp at h;simp[h]
 |x::l,0,_,_,h=>by have:=h (by simp);simp only[x']at this;simp[this]
 |x::l,i+1,hi,U,aa=>by have ab:=U 0 (by simp) (by omega);simp only[x']at ab;have a2:=Qv p l i (by simpa using hi) (λj al Gf=>by have:=U (j+1) (by simpa using al) (by omega);simpa using this) (λh=>by have:=aa (by simpa using h);simpa using this);simp[ab,a2]
def Qw{s:ByteArray}(aq:0<s.size)(ay:letter s[0]=true)(U:1<=i)(hi:i<=s.size)(aD:∀ j (h:j<s.size),1<=j->j<i->ku s[j]=true)(af:∀ (h:i<s.size),ku s[i]=false):kv s=i:=by
 have get:∀ j (h:j<s.size),s[j]=s.data.toList[j]'(by rw[yl];exact h):=λj h=>rfl;unfold kv;have hlen:=yl s;cases ai:s.data.toList with
 |nil=>rw[ai]at hlen;simp at hlen;omega
 |cons c r=>
  have g:∀ j (h:j<s.size),s[j]=(c::r)[j]'(by rw[<-ai,hlen];exact h):=λj h=>by rw[get j h];simp only[ai]
  rw[ai]at hlen;have aA:letter c=true:=by rw[g 0 aq]at ay;simpa using ay
  simp only[aA,ba];simp only[c5]at hlen;rw[Qv ku r (i-1) (by omega) (λj al Gf=>by
   have ag:j+1<s.size:=by omega
   have:=aD (j+1) ag (by omega) (by omega);rw[g (j+1) ag]at this;simpa using this) (λh=>by
   have ag:i<s.size:=by omega
   have:=af ag;rw[g i ag]at this;have e:i=(i-1)+1:=by omega
   rw[List.getElem_cons]at this;rw[dif_neg (by omega)]at this;exact this)]
  omega
def Zl(I:aN)(s:ByteArray)(ao:s.size<=140737488355328):Spec Tryz.prog 100 [.string s] I [] (λv I' M'=>v=.string (s.extract 0 (kv s))/\I'=I/\M'=[]):=by
 refine bC [] aS Tryz.func100 rfl rfl rfl ?_;intro B aq;have b7:∀ {s:ByteArray},kv s=0->s.extract 0 (kv s)=⟨#[]⟩:=λh=>by rw[h];apply oZ;simp[z6]
 refine bo.mk (λh=>?_) (λh=>?_)
 ·have U:s≠⟨#[]⟩:=by simpa using h
  have n':0<s.size:=by refine Nat.pos_of_ne_zero λe=>U ?_;apply oZ;exact CM e
  refine o2.mk 0 rfl n' ?_;refine aT.mk [] [] _ (.refl _) (Qt I s[0]) ?_;rintro v I' M' -⟨rfl,rfl,rfl⟩;refine aI.mk (λh=>?_) (λh=>?_)
  ·have ay:letter s[0]=false:=by simpa using h
   refine⟨_,_,.refl,?_,rfl,rfl⟩;rw[b7]
   ·unfold kv;cases ai:s.data.toList with
    |nil=>rfl
    |cons c r=>
     have:s[0]=c:=by show s.data.toList[0]=c;simp only[ai];rfl
     rw[this]at ay;simp[ay]
  ·have ay:letter s[0]=true:=by simpa using h
   refine cD.inv (ι:=Nat) (λi=>{ bA:=[(0,.val (.string s)),(3,.val (.int .i64 i))],cj:=I' }) (λi=>1<=i/\i<=s.size/\∀ j (h:j<s.size),1<=j->j<i->ku s[j]=true) (λi=>s.size-i) ?_ ?_;·exact⟨1,⟨by omega,by omega,λj _ U aa=>by omega⟩,.refl,ln,.nil⟩
   ·rintro i⟨eA,gG,gH⟩;have next:∀ (aL:i<s.size),ku s[i]=true->(1<=i+1/\i+1<=s.size/\∀ k (h:k<s.size),1<=k->k<i+1->ku s[k]=true)/\s.size-(i+1)<s.size-i:=λaL aA=>
     ⟨⟨by omega,by omega,λj al U aa=>by
      by_cases e:j=i;·subst e;exact aA
      ·exact gH j al U (by omega)⟩,by omega⟩
    have out:(∀ (h:i<s.size),ku s[i]=false)->s.extract 0 i=s.extract 0 (kv s):=λav=>by rw[Qw n' ay eA gG gH av]
    have cm:(s.extract 0 i).size<=140737488355328:=by rw[CP];omega
    have eJ:IntKind.i64.wrap ((i:Int)+1)=((i+1:Nat):Int):=by rw[wrap_i64 ⟨by omega,by omega⟩];omega
    refine bo.mk (λh=>?_) (λh=>?_)
    ·have aL:i<s.size:=by simpa using h
     refine o2.mk i rfl aL ?_;refine aT.mk [] [] _ (.refl _) (Qt I' s[i]) ?_;rintro v I' M' -⟨rfl,rfl,rfl⟩;refine bo.mk (λh=>?_) (λh=>?_)
     ·refine o2.mk i rfl aL ?_;refine aT.mk [] [] _ (.refl _) (Zj _ s[i]) ?_;rintro v I' M' -⟨rfl,rfl,rfl⟩;refine aI.mk (λaa=>?_) (λaa=>?_)
      ·refine aQ.mk _ eJ ?_;exact⟨i+1,next aL (by simp only[ku];rw[show digit s[i]=true from aa];simp),.refl,ln,.nil⟩
      ·refine i'.mk 0 i rfl rfl (by omega) (by omega) ?_;refine aT.mk [] [] _ (.refl _) (Qu _ _ cm) ?_;rintro v I' M' -⟨rfl,rfl,rfl⟩;refine⟨_,_,.refl,?_,rfl,rfl⟩;rw[<-out λ_=>by simp only[ku];rw[show letter s[i]=false from h,show digit s[i]=false from aa];rfl]
     ·refine aQ.mk _ eJ ?_;exact⟨i+1,next aL (by simp only[ku];rw[show letter s[i]=true from h];simp),.refl,ln,.nil⟩
    ·have c1:¬ i<s.size:=by simpa using h
     refine i'.mk 0 i rfl rfl (by omega) (by omega) ?_;refine aT.mk [] [] _ (.refl _) (Qu _ _ cm) ?_;rintro v I' M' -⟨rfl,rfl,rfl⟩;refine⟨_,_,.refl,?_,rfl,rfl⟩;rw[<-out λh=>(c1 h).elim]
 ·have U:s=⟨#[]⟩:=by simpa using h
  subst U;refine⟨_,_,.refl,?_,rfl,rfl⟩;rw[b7];rfl
def gI(s:ByteArray):Bool:=decide (s≠⟨#[]⟩)&&(decide (s.size<=32)&&decide (kv s=s.size))
def Qx(s:ByteArray):kv s<=s.size:=by
 unfold kv;have ay:=yl s;cases ai:s.data.toList with
 |nil=>simp
 |cons c r=>
  rw[ai]at ay;simp only[c5]at ay;simp only;cases letter c;·simp
  ·simp only[ba];have:=(List.takeWhile_sublist (p:=ku) (l:=r)).length_le;omega
def Ks(I:aN)(s:ByteArray):Spec Tryz.prog 66 [.string s] I [] (λv I' M'=>v=.bool (gI s)/\I'=I/\M'=[]):=by
 refine bC [] aS Tryz.func66 rfl rfl rfl ?_;intro B aq;refine bo.mk (λU=>?_) (λU=>?_)
 ·refine bo.mk (λaa=>?_) (λaa=>?_)
  ·have h3:s.size<=32:=by simp at aa;omega
   refine aT.mk [] [] _ (.refl _) (Zl I s (by omega)) ?_;rintro v I' M' -⟨rfl,rfl,rfl⟩;refine⟨_,_,.refl,?_,rfl,rfl⟩;have hle:=Qx s;have ax:(s.extract 0 (kv s)).size=kv s:=by rw[CP];omega
   simp_all[gI]
   all_goals omega
  ·refine⟨_,_,.refl,?_,rfl,rfl⟩;simp_all[gI]
   all_goals omega
 ·refine⟨_,_,.refl,?_,rfl,rfl⟩;simp_all[gI]
def lu:List Int:=[0,0,0,0,0,0,0,0,2,-1,2,-1,1,1,1,1,1,1,1,1]
def qd(k:Nat):Int:=lu.getD (k*2) 0
def mH(k:Nat):Int:=lu.getD (k*2+1) 0
def pj(I:aN):Prop:=∃ T aj,I 0=some (.cells (lu.map (Value.int .i64)).toArray T aj)
def pj.rd(h:pj I)(M:List aC)(al:j<20):bE I M (Addr.add ⟨0,0,none⟩ j) 1 [.int .i64 (lu.getD j 0)]:=by
 obtain⟨T,aj,h⟩:=h;rw[d' _ rfl];refine⟨rfl,_,T,aj,.inl h,?_,rfl⟩;simp only[dK];have:∀ j:Fin 20,(((lu.map (Value.int .i64)).toArray.toList.drop j.val).take 1)=[Value.int .i64 (lu.getD j.val 0)]:=by
  intro j;have U:j.val<(lu.map (Value.int .i64)).length:=by simp[lu]
  rw[Jq,dS U,oe,p8];have aa:j.val<lu.length:=by simp[lu]
  simp[cQ,aa]
 exact this ⟨j,al⟩
def pj.Zm(h:pj I)(M:List aC)(al:i+j<20):bE I M ((Addr.add ⟨0,0,none⟩ i).add j) 1 [.int .i64 (lu.getD (i+j) 0)]:=by
 have e:(Addr.add ⟨0,0,none⟩ i).add j=Addr.add ⟨0,0,none⟩ (i+j):=by rw[d' ⟨_,0,none⟩ rfl i,d' _ rfl j,d' _ rfl (i+j)];simp
 rw[e];exact h.rd M al
def aP.nw(d:aP):Bool:=d.eh == 0&&(d.s1 == 0&&(d.s2 == 0&&d.fJ == 0))
def fits(d:aP)(n:Int):Bool:=
 bif decide (10<=d.k)then false else
 bif decide (n<qd d.k.toNat)||(decide (0<=mH d.k.toNat)&&decide (mH d.k.toNat<n))then false else
 bif decide (d.k=1)then decide (d.t=⟨#[]⟩)&&(decide (d.lo=0)&&decide (d.hi=0))else
 bif decide (d.k=2)then(!(decide (d.t=⟨#[]⟩)||decide (255<d.t.size)))&&(d.nw&&(decide (d.lo=0)&&decide (d.hi=0)))else
 bif decide (d.k=3)||decide (d.k=9)then gI d.t&&(d.nw&&(decide (d.lo=0)&&decide (d.hi=0)))else
 bif decide (d.k=6)then(!(decide (d.lo<0)||(decide (99<d.lo)||(decide (d.hi≠-1)&&(decide (d.hi<d.lo)||decide (99<d.hi))))))&&(d.nw&&decide (d.t=⟨#[]⟩))else
 d.nw&&(decide (d.t=⟨#[]⟩)&&(decide (d.lo=0)&&decide (d.hi=0)))
set_option maxRecDepth 20000 in
def Qy(aA:pj I){d:aP}(ai:d.ok I)(n:Int):Spec Tryz.prog 140 [d.val,.int .i64 n] I [] (λv I' M'=>v=.bool (fits d n)/\I'=I/\M'=[]):=by
 refine bC [] aS Tryz.func140 rfl rfl rfl ?_;intro B aq;have ae:=ai.k;refine aQ.mk d.k (by unfold IntKind.wrap;simp[IntKind.bits,IntKind.signed];omega) ?_;refine aI.mk (λh=>?_) (λh=>?_)
 ·refine⟨_,_,.refl,?_,rfl,rfl⟩;simp at h;simp[fits,h]
 ·have rc:d.k<10:=by simpa using h
  have al:d.k=((d.k.toNat:Nat):Int):=by omega
  have Qz:d.k.toNat<10:=by omega
  refine cL.draw aS rfl rfl rfl ?_;refine dT.mk d.k.toNat al Qz ?_;refine dT.mk 0 rfl (by omega) ?_;refine aJ.mk [.int .i64 (qd d.k.toNat)] (aA.rd _ (j:=d.k.toNat*2) (by omega)) ?_;refine dT.mk d.k.toNat al Qz ?_;refine dT.mk 1 rfl (by omega) ?_;refine aJ.mk [.int .i64 (mH d.k.toNat)] (aA.Zm _ (i:=d.k.toNat*2) (j:=1) (by omega)) ?_
  repeat' first
   |refine bo.mk (λh=>?_) (λh=>?_)| refine aI.mk (λh=>?_) (λh=>?_)| refine cu.Kj aS (e:=67) rfl rfl rfl rfl (by kernel_rfl) ?_|(refine aT.mk [] [] _ (.refl _) (Ks _ _) ?_;rintro v I' M' -⟨rfl,rfl,rfl⟩)
  all_goals refine⟨_,_,.refl,?_⟩
  all_goals refine⟨?_,rfl,rfl⟩
  all_goals clear aA ai al
  all_goals (first | (simp_all[fits,aP.nw];done) | (simp_all[fits,aP.nw];omega) | (simp_all[fits,aP.nw];rw[n5];simp;omega))
def iz(i:Nat):List Int->List Bool->Option (List Bool)
 |[],s=>some s| k::ks,s=>bif decide (k<0)||(decide ((i:Int)<=k)||s.getD k.toNat false)then none else iz i ks (s.set k.toNat true)
def gJ:Nat->List aP->List Bool->Option (List Bool)
 |_,[],s=>some s
 |i,d::ds,s=>bif fits d d.kids.length then(match iz i d.kids s with
  |some b0=>gJ (i+1) ds b0| none=>none)else none
def nx(root:Int):Nat->List Bool->Bool
 |_,[]=>true| i,b::s=>bif b == decide ((i:Int)=root)then false else nx root (i+1) s
def right(t:bJ):Bool:=decide (0<=t.root)&&(decide (t.root<t.ns.length)&&(match gJ 0 t.ns (List.replicate t.ns.length false)with
 |some s=>nx t.root 0 s| none=>false))
def Ax(v:Value)(n:Nat):rowOf [v] n=List.replicate n v:=by
 apply wi
 ·simp[z',madeCells]
 ·intro i U aa;simp[z',madeCells,Nat.mod_one]
def wy(b:Nat)(s:List Bool):aC:=⟨b,.cells (s.map Value.bool).toArray 4 (0,0)⟩
def QA{M:List aC}{s:List Bool}(a7:wy b s∈M)(al:j<s.length):bE I M ((⟨b,0,none⟩:Addr).add (j*1)) 1 [.bool s[j]]:=by
 rw[d' _ rfl];refine⟨rfl,_,4,(0,0),.inr ⟨_,a7,rfl,rfl⟩,?_,rfl⟩;have U:j<(s.map Value.bool).length:=by simpa using al
 simp only[dK,hD];rw[dS U,oe,p8];simp
def Zn(s:List Bool)(j:Nat)(al:j<s.length)(b:Bool):bw (s.map Value.bool) j [.bool b]=(s.set j b).map Value.bool:=by unfold bw;rw[List.map_set,Gi];simp[al]
def cX.add{M:List aC}{o k:Nat}(pre post:List aC)(cs:Array Value)(T:Nat)(a7:M=pre++⟨b,.cells cs T (0,0)⟩::post)(af:o+k+vs.length<=cs.size)(U:gS vs=true)
  (h:K (pre++⟨b,.cells (bw cs.toList (o+k) vs).toArray T (0,0)⟩::post)):cX M ((⟨b,o,none⟩:Addr).add k) vs K:=by
 rw[d' _ rfl];exact .mk pre post cs T a7 rfl af U h
def cX.qe{M:List aC}{o k:Nat}(pre post:List aC)(cs:List Value)(T:Nat)(a7:M=pre++⟨b,.cells cs.toArray T (0,0)⟩::post)(af:Nat.ble (o+k+vs.length) cs.length=true)(U:gS vs=true)(cs':List Value)(he:bw cs (o+k) vs=cs')(h:K (pre++⟨b,.cells cs'.toArray T (0,0)⟩::post)):cX M ((⟨b,o,none⟩:Addr).add k) vs K:=
 cX.add pre post _ _ a7 (by simpa using bB af) U (by rw[<-he]at h;exact h)
def Ay(aA:pj I){t:bJ}(au:t.ok I):Spec Tryz.prog 103 [t.val] I [] (λv I' M'=>v=.bool (right t)/\I'=I/\M'=[]):=by
 refine bC [] aS Tryz.func103 rfl rfl rfl ?_;intro B aq;have av:=au.n;have ny:=au.aU.cap;refine bo.mk (λU=>?_) (λU=>?_)
 ·refine aI.mk (λaa=>?_) (λaa=>?_)
  ·refine⟨_,_,.refl,?_,rfl,rfl⟩;simp at aa;have:¬ t.root<t.ns.length:=by omega
   simp[right,this]
  ·have aR:0<=t.root:=by simpa using U
   have aV:t.root<t.ns.length:=by simp at aa;omega
   refine qU.mk t.n t.n rfl rfl (b6 _) (by show 1*t.n<=_;omega) (by omega) ?_;refine cz.mk λb af tk=>?_;refine cD.inv (ι:=Nat×List Bool) (λx=>{ bA:=[(1,.ref 1 0),(3,.val (.slice (some ⟨b,0,none⟩) t.n t.n)),(26,.val (.slice t.a t.n t.c)),(27,.val (.int .i64 t.n)),(28,.val (.int .i64 x.1))],cl:=[(1,t.cells)],cj:=I,dx:=[wy b x.2] }) (λx=>x.1<=t.n/\x.2.length=t.n/\gJ 0 t.ns (List.replicate t.ns.length false)=gJ x.1 (t.ns.drop x.1) x.2) (λx=>t.n-x.1) ?_ ?_;·refine⟨(0,List.replicate t.n false),⟨by omega,by simp,by simp[av]⟩,?_,kQ,.cons rfl .nil⟩;show hP _ _ [⟨b,.cells (rowOf [Value.bool false] (t.n*1)).toArray 4 (0,0)⟩] _ [wy b (List.replicate t.n false)];rw[Ax,hD];simp only[wy,Gm];exact .refl
   ·rintro⟨i,s⟩⟨eA,gG,gH⟩;simp only at eA gG gH;refine aI.mk (λh=>?_) (λh=>?_)
    ·have aL:i<t.n:=by simpa using h
     have bi:i<t.ns.length:=by omega
     obtain⟨ad,bR,bh⟩:=au.aU.row aP.c0 aL bi;have fg:=au.ns t.ns[i] (cO bi);have dP:=fg.kn;have eR:t.ns.drop i=t.ns[i]::t.ns.drop (i+1):=dS bi;refine a6.mk ad i bR rfl aL ?_;refine aJ.mk t.ns[i].cells (bh _) ?_;refine aT.mk [] [wy b s] _ (.refl _) (Qy aA fg t.ns[i].kn) ?_;rintro v I' M' -⟨rfl,rfl,rfl⟩;refine aI.mk (λag=>?_) (λag=>?_)
     ·refine⟨_,_,.sub (dJ _) .refl,?_,rfl,rfl⟩;have aw:fits t.ns[i] t.ns[i].kids.length=false:=by rw[dP];simpa using ag
      have:right t=false:=by unfold right;rw[gH,eR];simp[gJ,aw]
      rw[this]
     ·have aw:fits t.ns[i] t.ns[i].kids.length=true:=by rw[dP];simpa using ag
      refine cD.inv (ι:=Nat×List Bool) (λx=>{ bA:=[(1,.ref 1 0),(3,.val (.slice (some ⟨b,0,none⟩) t.n t.n)),(4,.val (.int .i64 i)),(26,.val (.slice t.a t.n t.c)),(27,.val (.int .i64 t.n)),(28,.val (.int .i64 i)),(40,.val (.slice t.ns[i].kX t.ns[i].kn t.ns[i].j0)),(41,.val (.int .i64 t.ns[i].kn)),(42,.val (.int .i64 x.1))],cl:=[(1,t.cells)],cj:=I',dx:=[wy b x.2] }) (λx=>x.1<=t.ns[i].kn/\x.2.length=t.n/\iz i t.ns[i].kids s=iz i (t.ns[i].kids.drop x.1) x.2) (λx=>t.ns[i].kn-x.1) ?_ ?_;·exact⟨(0,s),⟨by omega,gG,rfl⟩,.refl,CA,.cons rfl .nil⟩
      ·rintro⟨j,b0⟩⟨C5,ym,wz⟩;simp only at C5 ym wz;refine aI.mk (λh=>?_) (λh=>?_)
       ·have dF:j<t.ns[i].kn:=by simpa using h
        have gn:j<t.ns[i].kids.length:=by omega
        obtain⟨ec,e6,eo⟩:=fg.aU.one dF gn;refine a6.mk ec j e6 rfl dF ?_;refine aJ.mk [.int .i64 t.ns[i].kids[j]] (eo _) ?_;have hq:t.ns[i].kids.drop j=t.ns[i].kids[j]::t.ns[i].kids.drop (j+1):=dS gn;have bad:(decide (t.ns[i].kids[j]<0)||(decide ((i:Int)<=t.ns[i].kids[j])||b0.getD t.ns[i].kids[j].toNat false))=true->right t=false:=λaf=>by unfold right;rw[gH,eR];simp only[gJ,aw,ba,wz,hq,iz,af];simp
        refine bo.mk (λaK=>?_) (λaK=>?_)
        ·refine bo.mk (λbg=>?_) (λbg=>?_)
         ·simp only[mB,Int.not_lt,Int.not_le]at aK bg;have fQ:t.ns[i].kids[j]=((t.ns[i].kids[j].toNat:Nat):Int):=by omega
          have dG:t.ns[i].kids[j].toNat<t.n:=by omega
          have jj:t.ns[i].kids[j].toNat<b0.length:=by omega
          refine a6.mk ⟨b,0,none⟩ t.ns[i].kids[j].toNat rfl fQ dG ?_;refine aJ.mk [.bool b0[t.ns[i].kids[j].toNat]] (QA (by simp) jj) ?_;refine aI.mk (λbD=>?_) (λbD=>?_);·refine⟨_,_,.sub (dJ _) .refl,?_,rfl,rfl⟩;rw[bad];simp[cQ,jj,bD]
          ·refine a6.mk ⟨b,0,none⟩ t.ns[i].kids[j].toNat rfl fQ dG ?_;refine cX.add [] [] _ 4 rfl ?_ rfl ?_
           ·simp only[oY,ei];show 0+t.ns[i].kids[j].toNat*1+1<=_;omega
           have eJ:IntKind.i64.wrap ((j:Int)+1)=((j+1:Nat):Int):=by rw[wrap_i64 ⟨by omega,by have:=fg.aU.cap;omega⟩];omega
           refine aQ.mk _ eJ ?_;refine⟨(j+1,b0.set t.ns[i].kids[j].toNat true),⟨⟨by omega,by simp[ym],?_⟩,by show _<_;simp only;omega⟩,?_,CA,.cons rfl .nil⟩
           ·simp only;rw[wz,hq];have aE:(decide (t.ns[i].kids[j]<0)||(decide ((i:Int)<=t.ns[i].kids[j])||b0.getD t.ns[i].kids[j].toNat false))=false:=by
             have ax:¬ t.ns[i].kids[j]<0:=by omega
             have az:¬ (i:Int)<=t.ns[i].kids[j]:=by omega
             simp[ax,az,cQ,jj,show b0[t.ns[i].kids[j].toNat]=false from bD]
            simp only[iz,aE,a5]
           ·have e:=Zn b0 t.ns[i].kids[j].toNat jj true;simp only[wy];rw[<-e];simp only[dK,hD];exact .refl
         ·refine⟨_,_,.sub (dJ _) .refl,?_,rfl,rfl⟩;rw[bad];simp at bg;simp[bg]
        ·refine⟨_,_,.sub (dJ _) .refl,?_,rfl,rfl⟩;rw[bad];simp at aK;simp[aK]
       ·have dF:¬ j<t.ns[i].kn:=by simpa using h
        have rY:t.ns[i].kids.drop j=[]:=hc (by omega);have eJ:IntKind.i64.wrap ((i:Int)+1)=((i+1:Nat):Int):=by rw[wrap_i64 ⟨by omega,by omega⟩];omega
        refine aQ.mk _ eJ ?_;refine⟨(i+1,b0),⟨⟨by omega,ym,?_⟩,by show _<_;simp only;omega⟩,.refl,kQ,.cons rfl .nil⟩;simp only;rw[gH,eR];simp only[gJ,aw,ba,wz,rY,iz]
    ·have c1:¬ i<t.n:=by simpa using h
     have fa:t.ns.drop i=[]:=hc (by omega);have eP:gJ 0 t.ns (List.replicate t.ns.length false)=some s:=by rw[gH,fa];rfl
     have an:right t=nx t.root 0 s:=by unfold right;rw[eP];simp[aR,aV]
     refine cD.inv (ι:=Nat) (λm=>{ bA:=[(1,.ref 1 0),(64,.val (.slice (some ⟨b,0,none⟩) t.n t.n)),(65,.val (.int .i64 t.n)),(66,.val (.int .i64 m))],cl:=[(1,t.cells)],cj:=I,dx:=[wy b s] }) (λm=>m<=t.n/\nx t.root 0 s=nx t.root m (s.drop m)) (λm=>t.n-m) ?_ ?_;·exact⟨0,⟨by omega,rfl⟩,.refl,dr,.cons rfl .nil⟩
     ·rintro m⟨C6,re⟩;refine aI.mk (λh=>?_) (λh=>?_)
      ·have uT:m<t.n:=by simpa using h
       have QB:m<s.length:=by omega
       have l0:s.drop m=s[m]::s.drop (m+1):=dS QB;refine a6.mk ⟨b,0,none⟩ m rfl rfl uT ?_;refine aJ.mk [.bool s[m]] (QA (by simp) QB) ?_;refine aI.mk (λeg=>?_) (λeg=>?_)
       ·refine⟨_,_,.sub (dJ _) .refl,?_,rfl,rfl⟩;have:right t=false:=by rw[an,re,l0];simp only[nx,show(s[m] == decide ((m:Int)=t.root))=true from eg,ba]
        rw[this]
       ·have eJ:IntKind.i64.wrap ((m:Int)+1)=((m+1:Nat):Int):=by rw[wrap_i64 ⟨by omega,by omega⟩];omega
        refine aQ.mk _ eJ ?_;refine⟨m+1,⟨⟨by omega,?_⟩,by omega⟩,.refl,dr,.cons rfl .nil⟩;rw[re,l0];simp only[nx,show(s[m] == decide ((m:Int)=t.root))=false from eg,a5]
      ·have uT:¬ m<t.n:=by simpa using h
       have l0:s.drop m=[]:=hc (by omega);refine⟨_,_,.sub (dJ _) .refl,?_,rfl,rfl⟩;rw[an,re,l0];rfl
 ·refine⟨_,_,.refl,?_,rfl,rfl⟩;have:¬ 0<=t.root:=by simp at U;omega
  simp[right,this]
def kY(b:Nat)(s:List Int):aC:=⟨b,.cells (s.map (Value.int .i64)).toArray 3 (0,0)⟩
def Kt{M:List aC}{s:List Int}(a7:kY b s∈M)(al:j<s.length):bE I M ((⟨b,0,none⟩:Addr).add (j*1)) 1 [.int .i64 s[j]]:=by
 rw[d' _ rfl];refine⟨rfl,_,3,(0,0),.inr ⟨_,a7,rfl,rfl⟩,?_,rfl⟩;have U:j<(s.map (Value.int .i64)).length:=by simpa using al
 simp only[dK,hD];rw[dS U,oe,p8];simp
def wA{M:List aC}{s:List Int}{v:Int}(al:j<s.length)(ah:s[j]=v)(a7:kY b s∈M):bE I M ((⟨b,0,none⟩:Addr).add (j*1)) 1 [.int .i64 v]:=ah ▸ Kt a7 al
def C7(s:List Int)(j:Nat)(al:j<s.length)(b:Int):bw (s.map (Value.int .i64)) j [.int .i64 b]=(s.set j b).map (Value.int .i64):=by unfold bw;rw[List.map_set,Gi];simp[al]
def Zo(aA:pj I){t:bJ}(au:t.ok I):Spec Tryz.prog 154 [t.val] I [] (λv I' M'=>v=.int .i64 (bif right t then(t.n:Int)else 0)/\I'=I/\M'=[]):=by
 refine bC [] aS Tryz.func154 rfl rfl rfl ?_;intro B aq;refine aT.mk [] [] _ (.refl _) (Ay aA au) ?_;rintro v I' M' -⟨rfl,rfl,rfl⟩;refine aI.mk (λh=>?_) (λh=>?_)
 ·refine⟨_,_,.refl,?_,rfl,rfl⟩;rw[show right t=false by simpa using h];rfl
 ·refine⟨_,_,.refl,?_,rfl,rfl⟩;rw[show right t=true by simpa using h];rfl
def QC{i:Nat}:∀ {ks:List Int} {s b0:List Bool},iz i ks s=some b0->∀ k∈ks,0<=k/\k<i
 |[],s,b0,_,k,ae=>by cases ae
 |x::ks,s,b0,h,k,ae=>by
  unfold iz at h;cases af:(decide (x<0)||(decide ((i:Int)<=x)||s.getD x.toNat false))with
  |true=>rw[af]at h;cases h
  |false=>
   rw[af]at h;simp only[lq,mB]at af;rcases dE.1 ae with rfl | ae;·omega
   ·exact QC h k ae
def QD:∀ {i:Nat} {ds:List aP} {s b0:List Bool},gJ i ds s=some b0->∀ j (h:j<ds.length),∀ k∈ds[j].kids,0<=k/\k<(i+j:Nat)
 |i,[],s,b0,_,j,al,_,_=>by cases al
 |i,d::ds,s,b0,h,j,al,k,ae=>by
  unfold gJ at h;cases aw:fits d d.kids.length with
  |false=>rw[aw]at h;cases h
  |true=>
   rw[aw]at h;simp only[ba]at h;cases ap:iz i d.kids s with
   |none=>rw[ap]at h;cases h
   |some s1=>
    rw[ap]at h;cases j with
    |zero=>exact QC ap k (by simpa using ae)| succ j=>have:=QD h j (by simpa using al) k (by simpa using ae);omega
def qf{t:bJ}(h:right t=true):∀ j (al:j<t.ns.length),∀ k∈t.ns[j].kids,0<=k/\k<j:=by
 unfold right at h;simp only[bL]at h;obtain⟨_,_,h⟩:=h;split at h
 ·rename_i s ao;intro j al k ae;have:=QD ao j al k ae;omega
 ·cases h
def Az{t:bJ}(h:right t=true):0<=t.root/\t.root<t.ns.length:=by unfold right at h;simp only[bL,ft]at h;exact⟨h.1,h.2.1⟩
def wB(dz:List Int):List Int->Int->Int
 |[],m=>m| k::ks,m=>wB dz ks (max m (dz.getD k.toNat 0))
def pk:Nat->List aP->List Int->List Int
 |_,[],dz=>dz| i,d::ds,dz=>pk (i+1) ds (dz.set i (wB dz d.kids 0+1))
def depth(t:bJ):Int:=bif right t then(pk 0 t.ns (List.replicate t.ns.length 0)).getD t.root.toNat 0 else 0
def Zp(aA:pj I){t:bJ}(au:t.ok I):Spec Tryz.prog 104 [t.val] I [] (λv I' M'=>v=.int .i64 (depth t)/\I'=I/\M'=[]):=by
 refine bC [] aS Tryz.func104 rfl rfl rfl ?_;intro B aq;have av:=au.n;have ny:=au.aU.cap;refine aT.mk [] [] _ (.refl _) (Ay aA au) ?_;rintro v I' M' -⟨rfl,rfl,rfl⟩;refine aI.mk (λh=>?_) (λh=>?_)
 ·refine⟨_,_,.refl,?_,rfl,rfl⟩;simp[depth,show right t=false by simpa using h]
 ·have an:right t=true:=by simpa using h
  have jk:=qf an;obtain⟨aR,aV⟩:=Az an;refine qU.mk t.n t.n rfl rfl (b6 _) (by show 8*t.n<=_;omega) (by omega) ?_;refine cz.mk λb af tk=>?_;refine cD.inv (ι:=Nat×List Int) (λx=>{ bA:=[(1,.ref 1 0),(3,.val (.slice (some ⟨b,0,none⟩) t.n t.n)),(16,.val (.slice t.a t.n t.c)),(17,.val (.int .i64 t.n)),(18,.val (.int .i64 x.1))],cl:=[(1,t.cells)],cj:=I',dx:=[kY b x.2] }) (λx=>x.1<=t.n/\x.2.length=t.n/\(∀ j,0<=x.2.getD j 0/\x.2.getD j 0<=x.1)/\(∀ j,x.1<=j->x.2.getD j 0=0)/\pk 0 t.ns (List.replicate t.ns.length 0)=pk x.1 (t.ns.drop x.1) x.2) (λx=>t.n-x.1) ?_ ?_
  ·have z:∀ j,(List.replicate t.n (0:Int)).getD j 0=0:=λj=>by
    by_cases al:j<t.n<;>simp[cQ,al]
   refine⟨(0,List.replicate t.n 0),⟨by omega,by simp,λj=>by rw[z];simp,λj _=>z j,by simp[av]⟩,?_,kQ,.cons rfl .nil⟩;show hP _ _ [⟨b,.cells (rowOf [Value.int .i64 0] (t.n*1)).toArray 3 (0,0)⟩] _ [kY b (List.replicate t.n 0)];rw[Ax,hD];simp only[kY,Gm];exact .refl
  ·rintro⟨i,dz⟩⟨eA,gG,gH,iS,rP⟩;simp only at eA gG gH iS rP;refine aI.mk (λh=>?_) (λh=>?_)
   ·have aL:i<t.n:=by simpa using h
    have bi:i<t.ns.length:=by omega
    obtain⟨ad,bR,bh⟩:=au.aU.row aP.c0 aL bi;have fg:=au.ns t.ns[i] (cO bi);have dP:=fg.kn;have eR:t.ns.drop i=t.ns[i]::t.ns.drop (i+1):=dS bi;refine a6.mk ad i bR rfl aL ?_;refine aJ.mk t.ns[i].cells (bh _) ?_;refine cD.inv (ι:=Nat×Int) (λx=>{ bA:=[(1,.ref 1 0),(3,.val (.slice (some ⟨b,0,none⟩) t.n t.n)),(4,.val (.int .i64 i)),(16,.val (.slice t.a t.n t.c)),(17,.val (.int .i64 t.n)),(18,.val (.int .i64 i)),(24,.val (.slice t.ns[i].kX t.ns[i].kn t.ns[i].j0)),(25,.val (.int .i64 t.ns[i].kn)),(26,.val (.int .i64 x.1))],cl:=[(1,t.cells)],cj:=I',dx:=[kY b (dz.set i x.2)] }) (λx=>x.1<=t.ns[i].kn/\0<=x.2/\x.2<=i/\wB dz t.ns[i].kids 0=wB dz (t.ns[i].kids.drop x.1) x.2) (λx=>t.ns[i].kn-x.1) ?_ ?_
    ·refine⟨(0,0),⟨by omega,by omega,by simp,rfl⟩,?_,CA,.cons rfl .nil⟩;have e:dz.set i 0=dz:=by
      have U:=iS i (b6 _);rw[cQ]at U;apply Gn;intro j;rw[mC];split
      ·rename_i e;subst e;have:i<dz.length:=by omega
       simp[this]at U |-;exact U.symm
      ·rfl
     simp only;rw[e];exact .refl
    ·rintro⟨j,m⟩⟨C5,ym,wz,yn⟩;simp only at C5 ym wz yn;refine aI.mk (λh=>?_) (λh=>?_)
     ·have dF:j<t.ns[i].kn:=by simpa using h
      have gn:j<t.ns[i].kids.length:=by omega
      obtain⟨ec,e6,eo⟩:=fg.aU.one dF gn;have hq:t.ns[i].kids.drop j=t.ns[i].kids[j]::t.ns[i].kids.drop (j+1):=dS gn;have ae:=jk i bi t.ns[i].kids[j] (cO gn);have fQ:t.ns[i].kids[j]=((t.ns[i].kids[j].toNat:Nat):Int):=by omega
      have dG:t.ns[i].kids[j].toNat<t.n:=by omega
      refine a6.mk ec j e6 rfl dF ?_;refine aJ.mk [.int .i64 t.ns[i].kids[j]] (eo _) ?_;refine cL.draw aS rfl rfl rfl ?_;have ep:i<(dz.set i m).length:=by simp;omega
      have jj:t.ns[i].kids[j].toNat<(dz.set i m).length:=by simp;omega
      have yo:(dz.set i m)[i]=m:=by simp
      have gT:(dz.set i m)[t.ns[i].kids[j].toNat]=dz.getD t.ns[i].kids[j].toNat 0:=by
       have bk:i≠t.ns[i].kids[j].toNat:=by omega
       have eK:t.ns[i].kids[j].toNat<dz.length:=by omega
       rw[Gp,dc bk];simp[cQ,eK]
      refine a6.mk ⟨b,0,none⟩ i rfl rfl aL ?_;refine aJ.mk [.int .i64 m] (wA ep yo (by simp)) ?_;refine a6.mk ⟨b,0,none⟩ t.ns[i].kids[j].toNat rfl fQ dG ?_;refine aJ.mk [.int .i64 (dz.getD t.ns[i].kids[j].toNat 0)] (wA jj gT (by simp)) ?_;refine a6.mk ⟨b,0,none⟩ i rfl rfl aL ?_;refine cX.add [] [] _ 3 rfl ?_ rfl ?_;·simp only[oY,ei];show 0+i*1+1<=_;simp;omega
      have eJ:IntKind.i64.wrap ((j:Int)+1)=((j+1:Nat):Int):=by rw[wrap_i64 ⟨by omega,by have:=fg.aU.cap;omega⟩];omega
      refine aQ.mk _ eJ ?_;have Zq:=gH t.ns[i].kids[j].toNat;refine⟨(j+1,max m (dz.getD t.ns[i].kids[j].toNat 0)),⟨⟨by omega,by simp only;omega,by simp only;omega,?_⟩,by show _<_;simp only;omega⟩,?_,CA,.cons rfl .nil⟩;·simp only;rw[yn,hq];rfl
      ·have e:=C7 (dz.set i m) i ep (max m (dz.getD t.ns[i].kids[j].toNat 0));simp only[kY];rw[Gs]at e;rw[<-e];simp only[dK,hD];exact .refl
     ·have dF:¬ j<t.ns[i].kn:=by simpa using h
      have rY:t.ns[i].kids.drop j=[]:=hc (by omega);have hm:wB dz t.ns[i].kids 0=m:=by rw[yn,rY];rfl
      have ep:i<(dz.set i m).length:=by simp;omega
      have yo:(dz.set i m)[i]=m:=by simp
      have C8:IntKind.i64.wrap (m+1)=m+1:=wrap_i64 ⟨by omega,by omega⟩;have eJ:IntKind.i64.wrap ((i:Int)+1)=((i+1:Nat):Int):=by rw[wrap_i64 ⟨by omega,by omega⟩];omega
      refine a6.mk ⟨b,0,none⟩ i rfl rfl aL ?_;refine aJ.mk [.int .i64 m] (wA ep yo (by simp)) ?_;refine aQ.mk _ C8 ?_;refine a6.mk ⟨b,0,none⟩ i rfl rfl aL ?_;refine cX.add [] [] _ 3 rfl ?_ rfl ?_;·simp only[oY,ei];show 0+i*1+1<=_;omega
      refine aQ.mk _ eJ ?_;refine⟨(i+1,dz.set i (m+1)),⟨⟨by omega,by simp[gG],?_,?_,?_⟩,by show _<_;simp only;omega⟩,?_,kQ,.cons rfl .nil⟩
      ·intro q;have Ku:=gH q;simp only[cQ,mC]at Ku |-;split
       ·rename_i e;subst e;have:i<dz.length:=by omega
        simp[this];omega
       ·omega
      ·intro q aE;have C9:=iS q (by omega);simp only at aE;simp only[cQ,mC]at C9 |-;rw[dc (by omega)];exact C9
      ·simp only;rw[rP,eR];simp only[pk,hm]
      ·have e:=C7 (dz.set i m) i ep (m+1);simp only[kY];rw[Gs]at e;rw[<-e];simp only[dK,hD];exact .refl
   ·have c1:¬ i<t.n:=by simpa using h
    have fa:t.ns.drop i=[]:=hc (by omega);have eP:pk 0 t.ns (List.replicate t.ns.length 0)=dz:=by rw[rP,fa];rfl
    have gY:t.root=((t.root.toNat:Nat):Int):=by omega
    have jl:t.root.toNat<dz.length:=by omega
    refine a6.mk ⟨b,0,none⟩ t.root.toNat rfl gY (by omega) ?_;refine aJ.mk [.int .i64 dz[t.root.toNat]] (wA jl rfl (by simp)) ?_;refine⟨_,_,.sub (dJ _) .refl,?_,rfl,rfl⟩;have:depth t=dz[t.root.toNat]:=by unfold depth;rw[an,eP];simp[cQ,jl]
    rw[this];rfl
def gZ(t:bJ):Bool:=decide (t.n<=1024)&&(right t&&decide (depth t<=32))
def Zr(aA:pj I){t:bJ}(au:t.ok I):Spec Tryz.prog 72 [t.val] I [] (λv I' M'=>v=.bool (gZ t)/\I'=I/\M'=[]):=by
 refine bC [] aS Tryz.func72 rfl rfl rfl ?_;intro B aq;refine bo.mk (λU=>?_) (λU=>?_)
 ·refine aT.mk [] [] _ (.refl _) (Ay aA au) ?_;rintro v I' M' -⟨rfl,rfl,rfl⟩;refine bo.mk (λaa=>?_) (λaa=>?_)
  ·refine aT.mk [] [] _ (.refl _) (Zp aA au) ?_;rintro v I' M' -⟨rfl,rfl,rfl⟩;refine⟨_,_,.refl,?_,rfl,rfl⟩;have h4:t.n<=1024:=by simp at U;omega
   simp[gZ,h4,aa]
  ·refine⟨_,_,.refl,?_,rfl,rfl⟩;have h3:right t=false:=aa;simp[gZ,h3]
 ·refine⟨_,_,.refl,?_,rfl,rfl⟩;have h4:¬ t.n<=1024:=by simp at U;omega
  simp[gZ,h4]
def qg{α:Type}(z:α)(f:aP->(Int->α)->α):List aP->List α->List α
 |[],acc=>acc| d::ds,acc=>qg z f ds (acc++[f d λk=>acc.getD k.toNat z])
section
variable{α:Type}{z:α}{f:aP->(Int->α)->α}
def Kv:∀ (ds:List aP) (acc:List α) (j:Nat),j<acc.length->(qg z f ds acc)[j]?=acc[j]?
 |[],acc,j,_=>rfl| d::ds,acc,j,h=>by rw[qg,Kv ds _ j (by simp;omega),kJ h]
def QE:∀ (ds:List aP) (acc:List α) (j:Nat) (h:j<ds.length),(qg z f ds acc)[acc.length+j]?=some (f ds[j] λk=>((qg z f ds acc).take (acc.length+j)).getD k.toNat z)
 |d::ds,acc,0,_=>by
  rw[qg,o0,Kv ds _ acc.length (by simp)];simp only[J2,x',ki];congr 1;funext k;have:(qg z f ds (acc++[f d λk=>acc.getD k.toNat z])).take acc.length=acc:=by
   apply Gn;intro i;rw[kK];split;·rename_i hi;rw[Kv ds _ i (by simp;omega),kJ hi]
   ·rw[z7 (by omega)]
  rw[this]
 |d::ds,acc,j+1,h=>by have:=QE ds (acc++[f d λk=>acc.getD k.toNat z]) j (by simpa using h);rw[qg];simp only[ck,c5,eY,dK,CO]at this |-;rw[show acc.length+(j+1)=acc.length+1+j from by omega];exact this
def wC(z:α)(f:aP->(Int->α)->α)(ns:List aP)(k:Int):α:=(qg z f ns []).getD k.toNat z
def QF(aw:∀ d g c2,(∀ k∈d.kids,g k=c2 k)->f d g=f d c2){t:bJ}(an:right t=true)(al:j<t.ns.length):wC z f t.ns j=f t.ns[j] (wC z f t.ns):=by have h:=QE (z:=z) (f:=f) t.ns [] j al;simp only[eY,dK]at h;unfold wC;rw[cQ,show((j:Int).toNat)=j from by omega,h,iZ];refine aw _ _ _ λk ae=>?_;have:=qf an j al k ae;rw[cQ,cQ,kK,dv (by omega)]
end
def free(g:Nat->Nat)(s:List Bool):Nat->Nat
 |0=>0| i+1=>free g s i+(bif s.getD i false then 0 else g i)
def QG{g:Nat->Nat}{s:List Bool}{k:Nat}:∀ {i:Nat},i<=k->free g (s.set k true) i=free g s i
 |0,_=>rfl| i+1,h=>by unfold free;rw[QG (by omega)];simp only[cQ,mC];rw[dc (by omega)]
def QH{g:Nat->Nat}{s:List Bool}{k:Nat}(ao:s.getD k false=false)(ay:k<s.length):∀ {i:Nat},k<i->free g (s.set k true) i+g k=free g s i
 |i+1,h=>by
  unfold free;by_cases e:i=k;·subst e;rw[QG (b6 _),ao];simp[cQ,ay]
  ·have:=QH (g:=g) ao ay (i:=i) (by omega);simp only[cQ,mC]at this |-;rw[dc (by omega)];omega
def mI(g:Int->Nat)(ks:List Int):Nat:=(ks.map g).sum
def QI{g:Nat->Nat}{i:Nat}:∀ {ks:List Int} {s b0:List Bool},iz i ks s=some b0->i<=s.length->b0.length=s.length/\free g b0 i+mI (λk=>g k.toNat) ks=free g s i
 |[],s,b0,h,_=>by simp only[iz,ki]at h;subst h;exact⟨rfl,rfl⟩
 |x::ks,s,b0,h,ay=>by
  unfold iz at h;cases af:(decide (x<0)||(decide ((i:Int)<=x)||s.getD x.toNat false))with
  |true=>rw[af]at h;cases h| false=>rw[af]at h;simp only[lq,mB]at af;obtain⟨U,aa,ag⟩:=af;obtain⟨ax,az⟩:=QI (g:=g) h (by simpa using ay);have bc:=QH (g:=g) ag (by omega) (i:=i) (by omega);refine⟨by simpa using ax,?_⟩;simp only[mI,dA,oh]at az |-;omega
def QJ{g:Nat->Nat}{c:aP->Nat}:∀ {ds:List aP} {i:Nat} {s b0:List Bool},gJ i ds s=some b0->i+ds.length<=s.length->(∀ j (h:j<ds.length),g (i+j)<=c ds[j]+mI (λk=>g k.toNat) ds[j].kids) -> b0.length=s.length/\free g b0 (i+ds.length)<=free g s i+(ds.map c).sum
 |[],i,s,b0,h,_,_=>by simp only[gJ,ki]at h;subst h;simp
 |d::ds,i,s,b0,h,ay,ar=>by
  unfold gJ at h;cases aw:fits d d.kids.length with
  |false=>rw[aw]at h;cases h
  |true=>
   rw[aw]at h;simp only[ba]at h;cases ap:iz i d.kids s with
   |none=>rw[ap]at h;cases h
   |some s1=>
    rw[ap]at h;simp only[c5]at ay;obtain⟨ax,az⟩:=QI (g:=g) ap (by omega);obtain⟨bc,ct⟩:=QJ (g:=g) (c:=c) h (by omega) (λj al=>by
     have:=ar (j+1) (by simp;omega);simp only[CO]at this;rw[show i+1+j=i+(j+1)from by omega];exact this)
    have aq:=ar 0 (by simp);simp only[o0,x']at aq;refine⟨by omega,?_⟩;have ej:free g s1 (i+1)<=free g s1 i+g i:=by
     show free g s1 i+_<=_;cases s1.getD i false<;>simp
    simp only[c5,dA,oh];rw[show i+(ds.length+1)=i+1+ds.length from by omega];omega
def QK{root:Int}:∀ {s:List Bool} {i:Nat},nx root i s=true->∀ j,j<s.length->(i+j:Nat)=root->s.getD j false=false
 |b::s,i,h,j,al,e=>by
  unfold nx at h;cases af:(b == decide ((i:Int)=root))with
  |true=>rw[af]at h;cases h
  |false=>
   rw[af]at h;cases j with
   |zero=>
    have:decide ((i:Int)=root)=true:=by simpa using e
    rw[this]at af;simpa using af
   |succ j=>have:=QK (i:=i+1) h j (by simpa using al) (by omega);simpa using this
def QL{g:Nat->Nat}{s:List Bool}{k:Nat}(ae:s.getD k false=false):∀ {n:Nat},k<n->g k<=free g s n
 |n+1,h=>by
  unfold free;by_cases e:n=k;·subst e;rw[ae];simp
  ·have:=QL (g:=g) ae (n:=n) (by omega);omega
def QM{t:bJ}(an:right t=true){g:Int->Nat}{c:aP->Nat}(h:∀ j (al:j<t.ns.length),g j<=c t.ns[j]+mI g t.ns[j].kids):g t.root<=(t.ns.map c).sum:=by
 have AA:=Az an;have ae:=qf an;unfold right at an;simp only[bL]at an;obtain⟨_,_,an⟩:=an;split at an
 ·rename_i s ao;obtain⟨ax,az⟩:=QJ (g:=λk=>g k) (c:=c) ao (by simp) (λj al=>by refine jB (by rw[dK];exact h j al) (Nat.le_of_eq ?_);congr 1;unfold mI;congr 1;refine Ar λk gT=>?_;have:=ae j al k gT;rw[yb this.1]);simp only[Gk,dK]at ax az;have bd:=QK an t.root.toNat (by omega) (by omega);have:=QL (g:=λk=>g k) bd (n:=t.ns.length) (by omega);rw[yb AA.1]at this;simp only[free]at az;omega
 ·cases an
def Gu{t:bJ}(an:right t=true)(al:j<t.ns.length):fits t.ns[j] t.ns[j].kids.length=true:=by
 have aux:∀ {ds:List aP} {i:Nat} {s b0:List Bool},gJ i ds s=some b0->∀ j (h:j<ds.length),fits ds[j] ds[j].kids.length=true:=by
  intro ds
  induction ds with
  |nil=>intro i s b0 _ j al;cases al
  |cons d ds a2=>
   intro i s b0 h j al;unfold gJ at h;cases aw:fits d d.kids.length with
   |false=>rw[aw]at h;cases h
   |true=>
    rw[aw]at h;simp only[ba]at h;cases ap:iz i d.kids s with
    |none=>rw[ap]at h;cases h
    |some s1=>
     rw[ap]at h;cases j with
     |zero=>exact aw| succ j=>exact a2 h j (by simpa using al)
 unfold right at an;simp only[bL]at an;obtain⟨_,_,an⟩:=an;split at an
 ·rename_i s ao;exact aux ao j al
 ·cases an
def Zs(t u ty e:Nat)(i:TypeInfo)(au:P.underlying t=some (.slice e))(hu:P.underlying u=some mD)(oi:∀ k,mD≠.int k)(hi:P.info? e=some i)
 {n:Nat} (lY:n<=c) (aq:(∃ b c,te=.slice b 0 c)\/te=.string .empty):(Builtin.append_ #[t,u] ty #[.slice sa n c,te]).run P w=.ok (.slice sa n c) w:=by
 have C0:(match mD with | .int _=>true | _=>false)=false:=by cases mD<;>first | rfl | exact(oi _ rfl).elim
 rcases aq with⟨b,c',rfl⟩ | rfl
 ·cases b<;>cases sa<;>simp[Builtin.append_,run_underlying au,run_underlying hu,sizeOf,typeInfo,hi,C0,Builtin.lenOf,lY,Builtin.firstCells,Builtin.zeroCells,loadCells,loadCellsFrom,storeCells]
 ·cases sa<;>simp[Builtin.append_,run_underlying au,run_underlying hu,sizeOf,typeInfo,hi,C0,Builtin.lenOf,lY,Builtin.firstCells,loadCells,storeCells]
section
variable{X:cx}{β:Nat->Nat}{a:Act}{w:World}{F:Fr}{C:c7}{I:aN}{M:List aC}{o:Oper}{K:fG}
def be.bin{op:BinOp}(ap:o.op=.binOp op t x y eB)(ai:∀ d,o.dst=some d->d<X.n){q:Value}(ab:bm F x=.val p)(aG:bm F y=.val q)
  (ar:∀ w,(eqGuard op t x y p q).run X.P w=.ok () w) (an:∀ w,dU I M w->(binOp op t p q).run X.P w=.ok v w) (h:K (put o.dst (.val v) F) C I M):be X o F C I M K:=by
 refine⟨λac w Q ⟨β,aZ⟩=>?_⟩;have ex:=cZ aZ.aj ab;have rX:=cZ aZ.aj aG;refine vW aZ ai (by rw[ap];simp) ?_ h;unfold execOp;simp only[ap,bM,ex,rX,ar,bx,an w aZ.holds,cy]
def be.conv{s:Nat}(ap:o.op=.convert s t x)(ai:∀ d,o.dst=some d->d<X.n)(ab:bm F x=.val p)
  (an:∀ w,dU I M w->(convert s t p).run X.P w=.ok v w) (h:K (put o.dst (.val v) F) C I M):be X o F C I M K:=by
 refine⟨λac w Q ⟨β,aZ⟩=>?_⟩;have ex:=cZ aZ.aj ab;refine vW aZ ai (by rw[ap];simp) ?_ h;unfold execOp;simp only[ap,bM,ex,bx,an w aZ.holds,cy]
def be.un{op:UnOp}(ap:o.op=.unOp op t x)(ai:∀ d,o.dst=some d->d<X.n)(ab:bm F x=.val p)
  (an:∀ w,dU I M w->(Op.unary op p).run X.P w=.ok v w) (h:K (put o.dst (.val v) F) C I M):be X o F C I M K:=by
 refine⟨λac w Q ⟨β,aZ⟩=>?_⟩;have ex:=cZ aZ.aj ab;refine vW aZ ai (by rw[ap];simp) ?_ h;unfold execOp;simp only[ap,bM,ex,bx,an w aZ.holds,cy]
def gk(x:Int):Int:=IntKind.u64.wrap (BitVec.ofInt 64 IntKind.u64.max ^^^ BitVec.ofInt 64 x).toNat
def be.Da(ap:o.op=.unOp .xor t x)(ai:∀ d,o.dst=some d->d<X.n){n:Int}(ab:bm F x=.val (.int .u64 n))(h:K (put o.dst (.val (.int .u64 (gk n))) F) C I M):be X o F C I M K:=
 .un ap ai ab (λw _=>rfl) h
def be.Kw(aH:cB X.P X.E)(ap:o.op=.call { callee:=.builtin .append,args:=#[s,x],argTypes:=#[t,u] })(ai:∀ d,o.dst=some d->d<X.n)
 (au:X.E t=some c9) (dg:c9.bz=.slice e) (hu:X.E u=some lW) (fm:∀ k,lW.bz≠.int k) (he:X.E e=some aF)
 {n:Nat} (ao:bm F s=.val (.slice sa n c)) (lY:n<=c)
 (ab:bm F x=.val te) (aq:(∃ b c,te=.slice b 0 c)\/te=.string .empty)
  (h:K (put o.dst (.val (.slice sa n c)) F) C I M):be X o F C I M K:=by
 refine⟨λa w Q ⟨β,aZ⟩=>?_⟩;obtain⟨inf,z,hi,eA,gG,gH,iS⟩:=(aH _ _ he).inf;obtain⟨d,e3,ff⟩:=(aH _ _ hu).e1;obtain⟨lZ,nt,hE⟩:=(aH _ _ au).e1;have rW:lZ=.slice e:=by rw[dg]at hE;cases lZ<;>simp_all[eW]
 subst rW;have fb:=Zs (w:=w) t u o.type e inf nt e3 (λk a0=>fm k (by rw[<-ff,a0];rfl)) hi (sa:=sa) lY aq;have es:=cZ aZ.aj ao;have ex:=cZ aZ.aj ab;refine vW aZ ai (by rw[ap];simp) ?_ h;unfold execOp;simp only[ap,resolve,invoke,builtin,bM,cy,bx,tc,dA,pi,es,ex,fb]
def QN(op:BinOp)(t:Nat)(x y:Operand)(p q:Option Addr)(P:Program)(w:World):(eqGuard op t x y (.pointer p) (.pointer q)).run P w=.ok () w:=by
 unfold eqGuard;cases op<;>rfl
def be.Gv(aH:cB X.P X.E)(ap:o.op=.binOp .eql t x y eB)(ai:∀ d,o.dst=some d->d<X.n)(au:X.E t=some c9)(dg:c9.bz=.pointer e)
  {p:Option Addr} (ab:bm F x=.val (.pointer p)) (aG:bm F y=.val (.pointer none)) (h:K (put o.dst (.val (.bool p.isNone)) F) C I M):be X o F C I M K:=by
 obtain⟨d,e3,ff⟩:=(aH _ _ au).e1;have U:d=.pointer e:=by rw[dg]at ff;cases d<;>simp_all[eW]
 subst U;exact .bin ap ai ab aG (λw=>QN ..) (λw _=>run_eql_pointer_nil w t p (by simp[Program.pointee,e3])) h
def be.QO(aH:cB X.P X.E)(ap:o.op=.binOp .neq t x y eB)(ai:∀ d,o.dst=some d->d<X.n){Zt:dH}(au:X.E t=some c9)(dg:c9.bz=.pointer e)(he:X.E e=some Zt)
  {p:Addr} (ab:bm F x=.val (.pointer (some p))) (aG:bm F y=.val (.pointer (some p))) (h:K (put o.dst (.val (.bool false)) F) C I M):be X o F C I M K:=by
 obtain⟨d,e3,ff⟩:=(aH _ _ au).e1;have U:d=.pointer e:=by rw[dg]at ff;cases d<;>simp_all[eW]
 subst U;obtain⟨inf,z,hi,_⟩:=(aH _ _ he).inf;exact .bin ap ai ab aG (λw=>QN ..) (λw _=>Lib.run_neq_ptr_same w p e3 hi) h
end
def QP{f:Nat}{fn:Func}{e:Array Value->Sem Value}{args:List Value}{M:List aC}(aw:P.funcs[f]?=some fn)(Gw:(fn.name == "runtime.NumGoroutine")=false)
  (af:fn.body.isNone=true) (av:Extern.findNext fn=none) (he:Extern.find fn=some e) (an:∀ w,(e args.toArray).run P w=.ok v w):Spec P f args I M λr I' M'=>r=v/\I'=I/\M'=M:=by
 refine .inr λw hw=>⟨v,w,I,M,?_,⟨rfl,rfl,rfl⟩,hw,λ_ _ h=>h,λ_ _ h=>.inl h,λx ab=>.inl ⟨x,ab,rfl⟩,λ_ _ _=>rfl,.refl _,b6 _⟩;rw[run_callFunc_extern aw Gw af av he,an];rfl
def wD(l:List UInt8):List Value:=l.map λb=>.int .u8 b.toNat
structure fp where
 used:Bool
 os:bn
 bs:List UInt8
def fp.aY(b:Nat)(x:fp):aC:=⟨b,.cells #[.pointer (bif x.used then some ⟨b,0,none⟩else none),x.os.val] 174 (0,0)⟩
def fp.M(b:Nat)(x:fp):List aC:=x.aY b::x.os.aY 5
structure fp.ok(x:fp):Prop where
 os:x.os.ok 1 (wD x.bs)
 ne:∀ g,x.os.a=some g->x.bs≠[]
def fp.new:fp:=⟨false,⟨none,0,0,[]⟩,[]⟩
def fp.Gx:fp.new.ok:=⟨⟨rfl,λ_=>⟨rfl,rfl⟩,λg h=>by cases h⟩,λg h=>by cases h⟩
def fp.ok.n{x:fp}(h:x.ok):x.os.n=x.bs.length:=by have:=h.os.len;simp[wD]at this;omega
def ptr(b:Nat):Value:=.pointer (some ⟨b,0,none⟩)
def dM{M:List aC}{cs:List Value}(a7:(⟨b,.cells cs.toArray T (0,0)⟩:aC)∈M){k n:Nat}(h:k+n<=cs.length):bE I M ((⟨b,0,none⟩:Addr).add k) n ((cs.drop k).take n):=by
 rw[d' _ rfl];refine⟨rfl,_,T,(0,0),.inr ⟨_,a7,rfl,rfl⟩,?_,?_⟩
 ·simp
 ·simp;omega
def Kx{M:List aC}(v:Value):Spec Tryz.prog 172 [v] I M λr I' M'=>r=v/\I'=I/\M'=M:=
 QP Tryz.func172 (by kernel_rfl) (by kernel_rfl) (by kernel_rfl) (e:=Extern.AbiNoEscape.same) (by kernel_rfl) (λw=>Lib.run_noEscape w _)
def QQ{M:List aC}(s:ByteArray)(c:UInt8):Spec Tryz.prog 242 [.string s,.int .u8 c.toNat] I M λr I' M'=>r=.int .i64 (Lib.indexByte s.data.toList c)/\I'=I/\M'=M:=
 QP Tryz.func242 (by kernel_rfl) (by kernel_rfl) (by kernel_rfl) (e:=Extern.BytealgIndexByte.indexByte) (by kernel_rfl) (λw=>by
  have:=Lib.run_indexByteString (P:=Tryz.prog) s (c.toNat:Int) w;simpa using this)
def Zu(s:ByteArray)(c:UInt8):Spec Tryz.prog 220 [.string s,.int .u8 c.toNat] I [] λr I' M'=>r=.int .i64 (Lib.indexByte s.data.toList c)/\I'=I/\M'=[]:=by refine bC [] aS Tryz.func220 rfl rfl rfl ?_;intro B aq;refine aT.mk [] [] _ (.refl _) (QQ s c) ?_;rintro v I' M' -⟨rfl,rfl,rfl⟩;exact⟨_,_,.refl,rfl,rfl,rfl⟩
def QR(s:ByteArray)(c:UInt8):Spec Tryz.prog 199 [.string s,.int .u8 c.toNat] I [] λr I' M'=>r=.int .i64 (Lib.indexByte s.data.toList c)/\I'=I/\M'=[]:=by refine bC [] aS Tryz.func199 rfl rfl rfl ?_;intro B aq;refine aT.mk [] [] _ (.refl _) (Zu s c) ?_;rintro v I' M' -⟨rfl,rfl,rfl⟩;exact⟨_,_,.refl,rfl,rfl,rfl⟩
def Gy{M:List aC}(h:dU I M w){aj:Nat×Nat}(a7:(⟨b,.cells cs T aj⟩:aC)∈M):w.shape? b=some (T,cs.size):=by have:=h.m _ a7;simp only at this;simp[World.shape?,this]
def QS(b:Nat)(x:fp):Spec Tryz.prog 152 [ptr b] I [x.aY b] λr I' M'=>r=.tuple #[]/\I'=I/\M'=[{ x with used:=true:fp }.aY b]:=by
 obtain⟨used,os,bs⟩:=x;obtain⟨inf,z,hi,eA,_⟩:=(aS 174 _ rfl).inf;refine bC [] aS Tryz.func152 rfl rfl rfl ?_;intro B aq;cases used with
 |false=>refine aJ.mk [.pointer none] (dM (cs:=[.pointer none,os.val]) (k:=0) (n:=1) (T:=174) (kh.2 rfl) (by simp)) ?_;refine .other (be.Gv aS rfl (by simp) rfl rfl rfl rfl ?_);refine aI.mk (λ_=>?_) (λh=>by cases h);refine be.conv rfl (by simp) rfl (λw hw=>Lib.run_to_unsafe (t:=174) (e:=174) (cells:=2) w ⟨b,0,none⟩ (by kernel_rfl) (by kernel_rfl) (j:=inf) hi (by rw[eA];decide) (Gy (cs:=#[.pointer none,os.val]) hw (kh.2 rfl)) (by simp)) ?_;refine aT.mk [fp.aY b ⟨false,os,bs⟩] [] _ (by simp) (Kx _) ?_;rintro v I' M' -⟨rfl,rfl,rfl⟩;refine be.conv rfl (by simp) rfl (λw hw=>Lib.run_from_unsafe (u:=174) (e:=174) (cells:=2) w ⟨b,0,none⟩ (by kernel_rfl) (by kernel_rfl) (j:=inf) hi (Gy (cs:=#[.pointer none,os.val]) hw (kh.2 rfl)) (by kernel_rfl)) ?_;refine cX.add [] [] _ _ rfl (bB rfl) rfl ?_;exact⟨_,_,.refl,rfl,rfl,rfl⟩
 |true=>refine aJ.mk [ptr b] (dM (cs:=[ptr b,os.val]) (k:=0) (n:=1) (T:=174) (kh.2 rfl) (by simp)) ?_;refine .other (be.Gv aS rfl (by simp) rfl rfl rfl rfl ?_);refine aI.mk (λh=>by cases h) (λ_=>?_);refine aJ.mk [ptr b] (dM (cs:=[ptr b,os.val]) (k:=0) (n:=1) (T:=174) (kh.2 rfl) (by simp)) ?_;refine .other (be.QO aS rfl (by simp) rfl rfl rfl rfl rfl ?_);refine aI.mk (λh=>by cases h) (λ_=>?_);exact⟨_,_,.refl,rfl,rfl,rfl⟩
def nz(b:Nat){x:fp}(ab:x.ok)(c:UInt8)(ay:x.bs.length<70368744177664):Spec Tryz.prog 207 [ptr b,.int .u8 c.toNat] I (x.M b)
  λr I' M'=>r=.nilIface/\I'=I/\∃ y:fp,y.ok/\y.bs=x.bs++[c]/\M'=y.M b:=by
 refine bC [] aS Tryz.func207 rfl rfl rfl ?_;intro B aq;have av:=ab.n;refine aT.mk [x.aY b] (x.os.aY 5) _ (.refl _) (QS b x) ?_;rintro v I' M' -⟨rfl,rfl,rfl⟩;refine aJ.mk [x.os.val] (dM (cs:=[ptr b,x.os.val]) (k:=1) (n:=1) (T:=174) (.head _) (by simp)) ?_;refine cz.mk λg ar wE=>?_;refine be.append aS rfl (by simp) (e:=5) rfl rfl rfl x.os (xs:=wD x.bs) ab.os rfl (m:=1) rfl (news:=[.int .u8 c.toNat]) (by decide) ?_ rfl (Mr:=[⟨g,.cells #[.int .u8 c.toNat] 5 (0,0)⟩,{ x with used:=true:fp }.aY b]) ?_ ?_ ?_ ?_
 ·exact dM (cs:=[.int .u8 c.toNat]) (k:=0) (n:=1) (T:=5) (.head _) (by simp)
 ·exact f' (l₁:=[_,_]) (l₂:=x.os.aY 5)
 ·simp only[maxLen];omega
 ·show(x.os.n+1)*1<=_;omega
 ·intro c2 c' cur U aa ag aK;refine cX.add [⟨c2,.cells cur.toArray 5 (0,0)⟩,⟨g,.cells #[.int .u8 c.toNat] 5 (0,0)⟩] [] _ _ rfl (bB rfl) rfl ?_;refine⟨_,_,.perm (M1:=[⟨g,.cells #[.int .u8 c.toNat] 5 (0,0)⟩]++fp.M b ⟨true,⟨some c2,x.os.n+1,c',cur⟩,x.bs++[c]⟩) ?_ (.sub (mA _ _) .refl),rfl,rfl,_,?_,rfl,rfl⟩
  ·exact f' (l₁:=[_]) (l₂:=[_,_])
  ·refine⟨⟨?_,λh=>by simp at h,?_⟩,by simp⟩
   ·simp[wD,av]
   ·intro aV l1;refine⟨U,aa,ag,?_⟩;rw[aK];simp[wD]
def rZ(b:Nat){x:fp}(ab:x.ok)(s:ByteArray)(ay:x.bs.length+s.size<=70368744177664):Spec Tryz.prog 110 [ptr b,.string s] I (x.M b)
  λr I' M'=>r=.tuple #[.int .i64 s.size,.nilIface]/\I'=I/\∃ y:fp,y.ok/\y.bs=x.bs++s.data.toList/\M'=y.M b:=by
 refine bC [] aS Tryz.func110 rfl rfl rfl ?_;intro B aq;have av:=ab.n;refine aT.mk [x.aY b] (x.os.aY 5) _ (.refl _) (QS b x) ?_;rintro v I' M' -⟨rfl,rfl,rfl⟩;refine aJ.mk [x.os.val] (dM (cs:=[ptr b,x.os.val]) (k:=1) (n:=1) (T:=174) (.head _) (by simp)) ?_;by_cases ao:s.size=0
 ·have he:s=.empty:=oZ (CM ao);subst he;have lY:x.os.n<=x.os.c:=by
   cases aD:x.os.a with
   |none=>obtain⟨U,aa⟩:=ab.os.nil aD;omega
   |some g=>exact(ab.os.cap g aD).2.1
  refine be.Kw aS rfl (by simp) (e:=5) rfl rfl rfl (by simp) rfl rfl lY rfl (.inr rfl) ?_;refine cX.add [] (x.os.aY 5) _ _ rfl (bB rfl) rfl ?_;exact⟨_,_,.refl,rfl,rfl,⟨true,x.os,x.bs⟩,⟨ab.os,ab.ne⟩,by simp,rfl⟩
 ·refine be.Ze aS rfl (by simp) (e:=5) rfl rfl rfl rfl rfl rfl x.os (xs:=wD x.bs) ab.os rfl rfl (by omega) (Mr:=[{ x with used:=true:fp }.aY b]) (f' (l₁:=[_])) ?_ ?_ ?_
  ·simp only[maxLen];omega
  ·show(x.os.n+s.size)*1<=_;omega
  ·intro c2 c' cur U aa ag aK;refine cX.add [⟨c2,.cells cur.toArray 5 (0,0)⟩] [] _ _ rfl (bB rfl) rfl ?_;refine⟨_,_,.perm (M1:=fp.M b ⟨true,⟨some c2,x.os.n+s.size,c',cur⟩,x.bs++s.data.toList⟩) ?_ .refl,rfl,rfl,_,?_,rfl,rfl⟩
   ·exact f' (l₁:=[_]) (l₂:=[_])
   ·refine⟨⟨?_,λh=>by simp at h,?_⟩,λg _ h=>?_⟩
    ·simp[wD,av]
    ·intro aV l1;refine⟨U,aa,ag,?_⟩;rw[aK];simp[wD,jK]
    ·have bg:=congrArg List.length (List.append_eq_nil_iff.1 h).2;exact ao (by simpa using bg)
def uU(b:Nat){x:fp}(ab:x.ok)(ay:x.bs.length<=70368744177664):Spec Tryz.prog 112 [ptr b] I (x.M b)
  λr I' M'=>r=.string ⟨x.bs.toArray⟩/\I'=I/\M'=[]:=by
 refine bC [] aS Tryz.func112 rfl rfl rfl ?_;intro B aq;have av:=ab.n;obtain⟨used,⟨a,n,c,cur⟩,bs⟩:=x;simp only at av ay;subst av;refine cL.draw aS rfl rfl rfl ?_;cases a with
 |none=>obtain⟨U,aa⟩:=ab.os.nil rfl;simp only at U aa;have Db:bs=[]:=lV U;subst Db;subst aa;refine aJ.mk [.slice none 0 0] (dM (cs:=[.pointer (bif used then some ⟨b,0,none⟩else none),.slice none 0 0]) (k:=1) (n:=1) (T:=174) (.head _) (by simp)) ?_;refine aJ.mk [.slice none 0 0] (dM (cs:=[.pointer (bif used then some ⟨b,0,none⟩else none),.slice none 0 0]) (k:=1) (n:=1) (T:=174) (.head _) (by simp)) ?_;refine be.Qf rfl (by simp) rfl rfl ?_;exact⟨_,_,.sub (dJ _) .refl,rfl,rfl,rfl⟩
 |some g=>
  obtain⟨U,aa,ag,aK⟩:=ab.os.cap g rfl;have bk:=ab.ne g rfl;simp only at U aa ag aK bk;have n':bs.length≠0:=λh=>bk (lV h);refine aJ.mk [.slice (some ⟨g,0,none⟩) bs.length c] (dM (cs:=[.pointer (bif used then some ⟨b,0,none⟩else none),.slice (some ⟨g,0,none⟩) bs.length c]) (k:=1) (n:=1) (T:=174) (.head _) (by simp)) ?_;refine gE.mk (by omega) ?_;refine aJ.mk [.slice (some ⟨g,0,none⟩) bs.length c] (dM (cs:=[.pointer (bif used then some ⟨b,0,none⟩else none),.slice (some ⟨g,0,none⟩) bs.length c]) (k:=1) (n:=1) (T:=174) (.head _) (by simp)) ?_;refine be.Kl aS rfl (by simp) (e:=5) rfl rfl rfl rfl (l:=bs) (g:=g) (cs:=cur.toArray) rfl rfl bk (by omega) (Mr:=[fp.aY b ⟨used,⟨some g,bs.length,c,cur⟩,bs⟩]) (f' (l₁:=[_]) (l₂:=[_])) ?_ ?_;·rw[hD]at aK;exact aK
  ·exact⟨_,_,.sub (dJ _) .refl,rfl,rfl,rfl⟩
def yp(c:UInt8)(left:ByteArray):Bool:=decide ((32:Int)<=c.toNat)&&(decide ((c.toNat:Int)<=126)&&(!decide ((c.toNat:Int)=92)&&decide (Lib.indexByte left.data.toList c<0)))
def Zv(c:UInt8)(left:ByteArray):Spec Tryz.prog 252 [.int .u8 c.toNat,.string left] I [] λr I' M'=>r=.bool (yp c left)/\I'=I/\M'=[]:=by
 refine bC [] aS Tryz.func252 rfl rfl rfl ?_;intro B aq;refine bo.mk (λU=>?_) (λU=>?_)
 ·refine bo.mk (λaa=>?_) (λaa=>?_)
  ·refine bo.mk (λag=>?_) (λag=>?_)
   ·refine aT.mk [] [] _ (.refl _) (QR left c) ?_;rintro v I' M' -⟨rfl,rfl,rfl⟩;refine⟨_,_,.refl,?_,rfl,rfl⟩;simp only[yp,U,aa,ag,nl]
   ·refine⟨_,_,.refl,?_,rfl,rfl⟩;simp only[yp,U,aa,ag,nl,lR,nk]
  ·refine⟨_,_,.refl,?_,rfl,rfl⟩;simp only[yp,U,aa,nl,lR,nk]
 ·refine⟨_,_,.refl,?_,rfl,rfl⟩;simp only[yp,U,nl,lR,nk]
def wF:ByteArray:=⟨#[48,49,50,51,52,53,54,55,56,57,97,98,99,100,101,102]⟩
def mJ(n:Nat):UInt8:=wF.data.toList.getD n 0
def hF(c:UInt8)(left:ByteArray):List UInt8:=
 bif yp c left then [c]else
 bif decide ((c.toNat:Int)=10)then [92,110]else
 bif decide ((c.toNat:Int)=13)then [92,114]else
 bif decide ((c.toNat:Int)=9)then [92,116]else
 bif decide ((c.toNat:Int)=92)||decide ((0:Int)<=Lib.indexByte left.data.toList c)then [92,c]else [92,120,mJ (c.toNat/16),mJ (c.toNat%16)]
def qh(c:UInt8)(left:ByteArray):(hF c left).length<=4:=by
 unfold hF;cases yp c left<;>cases decide ((c.toNat:Int)=10)<;>cases decide ((c.toNat:Int)=13)<;>cases decide ((c.toNat:Int)=9)<;>cases(decide ((c.toNat:Int)=92)||decide ((0:Int)<=Lib.indexByte left.data.toList c))<;>simp
def Zw:∀ n:Nat,n<256->IntKind.u8.wrap ((BitVec.ofInt 8 (n:Int)) &&& (BitVec.ofInt 8 15)).toNat=((n%16:Nat):Int):=by decide +kernel
def QT(al:j<wF.size):wF[j]=mJ j:=by have:j<wF.data.toList.length:=al;simp only[mJ,cQ,gu this,iZ];rfl
def Gz(b:Nat){x:fp}(ab:x.ok)(c:UInt8)(left:ByteArray)(ay:x.bs.length<=70368744177600):Spec Tryz.prog 245 [ptr b,.int .u8 c.toNat,.string left] I (x.M b)
  λr I' M'=>I'=I/\∃ y:fp,y.ok/\y.bs=x.bs++hF c left/\M'=y.M b:=by
 refine bC [] aS Tryz.func245 rfl rfl rfl ?_;intro B aq;refine aT.mk [] (x.M b) _ (.refl _) (Zv c left) ?_;rintro v I' M' -⟨rfl,rfl,rfl⟩;refine aI.mk (λU=>?_) (λU=>?_)
 ·refine aT.mk (x.M b) [] _ (by simp) (nz b ab c (by omega)) ?_;rintro v I' M' -⟨rfl,rfl,y,aG,gw,rfl⟩;refine⟨_,_,.refl,rfl,y,aG,?_,by simp⟩;rw[gw,hF,U];rfl
 ·refine aI.mk (λaa=>?_) (λaa=>?_)
  ·refine aT.mk (x.M b) [] _ (by simp) (rZ b ab _ (by show _+2<=_;omega)) ?_;rintro v I' M' -⟨rfl,rfl,y,aG,gw,rfl⟩;refine⟨_,_,.refl,rfl,y,aG,?_,by simp⟩;rw[gw,hF,U,aa];rfl
  ·refine aI.mk (λag=>?_) (λag=>?_)
   ·refine aT.mk (x.M b) [] _ (by simp) (rZ b ab _ (by show _+2<=_;omega)) ?_;rintro v I' M' -⟨rfl,rfl,y,aG,gw,rfl⟩;refine⟨_,_,.refl,rfl,y,aG,?_,by simp⟩;rw[gw,hF,U,aa,ag];rfl
   ·refine aI.mk (λaK=>?_) (λaK=>?_)
    ·refine aT.mk (x.M b) [] _ (by simp) (rZ b ab _ (by show _+2<=_;omega)) ?_;rintro v I' M' -⟨rfl,rfl,y,aG,gw,rfl⟩;refine⟨_,_,.refl,rfl,y,aG,?_,by simp⟩;rw[gw,hF,U,aa,ag,aK];rfl
    ·have two:∀ (c8:aN),(decide ((c.toNat:Int)=92)||decide ((0:Int)<=Lib.indexByte left.data.toList c))=true->hF c left=[92,c]:=λ_ h=>by rw[hF,U,aa,ag,aK,h];rfl
     have other:(decide ((c.toNat:Int)=92)||decide ((0:Int)<=Lib.indexByte left.data.toList c))=false->hF c left=[92,120,mJ (c.toNat/16),mJ (c.toNat%16)]:=λh=>by rw[hF,U,aa,ag,aK,h];rfl
     have aA:=c.toNat_lt;refine bo.mk (λbg=>?_) (λbg=>?_)
     ·refine aT.mk [] (x.M b) _ (.refl _) (QR left c) ?_;rintro v I' M' -⟨rfl,rfl,rfl⟩;refine aI.mk (λbD=>?_) (λbD=>?_)
      ·refine aT.mk (x.M b) [] _ (by simp) (nz b ab 92 (by omega)) ?_;rintro v I' M' -⟨rfl,rfl,y,aG,gw,rfl⟩;refine aT.mk (y.M b) [] _ (by simp) (nz b aG c (by rw[gw];simp;omega)) ?_;rintro v I' M' -⟨rfl,rfl,z,bd,rf,rfl⟩;refine⟨_,_,.refl,rfl,z,bd,?_,by simp⟩;rw[rf,gw,two I' (by rw[bg];exact bD)];simp
      ·refine aT.mk (x.M b) [] _ (by simp) (rZ b ab _ (by show _+2<=_;omega)) ?_;rintro v I' M' -⟨rfl,rfl,y,aG,gw,rfl⟩;have QU:y.bs.length=x.bs.length+2:=by rw[gw];simp
       refine vU.mk 4 rfl ?_;refine o2.mk (s:=wF) (c.toNat/16) ?_ (by show _<16;omega) ?_
       ·show(c.toNat:Int).fdiv (2^(min 4 (IntKind.u8.bits)))=_;have Zx:((2:Int)^(min 4 IntKind.u8.bits))=16:=by decide
        rw[Zx,Gj _ (by omega)];omega
       rw[QT];refine aT.mk (y.M b) [] _ (by simp) (nz b aG (mJ (c.toNat/16)) (by omega)) ?_;rintro v I' M' -⟨rfl,rfl,z,bd,rf,rfl⟩;have GA:z.bs.length=x.bs.length+3:=by rw[rf];simp;omega
       refine o2.mk (s:=wF) (c.toNat%16) (Zw c.toNat aA) (by show _<16;omega) ?_;rw[QT];refine aT.mk (z.M b) [] _ (by simp) (nz b bd (mJ (c.toNat%16)) (by omega)) ?_;rintro v I' M' -⟨rfl,rfl,u,hu,uV,rfl⟩;refine⟨_,_,.refl,rfl,u,hu,?_,by simp⟩;rw[uV,rf,gw,other (by rw[bg];exact bD)];simp
     ·refine aT.mk (x.M b) [] _ (by simp) (nz b ab 92 (by omega)) ?_;rintro v I' M' -⟨rfl,rfl,y,aG,gw,rfl⟩;refine aT.mk (y.M b) [] _ (by simp) (nz b aG c (by rw[gw];simp;omega)) ?_;rintro v I' M' -⟨rfl,rfl,z,bd,rf,rfl⟩;refine⟨_,_,.refl,rfl,z,bd,?_,by simp⟩;rw[rf,gw,two I' (by rw[bg];rfl)];simp
def g7(n:Nat):List UInt8:=bif Nat.blt n 10 then [UInt8.ofNat (48+n)]else [UInt8.ofNat (48+n/10),UInt8.ofNat (48+n%10)]
def r0(n:Nat):ByteArray:=⟨(g7 n).toArray⟩
def QV:ByteArray:=⟨((List.range 10).map (λn=>UInt8.ofNat (48+n))++(List.range 26).map (λn=>UInt8.ofNat (97+n))).toArray⟩
def QW:ByteArray:=⟨((List.range 100).flatMap λn=>[UInt8.ofNat (48+n/10),UInt8.ofNat (48+n%10)]).toArray⟩
def Zy:∀ n:Fin 10,(QV.extract n.val (n.val+1)).data.toList=g7 n.val:=by decide +kernel
def Zz:∀ n:Fin 100,10<=n.val->(QW.extract (n.val*2) (n.val*2+2)).data.toList=g7 n.val:=by decide +kernel
def wG{a b:ByteArray}(h:a.data.toList=b.data.toList):a=b:=oZ (fV h)
def wH(n:Nat):(g7 n).length<=2:=by
 unfold g7;cases Nat.blt n 10<;>simp
set_option maxRecDepth 20000 in
def ZA(n:Nat)(av:n<100):Spec Tryz.prog 203 [.int .i64 n] I [] λr I' M'=>r=.string (r0 n)/\I'=I/\M'=[]:=by
 refine bC [] aS Tryz.func203 rfl rfl rfl ?_;intro B aq;refine aI.mk (λh=>?_) (λh=>?_)
 ·have aL:n<10:=by simp at h;omega
  refine aQ.mk ((n+1:Nat):Int) (by rw[wrap_i64 ⟨by omega,by omega⟩];omega) ?_;refine i'.mk n (n+1) rfl rfl (by omega) (by show _<=36;omega) ?_;refine⟨_,_,.refl,?_,rfl,rfl⟩;have:QV.extract n (n+1)=r0 n:=wG (Zy ⟨n,aL⟩);rw[<-this];rfl
 ·have c1:10<=n:=by simp at h;omega
  refine aQ.mk ((n*2:Nat):Int) (by rw[wrap_i64 ⟨by omega,by omega⟩];omega) ?_;refine aQ.mk ((n*2:Nat):Int) (by rw[wrap_i64 ⟨by omega,by omega⟩];omega) ?_;refine aQ.mk ((n*2+2:Nat):Int) (by rw[wrap_i64 ⟨by omega,by omega⟩];omega) ?_;refine i'.mk (n*2) (n*2+2) rfl rfl (by omega) (by show _<=200;omega) ?_;refine⟨_,_,.refl,?_,rfl,rfl⟩;have:QW.extract (n*2) (n*2+2)=r0 n:=wG (Zz ⟨n,av⟩ c1);rw[<-this];rfl
def ZB(n:Nat)(av:n<100):Spec Tryz.prog 186 [.int .i64 n,.int .i64 10] I [] λr I' M'=>r=.string (r0 n)/\I'=I/\M'=[]:=by refine bC [] aS Tryz.func186 rfl rfl rfl ?_;intro B aq;refine aI.mk (λh=>?_) (λh=>by cases h);refine bo.mk (λh=>?_) (λh=>by simp at h;try omega);refine aI.mk (λh=>?_) (λh=>by simp at h;try omega);refine aT.mk [] [] _ (.refl _) (ZA n av) ?_;rintro v I' M' -⟨rfl,rfl,rfl⟩;exact⟨_,_,.refl,rfl,rfl,rfl⟩
def ZC(n:Nat)(av:n<100):Spec Tryz.prog 173 [.int .i64 n] I [] λr I' M'=>r=.string (r0 n)/\I'=I/\M'=[]:=by refine bC [] aS Tryz.func173 rfl rfl rfl ?_;intro B aq;refine aT.mk [] [] _ (.refl _) (ZB n av) ?_;rintro v I' M' -⟨rfl,rfl,rfl⟩;exact⟨_,_,.refl,rfl,rfl,rfl⟩
def ZD(n:Nat)(av:n<100):Spec Tryz.prog 153 [.int .i64 n] I [] λr I' M'=>r=.string (r0 n)/\I'=I/\M'=[]:=by refine bC [] aS Tryz.func153 rfl rfl rfl ?_;intro B aq;refine aT.mk [] [] _ (.refl _) (ZC n av) ?_;rintro v I' M' -⟨rfl,rfl,rfl⟩;exact⟨_,_,.refl,rfl,rfl,rfl⟩
def GB(n:Nat)(av:n<100):Spec Tryz.prog 111 [.int .i64 n] I [] λr I' M'=>r=.string (r0 n)/\I'=I/\M'=[]:=by refine bC [] aS Tryz.func111 rfl rfl rfl ?_;intro B aq;refine aT.mk [] [] _ (.refl _) (ZD n av) ?_;rintro v I' M' -⟨rfl,rfl,rfl⟩;exact⟨_,_,.refl,rfl,rfl,rfl⟩
def fh(node rh:Int):Bool:=
 bif decide (node=5)then decide (rh=5)else
 bif decide (node=4)||(decide (node=7)||decide (node=8))then decide (rh=4)||decide (rh=5)else
 bif decide (node=6)then decide (rh=4)||(decide (rh=5)||(decide (rh=6)||(decide (rh=7)||decide (rh=8))))else false
def Ky(a b:Int):Spec Tryz.prog 209 [.int .u8 a,.int .u8 b] I [] λr I' M'=>r=.bool (fh a b)/\I'=I/\M'=[]:=by
 refine bC [] aS Tryz.func209 rfl rfl rfl ?_;intro B aq;refine aI.mk (λU=>?_) (λU=>?_)
 ·refine⟨_,_,.refl,?_,rfl,rfl⟩;simp only[fh,U];rfl
 ·have two:∀ (c8:aN) (h:(decide (a=4)||(decide (a=7)||decide (a=8)))=true),fh a b=(decide (b=4)||decide (b=5)):=λ_ h=>by simp only[fh,U,h];rfl
  have Kz:(decide (a=4)||(decide (a=7)||decide (a=8)))=true->bo (decide (b=4)) false (s0 [] I [] λI' M'=>Value.bool (decide (b=5))=.bool (fh a b)/\I'=I/\M'=[]) (s0 [] I [] λI' M'=>Value.bool true=.bool (fh a b)/\I'=I/\M'=[]):=λh=>by
   refine bo.mk (λaK=>?_) (λaK=>?_);·refine⟨_,_,.refl,?_,rfl,rfl⟩;rw[two I h,aK];rfl
   ·refine⟨_,_,.refl,?_,rfl,rfl⟩;rw[two I h,aK];rfl
  refine aI.mk (λaa=>?_) (λaa=>?_);·refine aI.mk (λ_=>?_) (λh=>by rw[aa]at h;cases h);exact Kz (by rw[aa];rfl)
  ·refine aI.mk (λag=>?_) (λag=>?_)
   ·refine aI.mk (λ_=>?_) (λh=>by rw[ag]at h;cases h);exact Kz (by rw[ag];simp)
   ·refine aI.mk (λaK=>?_) (λaK=>?_)
    ·exact Kz (by rw[aK];simp)
    ·have hw:fh a b=(bif decide (a=6)then decide (b=4)||(decide (b=5)||(decide (b=6)||(decide (b=7)||decide (b=8))))else false):=by simp only[fh,U,aa,ag,aK];rfl
     refine aI.mk (λbg=>?_) (λbg=>?_)
     ·rw[bg]at hw;simp only[ba]at hw;refine bo.mk (λcM=>?_) (λcM=>?_)
      ·refine bo.mk (λcp=>?_) (λcp=>?_)
       ·refine bo.mk (λeD=>?_) (λeD=>?_)
        ·refine bo.mk (λhd=>?_) (λhd=>?_)
         ·refine⟨_,_,.refl,?_,rfl,rfl⟩;rw[hw,cM,cp,eD,hd];rfl
         ·refine⟨_,_,.refl,?_,rfl,rfl⟩;rw[hw,cM,cp,eD,hd];rfl
        ·refine⟨_,_,.refl,?_,rfl,rfl⟩;rw[hw,cM,cp,eD];rfl
       ·refine⟨_,_,.refl,?_,rfl,rfl⟩;rw[hw,cM,cp];rfl
      ·refine⟨_,_,.refl,?_,rfl,rfl⟩;rw[hw,cM];rfl
     ·refine⟨_,_,.refl,?_,rfl,rfl⟩;rw[hw,bg];rfl
def wrap_u64(x:Int):eF (IntKind.u64.wrap x):=by unfold IntKind.wrap eF;simp only[IntKind.bits,IntKind.signed];simp;omega
def wrap_u8(x:Int):0<=IntKind.u8.wrap x/\IntKind.u8.wrap x<256:=by unfold IntKind.wrap;simp only[IntKind.bits,IntKind.signed];simp;omega
def tl{x:Int}(h:eF x):IntKind.u64.wrap x=x:=by obtain⟨U,aa⟩:=h;unfold IntKind.wrap;simp only[IntKind.bits,IntKind.signed];simp;omega
def qi(I:aN)(deb:List Int):Prop:=deb.length=64/\(∀ x∈deb,0<=x/\x<256)/\∃ T aj,I 6=some (.cells (deb.map (Value.int .u8)).toArray T aj)
def qi.rd(h:qi I deb)(M:List aC)(al:j<64):bE I M (Addr.add ⟨6,0,none⟩ (j*1)) 1 [.int .u8 (deb.getD j 0)]:=by
 obtain⟨ay,_,T,aj,h⟩:=h;rw[d' _ rfl];refine⟨rfl,_,T,aj,.inl h,?_,rfl⟩;have U:j<(deb.map (Value.int .u8)).length:=by simp[ay,al]
 have aa:j<deb.length:=by omega
 simp only[dK,hD];rw[dS U,oe,p8];simp[cQ,aa]
def qi.at(h:qi I deb)(j:Nat):0<=deb.getD j 0/\deb.getD j 0<256:=by
 rw[cQ];by_cases al:j<deb.length
 ·rw[gu al];exact h.2.1 _ (cO al)
 ·simp[al]
def AB(x y:Int):Int:=IntKind.u64.wrap (BitVec.ofInt 64 x &&& BitVec.ofInt 64 y).toNat
def po(x:Int):Int:=IntKind.u64.wrap (AB x (IntKind.u64.wrap (0-x))*285870213051353865)
def qj(deb:List Int)(x:Int):Int:=bif decide (x=0)then 64 else deb.getD ((po x).toNat/2^58) 0
def ZE(h:qi I deb)(x:Int):0<=qj deb x/\qj deb x<256:=by
 unfold qj;cases decide (x=0)
 ·exact h.at _
 ·simp
def ZF(af:qi I deb)(x:Int):Spec Tryz.prog 244 [.int .u64 x] I [] λr I' M'=>r=.int .i64 (qj deb x)/\I'=I/\M'=[]:=by
 refine bC [] aS Tryz.func244 rfl rfl rfl ?_;intro B aq;refine aI.mk (λh=>?_) (λh=>?_)
 ·refine⟨_,_,.refl,?_,rfl,rfl⟩;simp only[qj,h];rfl
 ·have aD:=wrap_u64 (AB x (IntKind.u64.wrap (0-x))*285870213051353865);refine aQ.mk _ rfl ?_;refine aQ.mk (po x) rfl ?_;refine vU.mk 58 rfl ?_;have ax:((2:Int)^(min 58 IntKind.u64.bits))=2^58:=by decide
  rw[ax];obtain⟨qk,ql⟩:=aD;have az:(po x).fdiv (2^58)=(((po x).toNat/2^58:Nat):Int):=by rw[Gj _ (by decide)];have:po x=((po x).toNat:Int):=(yb qk).symm;omega
  rw[az];have al:(po x).toNat/2^58<64:=by have:po x<18446744073709551616:=ql;omega
  refine dT.mk ((po x).toNat/2^58) rfl al ?_;refine aJ.mk [.int .u8 (deb.getD ((po x).toNat/2^58) 0)] (af.rd _ al) ?_;have ai:=af.at ((po x).toNat/2^58);refine aQ.mk (deb.getD ((po x).toNat/2^58) 0) (wrap_i64 ⟨by omega,by omega⟩) ?_;refine⟨_,_,.refl,?_,rfl,rfl⟩;simp only[qj,h];rfl
def ZG(a b c d:Int):Nat->List Value
 |0=>[.int .u64 (a),.int .u64 (b),.int .u64 (c),.int .u64 (d)]| 1=>[.int .u64 (gk a),.int .u64 (b),.int .u64 (c),.int .u64 (d)]| 2=>[.int .u64 (gk a),.int .u64 (gk b),.int .u64 (c),.int .u64 (d)]| 3=>[.int .u64 (gk a),.int .u64 (gk b),.int .u64 (gk c),.int .u64 (d)]| _=>[.int .u64 (gk a),.int .u64 (gk b),.int .u64 (gk c),.int .u64 (gk d)]
def ZH(a b c d:Int):Spec Tryz.prog 241 [.agg #[.int .u64 a,.int .u64 b,.int .u64 c,.int .u64 d]] I [] λr I' M'=>r=.agg #[.int .u64 (gk a),.int .u64 (gk b),.int .u64 (gk c),.int .u64 (gk d)]/\I'=I/\M'=[]:=by
 refine bC [] aS Tryz.func241 rfl rfl rfl ?_;intro B aq;refine cD.inv (ι:=Nat) (λi=>{ bA:=[(1,.ref 1 0),(2,.ref 2 0),(5,.val (.agg #[.int .u64 a,.int .u64 b,.int .u64 c,.int .u64 d])),(6,.val (.int .i64 i))],cl:=[(1,ZG a b c d i),(2,[.int .u64 0,.int .u64 0,.int .u64 0,.int .u64 0])],cj:=I }) (λi=>i<=4) (λi=>4-i) ?_ ?_
 ·exact⟨0,by simp,.refl,dr,.cons rfl (.cons rfl .nil)⟩
 ·intro i hi
  match i,hi with
  |0,_=>refine aI.mk (λ_=>?_) (λh=>by simp at h);refine dT.mk 0 rfl (by decide) ?_;refine be.Da rfl (by simp) rfl ?_;refine dT.mk 0 rfl (by decide) ?_;refine aQ.mk 1 (by decide) ?_;exact⟨1,⟨by simp,by simp⟩,.refl,dr,.cons rfl (.cons rfl .nil)⟩| 1,_=>refine aI.mk (λ_=>?_) (λh=>by simp at h);refine dT.mk 1 rfl (by decide) ?_;refine be.Da rfl (by simp) rfl ?_;refine dT.mk 1 rfl (by decide) ?_;refine aQ.mk 2 (by decide) ?_;exact⟨2,⟨by simp,by simp⟩,.refl,dr,.cons rfl (.cons rfl .nil)⟩| 2,_=>refine aI.mk (λ_=>?_) (λh=>by simp at h);refine dT.mk 2 rfl (by decide) ?_;refine be.Da rfl (by simp) rfl ?_;refine dT.mk 2 rfl (by decide) ?_;refine aQ.mk 3 (by decide) ?_;exact⟨3,⟨by simp,by simp⟩,.refl,dr,.cons rfl (.cons rfl .nil)⟩| 3,_=>refine aI.mk (λ_=>?_) (λh=>by simp at h);refine dT.mk 3 rfl (by decide) ?_;refine be.Da rfl (by simp) rfl ?_;refine dT.mk 3 rfl (by decide) ?_;refine aQ.mk 4 (by decide) ?_;exact⟨4,⟨by simp,by simp⟩,.refl,dr,.cons rfl (.cons rfl .nil)⟩| 4,_=>refine aI.mk (λh=>by simp at h) (λ_=>?_);exact⟨_,_,.refl,rfl,rfl,rfl⟩
def ZI:Spec Tryz.prog 218 [] I [] λr I' M'=>r=.agg #[.int .u64 (gk 0),.int .u64 (gk 0),.int .u64 (gk 0),.int .u64 (gk 0)]/\I'=I/\M'=[]:=by refine bC [] aS Tryz.func218 rfl rfl rfl ?_;intro B aq;refine aT.mk [] [] _ (.refl _) (ZH 0 0 0 0) ?_;rintro v I' M' -⟨rfl,rfl,rfl⟩;exact⟨_,_,.refl,rfl,rfl,rfl⟩
def tm(I:aN)(b:Nat)(o:Obj):ins I b o b=some o:=by simp[ins]
def ri(af:I b=none):∀ c p,I c=some p->ins I b o c=some p:=by
 intro c p h;unfold ins;cases e:Nat.beq c b with
 |false=>exact h| true=>have:=cC e;subst this;rw[af]at h;cases h
def KA{x y:Int}(ab:eF x)(aG:eF y):AB x y=((x.toNat &&& y.toNat:Nat):Int):=by
 obtain⟨x,rfl⟩:=jf ab.1;obtain⟨y,rfl⟩:=jf aG.1;have U:x<18446744073709551616:=by have:=ab.2;omega
 have aa:y<18446744073709551616:=by have:=aG.2;omega
 have e:∀ z:Nat,z<18446744073709551616->(BitVec.ofInt 64 (z:Int)).toNat=z:=λz bd=>by rw[BitVec.toNat_ofInt];omega
 unfold AB;rw[Gq,e x U,e y aa,tl]
 ·simp
 ·have:=Nat.and_le_left (n:=x) (m:=y);exact⟨by omega,by omega⟩
def tn(x:Int):Int:=AB x (IntKind.u64.wrap (x-1))
def yq(n:Nat):Nat:=((List.range 64).filter n.testBit).length
def ZJ(n:Nat):yq n<=64:=by have:=xL n.testBit (List.range 64);simpa[yq]using this
def ZK{x:Int}(ab:eF x)(aq:x≠0):eF (tn x)/\yq (tn x).toNat<yq x.toNat:=by
 obtain⟨n,rfl⟩:=jf ab.1;have U:n<18446744073709551616:=by have:=ab.2;omega
 have n':0<n:=by omega
 have ao:eF ((n:Int)-1):=⟨by omega,by omega⟩;have e:tn (n:Int)=((n &&& (n-1):Nat):Int):=by unfold tn;rw[tl ao,KA ab ao];congr 2;omega
 have hle:n &&& (n-1)<=n-1:=Nat.and_le_right;refine⟨by rw[e];exact⟨by omega,by omega⟩,?_⟩;rw[e];simp only[jA];unfold yq;have kZ:List.Sublist ((List.range 64).filter (n &&& (n-1)).testBit) ((List.range 64).filter n.testBit):=by
  have:(List.range 64).filter (n &&& (n-1)).testBit=((List.range 64).filter n.testBit).filter (n-1).testBit:=by rw[List.filter_filter];congr 1;funext i;rw[Jt,Bool.and_comm]
  rw[this];exact List.filter_sublist
 rcases Nat.lt_or_eq_of_le kZ.length_le with h | h
 ·exact h
 ·exfalso;have ZL:=kZ.eq_of_length h;have:n &&& (n-1)=n:=by
   apply Nat.eq_of_testBit_eq;intro i;by_cases hi:i<64
   ·have hm:i∈(List.range 64).filter (n &&& (n-1)).testBit ↔ i∈(List.range 64).filter n.testBit:=by rw[ZL]
    simp only[vT,kk,hi,true_and]at hm;cases U:(n &&& (n-1)).testBit i<;>cases aa:n.testBit i<;>simp_all
   ·have aa:2^64<=2^i:=J5 (by omega) (by omega);rw[J3 (by omega),J3 (by omega)]
  omega
def byteOf(deb:List Int)(i:Nat)(w:Int):UInt8:=UInt8.ofNat (IntKind.u8.wrap ((i:Int)*64+qj deb w)).toNat
def ZM(deb:List Int)(i:Nat)(w:Int):((byteOf deb i w).toNat:Int)=IntKind.u8.wrap ((i:Int)*64+qj deb w):=by have:=wrap_u8 ((i:Int)*64+qj deb w);unfold byteOf;rw[UInt8.toNat_ofNat'];omega
def qm(deb:List Int)(i:Nat):Nat->Int->List UInt8
 |0,_=>[]| f+1,w=>bif decide (w=0)then []else byteOf deb i w::qm deb i f (tn w)
def gx(deb:List Int):Nat->List Int->List UInt8
 |_,[]=>[]| i,w::ws=>qm deb i 64 w++gx deb (i+1) ws
def QX(deb:List Int)(i:Nat):∀ f w,(qm deb i f w).length<=f
 |0,_=>by simp[qm]
 |f+1,w=>by
  unfold qm;have:=QX deb i f (tn w);cases decide (w=0)<;>simp
  exact this
def KB(deb:List Int):∀ ws i,(gx deb i ws).length<=64*ws.length
 |[],_=>by simp[gx]
 |w::ws,i=>by have U:=QX deb i 64 w;have aa:=KB deb ws (i+1);simp only[gx,ck,c5];omega
def rj(l:List UInt8):List (List Value):=l.map λc=>[.int .u8 c.toNat]
def uW(a b c d:Int):List Value:=[.int .u64 a,.int .u64 b,.int .u64 c,.int .u64 d]
def ZN(a b c d:Int):Spec Tryz.prog 253 [.agg #[.int .u64 a,.int .u64 b,.int .u64 c,.int .u64 d]] I [] λr I' M'=>∃ g,r=.func (.func 258) #[] #[ptr g]/\I' g=some (.cells (uW a b c d).toArray 69 (0,0))/\(∀ b o,I b=some o->I' b=some o)/\M'=[]:=by refine bC [1] aS Tryz.func253 rfl rfl rfl ?_;intro B aq;refine cz.mk λg ar wE=>?_;exact⟨_,_,.pZ rfl (by simp) .refl,g,rfl,tm ..,ri ar,rfl⟩
def ZO(yr:qi I deb){a b c:Int}(fz:∀ x∈[a,b,c,d],eF x)(ar:I g=some (.cells (uW a b c d).toArray 69 (0,0))) :
  Iter Tryz.prog 258 [ptr g] I (rj (gx deb 0 [a,b,c,d])):=by
 intro l R ra to dd M0 nB jh;refine Al [] aS Tryz.func258 rfl rfl rfl ?_;intro B aq;have bh:∀ (c8:aN) (M:List aC),(∀ b o,I b=some o->c8 b=some o)->bE c8 M ⟨g,0,none⟩ 4 (uW a b c d):=λc8 M h=>⟨rfl,_,_,_,.inl (h _ _ ar),rfl,rfl⟩;refine aJ.mk _ (bh _ _ nB) ?_;refine cD.inv (ι:=Nat×Nat×aN×List aC) (λx=>{ bA:=[(0,.val (.func (.yield l) #[] #[])),(5,.val (.agg (uW a b c d).toArray)),(6,.val (.int .i64 x.1))],cj:=x.2.2.1,dx:=x.2.2.2 }) (λx=>x.1<=4/\(∀ b o,I b=some o->x.2.2.1 b=some o)/\R x.2.1 x.2.2.1 x.2.2.2/\x.2.1<=(gx deb 0 [a,b,c,d]).length/\(gx deb 0 [a,b,c,d]).drop x.2.1=gx deb x.1 ([a,b,c,d].drop x.1)) (λx=>4-x.1) ?_ ?_
 ·exact⟨(0,0,dd,M0),⟨by simp,nB,jh,by simp,rfl⟩,.refl,da,.nil⟩
 ·rintro⟨i,k,c8,M1⟩⟨hi,cn,h5,dG,fR⟩;simp only at hi cn h5 dG fR;refine aI.mk (λh=>?_) (λh=>?_)
  ·have aL:i<4:=by simp at h;omega
   have bi:i < [a,b,c,d].length:=aL;refine dT.mk i rfl aL ?_;have uX:pack false ((((uW a b c d).toArray).toList.drop (i*1)).take 1)=.int .u64 [a,b,c,d][i]:=by
    match i,aL with
    |0,_=>rfl| 1,_=>rfl| 2,_=>rfl| 3,_=>rfl
   have eR:[a,b,c,d].drop i=[a,b,c,d][i]::[a,b,c,d].drop (i+1):=dS bi;refine cD.inv (ι:=Int×Nat×Nat×aN×List aC) (λx=>{ bA:=[(0,.val (.func (.yield l) #[] #[])),(3,.val (.int .i64 i)),(4,.val (.int .u64 x.1)),(5,.val (.agg (uW a b c d).toArray)),(6,.val (.int .i64 i))],cj:=x.2.2.2.1,dx:=x.2.2.2.2 }) (λx=>eF x.1/\yq x.1.toNat<=x.2.1/\(∀ b o,I b=some o->x.2.2.2.1 b=some o)/\R x.2.2.1 x.2.2.2.1 x.2.2.2.2/\x.2.2.1<=(gx deb 0 [a,b,c,d]).length/\(gx deb 0 [a,b,c,d]).drop x.2.2.1=qm deb i x.2.1 x.1++gx deb (i+1) ([a,b,c,d].drop (i+1))) (λx=>yq x.1.toNat) ?_ ?_
   ·refine⟨([a,b,c,d][i],64,k,c8,M1),⟨fz _ (cO bi),ZJ _,cn,h5,dG,?_⟩,.refl,.cons .refl (.cons .refl (.cons ?_ (ln))),.nil⟩
    ·simp only;rw[fR,eR];rfl
    ·simp only;rw[<-uX];exact .refl
   ·rintro⟨w,f,k,c8,M1⟩⟨hw,aw,cn,h5,dG,fR⟩;simp only at hw aw cn h5 dG fR;refine aI.mk (λh=>?_) (λh=>?_)
    ·have GC:w≠0:=by simpa using h
     obtain⟨h6,iA⟩:=ZK hw GC;obtain⟨f,rfl⟩:∃ wI,f=wI+1:=⟨f-1,by omega⟩;have af:qm deb i (f+1) w=byteOf deb i w::qm deb i f (tn w):=by simp[qm,GC]
     rw[af,p7]at fR;have ae:k<(gx deb 0 [a,b,c,d]).length:=by apply Nat.lt_of_not_le;intro hle;rw[hc hle]at fR;cases fR
     have fg:=dS ae;rw[fR]at fg;obtain⟨ys,wJ⟩:=List.cons.inj fg;have Dc:k<(rj (gx deb 0 [a,b,c,d])).length:=by simpa[rj]using ae
     have ah:(rj (gx deb 0 [a,b,c,d]))[k]=[.int .u8 (IntKind.u8.wrap ((i:Int)*64+qj deb w))]:=by simp only[rj,jJ,<-ys,ZM]
     have QY:qi c8 deb:=by obtain⟨eH,eI,T,aj,fK⟩:=yr;exact⟨eH,eI,T,aj,cn _ _ fK⟩
     have ak0:=ZE QY w;refine aQ.mk ((i:Int)*64) (wrap_i64 ⟨by omega,by omega⟩) ?_;refine aT.mk [] M1 _ (.refl _) (ZF QY w) ?_;rintro v I' M' -⟨rfl,rfl,rfl⟩;refine aQ.mk ((i:Int)*64+qj deb w) (wrap_i64 ⟨by omega,by omega⟩) ?_;refine aQ.mk _ rfl ?_;refine be.yield rfl (by simp) rfl rfl ?_;have aG:=to k Dc I' M1 cn h5;rw[ah]at aG;refine CT.mk M1 [] _ (by simp) aG ?_;rintro v dQ dt jM (⟨rfl,nu⟩ | ⟨rfl,ab⟩);·refine aI.mk (λh=>by simp at h) (λ_=>?_);refine aQ.mk _ rfl ?_;exact⟨(tn w,f,k+1,dQ,dt),⟨⟨h6,by simp only;omega,λb o h=>jM b o (cn b o h),nu,ae,wJ.symm⟩,by simp only;exact iA⟩,.perm (by simp) .refl,kQ,.nil⟩
     ·refine aI.mk (λ_=>?_) (λh=>by simp at h);exact⟨_,_,.perm (by simp) .refl,.inr ab⟩
    ·have GC:w=0:=by simpa using h
     have eJ:IntKind.i64.wrap ((i:Int)+1)=((i+1:Nat):Int):=by rw[wrap_i64 ⟨by omega,by omega⟩];omega
     refine aQ.mk _ eJ ?_;have af:qm deb i f w=[]:=by cases f<;>simp[qm,GC]
     rw[af,nj]at fR;exact⟨(i+1,k,c8,M1),⟨⟨by simp only;omega,cn,h5,dG,fR⟩,by simp only;omega⟩,.refl,da,.nil⟩
  ·have iS:i=4:=by simp at h;omega
   subst iS;refine⟨_,_,.refl,.inl ?_⟩;have mz:(gx deb 0 [a,b,c,d]).drop k=[]:=by rw[fR];rfl
   have qn:k=(rj (gx deb 0 [a,b,c,d])).length:=by have:=Gl.1 mz;simp only[rj,ei];omega
   rw[<-qn];exact h5
def nC(l:List (UInt8×UInt8))(b:UInt8):List (UInt8×UInt8):=match l.getLast? with
 |some p=>bif decide ((p.2.toNat:Int)+1=b.toNat)then l.dropLast++[(p.1,b)]else l++[(b,b)]| none=>[(b,b)]
def iT(l:List UInt8):List (UInt8×UInt8):=l.foldl nC []
def fq(p:UInt8×UInt8):List Value:=[.int .u8 p.1.toNat,.int .u8 p.2.toNat]
def jm(l:List (UInt8×UInt8)):List Value:=l.flatMap fq
def AD(l:List (UInt8×UInt8)):(jm l).length=l.length*2:=ji fq 2 (λ_=>rfl) l
def ZP(l:List (UInt8×UInt8))(b:UInt8):(nC l b).length<=l.length+1:=by
 unfold nC;split
 ·rename_i p h;cases decide ((p.2.toNat:Int)+1=b.toNat)<;>simp
 ·simp
def QZ(l:List UInt8):(iT l).length<=l.length:=by
 have:∀ (l:List UInt8) (acc:List (UInt8×UInt8)),(l.foldl nC acc).length<=acc.length+l.length:=by
  intro l
  induction l with
  |nil=>intro acc;simp| cons b l a2=>intro acc;have U:=a2 (nC acc b);have aa:=ZP acc b;simp only[Cf,c5];omega
 simpa[iT]using this l []
def wK:((⟨b,0,none⟩:Addr).add i).add j=(⟨b,0,none⟩:Addr).add (i+j):=by rw[d' ⟨_,0,none⟩ rfl i,d' _ rfl j,d' _ rfl (i+j)];simp
def lv{M:List aC}{cs:List Value}(a7:(⟨b,.cells cs.toArray T (0,0)⟩:aC)∈M)(h:cs[i+j]?=some v):bE I M (((⟨b,0,none⟩:Addr).add i).add j) 1 [v]:=by obtain⟨ay,rfl⟩:=ij.1 h;have:=dM (I:=I) a7 (k:=i+j) (n:=1) (by omega);rw[dS ay,oe,p8]at this;rw[wK];exact this
def Q0(pre:List Value)(u v z:Value)(rest:List Value)(k:Nat)(ae:k=pre.length+1):bw (pre++([u,v]++rest)) k [z]=pre++([u,z]++rest):=by
 subst ae;unfold bw;have ax:(pre++([u,v]++rest)).take (pre.length+1)=pre++[u]:=by rw[show pre++([u,v]++rest)=(pre++[u])++(v::rest)from by simp];exact q' (by simp)
 have az:(pre++([u,v]++rest)).drop (pre.length+1+[z].length)=rest:=by rw[show pre++([u,v]++rest)=(pre++[u,v])++rest from by simp];exact J7 (by simp)
 rw[ax,az];simp
def KD{os:bn}{aU:List (UInt8×UInt8)}{x:UInt8}(dN:os.ok 2 (jm aU)){cur:List Value}(U:cur.length=c*2)(aa:os.n+1<=c)(ag:c<=maxLen)(aK:cur.take ((os.n+1)*2)=jm aU++fq (x,x)) :
  bn.ok ⟨some g,os.n+1,c,cur⟩ 2 (jm (aU++[(x,x)])):=by
 have r1:jm (aU++[(x,x)])=jm aU++fq (x,x):=by simp[jm]
 have ay:=dN.len;refine⟨?_,(λh=>by cases h),λbl nE=>⟨U,aa,ag,by rw[r1];exact aK⟩⟩;rw[r1,ck,ay];simp[fq];omega
def GD(l:List UInt8)(x:UInt8):iT (l++[x])=nC (iT l) x:=by simp[iT]
def ZQ(yr:qi I deb){a b c:Int}(fz:∀ x∈[a,b,c,d],eF x):Spec Tryz.prog 246 [.agg #[.int .u64 a,.int .u64 b,.int .u64 c,.int .u64 d]] I []
  λr I' M'=>(∀ b o,I b=some o->I' b=some o)/\∃ os:bn,r=os.val/\os.ok 2 (jm (iT (gx deb 0 [a,b,c,d])))/\M'=os.aY 272:=by
 refine bC [3] aS Tryz.func246 rfl rfl rfl ?_;intro B aq;refine cz.mk λg ar wE=>?_;refine aT.mk [] [⟨g,.cells #[.slice none 0 0] 270 (0,0)⟩] _ (.refl _) (ZN a b c d) ?_;rintro v c8 M1 -⟨aR,rfl,jn,cn,rfl⟩;have ZR:qi c8 deb:=by obtain⟨eH,eI,T,aj,fK⟩:=yr;exact⟨eH,eI,T,aj,cn _ _ fK⟩
 have b1:=KB deb [a,b,c,d] 0;refine cL.range aS rfl rfl rfl .refl (ZO ZR fz jn) (λvs h=>?_) (λk I' M'=>(∀ b o,c8 b=some o->I' b=some o)/\∃ os:bn,os.ok 2 (jm (iT ((gx deb 0 [a,b,c,d]).take k)))/\M'=⟨g,.cells #[os.val] 270 (0,0)⟩::os.aY 272) (λ_ _ _=>False) ⟨λ_ _ h=>h,⟨none,0,0,[]⟩,⟨rfl,λ_=>⟨rfl,rfl⟩,λg h=>by cases h⟩,rfl⟩ ?_ ?_ (λ_ _ _ _ h=>h.elim)
 ·obtain⟨c,_,rfl⟩:=du.1 h;rfl
 ·rintro k ae I' M' -⟨iB,os,dN,rfl⟩l B aq kr;have AE:k<(gx deb 0 [a,b,c,d]).length:=by simpa[rj]using ae
  generalize ak1:gx deb 0 [a,b,c,d]=L at *;generalize ab:L[k]=x;have ah:(rj L)[k]=[.int .u8 x.toNat]:=by simp[rj,ab]
  rw[ah];have oj:iT (L.take (k+1))=nC (iT (L.take k)) x:=by rw[g9 AE,ab,GD]
  rw[oj];have jl:(iT (L.take k)).length<=256:=by have U:=QZ (L.take k);have aa:=As k L;simp only[c5,eY]at b1;omega
  generalize q5:iT (L.take k)=aU at *;have lx:=x.toNat_lt;obtain⟨yt,n,ey,cur⟩:=os;have av:aU.length=n:=by have:=dN.len;rw[AD]at this;simp only at this;omega
  cases yt with
  |none=>
   obtain⟨ax,az⟩:=dN.nil rfl;simp only at ax az;subst ax;subst az;have gY:aU=[]:=lV av;have hU:nC aU x=aU++[(x,x)]:=by rw[gY];rfl
   refine aJ.mk [.slice none 0 0] (dM (cs:=[.slice none 0 0]) (k:=0) (n:=1) (T:=270) (.head _) (by simp)) ?_;refine aQ.mk (-1) (by decide) ?_;refine bo.mk (λh=>by simp at h) (λ_=>?_);refine aJ.mk [.slice none 0 0] (dM (cs:=[.slice none 0 0]) (k:=0) (n:=1) (T:=270) (.head _) (by simp)) ?_;refine cz.mk λaV l1 Q1=>?_;refine be.append aS rfl (by simp) (e:=272) rfl rfl rfl (⟨none,0,0,cur⟩:bn) dN rfl (m:=1) rfl (news:=fq (x,x)) (by decide) (dM (cs:=fq (x,x)) (k:=0) (n:=2) (T:=272) (.head _) (by simp[fq])) rfl (Mr:=[⟨aV,.cells (fq (x,x)).toArray 272 (0,0)⟩,⟨g,.cells #[.slice none 0 0] 270 (0,0)⟩]) (f' (l₁:=[_,_])) (by simp only[maxLen];omega) (by show(_+1)*2<=_;simp only;omega) ?_;intro c2 c' ga eH eI fK gK;refine cX.mk [⟨c2,.cells ga.toArray 272 (0,0)⟩,⟨aV,.cells (fq (x,x)).toArray 272 (0,0)⟩] [] _ _ rfl rfl (bB rfl) rfl ?_;refine⟨_,_,.perm (M1:=[⟨aV,.cells (fq (x,x)).toArray 272 (0,0)⟩]++(⟨g,.cells #[bn.val ⟨some c2,(⟨none,0,0,cur⟩:bn).n+1,c',ga⟩] 270 (0,0)⟩::bn.aY ⟨some c2,(⟨none,0,0,cur⟩:bn).n+1,c',ga⟩ 272)) (f' (l₁:=[_]) (l₂:=[_,_])) (.sub (mA _ _) .refl),iB,⟨some c2,(⟨none,0,0,cur⟩:bn).n+1,c',ga⟩,?_,rfl⟩;rw[hU];exact KD dN eH eI fK gK
  |some ca=>
   obtain⟨dL,lY,kW,iC⟩:=dN.cap ca rfl;simp only at dL lY kW iC;refine aJ.mk [.slice (some ⟨ca,0,none⟩) n ey] (dM (cs:=[.slice (some ⟨ca,0,none⟩) n ey]) (k:=0) (n:=1) (T:=270) (.head _) (by simp)) ?_;refine aQ.mk ((n:Int)-1) (wrap_i64 ⟨by omega,by omega⟩) ?_;refine bo.mk (λU=>?_) (λU=>?_)
   ·have n':1<=n:=by simp at U;omega
    obtain⟨r2,p,rfl⟩:∃ r2 p,aU=r2++[p]:=by
     rcases J4 aU with h | ⟨r,p,h⟩;·subst h;simp at av;omega
     ·exact⟨r,p,by simpa using h⟩
    have qa:r2.length=n-1:=by simp at av;omega
    have hr:(jm r2).length=(n-1)*2:=by rw[AD,qa]
    obtain⟨rest,ly⟩:∃ rest,cur=jm r2++([.int .u8 p.1.toNat,.int .u8 p.2.toNat]++rest):=by refine⟨cur.drop (n*2),?_⟩;have aa:=uR (n*2) cur;rw[iC]at aa;rw[<-aa,J7 (by rw[AD,av])];simp[jm,fq]
    have pq:cur[(n-1)*2+1*1]?=some (.int .u8 p.2.toNat):=by rw[ly,<-hr,ng (by omega)];simp
    have tp:=p.2.toNat_lt;refine aJ.mk [.slice (some ⟨ca,0,none⟩) n ey] (dM (cs:=[.slice (some ⟨ca,0,none⟩) n ey]) (k:=0) (n:=1) (T:=270) (.head _) (by simp)) ?_;refine a6.mk ⟨ca,0,none⟩ (n-1) rfl (by omega) (by omega) ?_;refine dT.mk 1 rfl (by decide) ?_;refine aJ.mk [.int .u8 p.2.toNat] (lv (b:=ca) (cs:=cur) (T:=272) (by simp[bn.aY]) pq) ?_;refine aQ.mk (p.2.toNat:Int) (wrap_i64 ⟨by omega,by omega⟩) ?_;refine aQ.mk ((p.2.toNat:Int)+1) (wrap_i64 ⟨by omega,by omega⟩) ?_;refine aQ.mk (x.toNat:Int) (wrap_i64 ⟨by omega,by omega⟩) ?_;have hU:nC (r2++[p]) x=bif decide ((p.2.toNat:Int)+1=x.toNat)then r2++[(p.1,x)]else r2++[p]++[(x,x)]:=by simp[nC]
    refine aI.mk (λaa=>?_) (λaa=>?_)
    ·rw[aa]at hU;refine aJ.mk [.slice (some ⟨ca,0,none⟩) n ey] (dM (cs:=[.slice (some ⟨ca,0,none⟩) n ey]) (k:=0) (n:=1) (T:=270) (.head _) (by simp)) ?_;refine a6.mk ⟨ca,0,none⟩ (n-1) rfl (by omega) (by omega) ?_;refine dT.mk 1 rfl (by decide) ?_;rw[wK];refine cX.add [⟨g,.cells #[.slice (some ⟨ca,0,none⟩) n ey] 270 (0,0)⟩] [] cur.toArray _ rfl ?_ rfl ?_
     ·simp only[oY];show 0+((n-1)*2+1)+1<=_;omega
     ·refine⟨_,_,.refl,iB,⟨some ca,n,ey,bw cur (0+((n-1)*2+1*1)) [.int .u8 x.toNat]⟩,?_,rfl⟩;have bQ:bw cur (0+((n-1)*2+1*1)) [.int .u8 x.toNat]=jm r2++([.int .u8 p.1.toNat,.int .u8 x.toNat]++rest):=by rw[ly];exact Q0 _ _ _ _ _ _ (by omega)
      rw[hU,bQ];have r1:jm (r2++[(p.1,x)])=jm r2++[.int .u8 p.1.toNat,.int .u8 x.toNat]:=by simp[jm,fq]
      refine⟨?_,(λh=>by cases h),λbl nE=>⟨?_,lY,kW,?_⟩⟩;·simp only[ba];rw[r1,ck,hr];simp;omega
      ·simp only;rw[<-dL,ly];simp
      ·simp only[ba];rw[r1,<-fN];refine q' ?_;rw[ck,hr];simp;omega
    ·rw[aa]at hU;simp only[a5]at hU;refine aJ.mk [.slice (some ⟨ca,0,none⟩) n ey] (dM (cs:=[.slice (some ⟨ca,0,none⟩) n ey]) (k:=0) (n:=1) (T:=270) (.head _) (by simp)) ?_;refine cz.mk λaV l1 Q1=>?_;refine be.append aS rfl (by simp) (e:=272) rfl rfl rfl (⟨some ca,n,ey,cur⟩:bn) dN rfl (m:=1) rfl (news:=fq (x,x)) (by decide) (dM (cs:=fq (x,x)) (k:=0) (n:=2) (T:=272) (.head _) (by simp[fq])) rfl (Mr:=[⟨aV,.cells (fq (x,x)).toArray 272 (0,0)⟩,⟨g,.cells #[.slice (some ⟨ca,0,none⟩) n ey] 270 (0,0)⟩]) (f' (l₁:=[_,_])) (by simp only[maxLen];omega) (by show(_+1)*2<=_;simp only;omega) ?_;intro c2 c' ga eH eI fK gK;refine cX.mk [⟨c2,.cells ga.toArray 272 (0,0)⟩,⟨aV,.cells (fq (x,x)).toArray 272 (0,0)⟩] [] _ _ rfl rfl (bB rfl) rfl ?_;refine⟨_,_,.perm (M1:=[⟨aV,.cells (fq (x,x)).toArray 272 (0,0)⟩]++(⟨g,.cells #[bn.val ⟨some c2,(⟨some ca,n,ey,cur⟩:bn).n+1,c',ga⟩] 270 (0,0)⟩::bn.aY ⟨some c2,(⟨some ca,n,ey,cur⟩:bn).n+1,c',ga⟩ 272)) (f' (l₁:=[_]) (l₂:=[_,_])) (.sub (mA _ _) .refl),iB,⟨some c2,(⟨some ca,n,ey,cur⟩:bn).n+1,c',ga⟩,?_,rfl⟩;rw[hU];exact KD dN eH eI fK gK
   ·have qa:n=0:=by simp at U;omega
    have gY:aU=[]:=lV (by omega);have hU:nC aU x=aU++[(x,x)]:=by rw[gY];rfl
    refine aJ.mk [.slice (some ⟨ca,0,none⟩) n ey] (dM (cs:=[.slice (some ⟨ca,0,none⟩) n ey]) (k:=0) (n:=1) (T:=270) (.head _) (by simp)) ?_;refine cz.mk λaV l1 Q1=>?_;refine be.append aS rfl (by simp) (e:=272) rfl rfl rfl (⟨some ca,n,ey,cur⟩:bn) dN rfl (m:=1) rfl (news:=fq (x,x)) (by decide) (dM (cs:=fq (x,x)) (k:=0) (n:=2) (T:=272) (.head _) (by simp[fq])) rfl (Mr:=[⟨aV,.cells (fq (x,x)).toArray 272 (0,0)⟩,⟨g,.cells #[.slice (some ⟨ca,0,none⟩) n ey] 270 (0,0)⟩]) (f' (l₁:=[_,_])) (by simp only[maxLen];omega) (by show(_+1)*2<=_;simp only;omega) ?_;intro c2 c' ga eH eI fK gK;refine cX.mk [⟨c2,.cells ga.toArray 272 (0,0)⟩,⟨aV,.cells (fq (x,x)).toArray 272 (0,0)⟩] [] _ _ rfl rfl (bB rfl) rfl ?_;refine⟨_,_,.perm (M1:=[⟨aV,.cells (fq (x,x)).toArray 272 (0,0)⟩]++(⟨g,.cells #[bn.val ⟨some c2,(⟨some ca,n,ey,cur⟩:bn).n+1,c',ga⟩] 270 (0,0)⟩::bn.aY ⟨some c2,(⟨some ca,n,ey,cur⟩:bn).n+1,c',ga⟩ 272)) (f' (l₁:=[_]) (l₂:=[_,_])) (.sub (mA _ _) .refl),iB,⟨some c2,(⟨some ca,n,ey,cur⟩:bn).n+1,c',ga⟩,?_,rfl⟩;rw[hU];exact KD dN eH eI fK gK
 ·rintro I' M' -⟨iB,os,dN,rfl⟩;refine aJ.mk [os.val] (dM (cs:=[os.val]) (k:=0) (n:=1) (T:=270) (.head _) (by simp)) ?_;refine⟨_,_,.sub (List.sublist_cons_self _ _) .refl,λb o h=>iB _ _ (cn _ _ h),os,rfl,?_,rfl⟩;have:(gx deb 0 [a,b,c,d]).take (rj (gx deb 0 [a,b,c,d])).length=gx deb 0 [a,b,c,d]:=gv (by simp[rj]);rw[this]at dN;exact dN
def bn.ok.row{M:List aC}{os:bn}{f:α->List Value}(aw:∀ x,(f x).length=size)(aq:0<size){l:List α}(h:os.ok size (l.flatMap f))(a7:∀ x∈os.aY e,x∈M)(al:j<l.length) :
  ∃ ad,os.a.map (λg=>(⟨g,0,none⟩:Addr))=some ad/\bE I M (ad.add (j*size)) size (f l[j]):=by
 have av:l.length=os.n:=by have U:=h.len;rw[ji f size aw]at U;exact Nat.eq_of_mul_eq_mul_right aq U
 cases aD:os.a with
 |none=>have:=(h.nil aD).1;omega
 |some g=>
  obtain⟨U,aa,ag,aK⟩:=h.cap g aD;refine⟨⟨g,0,none⟩,rfl,?_⟩;have hle:j*size+size<=os.n*size:=by have:=qP size (show j+1<=os.n by omega);rw[jg,nm]at this;exact this
  have dL:os.n*size<=os.cur.length:=by rw[U];exact qP _ aa
  have:=dM (I:=I) (M:=M) (b:=g) (T:=e) (cs:=os.cur) (a7 _ (by simp[bn.aY,aD])) (k:=j*size) (n:=size) (by omega);have ax:(os.cur.drop (j*size)).take size=f l[j]:=by rw[<-wx f size aw l j al,<-aK,yc,ye];congr 1;omega
  rw[ax]at this;exact this
def mK:ByteArray:=⟨#[34]⟩
def l2:ByteArray:=⟨#[93,45,94]⟩
def tq(s:ByteArray):List UInt8:=[34]++s.data.toList.flatMap (hF · mK)++[34]
def strOf(l:List UInt8):ByteArray:=⟨l.toArray⟩
def yu{α β:Type}(f:α->List β)(m:Nat)(aw:∀ x,(f x).length<=m):∀ l:List α,(l.flatMap f).length<=m*l.length
 |[]=>by simp
 |x::l=>by have U:=yu f m aw l;have aa:=aw x;simp only[og,ck,c5,CQ];omega
def Q2(s:ByteArray)(ao:s.size<=1099511627776):Spec Tryz.prog 228 [.string s] I [] λr I' M'=>r=.string (strOf (tq s))/\I'=I/\M'=[]:=by
 refine bC [3] aS Tryz.func228 rfl rfl rfl ?_;intro B aq;refine cz.mk λb af tk=>?_;refine aT.mk (fp.new.M b) [] _ (.refl _) (nz b fp.Gx 34 (by decide)) ?_;rintro v I' M' -⟨rfl,rfl,ta,e',uY,rfl⟩;refine cD.inv (ι:=Nat×fp) (λp=>{ bA:=[(0,.val (.string s)),(3,.val (ptr b)),(4,.val (.int .i64 p.1))],cj:=I',dx:=p.2.M b }) (λp=>p.1<=s.size/\p.2.ok/\p.2.bs=[34]++(s.data.toList.take p.1).flatMap (hF · mK)) (λp=>s.size-p.1) ?_ ?_
 ·exact⟨(0,ta),⟨by simp,e',by simp[uY,fp.new]⟩,.perm (by simp) .refl,da,.nil⟩
 ·rintro⟨i,x⟩⟨hi,ab,mL⟩;simp only at hi ab mL;have hlen:x.bs.length<=1+4*i:=by rw[mL];have:=yu (hF · mK) 4 (λc=>qh c mK) (s.data.toList.take i);have aa:=As i s.data.toList;simp only[ck,c5,eY];omega
  refine aI.mk (λh=>?_) (λh=>?_)
  ·have aL:i<s.size:=by simpa using h
   have bi:i<s.data.toList.length:=aL;refine o2.mk i rfl aL ?_;refine aT.mk (x.M b) [] _ (by simp) (Gz b ab s[i] mK (by omega)) ?_;rintro v I' M' -⟨rfl,y,aG,gw,rfl⟩;have eJ:IntKind.i64.wrap ((i:Int)+1)=((i+1:Nat):Int):=by rw[wrap_i64 ⟨by omega,by omega⟩];omega
   refine aQ.mk _ eJ ?_;refine⟨(i+1,y),⟨⟨by simp only;omega,aG,?_⟩,by simp only;omega⟩,.perm (by simp) .refl,da,.nil⟩;simp only;rw[gw,mL,g9 bi,lr,fN];congr 1;simp;rfl
  ·have c1:s.size<=i:=by simpa using h
   have eP:s.data.toList.take i=s.data.toList:=gv c1;refine aT.mk (x.M b) [] _ (by simp) (nz b ab 34 (by omega)) ?_;rintro v I' M' -⟨rfl,rfl,y,aG,gw,rfl⟩;refine aT.mk (y.M b) [] _ (by simp) (uU b aG (by rw[gw];simp;omega)) ?_;rintro v I' M' -⟨rfl,rfl,rfl⟩;refine⟨_,_,.refl,?_,rfl,by simp⟩;rw[gw,mL,eP];rfl
def qo(p:UInt8×UInt8):List UInt8:=
 hF p.1 l2++((bif decide (1<IntKind.u8.wrap ((p.2.toNat:Int)-p.1.toNat))then [45]else [])++(bif !decide ((p.2.toNat:Int)=p.1.toNat)then hF p.2 l2 else []))
def rk(deb:List Int)(a b c d:Int):List UInt8:=
 bif (a == gk 0&&(b == gk 0&&(c == gk 0&&d == gk 0)))then [46]else [91]++(iT (gx deb 0 [a,b,c,d])).flatMap qo++[93]
def Q3(p:UInt8×UInt8):(qo p).length<=9:=by
 have U:=qh p.1 l2;have aa:=qh p.2 l2;unfold qo;cases decide (1<IntKind.u8.wrap ((p.2.toNat:Int)-p.1.toNat))<;>cases decide ((p.2.toNat:Int)=p.1.toNat)<;>simp<;>omega
def Q4(deb:List Int)(a b c d:Int):(iT (gx deb 0 [a,b,c,d])).length<=256:=by have U:=KB deb [a,b,c,d] 0;have aa:=QZ (gx deb 0 [a,b,c,d]);simp only[c5,eY]at U;omega
def ZS(deb:List Int)(a b c d:Int):(rk deb a b c d).length<=2306:=by
 have U:=Q4 deb a b c d;have aa:=yu qo 9 Q3 (iT (gx deb 0 [a,b,c,d]));unfold rk;cases(a == gk 0&&(b == gk 0&&(c == gk 0&&d == gk 0)))
 ·simp only[a5,ck,c5,eY];omega
 ·simp
def ZT(yr:qi I deb){a b c:Int}(fz:∀ x∈[a,b,c,d],eF x):Spec Tryz.prog 229 [.agg #[.int .u64 a,.int .u64 b,.int .u64 c,.int .u64 d]] I []
  λr I' M'=>r=.string (strOf (rk deb a b c d))/\(∀ b o,I b=some o->I' b=some o)/\M'=[]:=by
 refine bC [3] aS Tryz.func229 rfl rfl rfl ?_;intro B aq;refine cL.draw aS rfl rfl rfl ?_;refine jc.mk _ ZI ?_;rintro v I' M' -⟨rfl,rfl,rfl⟩;refine cu.Kj aS (e:=67) rfl rfl rfl rfl (by kernel_rfl) ?_;refine aI.mk (λh=>?_) (λh=>?_)
 ·refine⟨_,_,.refl,?_,λ_ _ h=>h,rfl⟩;simp only[rk,h];rfl
 ·refine cz.mk λg ar wE=>?_;refine aT.mk (fp.new.M g) [] _ (.refl _) (nz g fp.Gx 91 (by decide)) ?_;rintro v I' M' -⟨rfl,rfl,ta,e',uY,rfl⟩;refine aT.mk [] (ta.M g) _ (by simp) (ZQ yr fz) ?_;rintro v c8 M1 -⟨cn,os,rfl,dN,rfl⟩;have jl:=Q4 deb a b c d;have dL:rk deb a b c d=[91]++(iT (gx deb 0 [a,b,c,d])).flatMap qo++[93]:=by simp only[rk,h];rfl
  generalize q5:iT (gx deb 0 [a,b,c,d])=aU at *;have av:aU.length=os.n:=by have:=dN.len;rw[AD]at this;omega
  refine cD.inv (ι:=Nat×fp) (λp=>{ bA:=[(3,.val (ptr g)),(11,.val os.val),(12,.val (.int .i64 os.n)),(13,.val (.int .i64 p.1))],cj:=c8,dx:=p.2.M g++os.aY 272 }) (λp=>p.1<=os.n/\p.2.ok/\p.2.bs=[91]++(aU.take p.1).flatMap qo) (λp=>os.n-p.1) ?_ ?_;·exact⟨(0,ta),⟨by simp,e',by simp[uY,fp.new]⟩,.perm (by simpa using f') .refl,dr,.nil⟩
  ·rintro⟨i,x⟩⟨hi,ab,mL⟩;simp only at hi ab mL;have hlen:x.bs.length<=1+9*i:=by rw[mL];have:=yu qo 9 Q3 (aU.take i);have aa:=As i aU;simp only[ck,c5,eY];omega
   refine aI.mk (λh=>?_) (λh=>?_)
   ·have aL:i<os.n:=by simpa using h
    have bi:i<aU.length:=by omega
    obtain⟨ad,bR,bh⟩:=bn.ok.row (I:=c8) (M:=x.M g++os.aY 272) (f:=fq) (λ_=>rfl) (by decide) dN (e:=272) (λy aG=>by simp[aG]) bi;refine a6.mk ad i bR rfl aL ?_;refine aJ.mk _ bh ?_;generalize aO:aU[i]=p;refine dT.mk 0 rfl (by decide) ?_;refine aT.mk (x.M g) (os.aY 272) _ (.refl _) (Gz g ab p.1 l2 (by omega)) ?_;rintro v I' M' -⟨rfl,y,aG,gw,rfl⟩;have QU:y.bs.length<=5+9*i:=by rw[gw,ck];have:=qh p.1 l2;omega
    refine dT.mk 1 rfl (by decide) ?_;refine dT.mk 0 rfl (by decide) ?_;refine aQ.mk _ rfl ?_;refine aI.mk (λcM=>?_) (λcM=>?_)
    ·refine aT.mk (y.M g) (os.aY 272) _ (by simp) (nz g aG 45 (by omega)) ?_;rintro v I' M' -⟨rfl,rfl,u,hu,uV,rfl⟩;have Q5:u.bs.length<=6+9*i:=by rw[uV];simp;omega
     refine dT.mk 1 rfl (by decide) ?_;refine dT.mk 0 rfl (by decide) ?_;refine aI.mk (λcp=>?_) (λcp=>?_)
     ·refine dT.mk 1 rfl (by decide) ?_;refine aT.mk (u.M g) (os.aY 272) _ (by simp) (Gz g hu p.2 l2 (by omega)) ?_;rintro v I' M' -⟨rfl,z,bd,rf,rfl⟩;have eJ:IntKind.i64.wrap ((i:Int)+1)=((i+1:Nat):Int):=by rw[wrap_i64 ⟨by omega,by omega⟩];omega
      refine aQ.mk _ eJ ?_;refine⟨(i+1,z),⟨⟨by simp only;omega,bd,?_⟩,by simp only;omega⟩,.perm (by simp) .refl,dr,.nil⟩;simp only;rw[rf,uV,gw,mL,g9 bi,lr,aO];simp[qo,cM,cp]
     ·have eJ:IntKind.i64.wrap ((i:Int)+1)=((i+1:Nat):Int):=by rw[wrap_i64 ⟨by omega,by omega⟩];omega
      refine aQ.mk _ eJ ?_;refine⟨(i+1,u),⟨⟨by simp only;omega,hu,?_⟩,by simp only;omega⟩,.perm (by simp) .refl,dr,.nil⟩;simp only;rw[uV,gw,mL,g9 bi,lr,aO];simp[qo,cM,cp]
    ·refine dT.mk 1 rfl (by decide) ?_;refine dT.mk 0 rfl (by decide) ?_;refine aI.mk (λcp=>?_) (λcp=>?_)
     ·refine dT.mk 1 rfl (by decide) ?_;refine aT.mk (y.M g) (os.aY 272) _ (by simp) (Gz g aG p.2 l2 (by omega)) ?_;rintro v I' M' -⟨rfl,z,bd,rf,rfl⟩;have eJ:IntKind.i64.wrap ((i:Int)+1)=((i+1:Nat):Int):=by rw[wrap_i64 ⟨by omega,by omega⟩];omega
      refine aQ.mk _ eJ ?_;refine⟨(i+1,z),⟨⟨by simp only;omega,bd,?_⟩,by simp only;omega⟩,.perm (by simp) .refl,dr,.nil⟩;simp only;rw[rf,gw,mL,g9 bi,lr,aO];simp[qo,cM,cp]
     ·have eJ:IntKind.i64.wrap ((i:Int)+1)=((i+1:Nat):Int):=by rw[wrap_i64 ⟨by omega,by omega⟩];omega
      refine aQ.mk _ eJ ?_;refine⟨(i+1,y),⟨⟨by simp only;omega,aG,?_⟩,by simp only;omega⟩,.perm (by simp) .refl,dr,.nil⟩;simp only;rw[gw,mL,g9 bi,lr,aO];simp[qo,cM,cp]
   ·have c1:os.n<=i:=by simpa using h
    have eP:aU.take i=aU:=gv (by omega);refine aT.mk (x.M g) (os.aY 272) _ (.refl _) (nz g ab 93 (by omega)) ?_;rintro v I' M' -⟨rfl,rfl,y,aG,gw,rfl⟩;refine aT.mk (y.M g) (os.aY 272) _ (.refl _) (uU g aG (by rw[gw];simp;omega)) ?_;rintro v I' M' -⟨rfl,rfl,rfl⟩;refine⟨_,_,.sub (dJ _) .refl,?_,cn,rfl⟩;rw[gw,mL,eP,dL];rfl
end Go.V
