/-
  Part 2 of what the proofs of this seat share: the executor, data in memory, walks.
-/
import Derived.Test.YtjiljjappjmlkaaGreatDoorK1
import Derived.Lib.UnsafeStr
import Derived.Test.YtjiljjappjmlkaaGreatDoorProg
import Derived.KernelRfl
import Derived.Lib.Builder
import Derived.Lib.Bytealg
import Derived.Laws.Pointers
import Derived.Laws.StructEq
set_option linter.all false
namespace Go.V
open Go
theorem wpIn_scope_rel {Fe:Fence} {n:Nat} {P:Program} {Q:Exit→Act→World→Prop} {a:Act} {w:World} {c:Code} (J:Nat→Nat→Act→World→Prop)
  (first:c.wpIn Fe n P (fun e a' w'=>match e with
   | .goto l=>∃ m,J l m a' w'
   | e=>Q e a' w') a w)
  (pass:∀ l m a w,J l m a w→∃ rest,findLabel c l=some rest∧rest.wpIn Fe n P (fun e a' w'=>match e with
   | .goto l'=>∃ m',m' < m∧J l' m' a' w'
   | e=>Q e a' w') a w):(Code.scope c).wpIn Fe n P Q a w:=by
 intro b k cs hro hb hr
 have s0:step P (lone (b.atR a (.code (.scope c)::k)) cs w)=.next (lone (b.atR a (.code c::.inScope c::k)) cs w):=
  step_lone_go (by simp[stepG,stepG.exec,Frame.atR])
 have s1:∀ a w,step P (lone (b.atR a (.inScope c::k)) cs w)=.next (lone (b.atR a k) cs w):=fun a w=>
  step_lone_go (by simp[stepG,stepG.exec,Frame.atR])
 have hx:∀ id,exitTo id (.inScope c::k)=exitTo id k:=fun id=>by simp[exitTo]
 have fin:∀ {m:Machine} {e:Exit} {a₁:Act} {w₁:World},(∀ l,e≠.goto l)→ArrivesIn (Machine.fenced P Fe) P m b (.inScope c::k) cs e a₁ w₁→ArrivesIn (Machine.fenced P Fe) P m b k cs e a₁ w₁:=by
  intro m e a₁ w₁ hne harr
  cases e with
  | normal=>exact StepsIn.trans harr (.one (fenced_calm hb hr rfl) (s1 _ _))
  | exit id=>exact⟨fun k' hk=>harr.1 k' (by rw[hx];exact hk),fun hr' hk=>harr.2 hr' (by rw[hx];exact hk)⟩
  | goto l=>exact(hne l rfl).elim
  | ret=>exact harr
  | panic ch=>exact harr
  | outgrown=>exact harr
 have key:∀ m l a w,J l m a w→∀ rest,findLabel c l=some rest→∃ e a' w',Q e a' w'∧ArrivesIn (Machine.fenced P Fe) P (lone (b.atR a (.code rest::.inScope c::k)) cs w) b k cs e a' w':=by
  intro m
  induction m using Nat.strongRecOn with
  | _ m ih=>
   intro l a w hJ rest hrest
   obtain⟨rest',hf,hw⟩:=pass l m a w hJ
   rw[hrest] at hf
   cases hf
   obtain⟨e,a₁,w₁,hq,harr⟩:=hw b (.inScope c::k) cs hro hb hr
   cases e with
   | goto l'=>
    obtain⟨m',hlt,hJ'⟩:=hq
    obtain⟨rest',hf',_⟩:=pass l' m' a₁ w₁ hJ'
    have hg:gotoIn l' (.inScope c::k)=some (.code rest'::.inScope c::k):=by simp[gotoIn,hf']
    obtain⟨e₂,a₂,w₂,hq₂,harr₂⟩:=ih m' hlt l' a₁ w₁ hJ' rest' hf'
    exact⟨e₂,a₂,w₂,hq₂,.of_steps (harr.1 _ hg) harr₂⟩
   | normal=>exact⟨_,a₁,w₁,hq,fin (by simp) harr⟩
   | exit id=>exact⟨_,a₁,w₁,hq,fin (by simp) harr⟩
   | ret=>exact⟨_,a₁,w₁,hq,fin (by simp) harr⟩
   | panic ch=>exact⟨_,a₁,w₁,hq,fin (by simp) harr⟩
   | outgrown=>exact⟨_,a₁,w₁,hq,fin (by simp) harr⟩
 have h0:(lone (b.atR a (.code (.scope c)::k)) cs w).fenced P Fe:=fenced_calm hb hr rfl
 obtain⟨e,a₁,w₁,hq,harr⟩:=first b (.inScope c::k) cs hro hb hr
 cases e with
 | goto l'=>
  obtain⟨m',hJ'⟩:=hq
  obtain⟨rest',hf',_⟩:=pass l' m' a₁ w₁ hJ'
  have hg:gotoIn l' (.inScope c::k)=some (.code rest'::.inScope c::k):=by simp[gotoIn,hf']
  obtain⟨e₂,a₂,w₂,hq₂,harr₂⟩:=key m' l' a₁ w₁ hJ' rest' hf'
  exact⟨e₂,a₂,w₂,hq₂,.of_steps (.head h0 s0 (harr.1 _ hg)) harr₂⟩
 | normal=>exact⟨_,a₁,w₁,hq,.of_steps (.one h0 s0) (fin (by simp) harr)⟩
 | exit id=>exact⟨_,a₁,w₁,hq,.of_steps (.one h0 s0) (fin (by simp) harr)⟩
 | ret=>exact⟨_,a₁,w₁,hq,.of_steps (.one h0 s0) (fin (by simp) harr)⟩
 | panic ch=>exact⟨_,a₁,w₁,hq,.of_steps (.one h0 s0) (fin (by simp) harr)⟩
 | outgrown=>exact⟨_,a₁,w₁,hq,.of_steps (.one h0 s0) (fin (by simp) harr)⟩
def scK (N:Nat→KS) (K:KX):KX
 | .goto l=>N l
 | e=>K e
theorem CodeOb.scope {X:Ctx} {c:Code} {F:Fr} {C:Bx} {I:GH} {M:List Blk} {K:KX} (hE:EOK X.P X.E) (hok:codeOk X.n c=true) {ι:Type} (st:ι→LP) (lab:ι→Nat) (inv:ι→Prop) (μ:ι→Nat) (rest:Nat→Code)
  (hrest:∀ i,inv i→findLabel c (lab i)=some (rest (lab i))∧codeOk X.n (rest (lab i))=true)
  (first:V X c F C I M (scK (fun l=>InvAt X.foot st fun j=>inv j∧lab j=l) K))
  (pass:∀ i,inv i→V X (rest (lab i)) (ofF (st i).fl) (ofC (st i).cl) (st i).gi (st i).mi (scK (fun l=>InvAt X.foot st fun j=>(inv j∧lab j=l)∧μ j < μ i) K)) :
  CodeOb X (.scope c) F C I M K:=by
 refine⟨fun a w hR=>?_⟩
 let J (l m:Nat) (a:Act) (w:World):Prop:=∃ i,inv i∧lab i=l∧μ i=m∧Rel X a w (ofF (st i).fl) (ofC (st i).cl) (st i).gi (st i).mi
 have toJ:∀ {p:ι→Prop} {l:Nat} {a w},(∀ i,p i→inv i∧lab i=l)→Sat X (InvAt X.foot st p) a w→∃ i,p i∧J l (μ i) a w:=by
  rintro p l a w hp ⟨F,C,I,M,⟨β,hr⟩,⟨j,hpj,hw,hF,hC⟩⟩
  exact⟨j,hpj,j,(hp j hpj).1,(hp j hpj).2,rfl,β,(hr.base hF hC).wk hw⟩
 refine wpIn_scope_rel J (wpIn_mono (V_sound hE c hok hR first) ?_) ?_
 ·intro e a w h
  cases e with
  | goto l=>
   obtain⟨j,hj,hJ⟩:=toJ (p:=fun j=>inv j∧lab j=l) (l:=l) (fun _ h=>h) h
   exact⟨_,hJ⟩
  | _=>exact h
 ·rintro l m a w ⟨i,hi,rfl,rfl,hr⟩
  obtain⟨h1,h2⟩:=hrest i hi
  refine⟨_,h1,wpIn_mono (V_sound hE _ h2 hr (pass i hi)) ?_⟩
  intro e a w h
  cases e with
  | goto l'=>
   obtain⟨j,hj,hJ⟩:=toJ (p:=fun j=>(inv j∧lab j=l')∧μ j < μ i) (l:=l') (fun _ h=>h.1) h
   exact⟨_,hj.2,hJ⟩
  | _=>exact h
def SpecY (P:Program) (l:Nat) (args:List Value) (I:GH) (M:List Blk) (post:Value→GH→List Blk→Prop):Prop:=
 ∀ w,Holds I M w→∃ f tmps assign body,(Instr.yield l args.toArray).run P w=.ok (.round l f tmps assign body) w ∧
  RoundIn Fence.wide 0 P l f tmps assign body w fun e w'=>∃ v I' M',e=.returned v∧post v I' M'∧Holds I' M' w'∧Kept I M w I' M' w'
inductive CallObY (P:Program) (l:Nat) (args:List Value) (I:GH) (M:List Blk) (K:Value→GH→List Blk→Prop):Prop
 | mk (Mc Mr:List Blk) (post:Value→GH→List Blk→Prop) (hM:M.Perm (Mc++Mr)) (hs:SpecY P l args I Mc post)
  (k:∀ v I' M',(∀ b o,I b=some o→I' b=some o)→post v I' M'→K v I' (M'++Mr))
theorem OtherOb.yield {X:Ctx} {o:Oper} {F:Fr} {C:Bx} {I:GH} {M:List Blk} {K:KS} {f:Operand} {args:Array Operand} {ts:Array TypeId} {l:Nat} {vs:List Value} (ho:o.op=.call { callee:=.value f,args,argTypes:=ts })
  (hd:∀ d,o.dst=some d→d < X.n) (hf:ev F f=.val (.func (.yield l) #[] #[])) (hvs:evs F args.toList=some vs)
  (h:CallObY X.P l vs I M fun v I' M'=>K (put o.dst (.val v) F) C I' M'):OtherOb X o F C I M K:=by
 refine⟨fun a w Q ⟨β,hR⟩=>?_⟩
 obtain⟨Mc,Mr,post,hM,hs,hk⟩:=h
 obtain⟨fn,tmps,assign,body,hy,hr⟩:=hs w (hR.holds.part hM)
 have e1:=evs_ok hR.fr hvs
 have e1':args.map a.eval=vs.toArray:=by apply Array.ext';simpa using e1
 have e2:=eval_of_ev hR.fr hf
 obtain⟨dst,op,ty,pos,after,guard⟩:=o
 simp only at ho
 subst ho
 refine⟨fun _ _=>trivial,?_⟩
 rw[Oper.semAt_eq _ _ _ (by simp)]
 have hrun:(execOp a.eval ⟨dst,.call { callee:=.value f,args,argTypes:=ts },ty,pos,after,guard⟩).run X.P w=.ok (.round l fn tmps assign body) w:=by
  simp only[execOp,resolve,e2,Deferred.ofValue,Sem.run_bind,Sem.run_pure,Result.andThen_ok,e1',invoke]
  simpa using hy
 rw[hrun,Oper.uponIn_round]
 refine⟨(fun h=>by cases h),?_⟩
 have hr':RoundIn (fen X) (0 - 1) X.P l fn tmps assign body w _:=hr
 refine hr'.mono ?_
 rintro e w' ⟨v,I',M',rfl,hp,hH',hK⟩
 exact⟨_,_,_,_,⟨β,(hR.after hM hH' hK).put (x:=.val v) hd rfl⟩,hk v I' M' hK.le hp⟩
def Iter (P:Program) (g:Nat) (cap:List Value) (I:GH) (vals:List (List Value)):Prop:=
 ∀ (l:Nat) (R:Nat→GH→List Blk→Prop) (Rx:GH→List Blk→Prop),
  (∀ k (hk:k < vals.length) I' M',(∀ b o,I b=some o→I' b=some o)→R k I' M'→SpecY P l vals[k] I' M' fun v I'' M''=>(v=.bool true∧R (k+1) I'' M'')∨(v=.bool false∧Rx I'' M'')) →
  ∀ I0 M0,(∀ b o,I b=some o→I0 b=some o)→R 0 I0 M0→SpecE P g (.func (.yield l) #[] #[]::cap) I0 M0 fun _ I' M'=>R vals.length I' M'∨Rx I' M'
def putAll:List Nat→List Value→Fr→Fr
 | t::ps,v::vs,F=>putAll ps vs (upd F t (.val v))
 | _,_,F=>F
def rK (foot:List Nat) (N:GH→List Blk→Prop) (Rx:Ex→GH→List Blk→Prop):KX:=fun ex F C I M=>match ex with
 | .normal=>RetOb foot I M N
 | ex=>RetOb foot I M (Rx ex)
def codeOf:Ex→Option Code
 | .normal=>none
 | .exit id=>some (.exit id)
 | .goto l=>some (.goto l)
 | .ret=>some .ret
section
variable {X:Ctx} {β:Nat→Nat} {a:Act} {w:World} {F:Fr} {C:Bx} {I:GH} {M:List Blk}
theorem putAll_ok:∀ (ps:List Nat) (vs:List Value) (F:Fr) (tmps:Array Value),(∀ t∈ps,t < tmps.size)→(∀ t,SVok β (F t) (tmps.getD t undef)) →
  let r:=(ps.zip vs).foldl (fun (tmps:Array Value) (p:Nat×Value)=>tmps.setIfInBounds p.1 p.2) tmps
  r.size=tmps.size∧∀ t,SVok β (putAll ps vs F t) (r.getD t undef)
 | [],vs,F,tmps,_,h=>⟨rfl,h⟩
 | t::ps,[],F,tmps,_,h=>⟨rfl,h⟩
 | t::ps,v::vs,F,tmps,hp,h=>by
  have h1:∀ s,SVok β (upd F t (.val v) s) ((tmps.setIfInBounds t v).getD s undef):=fun s=>by
   have:=SVok_upd (β:=β) (F:=F) (a:=⟨tmps,[]⟩) h (d:=t) (x:=.val v) (v:=v) (hp t (by simp)) rfl s
   exact this
  have ih:=putAll_ok ps vs (upd F t (.val v)) (tmps.setIfInBounds t v) (fun s hs=>by simpa using hp s (by simp[hs])) h1
  simp only[List.zip_cons_cons,List.foldl_cons,putAll]
  exact⟨by simpa using ih.1,ih.2⟩
theorem RelB.alloc_mark (h:RelB X β a w F C I M):RelB X β { a with defers:=markOf w.heap.size::a.defers } (w.alloc (.deferred (some []))) F C I M where
 size:=h.size
 defers:=by
  obtain⟨rs,h1,h2,h3⟩:=h.defers
  refine⟨w.heap.size::rs,by simp[h1],?_,?_⟩
  ·rw[List.nodup_cons]
   refine⟨fun hm=>?_,h2⟩
   have:=(Array.getElem?_eq_some_iff.1 (h3 _ hm).at_).1
   omega
  ·intro r hr
   rcases List.mem_cons.1 hr with rfl | hr
   ·exact⟨heapNew w _,h.sz,h.holds.freshI,h.holds.freshM⟩
   ·exact(h3 r hr).alloc _
 holds:=h.holds.alloc _
 fr:=h.fr
 bx s cs hs:=(h.bx s cs hs).alloc _
 inj:=h.inj
 le0:=h.le0
 new0:=h.new0
 own:=h.own
 old:=old_alloc h.old h.sz _
 out:=h.out
 sz:=by have:=h.sz;simp;omega
theorem RelB.dropM {n:Nat} {o o':Obj} (h:RelB X β a w F C I (⟨n,o⟩::M)):RelB X β a (w.putObj n o') F C I M:=by
 have hx0:(⟨n,o⟩:Blk)∈(⟨n,o⟩:Blk)::M:=by simp
 have hnd:=h.holds.nd
 simp only[List.map_cons,List.nodup_cons] at hnd
 exact {
  size:=h.size
  defers:=h.defers.mono fun r hr=>by
   have hne:n≠r:=hr.noM _ hx0
   refine { hr with at_:=?_,noM:=fun x hx=>hr.noM x (by simp[hx]) }
   rw[World.putObj_heap_other (Ne.symm hne)]
   exact hr.at_
  holds:={
   i:=fun b o hbo=>by
    rw[World.putObj_heap_other (fun e=>by have:=h.holds.d _ hx0;simp only at this;rw[e,this] at hbo;cases hbo)]
    exact h.holds.i b o hbo
   m:=fun x hx=>by
    rw[World.putObj_heap_other (fun e=>hnd.1 (List.mem_map.2 ⟨x,hx,e⟩))]
    exact h.holds.m x (by simp[hx])
   d:=fun x hx=>h.holds.d x (by simp[hx])
   nd:=hnd.2 }
  fr:=h.fr
  bx:=fun s cs hs=>by
   have hb:=h.bx s cs hs
   have hne:n≠β s:=hb.noM _ hx0
   obtain⟨T,hT⟩:=hb.at_
   refine { hb with at_:=⟨T,?_⟩,noM:=fun x hx=>hb.noM x (by simp[hx]) }
   rw[World.putObj_heap_other (Ne.symm hne)]
   exact hT
  inj:=h.inj
  le0:=h.le0
  new0:=h.new0
  own:=fun x hx=>h.own x (by simp[hx])
  old:=fun b hb hf=>by
   rw[World.putObj_heap_other (fun e=>by
    rcases h.own _ hx0 with h1 | h1
    ·simp only at h1;exact hf (e ▸ h1)
    ·simp only at h1;omega)]
   exact h.old b hb hf
  out:=h.out.trans (putObj_same _ _ _)
  sz:=by have:=h.sz;simpa using this }
theorem CodeOb.range {K:KX} {f:Operand} {ps:Array Nat} {asg body:Code} {g:Nat} {cap:Array Value} {vals:List (List Value)} (hE:EOK X.P X.E) (hro:X.ro=none)
  (hok:(codeOk X.n asg && (codeOk X.n body && ps.toList.all (fun t=>Nat.blt t X.n)))=true) (hev:ev F f=.val (.func (.func g) #[] cap)) {I1:GH} {M1:List Blk} (hwk:Wk X.foot I M I1 M1)
  (hit:Iter X.P g cap.toList I1 vals) (hlen:∀ vs∈vals,vs.length=ps.size)
  (R:Nat→GH→List Blk→Prop) (Rx:Ex→GH→List Blk→Prop) (start:R 0 I1 M1)
  (round:∀ k (hk:k < vals.length) I' M',(∀ b o,I1 b=some o→I' b=some o)→R k I' M'→∀ l B h0 h0',
   V ⟨X.P,X.E,X.esc,X.n,B,h0,I',M'.map (·.num),some l⟩ asg (putAll ps.toList vals[k] F) (fun _=>none) I' M'
    (exK (fun F C I M=>V ⟨X.P,X.E,X.esc,X.n,B,h0',I',M'.map (·.num),some l⟩ body F C I M (rK (M'.map (·.num)) (R (k+1)) Rx)) (fun _ _ _ _ _=>False)))
  (done:∀ I' M',(∀ b o,I1 b=some o→I' b=some o)→R vals.length I' M'→K .normal F C I' M')
  (stop:∀ ex I' M',(∀ b o,I1 b=some o→I' b=some o)→Rx ex I' M'→ex≠.normal∧K ex F C I' M') :
  CodeOb X (.rangeFunc f ps asg body) F C I M K:=by
 refine⟨fun a w ⟨β,hR0⟩=>?_⟩
 have hR:=hR0.wk hwk
 simp only[Bool.and_eq_true] at hok
 obtain⟨hok1,hok2,hok3⟩:=hok
 refine wpIn_rangeFunc fun fn _=>?_
 let rc (s:LoopState) (pd:Option Code):Loop:={ state:=s,pending:=pd,fn:=fn,tmps:=a.tmps,params:=ps,assign:=asg,body:=body,defers:=w.heap.size }
 let l:=w.heap.size+1
 let w2:World:=(w.alloc (.deferred (some []))).alloc (.loop (rc .ready none))
 have hRm:=hR.alloc_mark.alloc_blk (.loop (rc .ready none))
 have hl:(w.alloc (.deferred (some []))).heap.size=l:=by simp[l]
 rw[hl] at hRm
 let R' (k:Nat) (I':GH) (M':List Blk):Prop:=∃ M2,M'=⟨l,.loop (rc .ready none)⟩::M2∧R k I' M2
 let Rx' (I':GH) (M':List Blk):Prop:=∃ ex c M2,codeOf ex=some c∧M'=⟨l,.loop (rc .done (some c))⟩::M2∧Rx ex I' M2
 have hy:∀ k (hk:k < vals.length) I' M',(∀ b o,I1 b=some o→I' b=some o)→R' k I' M'→SpecY X.P l vals[k] I' M' fun v I'' M''=>(v=.bool true∧R' (k+1) I'' M'')∨(v=.bool false∧Rx' I'' M''):=by
  rintro k hk I' _ hle ⟨M2,rfl,hRk⟩ W hW
  have hrec:W.heap[l]?=some (.loop (rc .ready none)):=hW.m ⟨l,.loop (rc .ready none)⟩ (by simp)
  have hlt:l < W.heap.size:=(Array.getElem?_eq_some_iff.1 hrec).1
  have hnd:=hW.nd
  simp only[List.map_cons,List.nodup_cons] at hnd
  have hIl:I' l=none:=hW.d ⟨l,.loop (rc .ready none)⟩ (by simp)
  refine⟨_,_,_,_,run_yield hrec (by simpa using hlen _ (List.getElem_mem hk)),?_⟩
  have htm:((rc LoopState.ready none).params.zip vals[k].toArray).foldl (fun tmps (x:Nat×Value)=>match x with | (t,a)=>tmps.setIfInBounds t a) (rc LoopState.ready none).tmps=(ps.toList.zip vals[k]).foldl (fun (tmps:Array Value) (p:Nat×Value)=>tmps.setIfInBounds p.1 p.2) a.tmps:=by
   rw[←Array.foldl_toList]
   simp[rc]
  have hpa:=putAll_ok (β:=β) ps.toList vals[k] F a.tmps (fun t ht=>by
   have:=List.all_eq_true.1 hok3 t ht
   rw[hR.size]
   exact Nat.le_of_ble_eq_true this) hR.fr
  rw[←htm] at hpa
  refine roundIn_of_wpIn (F:=Fence.wide) (n:=0) trivial ?_
  let X1:Ctx:=⟨X.P,X.E,X.esc,X.n,W.heap.size,W,I',M2.map (·.num),some l⟩
  let h0':=W.putObj l (.loop (rc .busy none))
  let X2:Ctx:=⟨X.P,X.E,X.esc,X.n,W.heap.size,h0',I',M2.map (·.num),some l⟩
  have hv:=round k hk I' M2 hle hRk l W.heap.size W h0'
  have hrel:RelB X1 β { tmps:=((rc LoopState.ready none).params.zip vals[k].toArray).foldl (fun tmps (x:Nat×Value)=>match x with | (t,a)=>tmps.setIfInBounds t a) (rc LoopState.ready none).tmps,defers:=[] } W (putAll ps.toList vals[k] F) (fun _=>none) I' M2:={
   size:=hpa.1.trans hR.size
   defers:=⟨[],rfl,List.nodup_nil,fun r hr=>by cases hr⟩
   holds:=⟨hW.i,fun x hx=>hW.m x (by simp[hx]),fun x hx=>hW.d x (by simp[hx]),hnd.2⟩
   fr:=hpa.2
   bx:=fun s cs hs=>by cases hs
   inj:=fun s s' h1=>by simp at h1
   le0:=fun b o hb=>hb
   new0:=fun b o hb=>.inl hb
   own:=fun x hx=>.inl (List.mem_map.2 ⟨x,hx,rfl⟩)
   old:=fun b hb hf=>rfl
   out:=.refl _
   sz:=Nat.le_refl _ }
  have hwp:=V_sound (X:=X1) hE asg hok1 ⟨β,hrel⟩ hv
  refine wpIn_mono (Q:=SatX X1 _) hwp ?_
  intro e a1 w1 hs
  cases e with
  | exit id=>obtain⟨_,_,_,_,_,hk⟩:=hs;exact hk.elim
  | goto id=>obtain⟨_,_,_,_,_,hk⟩:=hs;exact hk.elim
  | ret=>obtain⟨_,_,_,_,_,hk⟩:=hs;exact hk.elim
  | panic ch=>exact hs.elim
  | outgrown=>exact hs.elim
  | normal=>
   obtain⟨F1,C1,I2,M3,⟨β1,hr1⟩,hv1⟩:=hs
   have hl1:w1.heap[l]?=some (.loop (rc .ready none)):=by
    rw[hr1.old l hlt hnd.1]
    exact hrec
   refine⟨_,run_beginRound hl1 rfl,?_⟩
   have hIl2:I2 l=none:=by
    cases hI:I2 l with
    | none=>rfl
    | some o=>
     rcases hr1.new0 _ _ hI with h1 | h1
     ·rw[show X1.I0=I' from rfl,hIl] at h1;cases h1
     ·exact absurd h1 (Nat.not_le.2 hlt)
   have hMl2:∀ x∈M3,x.num≠l:=fun x hx e=>by
    rcases hr1.own x hx with h1 | h1
    ·rw[e] at h1;exact hnd.1 h1
    ·rw[e] at h1;exact absurd h1 (Nat.not_le.2 hlt)
   have hr2:RelB X2 β1 a1 (w1.putObj l (.loop (rc .busy none))) F1 C1 I2 M3:={
    size:=hr1.size
    defers:=by
     obtain⟨rs,g1,g2,g3⟩:=hr1.defers
     refine⟨rs,g1,g2,fun r hrr=>?_⟩
     have hr:=g3 r hrr
     refine { at_:=?_,base:=hr.base,noI:=hr.noI,noM:=hr.noM }
     rw[World.putObj_heap_other (fun e=>by have h1:=hr.at_;rw[e,hl1] at h1;cases h1)]
     exact hr.at_
    holds:={
     i:=fun b o hbo=>by
      rw[World.putObj_heap_other (fun e=>by rw[e,hIl2] at hbo;cases hbo)]
      exact hr1.holds.i b o hbo
     m:=fun x hx=>by
      rw[World.putObj_heap_other (hMl2 x hx)]
      exact hr1.holds.m x hx
     d:=hr1.holds.d
     nd:=hr1.holds.nd }
    fr:=hr1.fr
    bx:=fun s cs hs=>by
     have hb:=hr1.bx s cs hs
     obtain⟨T,hT⟩:=hb.at_
     refine { at_:=⟨T,?_⟩,base:=hb.base,noI:=hb.noI,noM:=hb.noM }
     rw[World.putObj_heap_other (fun e=>by rw[e,hl1] at hT;cases hT)]
     exact hT
    inj:=hr1.inj
    le0:=hr1.le0
    new0:=hr1.new0
    own:=hr1.own
    old:=fun b hb hf=>by
     by_cases e:b=l
     ·subst e
      rw[World.putObj_heap_same (Array.getElem?_eq_some_iff.1 hl1).1]
      exact(World.putObj_heap_same hlt).symm
     ·rw[World.putObj_heap_other e]
      show _=(W.putObj l (.loop (rc .busy none))).heap[b]?
      rw[World.putObj_heap_other e]
      exact hr1.old b hb hf
    out:=⟨hr1.out.1,hr1.out.2⟩
    sz:=by have:=hr1.sz;simpa using this }
   have hwp2:=V_sound (X:=X2) hE body hok2 ⟨β1,hr2⟩ hv1
   refine wpIn_mono (Q:=SatX X2 _) hwp2 ?_
   have fin:∀ (a3:Act) (w3:World) (F3:Fr) (C3:Bx) (I3:GH) (M4:List Blk) (jump:Option Code),Rel X2 a3 w3 F3 C3 I3 M4→∃ w4,(Instr.endRound l jump).run X.P w3=.ok (.bool jump.isNone) w4 ∧
     Holds I3 (⟨l,.loop (rc (if jump.isNone then .ready else .done) jump)⟩::M4) w4∧Kept I' (⟨l,.loop (rc .ready none)⟩::M2) W I3 (⟨l,.loop (rc (if jump.isNone then .ready else .done) jump)⟩::M4) w4:=by
    rintro a3 w3 F3 C3 I3 M4 jump ⟨β3,h3⟩
    have hl3:w3.heap[l]?=some (.loop (rc .busy none)):=by
     rw[h3.old l hlt hnd.1]
     exact World.putObj_heap_same hlt
    have hIl3:I3 l=none:=by
     cases hI:I3 l with
     | none=>rfl
     | some o=>
      rcases h3.new0 _ _ hI with h1 | h1
      ·rw[show X2.I0=I' from rfl,hIl] at h1;cases h1
      ·exact absurd h1 (Nat.not_le.2 hlt)
    have hMl3:∀ x∈M4,x.num≠l:=fun x hx e=>by
     rcases h3.own x hx with h1 | h1
     ·rw[e] at h1;exact hnd.1 h1
     ·rw[e] at h1;exact absurd h1 (Nat.not_le.2 hlt)
    refine⟨_,run_endRound jump hl3,?_,?_⟩
    ·exact {
      i:=fun b o hbo=>by
       rw[World.putObj_heap_other (fun e=>by rw[e,hIl3] at hbo;cases hbo)]
       exact h3.holds.i b o hbo
      m:=fun x hx=>by
       rcases List.mem_cons.1 hx with rfl | hx
       ·exact World.putObj_heap_same (Array.getElem?_eq_some_iff.1 hl3).1
       ·rw[World.putObj_heap_other (hMl3 x hx)]
        exact h3.holds.m x hx
      d:=fun x hx=>by
       rcases List.mem_cons.1 hx with rfl | hx
       ·exact hIl3
       ·exact h3.holds.d x hx
      nd:=by
       simp only[List.map_cons,List.nodup_cons]
       refine⟨fun hm=>?_,h3.holds.nd⟩
       obtain⟨x,hx,e⟩:=List.mem_map.1 hm
       exact hMl3 x hx e }
    ·exact {
      le:=h3.le0
      newI:=h3.new0
      newM:=fun x hx=>by
       rcases List.mem_cons.1 hx with rfl | hx
       ·exact .inl ⟨⟨l,.loop (rc .ready none)⟩,by simp,rfl⟩
       ·rcases h3.own x hx with h1 | h1
        ·obtain⟨y,hy,e⟩:=List.mem_map.1 h1
         exact .inl ⟨y,by simp[hy],e⟩
        ·exact .inr h1
      old:=fun b hb hne=>by
       have hbl:b≠l:=fun e=>hne ⟨l,.loop (rc .ready none)⟩ (by simp) e.symm
       rw[World.putObj_heap_other hbl,h3.old b hb (fun hm=>by
        obtain⟨y,hy,e⟩:=List.mem_map.1 hm
        exact hne y (by simp[hy]) e)]
       exact World.putObj_heap_other hbl
      out:=⟨h3.out.1,h3.out.2⟩
      sz:=by have:=h3.sz;simpa using this }
   intro e a3 w3 hs3
   cases e with
   | normal=>
    obtain⟨F3,C3,I3,M4,⟨β3,h3⟩,⟨I4,M5,hw5,hp⟩⟩:=hs3
    obtain⟨w4,h4,h5,h6⟩:=fin a3 w3 F3 C3 I4 M5 none ⟨β3,h3.wk hw5⟩
    exact⟨_,w4,h4,_,_,_,rfl,.inl ⟨rfl,_,rfl,hp⟩,h5,h6⟩
   | exit id=>
    obtain⟨F3,C3,I3,M4,⟨β3,h3⟩,⟨I4,M5,hw5,hp⟩⟩:=hs3
    obtain⟨w4,h4,h5,h6⟩:=fin a3 w3 F3 C3 I4 M5 (some (.exit id)) ⟨β3,h3.wk hw5⟩
    exact⟨_,w4,h4,_,_,_,rfl,.inr ⟨rfl,.exit id,_,_,rfl,rfl,hp⟩,h5,h6⟩
   | goto id=>
    obtain⟨F3,C3,I3,M4,⟨β3,h3⟩,⟨I4,M5,hw5,hp⟩⟩:=hs3
    obtain⟨w4,h4,h5,h6⟩:=fin a3 w3 F3 C3 I4 M5 (some (.goto id)) ⟨β3,h3.wk hw5⟩
    exact⟨_,w4,h4,_,_,_,rfl,.inr ⟨rfl,.goto id,_,_,rfl,rfl,hp⟩,h5,h6⟩
   | ret=>
    obtain⟨F3,C3,I3,M4,⟨β3,h3⟩,⟨I4,M5,hw5,hp⟩⟩:=hs3
    obtain⟨w4,h4,h5,h6⟩:=fin a3 w3 F3 C3 I4 M5 (some .ret) ⟨β3,h3.wk hw5⟩
    exact⟨_,w4,h4,_,_,_,rfl,.inr ⟨rfl,.ret,_,_,rfl,rfl,hp⟩,h5,h6⟩
   | panic ch=>exact hs3.elim
   | outgrown=>exact hs3.elim
 obtain⟨hent,hcalls⟩:=hit l R' Rx' hy I1 (⟨l,.loop (rc .ready none)⟩::M1) (fun _ _ h=>h) ⟨M1,rfl,start⟩
 have hcall:=hcalls w2 hRm.holds
 have e2:=eval_of_ev hR.fr hev
 refine⟨l,[markOf w.heap.size],w2,{ target:=.fn (.func g) cap,args:=#[.func (.yield l) #[] #[]] },w2,g,(.func (.yield l) #[] #[]::cap.toList).toArray,w2,?_,?_,fun _ _=>trivial,?_,(fun h=>by cases h),?_⟩
 ·have hro':(fen X).round=none:=hro
  rw[hro']
  exact run_enterLoop_outer fn a.tmps ps asg body
 ·show (Deferred.ofValue (a.eval f) (#[Operand.const (.func (.yield l) #[] #[])].map a.eval)).run X.P w2=_
  rw[e2]
  simp[Deferred.ofValue,Act.eval]
 ·simp only[invoke]
  rw[show #[Value.func (.yield l) #[] #[]]++cap=(.func (.yield l) #[] #[]::cap.toList).toArray from by apply Array.ext';simp]
  exact hent _ _
 ·refine(calls_fen (X:=X) hcall _).mono ?_
  rintro e w3 ⟨v,I',M',rfl,hp,hH',hK⟩
  have hr3:=hRm.after (Mr:=[]) (by simp) hH' hK
  rw[List.append_nil] at hr3
  have hle:=hK.le
  rcases hp with ⟨M2,rfl,hRn⟩ | ⟨ex,c,M2,hc,rfl,hRe⟩
  ·refine⟨none,_,run_endLoop (hH'.m ⟨l,.loop (rc .ready none)⟩ (by simp)) (by simp[rc]),?_⟩
   exact⟨F,C,I',M2,⟨β,hr3.dropM⟩,done I' M2 hle hRn⟩
  ·refine⟨some c,_,run_endLoop (hH'.m ⟨l,.loop (rc .done (some c))⟩ (by simp)) (by simp[rc]),?_⟩
   obtain⟨hne,hk⟩:=stop ex I' M2 hle hRe
   cases ex with
   | normal=>exact(hne rfl).elim
   | exit id=>cases hc;exact wpIn_exit ⟨F,C,I',M2,⟨β,hr3.dropM⟩,hk⟩
   | goto id=>cases hc;exact wpIn_goto ⟨F,C,I',M2,⟨β,hr3.dropM⟩,hk⟩
   | ret=>cases hc;exact wpIn_ret ⟨F,C,I',M2,⟨β,hr3.dropM⟩,hk⟩
end
structure OS where
 a:Option Nat
 n:Nat
 c:Nat
 cur:List Value
def OS.val (o:OS):Value:=.slice (o.a.map fun g=>⟨g,0,none⟩) o.n o.c
def OS.blk (o:OS) (e:Nat):List Blk:=match o.a with
 | some g=>[⟨g,.cells o.cur.toArray e (0,0)⟩]
 | none=>[]
structure OS.ok (o:OS) (size:Nat) (xs:List Value):Prop where
 len:xs.length=o.n * size
 nil:o.a=none→o.n=0∧o.c=0
 cap:∀ g,o.a=some g→o.cur.length=o.c * size∧o.n≤o.c∧o.c≤maxLen∧o.cur.take (o.n * size)=xs
section
variable {P:Program} {w:World}
theorem run_app (t u ty e:Nat) (i:TypeInfo) (z:Value) (ht:P.underlying t=some (.slice e)) {du:TypeDesc} (hu:P.underlying u=some du) (hdu:∀ k,du≠.int k) (hi:P.info? e=some i) (hz:i.zero=some z) (hzs:z.cells.size=i.size)
  {os:OS} {xs:List Value} (hok:os.ok i.size xs) (hg:∀ g,os.a=some g→w.heap[g]?=some (.cells os.cur.toArray e (0,0)))
  {x:Value} {m:Nat} {news:List Value} (hm:0 < m) (hl:news.length=m * i.size) (h1:∀ v∈news,v.oneCell'=true)
  (hlen:∀ w',(Builtin.lenOf x).run P w'=.ok m w') (hnew:∀ w':World,w'.heap=w.heap→(Builtin.firstCells i.size m x).run P w'=.ok news.toArray w')
  (b1:os.n+m≤maxLen) (b2:(os.n+m) * i.bytes≤140737488355328) :
  ∃ (g c:Nat) (cur:List Value) (w':World),(Builtin.append_ #[t,u] ty #[os.val,x]).run P w=.ok (.slice (some ⟨g,0,none⟩) (os.n+m) c) w'∧cur.length=c * i.size∧os.n+m≤c∧c≤maxLen∧cur.take ((os.n+m) * i.size)=xs++news ∧
   ((os.a=some g∧w'=w.setRow g cur.toArray)∨(g=w.heap.size∧w'=w.drew.alloc (.cells cur.toArray e (0,0)))):=by
 obtain⟨a,n,c,cur⟩:=os
 have hlx:(xs++news).length=(n+m) * i.size:=by rw[List.length_append,hok.len,hl,Nat.add_mul]
 have grownOk:∀ old,(xs++news++(Builtin.zeroCells z.cells (grownCap w (n+m) old e - (n+m))).toList).length=grownCap w (n+m) old e * i.size∧n+m≤grownCap w (n+m) old e∧grownCap w (n+m) old e≤maxLen ∧
   (xs++news++(Builtin.zeroCells z.cells (grownCap w (n+m) old e - (n+m))).toList).take ((n+m) * i.size)=xs++news:=by
  intro old
  have hge:=grownCap_ge w (n+m) old e
  have hcm:grownCap w (n+m) old e≤maxLen:=grownCap_le_maxLen w (n+m) old e b1
  refine⟨?_,hge,hcm,?_⟩
  ·rw[List.length_append,hlx,Array.length_toList,size_zeroCells,hzs,←Nat.add_mul]
   congr 1
   omega
  ·rw[←hlx]
   exact List.take_left
 have hdu':(match du with | .int _=>true | _=>false)=false:=by cases du<;>first | rfl | exact(hdu _ rfl).elim
 have hb1:n+m≤9223372036854775807:=by simp only[maxLen] at b1;exact b1
 cases a with
 | none=>
  obtain⟨hn0,hc0⟩:=hok.nil rfl
  simp only at hn0 hc0
  subst hn0
  subst hc0
  have hx:xs=[]:=List.eq_nil_of_length_eq_zero (by simpa using hok.len)
  subst hx
  simp only[Nat.zero_add,List.nil_append] at *
  have h0:0 < m:=hm
  have hn:m≠0:=by omega
  have h63':¬ (9223372036854775807 < (m:Int)):=by omega
  have h48':¬ (281474976710656 < Builtin.nextslicecap m 0 * i.bytes):=by rw[nextslicecap_zero h0];omega
  have hf:=hnew w.drew rfl
  obtain⟨g1,g2,g3,g4⟩:=grownOk 0
  refine⟨w.heap.size,grownCap w m 0 e,_,w.drew.alloc (.cells (news++(Builtin.zeroCells z.cells (grownCap w m 0 e - m)).toList).toArray e),?_,g1,g2,g3,g4,.inr ⟨rfl,rfl⟩⟩
  simp[OS.val,Builtin.append_,run_underlying ht,run_underlying hu,sizeOf,typeInfo,zeroValue,hi,hz,hlen,hn,h63',h48',Question.forced,run_firstCells_none,hf,newRow,grownCap]
  congr 2
  apply Array.ext'
  simp
 | some g=>
  obtain⟨hcl,hnc,hcm,htk⟩:=hok.cap g rfl
  have hgg:=hg g rfl
  simp only at hcl hnc hcm htk hgg
  by_cases hroom:n+m≤c
  ·have hfit:n * i.size+news.length≤cur.length:=by rw[hl,hcl,←Nat.add_mul];exact Nat.mul_le_mul_right _ hroom
   have hst:=run_storeCells_at P g (n * i.size) e news 0 cur.toArray w hgg (by simpa using hfit) h1
   simp only[Nat.add_zero] at hst
   refine⟨g,c,cur.take (n * i.size)++news++cur.drop (n * i.size+news.length),_,?_,?_,hroom,hcm,?_,.inl ⟨rfl,rfl⟩⟩
   ·have hf:=hnew w rfl
    simp[OS.val,Builtin.append_,run_underlying ht,run_underlying hu,sizeOf,typeInfo,hi,hlen,hroom,hf,Addr.add_lit,hst]
   ·simp only[List.length_append,List.length_take,List.length_drop]
    omega
   ·rw[htk,←hlx]
    exact List.take_left
  ·have hn:¬ (n+m≤c):=by omega
   have h63':¬ (9223372036854775807 < ((n:Int)+(m:Int))):=by omega
   have h48':¬ (281474976710656 < Builtin.nextslicecap (n+m) c * i.bytes):=by have:=growslice_fits (by omega:c < n+m) b2;omega
   have hf:=hnew w.drew rfl
   have hcells:∀ j v,xs[j]?=some v→w.drew.cell? ((⟨g,0,none⟩:Addr).add j)=some v:=by
    intro j v hj
    have hgd:w.drew.heap[g]?=some (.cells cur.toArray e (0,0)):=hgg
    rw[addr_add _ rfl,cell_of_block hgd]
    rw[←htk,List.getElem?_take] at hj
    split at hj
    ·simpa using hj
    ·cases hj
   have hfo:=run_firstCells_some (P:=P) w.drew i.size n ⟨g,0,none⟩ n c xs hok.len hcells
   obtain⟨g1,g2,g3,g4⟩:=grownOk c
   refine⟨w.heap.size,grownCap w (n+m) c e,_,w.drew.alloc (.cells (xs++news++(Builtin.zeroCells z.cells (grownCap w (n+m) c e - (n+m))).toList).toArray e),?_,g1,g2,g3,g4,.inr ⟨rfl,rfl⟩⟩
   simp[OS.val,Builtin.append_,run_underlying ht,run_underlying hu,sizeOf,typeInfo,zeroValue,hi,hz,hlen,hn,h63',h48',Question.forced,hf,hfo,newRow,grownCap]
   congr 2
   apply Array.ext'
   simp
end
section
variable {X:Ctx} {β:Nat→Nat} {a:Act} {w:World} {F:Fr} {C:Bx} {I:GH} {M:List Blk} {o:Oper} {K:KS}
theorem app_core (hE:EOK X.P X.E) {s x:Operand} {t u:Nat} (ho:o.op=.call { callee:=.builtin .append,args:=#[s,x],argTypes:=#[t,u] }) (hd:∀ d,o.dst=some d→d < X.n)
  {e:Nat} {ti tu ei:TI} (ht:X.E t=some ti) (hts:ti.sh=.slice e) (hu:X.E u=some tu) (hus:∀ k,tu.sh≠.int k) (he:X.E e=some ei)
  (os:OS) {xs:List Value} (hok:os.ok ei.size xs) (hs:ev F s=.val os.val)
  {xv:Value} (hx:ev F x=.val xv) {m:Nat} {news:List Value} (hm:0 < m) (hl:news.length=m * ei.size) (h1:allOne news=true)
  (hlen:∀ w',(Builtin.lenOf xv).run X.P w'=.ok m w') (hnew:∀ w,Holds I M w→(Builtin.firstCells ei.size m xv).run X.P w=.ok news.toArray w)
  {Mr:List Blk} (hM:M.Perm (os.blk e++Mr)) (b1:os.n+m≤maxLen) (b2:(os.n+m) * ei.bytes≤140737488355328)
  (k:∀ (g c:Nat) (cur:List Value),I g=none→cur.length=c * ei.size→os.n+m≤c→c≤maxLen→cur.take ((os.n+m) * ei.size)=xs++news →
   K (put o.dst (.val (.slice (some ⟨g,0,none⟩) (os.n+m) c)) F) C I (⟨g,.cells cur.toArray e (0,0)⟩::Mr)):OtherOb X o F C I M K:=by
 refine⟨fun a w Q ⟨β,hR0⟩=>?_⟩
 have hR:RelB X β a w F C I (os.blk e++Mr):=hR0.wk (.perm hM .refl)
 obtain⟨inf,z,hi,hi1,hi2,hi3,hi4⟩:=(hE _ _ he).inf
 obtain⟨d,hud,hdd⟩:=(hE _ _ hu).und
 obtain⟨dt,htd,hdt⟩:=(hE _ _ ht).und
 have hdt':dt=.slice e:=by
  rw[hts] at hdt
  cases dt<;>simp_all[shOf]
 subst hdt'
 have hzs:z.cells.size=inf.size:=by
  rw[hi1,←(hE _ _ he).len,←hi4]
  simp
 rw[←hi1] at hok hl hnew
 obtain⟨g,c,cur,w',hrun,g1,g2,g3,g4,g5⟩:=run_app (P:=X.P) (w:=w) t u o.type e inf z htd hud (fun k e'=>hus k (by rw[←hdd,e'];rfl)) hi hi3 hzs hok
  (fun g hg=>hR.holds.m ⟨g,.cells os.cur.toArray e (0,0)⟩ (by simp[OS.blk,hg])) (x:=xv) hm hl (allOne_spec h1) hlen
  (fun w' hw'=>hnew w' (hR0.holds.heap hw')) b1 (by rw[hi2];exact b2)
 rw[hi1] at g1 g4
 have hgI:I g=none:=by
  rcases g5 with ⟨hg,_⟩ | ⟨rfl,_⟩
  ·exact hR.holds.d ⟨g,.cells os.cur.toArray e (0,0)⟩ (by simp[OS.blk,hg])
  ·cases hI:I w.heap.size with
   | none=>rfl
   | some ob=>
    have:=hR.holds.i _ _ hI
    simp at this
 have es:=eval_of_ev hR.fr hs
 have ex:=eval_of_ev hR.fr hx
 refine wpIn_val (by rw[ho];simp) (v:=.slice (some ⟨g,0,none⟩) (os.n+m) c) (w':=w') ?_ ⟨_,_,_,_,⟨β,RelB.put (x:=.val (.slice (some ⟨g,0,none⟩) (os.n+m) c)) ?_ hd rfl⟩,k g c cur hgI g1 g2 g3 g4⟩
 ·unfold execOp
  simp only[ho,resolve,invoke,builtin,Sem.run_bind,Sem.run_pure,Result.andThen_ok,List.map_toArray,List.map_cons,List.map_nil,es,ex,hrun]
 ·rcases g5 with ⟨hg,rfl⟩ | ⟨rfl,rfl⟩
  ·have hb:os.blk e=[⟨g,.cells os.cur.toArray e (0,0)⟩]:=by simp[OS.blk,hg]
   rw[hb] at hR
   exact hR.store_blk (pre:=[]) (post:=Mr) rfl
  ·have h2:RelB X β a w.drew F C I (os.blk e++Mr):=hR.world rfl
   have h3:=h2.alloc_blk (.cells cur.toArray e (0,0))
   refine h3.wk (.sub ?_ .refl)
   exact List.Sublist.cons_cons _ (List.sublist_append_right _ _)
theorem OtherOb.append (hE:EOK X.P X.E) {s x:Operand} {t:Nat} (ho:o.op=.call { callee:=.builtin .append,args:=#[s,x],argTypes:=#[t,t] }) (hd:∀ d,o.dst=some d→d < X.n)
  {e:Nat} {ti ei:TI} (ht:X.E t=some ti) (hts:ti.sh=.slice e) (he:X.E e=some ei)
  (os:OS) {xs:List Value} (hok:os.ok ei.size xs) (hs:ev F s=.val os.val)
  {ad:Addr} {m c':Nat} (hx:ev F x=.val (.slice (some ad) m c')) {news:List Value} (hm:0 < m) (hn:Rd I M ad (m * ei.size) news) (h1:allOne news=true)
  {Mr:List Blk} (hM:M.Perm (os.blk e++Mr)) (b1:os.n+m≤maxLen) (b2:(os.n+m) * ei.bytes≤140737488355328)
  (k:∀ (g c:Nat) (cur:List Value),cur.length=c * ei.size→os.n+m≤c→c≤maxLen→cur.take ((os.n+m) * ei.size)=xs++news →
   K (put o.dst (.val (.slice (some ⟨g,0,none⟩) (os.n+m) c)) F) C I (⟨g,.cells cur.toArray e (0,0)⟩::Mr)):OtherOb X o F C I M K:=by
 refine app_core hE ho hd ht hts ht (fun k=>by rw[hts];simp) he os hok hs hx hm ?_ h1 (fun _=>rfl) (fun w hw=>?_) hM b1 b2 (fun g c cur _=>k g c cur)
 ·obtain⟨_,_,_,_,_,_,h⟩:=hn
  exact h
 ·obtain⟨hsp,cs,T,fr,hkn,hv,hl⟩:=hn
  refine run_firstCells_some (P:=X.P) w ei.size m ad m c' news hl fun j v hj=>?_
  rw[addr_add _ hsp,cell_of_block (hkn.heap hw)]
  rw[←hv,List.getElem?_take] at hj
  split at hj
  ·rw[List.getElem?_drop] at hj
   simpa using hj
  ·cases hj
theorem OtherOb.appendN (hE:EOK X.P X.E) {s x:Operand} {t:Nat} (ho:o.op=.call { callee:=.builtin .append,args:=#[s,x],argTypes:=#[t,t] }) (hd:∀ d,o.dst=some d→d < X.n)
  {e:Nat} {ti ei:TI} (ht:X.E t=some ti) (hts:ti.sh=.slice e) (he:X.E e=some ei)
  (os:OS) {xs:List Value} (hok:os.ok ei.size xs) (hs:ev F s=.val os.val)
  {ad:Addr} {m c':Nat} (hx:ev F x=.val (.slice (some ad) m c')) {news:List Value} (hm:0 < m) (hn:Rd I M ad (m * ei.size) news) (h1:allOne news=true)
  {Mr:List Blk} (hM:M.Perm (os.blk e++Mr)) (b1:os.n+m≤maxLen) (b2:(os.n+m) * ei.bytes≤140737488355328)
  (k:∀ (g c:Nat) (cur:List Value),I g=none→cur.length=c * ei.size→os.n+m≤c→c≤maxLen→cur.take ((os.n+m) * ei.size)=xs++news →
   K (put o.dst (.val (.slice (some ⟨g,0,none⟩) (os.n+m) c)) F) C I (⟨g,.cells cur.toArray e (0,0)⟩::Mr)):OtherOb X o F C I M K:=by
 refine app_core hE ho hd ht hts ht (fun k=>by rw[hts];simp) he os hok hs hx hm ?_ h1 (fun _=>rfl) (fun w hw=>?_) hM b1 b2 k
 ·obtain⟨_,_,_,_,_,_,h⟩:=hn
  exact h
 ·obtain⟨hsp,cs,T,fr,hkn,hv,hl⟩:=hn
  refine run_firstCells_some (P:=X.P) w ei.size m ad m c' news hl fun j v hj=>?_
  rw[addr_add _ hsp,cell_of_block (hkn.heap hw)]
  rw[←hv,List.getElem?_take] at hj
  split at hj
  ·rw[List.getElem?_drop] at hj
   simpa using hj
  ·cases hj
def byteVals (s:ByteArray):List Value:=s.data.toList.map fun b=>.int .u8 b.toNat
theorem OtherOb.appendS (hE:EOK X.P X.E) {s x:Operand} {t u:Nat} (ho:o.op=.call { callee:=.builtin .append,args:=#[s,x],argTypes:=#[t,u] }) (hd:∀ d,o.dst=some d→d < X.n)
  {e:Nat} {ti tu ei:TI} (ht:X.E t=some ti) (hts:ti.sh=.slice e) (hu:X.E u=some tu) (hus:tu.sh=.string) (he:X.E e=some ei) (hsz:ei.size=1)
  (os:OS) {xs:List Value} (hok:os.ok ei.size xs) (hs:ev F s=.val os.val)
  {str:ByteArray} (hx:ev F x=.val (.string str)) (hm:0 < str.size)
  {Mr:List Blk} (hM:M.Perm (os.blk e++Mr)) (b1:os.n+str.size≤maxLen) (b2:(os.n+str.size) * ei.bytes≤140737488355328)
  (k:∀ (g c:Nat) (cur:List Value),cur.length=c * ei.size→os.n+str.size≤c→c≤maxLen→cur.take ((os.n+str.size) * ei.size)=xs++byteVals str →
   K (put o.dst (.val (.slice (some ⟨g,0,none⟩) (os.n+str.size) c)) F) C I (⟨g,.cells cur.toArray e (0,0)⟩::Mr)):OtherOb X o F C I M K:=by
 refine app_core hE ho hd ht hts hu (fun k=>by rw[hus];simp) he os hok hs hx hm ?_ ?_ (fun _=>rfl) (fun w hw=>?_) hM b1 b2 (fun g c cur _=>k g c cur)
 ·simp[byteVals,hsz]
 ·refine List.all_eq_true.2 fun v hv=>?_
  obtain⟨b,_,rfl⟩:=List.mem_map.1 hv
  rfl
 ·simp only[Builtin.firstCells,Sem.run_pure]
  congr 1
  apply Array.ext'
  have e1:str.extract 0 str.size=str:=by
   apply ByteArray.ext
   simp[ByteArray.data_extract]
  simp[byteVals,e1]
end
section
variable {X:Ctx} {F:Fr} {C:Bx} {I:GH} {M:List Blk} {o:Oper} {K:KS}
theorem eq4_run {P:Program} {t e:Nat} (ht:P.underlying t=some (.array 4 e)) {k:IntKind} (he:P.underlying e=some (.int k)) {inf:TypeInfo} (hi:P.info? e=some inf) (hs:inf.size=1) (a0 a1 a2 a3 b0 b1 b2 b3:Int) (w:World) :
  (Op.equal t (.agg #[.int k a0,.int k a1,.int k a2,.int k a3]) (.agg #[.int k b0,.int k b1,.int k b2,.int k b3])).run P w=.ok (a0 == b0 && (a1 == b1 && (a2 == b2 && a3 == b3))) w:=by
 have hpart:∀ (xs:Array Value) (i:Nat) (v:Value) (w:World),xs[i]?=some v→(part e xs i).run P w=.ok v w:=fun xs i v w h=>by
  have hagg:(isAgg e).run P w=.ok false w:=by
   unfold isAgg
   simp[run_underlying he]
  unfold part
  simp[hagg,sizeOf,typeInfo,hi,hs,h]
 have hint:∀ (d:Nat) (x y:Int) (w:World),(Op.equalIn (d+1) e (.int k x) (.int k y)).run P w=.ok (x == y) w:=fun d x y w=>by
  simp[Op.equalIn,run_underlying he]
 have key:∀ m,(∀ (x y:Int) (w:World),(Op.equalIn m e (.int k x) (.int k y)).run P w=.ok (x == y) w)→(Op.equalIn (m+1) t (.agg #[.int k a0,.int k a1,.int k a2,.int k a3]) (.agg #[.int k b0,.int k b1,.int k b2,.int k b3])).run P w=.ok (a0 == b0 && (a1 == b1 && (a2 == b2 && a3 == b3))) w:=fun m hint=>by
  rw[Op.equalIn]
  simp only[Sem.run_bind,run_underlying ht,Result.andThen_ok,sizeOf,typeInfo,hi,run_program,Sem.run_pure,hs]
  simp only[Std.Legacy.Range.forIn_eq_forIn_range']
  have hr:List.range' 0 ([:4]:Std.Legacy.Range).size=[0,1,2,3]:=by decide
  rw[hr]
  have pa:=fun (i:Nat) (v:Value) (w:World)=>hpart #[.int k a0,.int k a1,.int k a2,.int k a3] i v w
  have pb:=fun (i:Nat) (v:Value) (w:World)=>hpart #[.int k b0,.int k b1,.int k b2,.int k b3] i v w
  simp only[List.forIn_cons,List.forIn_nil,Sem.run_bind]
  rw[pa (0 * 1) (.int k a0) w rfl]
  simp only[Result.andThen_ok,Sem.run_bind]
  rw[pb (0 * 1) (.int k b0) w rfl]
  simp only[Result.andThen_ok,Sem.run_bind]
  rw[hint]
  simp only[Result.andThen_ok]
  cases (a0 == b0)
  ·simp
  simp only[Bool.not_true,Bool.false_eq_true,if_false,Sem.run_pure,Result.andThen_ok,Sem.run_bind]
  rw[pa (1 * 1) (.int k a1) w rfl]
  simp only[Result.andThen_ok,Sem.run_bind]
  rw[pb (1 * 1) (.int k b1) w rfl]
  simp only[Result.andThen_ok,Sem.run_bind]
  rw[hint]
  simp only[Result.andThen_ok]
  cases (a1 == b1)
  ·simp
  simp only[Bool.not_true,Bool.false_eq_true,if_false,Sem.run_pure,Result.andThen_ok,Sem.run_bind]
  rw[pa (2 * 1) (.int k a2) w rfl]
  simp only[Result.andThen_ok,Sem.run_bind]
  rw[pb (2 * 1) (.int k b2) w rfl]
  simp only[Result.andThen_ok,Sem.run_bind]
  rw[hint]
  simp only[Result.andThen_ok]
  cases (a2 == b2)
  ·simp
  simp only[Bool.not_true,Bool.false_eq_true,if_false,Sem.run_pure,Result.andThen_ok,Sem.run_bind]
  rw[pa (3 * 1) (.int k a3) w rfl]
  simp only[Result.andThen_ok,Sem.run_bind]
  rw[pb (3 * 1) (.int k b3) w rfl]
  simp only[Result.andThen_ok,Sem.run_bind]
  rw[hint]
  simp only[Result.andThen_ok]
  cases (a3 == b3)
  ·simp
  simp
 exact key 9999 (hint 9998)
theorem BinOb.eq4 {P:Program} {E:Env} (hE:EOK P E) {t e:Nat} {ti ei:TI} {x y:Operand} (ht:E t=some ti) (hts:ti.sh=.array 4 e) (he:E e=some ei) {k:IntKind} (hes:ei.sh=.int k)
  (hg:P.eqGuardType P.depth t=false) {a0 a1 a2 a3 b0 b1 b2 b3:Int} {V:Value→Prop} {other:Prop}
  (h:V (.bool (a0 == b0 && (a1 == b1 && (a2 == b2 && a3 == b3))))):BinOb P .eql t x y (.val (.agg #[.int k a0,.int k a1,.int k a2,.int k a3])) (.val (.agg #[.int k b0,.int k b1,.int k b2,.int k b3])) V other:=by
 obtain⟨d,hud,hdd⟩:=(hE _ _ ht).und
 obtain⟨de,hue,hde⟩:=(hE _ _ he).und
 obtain⟨inf,z,hi,hi1,_⟩:=(hE _ _ he).inf
 have h1:d=.array 4 e:=by rw[hts] at hdd;cases d<;>simp_all[shOf]
 have h2:de=.int k:=by rw[hes] at hde;cases de<;>simp_all[shOf]
 subst h1
 subst h2
 have hs1:inf.size=1:=by rw[hi1];exact(hE _ _ he).sz1 (by rw[hes];rfl)
 refine .mk _ _ _ rfl rfl (fun w=>?_) h
 simp only[Sem.run_bind,run_eqGuard_agg (hm:=hg),Result.andThen_ok,binOp,eq4_run hud hue hi hs1,Sem.run_pure]
theorem BinOb.concat {P:Program} {t:Nat} {x y:Operand} {a b:ByteArray} (hs:a.size+b.size≤9223372036854775807) {V:Value→Prop} {other:Prop} (h:V (.string (a++b))):BinOb P .add t x y (.val (.string a)) (.val (.string b)) V other:=by
 refine .mk _ _ _ rfl rfl (fun w=>?_) h
 simp only[Sem.run_bind,run_eqGuard_string,Result.andThen_ok,binOp,run_string_add_sum _ _ _ hs,Sem.run_pure]
end
section
variable {X:Ctx} {β:Nat→Nat} {a:Act} {w:World} {F:Fr} {C:Bx} {I:GH} {M:List Blk} {o:Oper} {K:KS}
theorem RelB.lose {n:Nat} {ob:Obj} {w':World} (h:RelB X β a w F C I (⟨n,ob⟩::M)) (hs:w'.heap.size=w.heap.size) (hb:∀ b,b≠n→w'.heap[b]?=w.heap[b]?) (ho:Same w w'):RelB X β a w' F C I M:=by
 have hx0:(⟨n,ob⟩:Blk)∈(⟨n,ob⟩:Blk)::M:=by simp
 have hnd:=h.holds.nd
 simp only[List.map_cons,List.nodup_cons] at hnd
 exact {
  size:=h.size
  defers:=h.defers.mono fun r hr=>by
   have hne:n≠r:=hr.noM _ hx0
   refine { hr with at_:=?_,noM:=fun x hx=>hr.noM x (by simp[hx]) }
   rw[hb r (Ne.symm hne)]
   exact hr.at_
  holds:={
   i:=fun b o hbo=>by
    rw[hb b (fun e=>by have:=h.holds.d _ hx0;simp only at this;rw[e,this] at hbo;cases hbo)]
    exact h.holds.i b o hbo
   m:=fun x hx=>by
    rw[hb _ (fun e=>hnd.1 (List.mem_map.2 ⟨x,hx,e⟩))]
    exact h.holds.m x (by simp[hx])
   d:=fun x hx=>h.holds.d x (by simp[hx])
   nd:=hnd.2 }
  fr:=h.fr
  bx:=fun s cs hcs=>by
   have hbx:=h.bx s cs hcs
   have hne:n≠β s:=hbx.noM _ hx0
   obtain⟨T,hT⟩:=hbx.at_
   refine { hbx with at_:=⟨T,?_⟩,noM:=fun x hx=>hbx.noM x (by simp[hx]) }
   rw[hb _ (Ne.symm hne)]
   exact hT
  inj:=h.inj
  le0:=h.le0
  new0:=h.new0
  own:=fun x hx=>h.own x (by simp[hx])
  old:=fun b hlt hf=>by
   rw[hb b (fun e=>by
    rcases h.own _ hx0 with h1 | h1
    ·simp only at h1;exact hf (e ▸ h1)
    ·simp only at h1;omega)]
   exact h.old b hlt hf
  out:=h.out.trans ho
  sz:=by rw[hs];exact h.sz }
theorem freeze_size (w:World) (p:Addr) (n:Nat):(w.freeze p n).heap.size=w.heap.size:=by
 unfold World.freeze
 split<;>simp
theorem freeze_same (w:World) (p:Addr) (n:Nat):Same w (w.freeze p n):=by
 unfold World.freeze
 split<;>exact⟨rfl,rfl⟩
theorem freeze_other (w:World) (p:Addr) (n b:Nat) (h:b≠p.block):(w.freeze p n).heap[b]?=w.heap[b]?:=by
 unfold World.freeze
 split
 ·rfl
 ·simp only[Array.getElem?_modify]
  rw[if_neg (Ne.symm h)]
theorem OtherOb.ustring (hE:EOK X.P X.E) {p n:Operand} {pt it e:Nat} (ho:o.op=.call { callee:=.builtin .unsafeString,args:=#[p,n],argTypes:=#[pt,it] }) (hd:∀ d,o.dst=some d→d < X.n)
  {ti ei:TI} (ht:X.E pt=some ti) (hts:ti.sh=.pointer e) (he:X.E e=some ei) (hes:ei.size=1)
  {g:Nat} {cs:Array Value} {l:List UInt8} (hp:ev F p=.val (.pointer (some ⟨g,0,none⟩))) (hn:ev F n=.val (.int .i64 l.length)) (h0:l≠[]) (h63:l.length≤9223372036854775807)
  {Mr:List Blk} (hM:M.Perm (⟨g,.cells cs e (0,0)⟩::Mr)) (hcs:cs.toList.take l.length=l.map fun b=>.int .u8 b.toNat)
  (h:K (put o.dst (.val (.string ⟨l.toArray⟩)) F) C I Mr):OtherOb X o F C I M K:=by
 refine⟨fun a w Q ⟨β,hR0⟩=>?_⟩
 have hR:RelB X β a w F C I (⟨g,.cells cs e (0,0)⟩::Mr):=hR0.wk (.perm hM .refl)
 have hg:w.heap[g]?=some (.cells cs e (0,0)):=hR.holds.m ⟨g,.cells cs e (0,0)⟩ (by simp)
 obtain⟨d,hud,hdd⟩:=(hE _ _ ht).und
 have h1:d=.pointer e:=by rw[hts] at hdd;cases d<;>simp_all[shOf]
 subst h1
 obtain⟨inf,z,hi,hi1,_⟩:=(hE _ _ he).inf
 have hc:X.P.cellsOf e=1:=by simp[Program.cellsOf,hi,hi1,hes]
 have hlen:l.length≤cs.size:=by
  have:=congrArg List.length hcs
  simp only[List.length_take,List.length_map,Array.length_toList] at this
  omega
 have hrun:=Lib.run_unsafeString_row (P:=X.P) w pt it o.type e hud hc g cs.size (by simp[World.shape?,hg]) l h0 hlen h63 (fun j x hj=>by
  rw[addr_add _ rfl,cell_of_block hg]
  have h2:(cs.toList.take l.length)[j]?=some (.int .u8 x.toNat):=by rw[hcs];simp[hj]
  rw[List.getElem?_take] at h2
  split at h2
  ·simpa using h2
  ·cases h2)
 have ep:=eval_of_ev hR.fr hp
 have en:=eval_of_ev hR.fr hn
 refine wpIn_val (by rw[ho];simp) (v:=.string ⟨l.toArray⟩) (w':=w.freeze ⟨g,0,none⟩ l.length) ?_ ⟨_,_,_,_,⟨β,RelB.put (x:=.val (.string ⟨l.toArray⟩)) (hR.lose (freeze_size _ _ _) (fun b hb=>freeze_other _ _ _ _ hb) (freeze_same _ _ _)) hd rfl⟩,h⟩
 unfold execOp
 simp only[ho,resolve,invoke,builtin,Sem.run_bind,Sem.run_pure,Result.andThen_ok,List.map_toArray,List.map_cons,List.map_nil,ep,en,hrun]
theorem OtherOb.ustring0 {p n:Operand} {pt it:Nat} (ho:o.op=.call { callee:=.builtin .unsafeString,args:=#[p,n],argTypes:=#[pt,it] }) (hd:∀ d,o.dst=some d→d < X.n)
  {q:Option Addr} (hp:ev F p=.val (.pointer q)) (hn:ev F n=.val (.int .i64 0)) (h:K (put o.dst (.val (.string .empty)) F) C I M):OtherOb X o F C I M K:=by
 refine⟨fun a w Q ⟨β,hR⟩=>?_⟩
 have ep:=eval_of_ev hR.fr hp
 have en:=eval_of_ev hR.fr hn
 refine done_vv hR hd (by rw[ho];simp) ?_ h
 unfold execOp
 simp only[ho,resolve,invoke,builtin,Sem.run_bind,Sem.run_pure,Result.andThen_ok,List.map_toArray,List.map_cons,List.map_nil,ep,en,Lib.run_unsafeString_none]
theorem OtherOb.copyS (hE:EOK X.P X.E) {x y:Operand} {t u e:Nat} (ho:o.op=.call { callee:=.builtin .copy,args:=#[x,y],argTypes:=#[t,u] }) (hd:∀ d,o.dst=some d→d < X.n)
  {ti ei:TI} (ht:X.E t=some ti) (hts:ti.sh=.slice e) (he:X.E e=some ei) (hes:ei.size=1)
  {g off dl dc:Nat} {s:ByteArray} {cs:Array Value} {T:Nat} (hx:ev F x=.val (.slice (some ⟨g,off,none⟩) dl dc)) (hy:ev F y=.val (.string s)) (hle:s.size≤dl) (hfit:off+s.size≤cs.size)
  {Mr:List Blk} (hM:M.Perm (⟨g,.cells cs T (0,0)⟩::Mr))
  (h:K (put o.dst (.val (.int .i64 s.size)) F) C I (⟨g,.cells (splice cs.toList off (byteVals s)).toArray T (0,0)⟩::Mr)):OtherOb X o F C I M K:=by
 refine⟨fun a w Q ⟨β,hR0⟩=>?_⟩
 have hR:RelB X β a w F C I (⟨g,.cells cs T (0,0)⟩::Mr):=hR0.wk (.perm hM .refl)
 have hg:w.heap[g]?=some (.cells cs T (0,0)):=hR.holds.m ⟨g,.cells cs T (0,0)⟩ (by simp)
 obtain⟨d,hud,hdd⟩:=(hE _ _ ht).und
 have h1:d=.slice e:=by rw[hts] at hdd;cases d<;>simp_all[shOf]
 subst h1
 obtain⟨inf,z,hi,hi1,_⟩:=(hE _ _ he).inf
 have hl:(byteVals s).length=s.size:=by simp[byteVals]
 have h1:∀ v∈byteVals s,v.oneCell'=true:=fun v hv=>by
  obtain⟨b,_,rfl⟩:=List.mem_map.1 hv
  rfl
 have hst:=run_storeCells_at X.P g off T (byteVals s) 0 cs w hg (by rw[hl];simpa using hfit) h1
 simp only[Nat.add_zero] at hst
 have hmin:Nat.min s.size dl=s.size:=Nat.min_eq_left hle
 have hf:(Builtin.firstCells inf.size s.size (.string s)).run X.P w=.ok (byteVals s).toArray w:=Lib.run_firstCells_string w inf.size s
 have ex:=eval_of_ev hR.fr hx
 have ey:=eval_of_ev hR.fr hy
 have hR2:=hR.store_blk (pre:=[]) (post:=Mr) (cs':=(splice cs.toList off (byteVals s)).toArray) rfl
 refine wpIn_val (by rw[ho];simp) (v:=.int .i64 s.size) (w':=w.setRow g (splice cs.toList off (byteVals s)).toArray) ?_ ⟨_,_,_,_,⟨β,RelB.put (x:=.val (.int .i64 s.size)) hR2 hd rfl⟩,h⟩
 have hrun:(Builtin.copy_ #[t,u] o.type #[.slice (some ⟨g,off,none⟩) dl dc,.string s]).run X.P w=.ok (.int .i64 s.size) (w.setRow g (splice cs.toList off (byteVals s)).toArray):=by
  simp[Builtin.copy_,run_underlying hud,Builtin.lenOf,hmin,sizeOf,typeInfo,hi,hf,hst,splice,goInt]
 unfold execOp
 simp only[ho,resolve,invoke,builtin,Sem.run_bind,Sem.run_pure,Result.andThen_ok,List.map_toArray,List.map_cons,List.map_nil,ex,ey,hrun]
end
structure RS (I:GH) (a:Option Addr) (n c size b:Nat) (vs:List Value):Prop where
 len:vs.length=n * size
 cap:n≤c∧n * b≤140737488355328
 rd:n=0∨∃ ad,a=some ad∧ad.spot=none∧∃ cs T fr,I ad.block=some (.cells cs T fr)∧(cs.toList.drop ad.off).take (n * size)=vs
theorem RS.mono {I I':GH} {a:Option Addr} {n c size b:Nat} {vs:List Value} (h:RS I a n c size b vs) (hI:∀ b o,I b=some o→I' b=some o):RS I' a n c size b vs:=
 ⟨h.len,h.cap,h.rd.imp id fun ⟨ad,h1,h2,cs,T,fr,h3,h4⟩=>⟨ad,h1,h2,cs,T,fr,hI _ _ h3,h4⟩⟩
theorem RS.idx {I:GH} {a:Option Addr} {n c size b:Nat} {vs:List Value} (h:RS I a n c size b vs) {j:Nat} (hj:j < n) :
  ∃ ad,a=some ad∧∀ M,Rd I M (ad.add (j * size)) size ((vs.drop (j * size)).take size):=by
 obtain⟨hl,_,h0 | ⟨ad,ha,hs,cs,T,fr,hI,hv⟩⟩:=h
 ·omega
 ·refine⟨ad,ha,fun M=>?_⟩
  have hle:j * size+size≤n * size:=by
   have:=Nat.mul_le_mul_right size (show j+1≤n from hj)
   rw[Nat.add_mul,Nat.one_mul] at this
   exact this
  refine⟨by rw[addr_add _ hs],cs,T,fr,.inl (by rw[addr_add _ hs];exact hI),?_,?_⟩
  ·rw[addr_add _ hs,←hv,List.drop_take,List.drop_drop,List.take_take]
   congr 1
   omega
  ·rw[List.length_take,List.length_drop,hl]
   omega
theorem RS.one {I:GH} {a:Option Addr} {n c b:Nat} {α:Type} {f:α→Value} {l:List α} (h:RS I a n c 1 b (l.map f)) {j:Nat} (hj:j < n) (hj':j < l.length) :
  ∃ ad,a=some ad∧∀ M,Rd I M (ad.add (j * 1)) 1 [f l[j]]:=by
 obtain⟨ad,h1,h2⟩:=h.idx hj
 refine⟨ad,h1,fun M=>?_⟩
 have:=h2 M
 rw[Nat.mul_one,←List.map_drop,←List.map_take,List.drop_eq_getElem_cons hj',List.take_succ_cons,List.take_zero] at this
 rw[Nat.mul_one]
 exact this
theorem flat_at {α:Type} (f:α→List Value) (size:Nat) (hf:∀ x,(f x).length=size):∀ (l:List α) (j:Nat) (hj:j < l.length),((l.flatMap f).drop (j * size)).take size=f l[j]
 | x::l,0,_=>by
  simp only[List.flatMap_cons,Nat.zero_mul,List.drop_zero,List.getElem_cons_zero]
  rw[←hf x]
  exact List.take_left
 | x::l,j+1,hj=>by
  have ih:=flat_at f size hf l j (by simpa using hj)
  simp only[List.flatMap_cons,List.getElem_cons_succ]
  rw[←ih,show (j+1) * size=(f x).length+j * size from by rw[hf,Nat.add_mul];omega,List.drop_length_add_append]
theorem flat_len {α:Type} (f:α→List Value) (size:Nat) (hf:∀ x,(f x).length=size):∀ (l:List α),(l.flatMap f).length=l.length * size
 | []=>by simp
 | x::l=>by simp[flat_len f size hf l,hf x,Nat.add_mul];omega
theorem RS.row {I:GH} {a:Option Addr} {n c size b:Nat} {α:Type} {f:α→List Value} (hf:∀ x,(f x).length=size) {l:List α} (h:RS I a n c size b (l.flatMap f)) {j:Nat} (hj:j < n) (hj':j < l.length) :
  ∃ ad,a=some ad∧∀ M,Rd I M (ad.add (j * size)) size (f l[j]):=by
 obtain⟨ad,h1,h2⟩:=h.idx hj
 refine⟨ad,h1,fun M=>?_⟩
 have:=h2 M
 rwa [flat_at f size hf l j hj'] at this
theorem Rd.part {I:GH} {M:List Blk} {a:Addr} {n k m:Nat} {vs:List Value} (h:Rd I M a n vs) (hk:k+m≤n):Rd I M (a.add k) m ((vs.drop k).take m):=by
 obtain⟨hs,cs,T,fr,h1,h2,h3⟩:=h
 refine⟨by rw[addr_add _ hs],cs,T,fr,by rw[addr_add _ hs];exact h1,?_,?_⟩
 ·rw[addr_add _ hs,←h2,List.drop_take,List.drop_drop,List.take_take]
  congr 1
  omega
 ·rw[List.length_take,List.length_drop,h3]
  omega
structure Nd where
 k:Int
 s0:Int
 s1:Int
 s2:Int
 s3:Int
 t:ByteArray
 lo:Int
 hi:Int
 ka:Option Addr
 kn:Nat
 kc:Nat
 kids:List Int
def Nd.cells (d:Nd):List Value:=[.int .u8 d.k,.int .u64 d.s0,.int .u64 d.s1,.int .u64 d.s2,.int .u64 d.s3,.string d.t,.int .i64 d.lo,.int .i64 d.hi,.slice d.ka d.kn d.kc]
def Nd.val (d:Nd):Value:=.agg #[.int .u8 d.k,.int .u64 d.s0,.int .u64 d.s1,.int .u64 d.s2,.int .u64 d.s3,.string d.t,.int .i64 d.lo,.int .i64 d.hi,.slice d.ka d.kn d.kc]
def i64ok (x:Int):Prop:=-9223372036854775808≤x∧x≤9223372036854775807
def u64ok (x:Int):Prop:=0≤x∧x < 18446744073709551616
structure Nd.ok (I:GH) (d:Nd):Prop where
 k:0≤d.k∧d.k < 256
 s0:u64ok d.s0
 s1:u64ok d.s1
 s2:u64ok d.s2
 s3:u64ok d.s3
 t:d.t.size≤9223372036854775807
 lo:i64ok d.lo
 hi:i64ok d.hi
 rs:RS I d.ka d.kn d.kc 1 8 (d.kids.map (.int .i64 ·))
 kids:∀ x∈d.kids,i64ok x
theorem Nd.cells_len (d:Nd):d.cells.length=9:=rfl
theorem Nd.ok.kn {I:GH} {d:Nd} (h:d.ok I):d.kids.length=d.kn:=by
 have:=h.rs.len
 simpa using this
structure Tr where
 ns:List Nd
 a:Option Addr
 n:Nat
 c:Nat
 root:Int
def Tr.cells (t:Tr):List Value:=[.slice t.a t.n t.c,.int .i64 t.root]
def Tr.val (t:Tr):Value:=.agg #[.slice t.a t.n t.c,.int .i64 t.root]
structure Tr.ok (I:GH) (t:Tr):Prop where
 rs:RS I t.a t.n t.c 9 96 (t.ns.flatMap Nd.cells)
 ns:∀ d∈t.ns,d.ok I
 root:i64ok t.root
theorem Tr.ok.n {I:GH} {t:Tr} (h:t.ok I):t.ns.length=t.n:=by
 have:=h.rs.len
 rw[flat_len _ 9 Nd.cells_len] at this
 omega
structure Df where
 name:ByteArray
 t:Tr
def Df.cells (d:Df):List Value:=[.string d.name,.slice d.t.a d.t.n d.t.c,.int .i64 d.t.root]
structure Df.ok (I:GH) (d:Df):Prop where
 name:d.name.size≤140737488355328
 t:d.t.ok I
theorem Df.cells_len (d:Df):d.cells.length=3:=rfl
structure Gr where
 ds:List Df
 a:Option Addr
 n:Nat
 c:Nat
def Gr.val (g:Gr):Value:=.agg #[.slice g.a g.n g.c]
structure Gr.ok (I:GH) (g:Gr):Prop where
 rs:RS I g.a g.n g.c 3 48 (g.ds.flatMap Df.cells)
 ds:∀ d∈g.ds,d.ok I
theorem Gr.ok.n {I:GH} {g:Gr} (h:g.ok I):g.ds.length=g.n:=by
 have:=h.rs.len
 rw[flat_len _ 3 Df.cells_len] at this
 omega
theorem Nd.ok.mono {I I':GH} {d:Nd} (h:d.ok I) (hI:∀ b o,I b=some o→I' b=some o):d.ok I':={ h with rs:=h.rs.mono hI }
theorem Tr.ok.mono {I I':GH} {t:Tr} (h:t.ok I) (hI:∀ b o,I b=some o→I' b=some o):t.ok I':=⟨h.rs.mono hI,fun d hd=>(h.ns d hd).mono hI,h.root⟩
theorem Df.ok.mono {I I':GH} {d:Df} (h:d.ok I) (hI:∀ b o,I b=some o→I' b=some o):d.ok I':=⟨h.name,h.t.mono hI⟩
theorem Gr.ok.mono {I I':GH} {g:Gr} (h:g.ok I) (hI:∀ b o,I b=some o→I' b=some o):g.ok I':=⟨h.rs.mono hI,fun d hd=>(h.ds d hd).mono hI⟩
theorem wrap_i64 {x:Int} (h:i64ok x):IntKind.i64.wrap x=x:=by
 obtain⟨h1,h2⟩:=h
 unfold IntKind.wrap
 simp only[IntKind.bits,IntKind.signed]
 simp
 omega
open Go Go.Proofs
def TryzE:Env:=fun t=>bif Nat.blt t 228 then (bif Nat.blt t 114 then (bif Nat.blt t 57 then (bif Nat.blt t 28 then (bif Nat.blt t 14 then (bif Nat.blt t 7 then (bif Nat.blt t 3 then (bif Nat.blt t 1 then none else (bif Nat.blt t 2 then some ⟨1,8,[.nilFunc],.other⟩ else some ⟨1,8,[.int .i64 0],.int .i64⟩)) else (bif Nat.blt t 5 then (bif Nat.blt t 4 then some ⟨1,8,[.int .i64 0],.int .i64⟩ else some ⟨1,1,[.bool false],.bool⟩) else (bif Nat.blt t 6 then some ⟨1,1,[.int .u8 0],.int .u8⟩ else some ⟨1,1,[.int .u8 0],.int .u8⟩))) else (bif Nat.blt t 10 then (bif Nat.blt t 8 then some ⟨4,24,[.int .i64 0,.int .i64 0,.bool false,.int .u8 0],.struct [(2,0),(3,1),(4,2),(6,3)]⟩ else (bif Nat.blt t 9 then some ⟨4,24,[.int .i64 0,.int .i64 0,.bool false,.int .u8 0],.struct [(2,0),(3,1),(4,2),(6,3)]⟩ else some ⟨1,16,[.string ⟨#[]⟩],.string⟩)) else (bif Nat.blt t 12 then (bif Nat.blt t 11 then some ⟨1,16,[.string ⟨#[]⟩],.string⟩ else some ⟨1,16,[.string ⟨#[]⟩],.string⟩) else (bif Nat.blt t 13 then some ⟨1,8,[.int .u64 0],.int .u64⟩ else some ⟨2,24,[.string ⟨#[]⟩,.int .u64 0],.struct [(9,0),(12,1)]⟩)))) else (bif Nat.blt t 21 then (bif Nat.blt t 17 then (bif Nat.blt t 15 then some ⟨2,24,[.string ⟨#[]⟩,.int .u64 0],.struct [(9,0),(12,1)]⟩ else (bif Nat.blt t 16 then some ⟨1,8,[.pointer none],.pointer 216⟩ else some ⟨1,8,[.pointer none],.pointer 219⟩)) else (bif Nat.blt t 19 then (bif Nat.blt t 18 then some ⟨1,8,[.pointer none],.pointer 227⟩ else some ⟨1,8,[.pointer none],.struct [(17,0)]⟩) else (bif Nat.blt t 20 then some ⟨1,8,[.pointer none],.struct [(17,0)]⟩ else some ⟨1,16,[.nilIface],.other⟩))) else (bif Nat.blt t 24 then (bif Nat.blt t 22 then some ⟨1,4,[.int .i32 0],.int .i32⟩ else (bif Nat.blt t 23 then some ⟨1,24,[.slice none 0 0],.slice 46⟩ else some ⟨1,24,[.slice none 0 0],.struct [(22,0)]⟩)) else (bif Nat.blt t 26 then (bif Nat.blt t 25 then some ⟨1,24,[.slice none 0 0],.struct [(22,0)]⟩ else some ⟨1,8,[.nilFunc],.other⟩) else (bif Nat.blt t 27 then some ⟨1,8,[.nilFunc],.other⟩ else some ⟨1,8,[.nilFunc],.other⟩))))) else (bif Nat.blt t 42 then (bif Nat.blt t 35 then (bif Nat.blt t 31 then (bif Nat.blt t 29 then some ⟨1,24,[.slice none 0 0],.slice 36⟩ else (bif Nat.blt t 30 then some ⟨3,40,[.bool false,.int .i64 0,.slice none 0 0],.struct [(4,0),(3,1),(28,2)]⟩ else some ⟨3,40,[.bool false,.int .i64 0,.slice none 0 0],.struct [(4,0),(3,1),(28,2)]⟩)) else (bif Nat.blt t 33 then (bif Nat.blt t 32 then some ⟨1,8,[.int .i64 0],.int .i64⟩ else none) else (bif Nat.blt t 34 then some ⟨1,8,[.nilFunc],.other⟩ else some ⟨1,8,[.nilFunc],.other⟩))) else (bif Nat.blt t 38 then (bif Nat.blt t 36 then some ⟨3,32,[.string ⟨#[]⟩,.int .i64 0,.int .i64 0],.struct [(9,0),(3,1),(3,2)]⟩ else (bif Nat.blt t 37 then some ⟨3,32,[.string ⟨#[]⟩,.int .i64 0,.int .i64 0],.struct [(9,0),(3,1),(3,2)]⟩ else some ⟨1,8,[.nilFunc],.other⟩)) else (bif Nat.blt t 40 then (bif Nat.blt t 39 then some ⟨1,8,[.nilFunc],.other⟩ else some ⟨1,8,[.nilFunc],.other⟩) else (bif Nat.blt t 41 then some ⟨1,8,[.int .u64 0],.int .u64⟩ else some ⟨1,8,[.nilFunc],.other⟩)))) else (bif Nat.blt t 49 then (bif Nat.blt t 45 then (bif Nat.blt t 43 then some ⟨1,24,[.slice none 0 0],.slice 52⟩ else (bif Nat.blt t 44 then some ⟨2,32,[.slice none 0 0,.int .i64 0],.struct [(42,0),(3,1)]⟩ else some ⟨2,32,[.slice none 0 0,.int .i64 0],.struct [(42,0),(3,1)]⟩)) else (bif Nat.blt t 47 then (bif Nat.blt t 46 then some ⟨3,48,[.string ⟨#[]⟩,.slice none 0 0,.int .i64 0],.struct [(9,0),(44,1)]⟩ else some ⟨3,48,[.string ⟨#[]⟩,.slice none 0 0,.int .i64 0],.struct [(9,0),(44,1)]⟩) else (bif Nat.blt t 48 then some ⟨1,8,[.int .u64 0],.int .u64⟩ else some ⟨4,32,[.int .u64 0,.int .u64 0,.int .u64 0,.int .u64 0],.array 4 47⟩))) else (bif Nat.blt t 53 then (bif Nat.blt t 51 then (bif Nat.blt t 50 then some ⟨4,32,[.int .u64 0,.int .u64 0,.int .u64 0,.int .u64 0],.array 4 47⟩ else some ⟨1,24,[.slice none 0 0],.slice 3⟩) else (bif Nat.blt t 52 then some ⟨9,96,[.int .u8 0,.int .u64 0,.int .u64 0,.int .u64 0,.int .u64 0,.string ⟨#[]⟩,.int .i64 0,.int .i64 0,.slice none 0 0],.struct [(5,0),(49,1),(9,5),(3,6),(3,7),(50,8)]⟩ else some ⟨9,96,[.int .u8 0,.int .u64 0,.int .u64 0,.int .u64 0,.int .u64 0,.string ⟨#[]⟩,.int .i64 0,.int .i64 0,.slice none 0 0],.struct [(5,0),(49,1),(9,5),(3,6),(3,7),(50,8)]⟩)) else (bif Nat.blt t 55 then (bif Nat.blt t 54 then some ⟨1,8,[.nilFunc],.other⟩ else some ⟨1,8,[.nilFunc],.other⟩) else (bif Nat.blt t 56 then some ⟨1,8,[.nilFunc],.other⟩ else some ⟨1,8,[.nilFunc],.other⟩)))))) else (bif Nat.blt t 85 then (bif Nat.blt t 71 then (bif Nat.blt t 64 then (bif Nat.blt t 60 then (bif Nat.blt t 58 then some ⟨1,8,[.nilFunc],.other⟩ else (bif Nat.blt t 59 then some ⟨1,8,[.nilFunc],.other⟩ else some ⟨7,96,[.slice none 0 0,.int .i64 0,.string ⟨#[]⟩,.bool false,.int .i64 0,.slice none 0 0,.int .i64 0],.struct [(44,0),(9,2),(30,3),(3,6)]⟩)) else (bif Nat.blt t 62 then (bif Nat.blt t 61 then some ⟨1,8,[.nilFunc],.other⟩ else some ⟨1,24,[.slice none 0 0],.slice 59⟩) else (bif Nat.blt t 63 then some ⟨1,8,[.nilFunc],.other⟩ else some ⟨1,8,[.nilFunc],.other⟩))) else (bif Nat.blt t 67 then (bif Nat.blt t 65 then some ⟨1,8,[.nilFunc],.other⟩ else (bif Nat.blt t 66 then none else some ⟨1,8,[.nilFunc],.other⟩)) else (bif Nat.blt t 69 then (bif Nat.blt t 68 then some ⟨1,8,[.nilFunc],.other⟩ else some ⟨1,8,[.nilFunc],.other⟩) else (bif Nat.blt t 70 then some ⟨1,24,[.slice none 0 0],.slice 44⟩ else some ⟨1,8,[.nilFunc],.other⟩)))) else (bif Nat.blt t 78 then (bif Nat.blt t 74 then (bif Nat.blt t 72 then some ⟨1,8,[.pointer none],.pointer 75⟩ else (bif Nat.blt t 73 then some ⟨1,8,[.map none],.map 77 30⟩ else some ⟨1,8,[.map none],.map 77 3⟩)) else (bif Nat.blt t 76 then (bif Nat.blt t 75 then some ⟨7,80,[.slice none 0 0,.string ⟨#[]⟩,.map none,.map none,.int .i64 0,.int .i64 0,.int .i64 0],.struct [(24,0),(9,1),(72,2),(73,3),(3,4),(3,5),(31,6)]⟩ else some ⟨7,80,[.slice none 0 0,.string ⟨#[]⟩,.map none,.map none,.int .i64 0,.int .i64 0,.int .i64 0],.struct [(24,0),(9,1),(72,2),(73,3),(3,4),(3,5),(31,6)]⟩) else (bif Nat.blt t 77 then some ⟨3,24,[.int .i64 0,.int .i64 0,.int .i64 0],.struct [(3,0),(3,1),(3,2)]⟩ else some ⟨3,24,[.int .i64 0,.int .i64 0,.int .i64 0],.struct [(3,0),(3,1),(3,2)]⟩))) else (bif Nat.blt t 81 then (bif Nat.blt t 79 then some ⟨1,8,[.nilFunc],.other⟩ else (bif Nat.blt t 80 then some ⟨1,8,[.nilFunc],.other⟩ else some ⟨1,8,[.nilFunc],.other⟩)) else (bif Nat.blt t 83 then (bif Nat.blt t 82 then some ⟨1,8,[.nilFunc],.other⟩ else some ⟨1,8,[.pointer none],.pointer 94⟩) else (bif Nat.blt t 84 then none else some ⟨1,8,[.nilFunc],.other⟩))))) else (bif Nat.blt t 99 then (bif Nat.blt t 92 then (bif Nat.blt t 88 then (bif Nat.blt t 86 then some ⟨1,2,[.int .i16 0],.int .i16⟩ else (bif Nat.blt t 87 then some ⟨3,8,[.int .i32 0,.int .i16 0,.int .u8 0],.struct [(21,0),(85,1),(5,2)]⟩ else some ⟨3,8,[.int .i32 0,.int .i16 0,.int .u8 0],.struct [(21,0),(85,1),(5,2)]⟩)) else (bif Nat.blt t 90 then (bif Nat.blt t 89 then none else some ⟨1,8,[.nilFunc],.other⟩) else (bif Nat.blt t 91 then some ⟨1,24,[.slice none 0 0],.slice 117⟩ else some ⟨1,24,[.slice none 0 0],.slice 147⟩))) else (bif Nat.blt t 95 then (bif Nat.blt t 93 then some ⟨1,24,[.slice none 0 0],.slice 126⟩ else (bif Nat.blt t 94 then some ⟨7,112,[.string ⟨#[]⟩,.int .i64 0,.int .i64 0,.int .i64 0,.slice none 0 0,.slice none 0 0,.slice none 0 0],.struct [(9,0),(3,1),(3,2),(3,3),(90,4),(91,5),(92,6)]⟩ else some ⟨7,112,[.string ⟨#[]⟩,.int .i64 0,.int .i64 0,.int .i64 0,.slice none 0 0,.slice none 0 0,.slice none 0 0],.struct [(9,0),(3,1),(3,2),(3,3),(90,4),(91,5),(92,6)]⟩)) else (bif Nat.blt t 97 then (bif Nat.blt t 96 then some ⟨1,8,[.nilFunc],.other⟩ else some ⟨1,8,[.nilFunc],.other⟩) else (bif Nat.blt t 98 then some ⟨1,8,[.nilFunc],.other⟩ else none)))) else (bif Nat.blt t 106 then (bif Nat.blt t 102 then (bif Nat.blt t 100 then some ⟨1,8,[.nilFunc],.other⟩ else (bif Nat.blt t 101 then some ⟨1,8,[.nilFunc],.other⟩ else some ⟨1,8,[.pointer none],.pointer 36⟩)) else (bif Nat.blt t 104 then (bif Nat.blt t 103 then some ⟨1,8,[.nilFunc],.other⟩ else some ⟨1,8,[.nilFunc],.other⟩) else (bif Nat.blt t 105 then some ⟨1,8,[.nilFunc],.other⟩ else some ⟨1,8,[.nilFunc],.other⟩))) else (bif Nat.blt t 110 then (bif Nat.blt t 108 then (bif Nat.blt t 107 then some ⟨1,8,[.nilFunc],.other⟩ else some ⟨1,8,[.nilFunc],.other⟩) else (bif Nat.blt t 109 then none else some ⟨1,24,[.slice none 0 0],.slice 77⟩)) else (bif Nat.blt t 112 then (bif Nat.blt t 111 then some ⟨1,8,[.nilFunc],.other⟩ else some ⟨1,8,[.nilFunc],.other⟩) else (bif Nat.blt t 113 then some ⟨1,8,[.nilFunc],.other⟩ else some ⟨1,8,[.nilFunc],.other⟩))))))) else (bif Nat.blt t 171 then (bif Nat.blt t 142 then (bif Nat.blt t 128 then (bif Nat.blt t 121 then (bif Nat.blt t 117 then (bif Nat.blt t 115 then some ⟨1,8,[.nilFunc],.other⟩ else (bif Nat.blt t 116 then some ⟨1,8,[.nilFunc],.other⟩ else some ⟨10,120,[.int .u8 0,.int .u64 0,.int .u64 0,.int .u64 0,.int .u64 0,.string ⟨#[]⟩,.int .i64 0,.int .i64 0,.slice none 0 0,.slice none 0 0],.struct [(52,0),(50,9)]⟩)) else (bif Nat.blt t 119 then (bif Nat.blt t 118 then some ⟨10,120,[.int .u8 0,.int .u64 0,.int .u64 0,.int .u64 0,.int .u64 0,.string ⟨#[]⟩,.int .i64 0,.int .i64 0,.slice none 0 0,.slice none 0 0],.struct [(52,0),(50,9)]⟩ else some ⟨1,8,[.pointer none],.pointer 126⟩) else (bif Nat.blt t 120 then some ⟨1,8,[.nilFunc],.other⟩ else some ⟨1,8,[.nilFunc],.other⟩))) else (bif Nat.blt t 124 then (bif Nat.blt t 122 then some ⟨10,80,[.nilFunc,.nilFunc,.nilFunc,.nilFunc,.nilFunc,.nilFunc,.nilFunc,.nilFunc,.nilFunc,.nilFunc],.array 10 120⟩ else (bif Nat.blt t 123 then some ⟨1,8,[.nilFunc],.other⟩ else some ⟨1,8,[.pointer none],.pointer 87⟩)) else (bif Nat.blt t 126 then (bif Nat.blt t 125 then some ⟨1,8,[.nilFunc],.other⟩ else some ⟨5,20,[.int .i32 0,.int .i32 0,.int .i32 0,.int .i32 0,.int .i32 0],.struct [(21,0),(21,1),(21,2),(21,3),(21,4)]⟩) else (bif Nat.blt t 127 then some ⟨5,20,[.int .i32 0,.int .i32 0,.int .i32 0,.int .i32 0,.int .i32 0],.struct [(21,0),(21,1),(21,2),(21,3),(21,4)]⟩ else none)))) else (bif Nat.blt t 135 then (bif Nat.blt t 131 then (bif Nat.blt t 129 then some ⟨1,8,[.nilFunc],.other⟩ else (bif Nat.blt t 130 then none else some ⟨1,8,[.nilFunc],.other⟩)) else (bif Nat.blt t 133 then (bif Nat.blt t 132 then none else some ⟨1,8,[.pointer none],.pointer 117⟩) else (bif Nat.blt t 134 then some ⟨2,16,[.int .i64 0,.int .i64 0],.struct [(3,0),(3,1)]⟩ else some ⟨2,16,[.int .i64 0,.int .i64 0],.struct [(3,0),(3,1)]⟩))) else (bif Nat.blt t 138 then (bif Nat.blt t 136 then some ⟨1,24,[.slice none 0 0],.slice 134⟩ else (bif Nat.blt t 137 then some ⟨1,8,[.nilFunc],.other⟩ else some ⟨1,8,[.nilFunc],.other⟩)) else (bif Nat.blt t 140 then (bif Nat.blt t 139 then some ⟨1,8,[.nilFunc],.other⟩ else some ⟨1,8,[.nilFunc],.other⟩) else (bif Nat.blt t 141 then some ⟨1,8,[.nilFunc],.other⟩ else some ⟨1,8,[.nilFunc],.other⟩))))) else (bif Nat.blt t 156 then (bif Nat.blt t 149 then (bif Nat.blt t 145 then (bif Nat.blt t 143 then some ⟨1,8,[.nilFunc],.other⟩ else (bif Nat.blt t 144 then some ⟨1,8,[.nilFunc],.other⟩ else some ⟨1,8,[.nilFunc],.other⟩)) else (bif Nat.blt t 147 then (bif Nat.blt t 146 then some ⟨1,8,[.map none],.map 9 3⟩ else some ⟨1,8,[.nilFunc],.other⟩) else (bif Nat.blt t 148 then some ⟨1,24,[.slice none 0 0],.slice 87⟩ else some ⟨1,8,[.nilFunc],.other⟩))) else (bif Nat.blt t 152 then (bif Nat.blt t 150 then some ⟨1,8,[.nilFunc],.other⟩ else (bif Nat.blt t 151 then some ⟨1,8,[.nilFunc],.other⟩ else some ⟨1,8,[.nilFunc],.other⟩)) else (bif Nat.blt t 154 then (bif Nat.blt t 153 then some ⟨1,8,[.nilFunc],.other⟩ else some ⟨1,8,[.nilFunc],.other⟩) else (bif Nat.blt t 155 then some ⟨1,8,[.nilFunc],.other⟩ else some ⟨1,8,[.nilFunc],.other⟩)))) else (bif Nat.blt t 163 then (bif Nat.blt t 159 then (bif Nat.blt t 157 then some ⟨1,8,[.nilFunc],.other⟩ else (bif Nat.blt t 158 then some ⟨1,24,[.slice none 0 0],.slice 4⟩ else some ⟨1,24,[.slice none 0 0],.slice 5⟩)) else (bif Nat.blt t 161 then (bif Nat.blt t 160 then some ⟨1,8,[.pointer none],.pointer 5⟩ else some ⟨1,24,[.slice none 0 0],.slice 9⟩) else (bif Nat.blt t 162 then some ⟨1,8,[.nilFunc],.other⟩ else some ⟨1,8,[.nilFunc],.other⟩))) else (bif Nat.blt t 167 then (bif Nat.blt t 165 then (bif Nat.blt t 164 then some ⟨1,8,[.nilFunc],.other⟩ else some ⟨2,16,[.int .i64 0,.int .i64 0],.array 2 3⟩) else (bif Nat.blt t 166 then some ⟨20,160,List.replicate 20 (.int .i64 0),.array 10 164⟩ else some ⟨1,8,[.pointer none],.pointer 168⟩)) else (bif Nat.blt t 169 then (bif Nat.blt t 168 then some ⟨2,32,[.pointer none,.slice none 0 0],.struct [(166,0),(158,1)]⟩ else some ⟨2,32,[.pointer none,.slice none 0 0],.struct [(166,0),(158,1)]⟩) else (bif Nat.blt t 170 then some ⟨1,16,[.nilIface],.other⟩ else some ⟨1,16,[.nilIface],.other⟩)))))) else (bif Nat.blt t 199 then (bif Nat.blt t 185 then (bif Nat.blt t 178 then (bif Nat.blt t 174 then (bif Nat.blt t 172 then none else (bif Nat.blt t 173 then some ⟨1,8,[.nilFunc],.other⟩ else some ⟨1,8,[.nilFunc],.other⟩)) else (bif Nat.blt t 176 then (bif Nat.blt t 175 then some ⟨1,24,[.slice none 0 0],.slice 176⟩ else some ⟨1,8,[.nilFunc],.other⟩) else (bif Nat.blt t 177 then some ⟨2,2,[.int .u8 0,.int .u8 0],.array 2 5⟩ else some ⟨1,8,[.nilFunc],.other⟩))) else (bif Nat.blt t 181 then (bif Nat.blt t 179 then some ⟨1,8,[.nilFunc],.other⟩ else (bif Nat.blt t 180 then some ⟨1,8,[.nilFunc],.other⟩ else some ⟨3,24,[.int .i64 0,.int .i64 0,.bool false],.struct [(3,0),(3,1),(4,2)]⟩)) else (bif Nat.blt t 183 then (bif Nat.blt t 182 then some ⟨3,24,[.int .i64 0,.int .i64 0,.bool false],.struct [(3,0),(3,1),(4,2)]⟩ else some ⟨1,24,[.slice none 0 0],.slice 181⟩) else (bif Nat.blt t 184 then some ⟨1,8,[.pointer none],.pointer 181⟩ else some ⟨1,8,[.nilFunc],.other⟩)))) else (bif Nat.blt t 192 then (bif Nat.blt t 188 then (bif Nat.blt t 186 then some ⟨1,8,[.nilFunc],.other⟩ else (bif Nat.blt t 187 then some ⟨3,48,[.string ⟨#[]⟩,.string ⟨#[]⟩,.string ⟨#[]⟩],.struct [(9,0),(9,1),(9,2)]⟩ else some ⟨30,480,List.replicate 30 (.string ⟨#[]⟩),.array 10 186⟩)) else (bif Nat.blt t 190 then (bif Nat.blt t 189 then some ⟨1,8,[.pointer none],.other⟩ else some ⟨1,8,[.nilFunc],.other⟩) else (bif Nat.blt t 191 then some ⟨1,8,[.nilFunc],.other⟩ else some ⟨1,8,[.nilFunc],.other⟩))) else (bif Nat.blt t 195 then (bif Nat.blt t 193 then some ⟨1,8,[.nilFunc],.other⟩ else (bif Nat.blt t 194 then some ⟨3,32,[.int .i64 0,.int .i64 0,.string ⟨#[]⟩],.struct [(3,0),(3,1),(9,2)]⟩ else some ⟨9,96,[.int .i64 0,.int .i64 0,.string ⟨#[]⟩,.int .i64 0,.int .i64 0,.string ⟨#[]⟩,.int .i64 0,.int .i64 0,.string ⟨#[]⟩],.array 3 193⟩)) else (bif Nat.blt t 197 then (bif Nat.blt t 196 then some ⟨1,8,[.nilFunc],.other⟩ else some ⟨1,8,[.nilFunc],.other⟩) else (bif Nat.blt t 198 then some ⟨1,8,[.nilFunc],.other⟩ else some ⟨1,8,[.nilFunc],.other⟩))))) else (bif Nat.blt t 213 then (bif Nat.blt t 206 then (bif Nat.blt t 202 then (bif Nat.blt t 200 then some ⟨1,8,[.nilFunc],.other⟩ else (bif Nat.blt t 201 then some ⟨1,8,[.nilFunc],.other⟩ else some ⟨64,64,List.replicate 64 (.int .u8 0),.array 64 5⟩)) else (bif Nat.blt t 204 then (bif Nat.blt t 203 then some ⟨1,8,[.nilFunc],.other⟩ else some ⟨24,24,List.replicate 24 (.int .u8 0),.array 24 5⟩) else (bif Nat.blt t 205 then some ⟨1,8,[.nilFunc],.other⟩ else none))) else (bif Nat.blt t 209 then (bif Nat.blt t 207 then some ⟨1,8,[.nilFunc],.other⟩ else (bif Nat.blt t 208 then some ⟨1,8,[.nilFunc],.other⟩ else some ⟨1,8,[.nilFunc],.other⟩)) else (bif Nat.blt t 211 then (bif Nat.blt t 210 then some ⟨20,160,List.replicate 20 (.int .u64 0),.array 20 47⟩ else some ⟨1,4,[.int .u32 0],.int .u32⟩) else (bif Nat.blt t 212 then some ⟨65,65,List.replicate 65 (.int .u8 0),.array 65 5⟩ else some ⟨1,8,[.nilFunc],.other⟩)))) else (bif Nat.blt t 220 then (bif Nat.blt t 216 then (bif Nat.blt t 214 then some ⟨1,8,[.nilFunc],.other⟩ else (bif Nat.blt t 215 then some ⟨32,32,List.replicate 32 (.int .u8 0),.array 32 5⟩ else some ⟨4,40,[.pointer none,.pointer none,.pointer none,.string ⟨#[]⟩],.struct [(17,0),(17,1),(17,2),(9,3)]⟩)) else (bif Nat.blt t 218 then (bif Nat.blt t 217 then some ⟨4,40,[.pointer none,.pointer none,.pointer none,.string ⟨#[]⟩],.struct [(17,0),(17,1),(17,2),(9,3)]⟩ else some ⟨0,0,[],.array 0 16⟩) else (bif Nat.blt t 219 then some ⟨0,0,[],.struct [(217,0)]⟩ else some ⟨0,0,[],.struct [(217,0)]⟩))) else (bif Nat.blt t 224 then (bif Nat.blt t 222 then (bif Nat.blt t 221 then some ⟨1,8,[.nilFunc],.other⟩ else some ⟨1,1,[.int .u8 0],.int .u8⟩) else (bif Nat.blt t 223 then some ⟨1,1,[.int .u8 0],.int .u8⟩ else some ⟨1,8,[.nilFunc],.other⟩)) else (bif Nat.blt t 226 then (bif Nat.blt t 225 then some ⟨1,4,[.int .i32 0],.int .i32⟩ else some ⟨1,4,[.int .i32 0],.int .i32⟩) else (bif Nat.blt t 227 then some ⟨11,48,[.int .u64 0,.int .u64 0,.int .u32 0,.int .u8 0,.int .u8 0,.int .u8 0,.int .u8 0,.nilFunc,.pointer none,.int .i32 0,.int .i32 0],.struct [(12,0),(12,1),(210,2),(221,3),(5,4),(5,5),(222,6),(223,7),(159,8),(224,9),(225,10)]⟩ else some ⟨11,48,[.int .u64 0,.int .u64 0,.int .u32 0,.int .u8 0,.int .u8 0,.int .u8 0,.int .u8 0,.nilFunc,.pointer none,.int .i32 0,.int .i32 0],.struct [(12,0),(12,1),(210,2),(221,3),(5,4),(5,5),(222,6),(223,7),(159,8),(224,9),(225,10)]⟩)))))))) else none
theorem TryzEOK:EOK Tryz.prog TryzE:=eok_of_chk 228 (fun t h=>by
 have h':Nat.blt t 228=false:=by
  cases hb:Nat.blt t 228 with
  | false=>rfl
  | true=>exact absurd (Nat.le_of_ble_eq_true hb) (by omega)
 simp only[TryzE,h',cond_false]) (by kernel_rfl)
def letter (c:UInt8):Bool:=decide (97≤c.toNat∧c.toNat≤122) || (decide (65≤c.toNat∧c.toNat≤90) || decide (c.toNat=95))
def digit (c:UInt8):Bool:=decide (48≤c.toNat∧c.toNat≤57)
theorem Letter_spec (I:GH) (c:UInt8):Spec Tryz.prog 91 [.int .u8 c.toNat] I [] (fun v I' M'=>v=.bool (letter c)∧I'=I∧M'=[]):=by
 refine spec_of_V [] TryzEOK Tryz.func91 rfl rfl rfl ?_
 intro B h0
 repeat' (refine GuardOb.mk (fun h=>?_) (fun h=>?_))
 all_goals
  refine⟨_,_,.refl,?_⟩
  refine⟨?_,rfl,rfl⟩
  simp_all[letter]
  all_goals first
   | omega
   |(rw[Bool.eq_iff_iff];simp;omega)
theorem digit_spec (I:GH) (c:UInt8):Spec Tryz.prog 92 [.int .u8 c.toNat] I [] (fun v I' M'=>v=.bool (digit c)∧I'=I∧M'=[]):=by
 refine spec_of_V [] TryzEOK Tryz.func92 rfl rfl rfl ?_
 intro B h0
 repeat' (refine GuardOb.mk (fun h=>?_) (fun h=>?_))
 all_goals
  refine⟨_,_,.refl,?_⟩
  refine⟨?_,rfl,rfl⟩
  simp_all[digit]
  all_goals first
   | omega
   |(rw[Bool.eq_iff_iff];simp;omega)
theorem bytes_len (s:ByteArray):s.data.toList.length=s.size:=Array.length_toList
theorem SClone_spec (I:GH) (s:ByteArray) (hs:s.size≤140737488355328):Spec Tryz.prog 104 [.string s] I [] (fun v I' M'=>v=.string s∧I'=I∧M'=[]):=by
 refine spec_of_V [] TryzEOK Tryz.func104 rfl rfl rfl ?_
 intro B h0
 refine CondOb.mk (fun h=>?_) (fun h=>?_)
 ·refine⟨_,_,.refl,?_,rfl,rfl⟩
  have h1:s.size=0:=by simpa using h
  have:s=.empty:=by
   apply ByteArray.ext
   exact Array.eq_empty_of_size_eq_zero h1
  rw[this]
  rfl
 ·have h1:s.size≠0:=by simpa using h
  refine MakeOb.mk s.size s.size rfl rfl (Nat.le_refl _) (by show 1 * s.size≤_;omega) (by omega) ?_
  refine AllocOb.mk fun b hb hbM=>?_
  refine OtherOb.copyS TryzEOK rfl (by simp) (e:=5) rfl rfl rfl rfl rfl rfl (Nat.le_refl _) ?_ (.refl _) ?_
  ·simp[rowOf_eq,madeCells]
  refine IdxOb.mk ⟨b,0,none⟩ 0 rfl rfl (by omega) ?_
  refine OtherOb.ustring TryzEOK rfl (by simp) (e:=5) rfl rfl rfl rfl (g:=b) (l:=s.data.toList) rfl ?_ ?_ ?_ (.refl _) ?_ ?_
  ·show SV.val (.int .i64 (s.size:Int))=SV.val (.int .i64 (s.data.toList.length:Int))
   rw[bytes_len]
  ·intro e
   have:=congrArg List.length e
   rw[bytes_len] at this
   exact h1 this
  ·rw[bytes_len];omega
  ·rw[bytes_len]
   have hl:(byteVals s).length=s.size:=by simp[byteVals]
   simp only[splice]
   rw[List.take_zero,List.nil_append,List.take_append_of_le_length (by rw[hl];exact Nat.le_refl _),←hl,List.take_length]
   rfl
  ·exact⟨_,_,.refl,rfl,rfl,rfl⟩
theorem Clone_spec (I:GH) (s:ByteArray) (hs:s.size≤140737488355328):Spec Tryz.prog 93 [.string s] I [] (fun v I' M'=>v=.string s∧I'=I∧M'=[]):=by
 refine spec_of_V [] TryzEOK Tryz.func93 rfl rfl rfl ?_
 intro B h0
 refine CallOb.mk [] [] _ (.refl _) (SClone_spec I s hs) ?_
 rintro v I' M' - ⟨rfl,rfl,rfl⟩
 exact⟨_,_,.refl,rfl,rfl,rfl⟩
def nameCh (c:UInt8):Bool:=letter c || digit c
def nameLen (s:ByteArray):Nat:=match s.data.toList with
 | []=>0
 | c::r=>bif letter c then 1+(r.takeWhile nameCh).length else 0
theorem takeWhile_len {α:Type} (p:α→Bool):∀ (l:List α) (i:Nat),i≤l.length→(∀ j (h:j < l.length),j < i→p l[j]=true)→(∀ (h:i < l.length),p l[i]=false)→(l.takeWhile p).length=i
 | [],i,h,_,_=>by simp at h;simp[h]
 | x::l,0,_,_,h=>by
  have:=h (by simp)
  simp only[List.getElem_cons_zero] at this
  simp[this]
 | x::l,i+1,hi,h1,h2=>by
  have hx:=h1 0 (by simp) (by omega)
  simp only[List.getElem_cons_zero] at hx
  have ih:=takeWhile_len p l i (by simpa using hi) (fun j hj hji=>by have:=h1 (j+1) (by simpa using hj) (by omega);simpa using this) (fun h=>by have:=h2 (by simpa using h);simpa using this)
  simp[hx,ih]
theorem nameLen_of {s:ByteArray} (h0:0 < s.size) (hl:letter s[0]=true) {i:Nat} (h1:1≤i) (hi:i≤s.size) (ha:∀ j (h:j < s.size),1≤j→j < i→nameCh s[j]=true) (hb:∀ (h:i < s.size),nameCh s[i]=false):nameLen s=i:=by
 have get:∀ j (h:j < s.size),s[j]=s.data.toList[j]'(by rw[bytes_len];exact h):=fun j h=>rfl
 unfold nameLen
 have hlen:=bytes_len s
 cases hd:s.data.toList with
 | nil=>rw[hd] at hlen;simp at hlen;omega
 | cons c r=>
  have g:∀ j (h:j < s.size),s[j]=(c::r)[j]'(by rw[←hd,hlen];exact h):=fun j h=>by rw[get j h];simp only[hd]
  rw[hd] at hlen
  have hc:letter c=true:=by rw[g 0 h0] at hl;simpa using hl
  simp only[hc,cond_true]
  simp only[List.length_cons] at hlen
  rw[takeWhile_len nameCh r (i - 1) (by omega) (fun j hj hji=>by
   have h3:j+1 < s.size:=by omega
   have:=ha (j+1) h3 (by omega) (by omega)
   rw[g (j+1) h3] at this
   simpa using this) (fun h=>by
   have h3:i < s.size:=by omega
   have:=hb h3
   rw[g i h3] at this
   have e:i=(i - 1)+1:=by omega
   rw[List.getElem_cons] at this
   rw[dif_neg (by omega)] at this
   exact this)]
  omega
theorem Take_spec (I:GH) (s:ByteArray) (hs:s.size≤140737488355328):Spec Tryz.prog 69 [.string s] I [] (fun v I' M'=>v=.string (s.extract 0 (nameLen s))∧I'=I∧M'=[]):=by
 refine spec_of_V [] TryzEOK Tryz.func69 rfl rfl rfl ?_
 intro B h0
 have e0:∀ {s:ByteArray},nameLen s=0→s.extract 0 (nameLen s)=⟨#[]⟩:=fun h=>by rw[h];apply ByteArray.ext;simp[ByteArray.data_extract]
 refine GuardOb.mk (fun h=>?_) (fun h=>?_)
 ·have h1:s≠⟨#[]⟩:=by simpa using h
  have hpos:0 < s.size:=by
   refine Nat.pos_of_ne_zero fun e=>h1 ?_
   apply ByteArray.ext
   exact Array.eq_empty_of_size_eq_zero e
  refine StrOb.mk 0 rfl hpos ?_
  refine CallOb.mk [] [] _ (.refl _) (Letter_spec I s[0]) ?_
  rintro v I' M' - ⟨rfl,rfl,rfl⟩
  refine CondOb.mk (fun h=>?_) (fun h=>?_)
  ·have hl:letter s[0]=false:=by simpa using h
   refine⟨_,_,.refl,?_,rfl,rfl⟩
   rw[e0]
   ·unfold nameLen
    cases hd:s.data.toList with
    | nil=>rfl
    | cons c r=>
     have:s[0]=c:=by
      show s.data.toList[0]=c
      simp only[hd]
      rfl
     rw[this] at hl
     simp[hl]
  ·have hl:letter s[0]=true:=by simpa using h
   refine LoopOb.inv (ι:=Nat) (fun i=>{ fl:=[(0,.val (.string s)),(3,.val (.int .i64 i))],gi:=I' }) (fun i=>1≤i∧i≤s.size∧∀ j (h:j < s.size),1≤j→j < i→nameCh s[j]=true) (fun i=>s.size - i) ?_ ?_
   ·exact⟨1,⟨by omega,by omega,fun j _ h1 h2=>by omega⟩,.refl,aF2,.nil⟩
   ·rintro i ⟨hi1,hi2,hi3⟩
    have next:∀ (hlt:i < s.size),nameCh s[i]=true→(1≤i+1∧i+1≤s.size∧∀ k (h:k < s.size),1≤k→k < i+1→nameCh s[k]=true)∧s.size - (i+1) < s.size - i:=fun hlt hc=>
     ⟨⟨by omega,by omega,fun j hj h1 h2=>by
      by_cases e:j=i
      ·subst e;exact hc
      ·exact hi3 j hj h1 (by omega)⟩,by omega⟩
    have out:(∀ (h:i < s.size),nameCh s[i]=false)→s.extract 0 i=s.extract 0 (nameLen s):=fun hn=>by
     rw[nameLen_of hpos hl hi1 hi2 hi3 hn]
    have hsz:(s.extract 0 i).size≤140737488355328:=by
     rw[ByteArray.size_extract]
     omega
    have hwr:IntKind.i64.wrap ((i:Int)+1)=((i+1:Nat):Int):=by
     rw[wrap_i64 ⟨by omega,by omega⟩]
     omega
    refine GuardOb.mk (fun h=>?_) (fun h=>?_)
    ·have hlt:i < s.size:=by simpa using h
     refine StrOb.mk i rfl hlt ?_
     refine CallOb.mk [] [] _ (.refl _) (Letter_spec I' s[i]) ?_
     rintro v I' M' - ⟨rfl,rfl,rfl⟩
     refine GuardOb.mk (fun h=>?_) (fun h=>?_)
     ·refine StrOb.mk i rfl hlt ?_
      refine CallOb.mk [] [] _ (.refl _) (digit_spec _ s[i]) ?_
      rintro v I' M' - ⟨rfl,rfl,rfl⟩
      refine CondOb.mk (fun h2=>?_) (fun h2=>?_)
      ·refine ArithOb.mk _ hwr ?_
       exact⟨i+1,next hlt (by simp only[nameCh];rw[show digit s[i]=true from h2];simp),.refl,aF2,.nil⟩
      ·refine SliceOb.mk 0 i rfl rfl (by omega) (by omega) ?_
       refine CallOb.mk [] [] _ (.refl _) (Clone_spec _ _ hsz) ?_
       rintro v I' M' - ⟨rfl,rfl,rfl⟩
       refine⟨_,_,.refl,?_,rfl,rfl⟩
       rw[←out fun _=>by simp only[nameCh];rw[show letter s[i]=false from h,show digit s[i]=false from h2];rfl]
     ·refine ArithOb.mk _ hwr ?_
      exact⟨i+1,next hlt (by simp only[nameCh];rw[show letter s[i]=true from h];simp),.refl,aF2,.nil⟩
    ·have hge:¬ i < s.size:=by simpa using h
     refine SliceOb.mk 0 i rfl rfl (by omega) (by omega) ?_
     refine CallOb.mk [] [] _ (.refl _) (Clone_spec _ _ hsz) ?_
     rintro v I' M' - ⟨rfl,rfl,rfl⟩
     refine⟨_,_,.refl,?_,rfl,rfl⟩
     rw[←out fun h=>(hge h).elim]
 ·have h1:s=⟨#[]⟩:=by simpa using h
  subst h1
  refine⟨_,_,.refl,?_,rfl,rfl⟩
  rw[e0]
  rfl
def mayName (s:ByteArray):Bool:=decide (s≠⟨#[]⟩) && (decide (s.size≤32) && decide (nameLen s=s.size))
theorem nameLen_le (s:ByteArray):nameLen s≤s.size:=by
 unfold nameLen
 have hl:=bytes_len s
 cases hd:s.data.toList with
 | nil=>simp
 | cons c r=>
  rw[hd] at hl
  simp only[List.length_cons] at hl
  simp only
  cases letter c
  ·simp
  ·simp only[cond_true]
   have:=(List.takeWhile_sublist (p:=nameCh) (l:=r)).length_le
   omega
theorem NMay_spec (I:GH) (s:ByteArray):Spec Tryz.prog 41 [.string s] I [] (fun v I' M'=>v=.bool (mayName s)∧I'=I∧M'=[]):=by
 refine spec_of_V [] TryzEOK Tryz.func41 rfl rfl rfl ?_
 intro B h0
 refine GuardOb.mk (fun h1=>?_) (fun h1=>?_)
 ·refine GuardOb.mk (fun h2=>?_) (fun h2=>?_)
  ·have h2':s.size≤32:=by simp at h2;omega
   refine CallOb.mk [] [] _ (.refl _) (Take_spec I s (by omega)) ?_
   rintro v I' M' - ⟨rfl,rfl,rfl⟩
   refine⟨_,_,.refl,?_,rfl,rfl⟩
   have hle:=nameLen_le s
   have e1:(s.extract 0 (nameLen s)).size=nameLen s:=by rw[ByteArray.size_extract];omega
   simp_all[mayName]
   all_goals omega
  ·refine⟨_,_,.refl,?_,rfl,rfl⟩
   simp_all[mayName]
   all_goals omega
 ·refine⟨_,_,.refl,?_,rfl,rfl⟩
  simp_all[mayName]
def countsL:List Int:=[0,0,0,0,0,0,0,0,2,-1,2,-1,1,1,1,1,1,1,1,1]
def cntLo (k:Nat):Int:=countsL.getD (k * 2) 0
def cntHi (k:Nat):Int:=countsL.getD (k * 2+1) 0
def HasCounts (I:GH):Prop:=∃ T fr,I 0=some (.cells (countsL.map (Value.int .i64)).toArray T fr)
theorem HasCounts.rd {I:GH} (h:HasCounts I) (M:List Blk) {j:Nat} (hj:j < 20):Rd I M (Addr.add ⟨0,0,none⟩ j) 1 [.int .i64 (countsL.getD j 0)]:=by
 obtain⟨T,fr,h⟩:=h
 rw[addr_add _ rfl]
 refine⟨rfl,_,T,fr,.inl h,?_,rfl⟩
 simp only[Nat.zero_add]
 have:∀ j:Fin 20,(((countsL.map (Value.int .i64)).toArray.toList.drop j.val).take 1)=[Value.int .i64 (countsL.getD j.val 0)]:=by
  intro j
  have h1:j.val < (countsL.map (Value.int .i64)).length:=by simp[countsL]
  rw[List.toList_toArray,List.drop_eq_getElem_cons h1,List.take_succ_cons,List.take_zero]
  have h2:j.val < countsL.length:=by simp[countsL]
  simp[List.getD_eq_getElem?_getD,h2]
 exact this ⟨j,hj⟩
theorem HasCounts.rd2 {I:GH} (h:HasCounts I) (M:List Blk) {i j:Nat} (hj:i+j < 20):Rd I M ((Addr.add ⟨0,0,none⟩ i).add j) 1 [.int .i64 (countsL.getD (i+j) 0)]:=by
 have e:(Addr.add ⟨0,0,none⟩ i).add j=Addr.add ⟨0,0,none⟩ (i+j):=by
  rw[addr_add ⟨_,0,none⟩ rfl i,addr_add _ rfl j,addr_add _ rfl (i+j)]
  simp
 rw[e]
 exact h.rd M hj
def Nd.setZ (d:Nd):Bool:=d.s0 == 0 && (d.s1 == 0 && (d.s2 == 0 && d.s3 == 0))
def fits (d:Nd) (n:Int):Bool:=
 bif decide (10≤d.k) then false else
 bif decide (n < cntLo d.k.toNat) || (decide (0≤cntHi d.k.toNat) && decide (cntHi d.k.toNat < n)) then false else
 bif decide (d.k=1) then decide (d.t=⟨#[]⟩) && (decide (d.lo=0) && decide (d.hi=0)) else
 bif decide (d.k=2) then (!(decide (d.t=⟨#[]⟩) || decide (255 < d.t.size))) && (d.setZ && (decide (d.lo=0) && decide (d.hi=0))) else
 bif decide (d.k=3) || decide (d.k=9) then mayName d.t && (d.setZ && (decide (d.lo=0) && decide (d.hi=0))) else
 bif decide (d.k=6) then (!(decide (d.lo < 0) || (decide (99 < d.lo) || (decide (d.hi≠-1) && (decide (d.hi < d.lo) || decide (99 < d.hi)))))) && (d.setZ && decide (d.t=⟨#[]⟩)) else
 d.setZ && (decide (d.t=⟨#[]⟩) && (decide (d.lo=0) && decide (d.hi=0)))
set_option maxHeartbeats 4000000 in
set_option maxRecDepth 20000 in
theorem Fits_spec {I:GH} (hc:HasCounts I) {d:Nd} (hd:d.ok I) (n:Int):Spec Tryz.prog 106 [d.val,.int .i64 n] I [] (fun v I' M'=>v=.bool (fits d n)∧I'=I∧M'=[]):=by
 refine spec_of_V [] TryzEOK Tryz.func106 rfl rfl rfl ?_
 intro B h0
 have hk:=hd.k
 refine ArithOb.mk d.k (by unfold IntKind.wrap;simp[IntKind.bits,IntKind.signed];omega) ?_
 refine CondOb.mk (fun h=>?_) (fun h=>?_)
 ·refine⟨_,_,.refl,?_,rfl,rfl⟩
  simp at h
  simp[fits,h]
 ·have h10:d.k < 10:=by simpa using h
  have hj:d.k=((d.k.toNat:Nat):Int):=by omega
  have hj10:d.k.toNat < 10:=by omega
  refine CodeOb.draw TryzEOK rfl rfl rfl ?_
  refine ArrOb.mk d.k.toNat hj hj10 ?_
  refine ArrOb.mk 0 rfl (by omega) ?_
  refine LoadOb.mk [.int .i64 (cntLo d.k.toNat)] (hc.rd _ (j:=d.k.toNat * 2) (by omega)) ?_
  refine ArrOb.mk d.k.toNat hj hj10 ?_
  refine ArrOb.mk 1 rfl (by omega) ?_
  refine LoadOb.mk [.int .i64 (cntHi d.k.toNat)] (hc.rd2 _ (i:=d.k.toNat * 2) (j:=1) (by omega)) ?_
  repeat' first
   | refine GuardOb.mk (fun h=>?_) (fun h=>?_)
   | refine CondOb.mk (fun h=>?_) (fun h=>?_)
   | refine BinOb.eq4 TryzEOK (e:=47) rfl rfl rfl rfl (by kernel_rfl) ?_
   |(refine CallOb.mk [] [] _ (.refl _) (NMay_spec _ _) ?_;rintro v I' M' - ⟨rfl,rfl,rfl⟩)
  all_goals refine⟨_,_,.refl,?_⟩
  all_goals refine⟨?_,rfl,rfl⟩
  all_goals clear hc hd hj
  all_goals (first | (simp_all[fits,Nd.setZ];done) | (simp_all[fits,Nd.setZ];omega) | (simp_all[fits,Nd.setZ];rw[Bool.eq_iff_iff];simp;omega))
def kidsOk (i:Nat):List Int→List Bool→Option (List Bool)
 | [],s=>some s
 | k::ks,s=>bif decide (k < 0) || (decide ((i:Int)≤k) || s.getD k.toNat false) then none else kidsOk i ks (s.set k.toNat true)
def nodesOk:Nat→List Nd→List Bool→Option (List Bool)
 | _,[],s=>some s
 | i,d::ds,s=>bif fits d d.kids.length then (match kidsOk i d.kids s with
  | some s'=>nodesOk (i+1) ds s'
  | none=>none) else none
def rootOk (root:Int):Nat→List Bool→Bool
 | _,[]=>true
 | i,b::s=>bif b == decide ((i:Int)=root) then false else rootOk root (i+1) s
def right (t:Tr):Bool:=decide (0≤t.root) && (decide (t.root < t.ns.length) && (match nodesOk 0 t.ns (List.replicate t.ns.length false) with
 | some s=>rootOk t.root 0 s
 | none=>false))
theorem rowOf_one (v:Value) (n:Nat):rowOf [v] n=List.replicate n v:=by
 apply List.ext_getElem
 ·simp[rowOf_eq,madeCells]
 ·intro i h1 h2
  simp[rowOf_eq,madeCells,Nat.mod_one]
def boolRow (b:Nat) (s:List Bool):Blk:=⟨b,.cells (s.map Value.bool).toArray 4 (0,0)⟩
theorem boolRow_rd {I:GH} {M:List Blk} {b:Nat} {s:List Bool} (hM:boolRow b s∈M) {j:Nat} (hj:j < s.length):Rd I M ((⟨b,0,none⟩:Addr).add (j * 1)) 1 [.bool s[j]]:=by
 rw[addr_add _ rfl]
 refine⟨rfl,_,4,(0,0),.inr ⟨_,hM,rfl,rfl⟩,?_,rfl⟩
 have h1:j < (s.map Value.bool).length:=by simpa using hj
 simp only[Nat.zero_add,Nat.mul_one]
 rw[List.drop_eq_getElem_cons h1,List.take_succ_cons,List.take_zero]
 simp
theorem boolRow_set (s:List Bool) (j:Nat) (hj:j < s.length) (b:Bool):splice (s.map Value.bool) j [.bool b]=(s.set j b).map Value.bool:=by
 unfold splice
 rw[List.map_set,List.set_eq_take_append_cons_drop]
 simp[hj]
theorem StoreOb.add {M:List Blk} {b o k:Nat} {vs:List Value} {K:List Blk→Prop} (pre post:List Blk) (cs:Array Value) (T:Nat) (hM:M=pre++⟨b,.cells cs T (0,0)⟩::post) (hb:o+k+vs.length≤cs.size) (h1:allOne vs=true)
  (h:K (pre++⟨b,.cells (splice cs.toList (o+k) vs).toArray T (0,0)⟩::post)):StoreOb M ((⟨b,o,none⟩:Addr).add k) vs K:=by
 rw[addr_add _ rfl]
 exact .mk pre post cs T hM rfl hb h1 h
theorem StoreOb.addTo {M:List Blk} {b o k:Nat} {vs:List Value} {K:List Blk→Prop} (pre post:List Blk) (cs:List Value) (T:Nat) (hM:M=pre++⟨b,.cells cs.toArray T (0,0)⟩::post) (hb:Nat.ble (o+k+vs.length) cs.length=true) (h1:allOne vs=true)
  (cs':List Value) (he:splice cs (o+k) vs=cs') (h:K (pre++⟨b,.cells cs'.toArray T (0,0)⟩::post)):StoreOb M ((⟨b,o,none⟩:Addr).add k) vs K:=
 StoreOb.add pre post _ _ hM (by simpa using Nat.le_of_ble_eq_true hb) h1 (by rw[←he] at h;exact h)
theorem Right_spec {I:GH} (hc:HasCounts I) {t:Tr} (ht:t.ok I):Spec Tryz.prog 97 [t.val] I [] (fun v I' M'=>v=.bool (right t)∧I'=I∧M'=[]):=by
 refine spec_of_V [] TryzEOK Tryz.func97 rfl rfl rfl ?_
 intro B h0
 have hn:=ht.n
 have hcap:=ht.rs.cap
 refine GuardOb.mk (fun h1=>?_) (fun h1=>?_)
 ·refine CondOb.mk (fun h2=>?_) (fun h2=>?_)
  ·refine⟨_,_,.refl,?_,rfl,rfl⟩
   simp at h2
   have:¬ t.root < t.ns.length:=by omega
   simp[right,this]
  ·have g1:0≤t.root:=by simpa using h1
   have g2:t.root < t.ns.length:=by simp at h2;omega
   refine MakeOb.mk t.n t.n rfl rfl (Nat.le_refl _) (by show 1 * t.n≤_;omega) (by omega) ?_
   refine AllocOb.mk fun b hb hbM=>?_
   refine LoopOb.inv (ι:=Nat×List Bool)
    (fun x=>{ fl:=[(1,.ref 1 0),(3,.val (.slice (some ⟨b,0,none⟩) t.n t.n)),(26,.val (.slice t.a t.n t.c)),(27,.val (.int .i64 t.n)),(28,.val (.int .i64 x.1))],cl:=[(1,t.cells)],gi:=I,mi:=[boolRow b x.2] })
    (fun x=>x.1≤t.n∧x.2.length=t.n∧nodesOk 0 t.ns (List.replicate t.ns.length false)=nodesOk x.1 (t.ns.drop x.1) x.2) (fun x=>t.n - x.1) ?_ ?_
   ·refine⟨(0,List.replicate t.n false),⟨by omega,by simp,by simp[hn]⟩,?_,aF5,.cons rfl .nil⟩
    show Wk _ _ [⟨b,.cells (rowOf [Value.bool false] (t.n * 1)).toArray 4 (0,0)⟩] _ [boolRow b (List.replicate t.n false)]
    rw[rowOf_one,Nat.mul_one]
    simp only[boolRow,List.map_replicate]
    exact .refl
   ·rintro⟨i,s⟩ ⟨hi1,hi2,hi3⟩
    simp only at hi1 hi2 hi3
    refine CondOb.mk (fun h=>?_) (fun h=>?_)
    ·have hlt:i < t.n:=by simpa using h
     have hlt':i < t.ns.length:=by omega
     obtain⟨ad,had,hrd⟩:=ht.rs.row Nd.cells_len hlt hlt'
     have hdk:=ht.ns t.ns[i] (List.getElem_mem hlt')
     have hkn:=hdk.kn
     have hdrop:t.ns.drop i=t.ns[i]::t.ns.drop (i+1):=List.drop_eq_getElem_cons hlt'
     refine IdxOb.mk ad i had rfl hlt ?_
     refine LoadOb.mk t.ns[i].cells (hrd _) ?_
     refine CallOb.mk [] [boolRow b s] _ (.refl _) (Fits_spec hc hdk t.ns[i].kn) ?_
     rintro v I' M' - ⟨rfl,rfl,rfl⟩
     refine CondOb.mk (fun h3=>?_) (fun h3=>?_)
     ·refine⟨_,_,.sub (List.nil_sublist _) .refl,?_,rfl,rfl⟩
      have hf:fits t.ns[i] t.ns[i].kids.length=false:=by rw[hkn];simpa using h3
      have:right t=false:=by
       unfold right
       rw[hi3,hdrop]
       simp[nodesOk,hf]
      rw[this]
     ·have hf:fits t.ns[i] t.ns[i].kids.length=true:=by rw[hkn];simpa using h3
      refine LoopOb.inv (ι:=Nat×List Bool)
       (fun x=>{ fl:=[(1,.ref 1 0),(3,.val (.slice (some ⟨b,0,none⟩) t.n t.n)),(4,.val (.int .i64 i)),(26,.val (.slice t.a t.n t.c)),(27,.val (.int .i64 t.n)),(28,.val (.int .i64 i)),(40,.val (.slice t.ns[i].ka t.ns[i].kn t.ns[i].kc)),(41,.val (.int .i64 t.ns[i].kn)),(42,.val (.int .i64 x.1))],cl:=[(1,t.cells)],gi:=I',mi:=[boolRow b x.2] })
       (fun x=>x.1≤t.ns[i].kn∧x.2.length=t.n∧kidsOk i t.ns[i].kids s=kidsOk i (t.ns[i].kids.drop x.1) x.2) (fun x=>t.ns[i].kn - x.1) ?_ ?_
      ·exact⟨(0,s),⟨by omega,hi2,rfl⟩,.refl,aF9,.cons rfl .nil⟩
      ·rintro⟨j,s'⟩ ⟨hj1,hj2,hj3⟩
       simp only at hj1 hj2 hj3
       refine CondOb.mk (fun h=>?_) (fun h=>?_)
       ·have hjl:j < t.ns[i].kn:=by simpa using h
        have hjl':j < t.ns[i].kids.length:=by omega
        obtain⟨ak,hak,hrk⟩:=hdk.rs.one hjl hjl'
        refine IdxOb.mk ak j hak rfl hjl ?_
        refine LoadOb.mk [.int .i64 t.ns[i].kids[j]] (hrk _) ?_
        have hkd:t.ns[i].kids.drop j=t.ns[i].kids[j]::t.ns[i].kids.drop (j+1):=List.drop_eq_getElem_cons hjl'
        have bad:(decide (t.ns[i].kids[j] < 0) || (decide ((i:Int)≤t.ns[i].kids[j]) || s'.getD t.ns[i].kids[j].toNat false))=true→right t=false:=fun hb=>by
         unfold right
         rw[hi3,hdrop]
         simp only[nodesOk,hf,cond_true,hj3,hkd,kidsOk,hb]
         simp
        refine GuardOb.mk (fun h4=>?_) (fun h4=>?_)
        ·refine GuardOb.mk (fun h5=>?_) (fun h5=>?_)
         ·simp only[decide_eq_false_iff_not,Int.not_lt,Int.not_le] at h4 h5
          have hk0:t.ns[i].kids[j]=((t.ns[i].kids[j].toNat:Nat):Int):=by omega
          have hkl:t.ns[i].kids[j].toNat < t.n:=by omega
          have hkl':t.ns[i].kids[j].toNat < s'.length:=by omega
          refine IdxOb.mk ⟨b,0,none⟩ t.ns[i].kids[j].toNat rfl hk0 hkl ?_
          refine LoadOb.mk [.bool s'[t.ns[i].kids[j].toNat]] (boolRow_rd (by simp) hkl') ?_
          refine CondOb.mk (fun h6=>?_) (fun h6=>?_)
          ·refine⟨_,_,.sub (List.nil_sublist _) .refl,?_,rfl,rfl⟩
           rw[bad]
           simp[List.getD_eq_getElem?_getD,hkl',h6]
          ·refine IdxOb.mk ⟨b,0,none⟩ t.ns[i].kids[j].toNat rfl hk0 hkl ?_
           refine StoreOb.add [] [] _ 4 rfl ?_ rfl ?_
           ·simp only[List.size_toArray,List.length_map]
            show 0+t.ns[i].kids[j].toNat * 1+1≤_
            omega
           have hwr:IntKind.i64.wrap ((j:Int)+1)=((j+1:Nat):Int):=by
            rw[wrap_i64 ⟨by omega,by have:=hdk.rs.cap;omega⟩]
            omega
           refine ArithOb.mk _ hwr ?_
           refine⟨(j+1,s'.set t.ns[i].kids[j].toNat true),⟨⟨by omega,by simp[hj2],?_⟩,by show _ < _;simp only;omega⟩,?_,aF9,.cons rfl .nil⟩
           ·simp only
            rw[hj3,hkd]
            have hq:(decide (t.ns[i].kids[j] < 0) || (decide ((i:Int)≤t.ns[i].kids[j]) || s'.getD t.ns[i].kids[j].toNat false))=false:=by
             have e1:¬ t.ns[i].kids[j] < 0:=by omega
             have e2:¬ (i:Int)≤t.ns[i].kids[j]:=by omega
             simp[e1,e2,List.getD_eq_getElem?_getD,hkl',show s'[t.ns[i].kids[j].toNat]=false from h6]
            simp only[kidsOk,hq,cond_false]
           ·have e:=boolRow_set s' t.ns[i].kids[j].toNat hkl' true
            simp only[boolRow]
            rw[←e]
            simp only[Nat.zero_add,Nat.mul_one]
            exact .refl
         ·refine⟨_,_,.sub (List.nil_sublist _) .refl,?_,rfl,rfl⟩
          rw[bad]
          simp at h5
          simp[h5]
        ·refine⟨_,_,.sub (List.nil_sublist _) .refl,?_,rfl,rfl⟩
         rw[bad]
         simp at h4
         simp[h4]
       ·have hjl:¬ j < t.ns[i].kn:=by simpa using h
        have hje:t.ns[i].kids.drop j=[]:=List.drop_eq_nil_of_le (by omega)
        have hwr:IntKind.i64.wrap ((i:Int)+1)=((i+1:Nat):Int):=by
         rw[wrap_i64 ⟨by omega,by omega⟩]
         omega
        refine ArithOb.mk _ hwr ?_
        refine⟨(i+1,s'),⟨⟨by omega,hj2,?_⟩,by show _ < _;simp only;omega⟩,.refl,aF5,.cons rfl .nil⟩
        simp only
        rw[hi3,hdrop]
        simp only[nodesOk,hf,cond_true,hj3,hje,kidsOk]
    ·have hge:¬ i < t.n:=by simpa using h
     have hdn:t.ns.drop i=[]:=List.drop_eq_nil_of_le (by omega)
     have hall:nodesOk 0 t.ns (List.replicate t.ns.length false)=some s:=by rw[hi3,hdn];rfl
     have hr:right t=rootOk t.root 0 s:=by
      unfold right
      rw[hall]
      simp[g1,g2]
     refine LoopOb.inv (ι:=Nat)
      (fun m=>{ fl:=[(1,.ref 1 0),(64,.val (.slice (some ⟨b,0,none⟩) t.n t.n)),(65,.val (.int .i64 t.n)),(66,.val (.int .i64 m))],cl:=[(1,t.cells)],gi:=I,mi:=[boolRow b s] })
      (fun m=>m≤t.n∧rootOk t.root 0 s=rootOk t.root m (s.drop m)) (fun m=>t.n - m) ?_ ?_
     ·exact⟨0,⟨by omega,rfl⟩,.refl,aF4,.cons rfl .nil⟩
     ·rintro m ⟨hm1,hm2⟩
      refine CondOb.mk (fun h=>?_) (fun h=>?_)
      ·have hml:m < t.n:=by simpa using h
       have hml':m < s.length:=by omega
       have hmd:s.drop m=s[m]::s.drop (m+1):=List.drop_eq_getElem_cons hml'
       refine IdxOb.mk ⟨b,0,none⟩ m rfl rfl hml ?_
       refine LoadOb.mk [.bool s[m]] (boolRow_rd (by simp) hml') ?_
       refine CondOb.mk (fun h7=>?_) (fun h7=>?_)
       ·refine⟨_,_,.sub (List.nil_sublist _) .refl,?_,rfl,rfl⟩
        have:right t=false:=by
         rw[hr,hm2,hmd]
         simp only[rootOk,show (s[m] == decide ((m:Int)=t.root))=true from h7,cond_true]
        rw[this]
       ·have hwr:IntKind.i64.wrap ((m:Int)+1)=((m+1:Nat):Int):=by
         rw[wrap_i64 ⟨by omega,by omega⟩]
         omega
        refine ArithOb.mk _ hwr ?_
        refine⟨m+1,⟨⟨by omega,?_⟩,by omega⟩,.refl,aF4,.cons rfl .nil⟩
        rw[hm2,hmd]
        simp only[rootOk,show (s[m] == decide ((m:Int)=t.root))=false from h7,cond_false]
      ·have hml:¬ m < t.n:=by simpa using h
       have hmd:s.drop m=[]:=List.drop_eq_nil_of_le (by omega)
       refine⟨_,_,.sub (List.nil_sublist _) .refl,?_,rfl,rfl⟩
       rw[hr,hm2,hmd]
       rfl
 ·refine⟨_,_,.refl,?_,rfl,rfl⟩
  have:¬ 0≤t.root:=by simp at h1;omega
  simp[right,this]
def intRow (b:Nat) (s:List Int):Blk:=⟨b,.cells (s.map (Value.int .i64)).toArray 3 (0,0)⟩
theorem intRow_rd {I:GH} {M:List Blk} {b:Nat} {s:List Int} (hM:intRow b s∈M) {j:Nat} (hj:j < s.length):Rd I M ((⟨b,0,none⟩:Addr).add (j * 1)) 1 [.int .i64 s[j]]:=by
 rw[addr_add _ rfl]
 refine⟨rfl,_,3,(0,0),.inr ⟨_,hM,rfl,rfl⟩,?_,rfl⟩
 have h1:j < (s.map (Value.int .i64)).length:=by simpa using hj
 simp only[Nat.zero_add,Nat.mul_one]
 rw[List.drop_eq_getElem_cons h1,List.take_succ_cons,List.take_zero]
 simp
theorem intRow_rd' {I:GH} {M:List Blk} {b:Nat} {s:List Int} {v:Int} {j:Nat} (hj:j < s.length) (hv:s[j]=v) (hM:intRow b s∈M):Rd I M ((⟨b,0,none⟩:Addr).add (j * 1)) 1 [.int .i64 v]:=hv ▸ intRow_rd hM hj
theorem intRow_set (s:List Int) (j:Nat) (hj:j < s.length) (b:Int):splice (s.map (Value.int .i64)) j [.int .i64 b]=(s.set j b).map (Value.int .i64):=by
 unfold splice
 rw[List.map_set,List.set_eq_take_append_cons_drop]
 simp[hj]
theorem Size_spec {I:GH} (hc:HasCounts I) {t:Tr} (ht:t.ok I):Spec Tryz.prog 108 [t.val] I [] (fun v I' M'=>v=.int .i64 (bif right t then (t.n:Int) else 0)∧I'=I∧M'=[]):=by
 refine spec_of_V [] TryzEOK Tryz.func108 rfl rfl rfl ?_
 intro B h0
 refine CallOb.mk [] [] _ (.refl _) (Right_spec hc ht) ?_
 rintro v I' M' - ⟨rfl,rfl,rfl⟩
 refine CondOb.mk (fun h=>?_) (fun h=>?_)
 ·refine⟨_,_,.refl,?_,rfl,rfl⟩
  rw[show right t=false by simpa using h]
  rfl
 ·refine⟨_,_,.refl,?_,rfl,rfl⟩
  rw[show right t=true by simpa using h]
  rfl
theorem kidsOk_lt {i:Nat}:∀ {ks:List Int} {s s':List Bool},kidsOk i ks s=some s'→∀ k∈ks,0≤k∧k < i
 | [],s,s',_,k,hk=>by cases hk
 | x::ks,s,s',h,k,hk=>by
  unfold kidsOk at h
  cases hb:(decide (x < 0) || (decide ((i:Int)≤x) || s.getD x.toNat false)) with
  | true=>rw[hb] at h;cases h
  | false=>
   rw[hb] at h
   simp only[Bool.or_eq_false_iff,decide_eq_false_iff_not] at hb
   rcases List.mem_cons.1 hk with rfl | hk
   ·omega
   ·exact kidsOk_lt h k hk
theorem nodesOk_kids:∀ {i:Nat} {ds:List Nd} {s s':List Bool},nodesOk i ds s=some s'→∀ j (h:j < ds.length),∀ k∈ds[j].kids,0≤k∧k < (i+j:Nat)
 | i,[],s,s',_,j,hj,_,_=>by cases hj
 | i,d::ds,s,s',h,j,hj,k,hk=>by
  unfold nodesOk at h
  cases hf:fits d d.kids.length with
  | false=>rw[hf] at h;cases h
  | true=>
   rw[hf] at h
   simp only[cond_true] at h
   cases ho:kidsOk i d.kids s with
   | none=>rw[ho] at h;cases h
   | some s1=>
    rw[ho] at h
    cases j with
    | zero=>exact kidsOk_lt ho k (by simpa using hk)
    | succ j=>
     have:=nodesOk_kids h j (by simpa using hj) k (by simpa using hk)
     omega
theorem right_kids {t:Tr} (h:right t=true):∀ j (hj:j < t.ns.length),∀ k∈t.ns[j].kids,0≤k∧k < j:=by
 unfold right at h
 simp only[Bool.and_eq_true] at h
 obtain⟨_,_,h⟩:=h
 split at h
 ·rename_i s hs
  intro j hj k hk
  have:=nodesOk_kids hs j hj k hk
  omega
 ·cases h
theorem right_root {t:Tr} (h:right t=true):0≤t.root∧t.root < t.ns.length:=by
 unfold right at h
 simp only[Bool.and_eq_true,decide_eq_true_eq] at h
 exact⟨h.1,h.2.1⟩
def kidMax (dp:List Int):List Int→Int→Int
 | [],m=>m
 | k::ks,m=>kidMax dp ks (max m (dp.getD k.toNat 0))
def depthsFrom:Nat→List Nd→List Int→List Int
 | _,[],dp=>dp
 | i,d::ds,dp=>depthsFrom (i+1) ds (dp.set i (kidMax dp d.kids 0+1))
def depth (t:Tr):Int:=bif right t then (depthsFrom 0 t.ns (List.replicate t.ns.length 0)).getD t.root.toNat 0 else 0
theorem Depth_spec {I:GH} (hc:HasCounts I) {t:Tr} (ht:t.ok I):Spec Tryz.prog 107 [t.val] I [] (fun v I' M'=>v=.int .i64 (depth t)∧I'=I∧M'=[]):=by
 refine spec_of_V [] TryzEOK Tryz.func107 rfl rfl rfl ?_
 intro B h0
 have hn:=ht.n
 have hcap:=ht.rs.cap
 refine CallOb.mk [] [] _ (.refl _) (Right_spec hc ht) ?_
 rintro v I' M' - ⟨rfl,rfl,rfl⟩
 refine CondOb.mk (fun h=>?_) (fun h=>?_)
 ·refine⟨_,_,.refl,?_,rfl,rfl⟩
  simp[depth,show right t=false by simpa using h]
 ·have hr:right t=true:=by simpa using h
  have hkids:=right_kids hr
  obtain⟨g1,g2⟩:=right_root hr
  refine MakeOb.mk t.n t.n rfl rfl (Nat.le_refl _) (by show 8 * t.n≤_;omega) (by omega) ?_
  refine AllocOb.mk fun b hb hbM=>?_
  refine LoopOb.inv (ι:=Nat×List Int)
   (fun x=>{ fl:=[(1,.ref 1 0),(3,.val (.slice (some ⟨b,0,none⟩) t.n t.n)),(16,.val (.slice t.a t.n t.c)),(17,.val (.int .i64 t.n)),(18,.val (.int .i64 x.1))],cl:=[(1,t.cells)],gi:=I',mi:=[intRow b x.2] })
   (fun x=>x.1≤t.n∧x.2.length=t.n∧(∀ j,0≤x.2.getD j 0∧x.2.getD j 0≤x.1)∧(∀ j,x.1≤j→x.2.getD j 0=0)∧depthsFrom 0 t.ns (List.replicate t.ns.length 0)=depthsFrom x.1 (t.ns.drop x.1) x.2) (fun x=>t.n - x.1) ?_ ?_
  ·have z:∀ j,(List.replicate t.n (0:Int)).getD j 0=0:=fun j=>by
    by_cases hj:j < t.n<;>simp[List.getD_eq_getElem?_getD,hj]
   refine⟨(0,List.replicate t.n 0),⟨by omega,by simp,fun j=>by rw[z];simp,fun j _=>z j,by simp[hn]⟩,?_,aF5,.cons rfl .nil⟩
   show Wk _ _ [⟨b,.cells (rowOf [Value.int .i64 0] (t.n * 1)).toArray 3 (0,0)⟩] _ [intRow b (List.replicate t.n 0)]
   rw[rowOf_one,Nat.mul_one]
   simp only[intRow,List.map_replicate]
   exact .refl
  ·rintro⟨i,dp⟩ ⟨hi1,hi2,hi3,hi4,hi5⟩
   simp only at hi1 hi2 hi3 hi4 hi5
   refine CondOb.mk (fun h=>?_) (fun h=>?_)
   ·have hlt:i < t.n:=by simpa using h
    have hlt':i < t.ns.length:=by omega
    obtain⟨ad,had,hrd⟩:=ht.rs.row Nd.cells_len hlt hlt'
    have hdk:=ht.ns t.ns[i] (List.getElem_mem hlt')
    have hkn:=hdk.kn
    have hdrop:t.ns.drop i=t.ns[i]::t.ns.drop (i+1):=List.drop_eq_getElem_cons hlt'
    refine IdxOb.mk ad i had rfl hlt ?_
    refine LoadOb.mk t.ns[i].cells (hrd _) ?_
    refine LoopOb.inv (ι:=Nat×Int)
     (fun x=>{ fl:=[(1,.ref 1 0),(3,.val (.slice (some ⟨b,0,none⟩) t.n t.n)),(4,.val (.int .i64 i)),(16,.val (.slice t.a t.n t.c)),(17,.val (.int .i64 t.n)),(18,.val (.int .i64 i)),(24,.val (.slice t.ns[i].ka t.ns[i].kn t.ns[i].kc)),(25,.val (.int .i64 t.ns[i].kn)),(26,.val (.int .i64 x.1))],cl:=[(1,t.cells)],gi:=I',mi:=[intRow b (dp.set i x.2)] })
     (fun x=>x.1≤t.ns[i].kn∧0≤x.2∧x.2≤i∧kidMax dp t.ns[i].kids 0=kidMax dp (t.ns[i].kids.drop x.1) x.2) (fun x=>t.ns[i].kn - x.1) ?_ ?_
    ·refine⟨(0,0),⟨by omega,by omega,by simp,rfl⟩,?_,aF9,.cons rfl .nil⟩
     have e:dp.set i 0=dp:=by
      have h1:=hi4 i (Nat.le_refl _)
      rw[List.getD_eq_getElem?_getD] at h1
      apply List.ext_getElem?
      intro j
      rw[List.getElem?_set]
      split
      ·rename_i e
       subst e
       have:i < dp.length:=by omega
       simp[this] at h1 ⊢
       exact h1.symm
      ·rfl
     simp only
     rw[e]
     exact .refl
    ·rintro⟨j,m⟩ ⟨hj1,hj2,hj3,hj4⟩
     simp only at hj1 hj2 hj3 hj4
     refine CondOb.mk (fun h=>?_) (fun h=>?_)
     ·have hjl:j < t.ns[i].kn:=by simpa using h
      have hjl':j < t.ns[i].kids.length:=by omega
      obtain⟨ak,hak,hrk⟩:=hdk.rs.one hjl hjl'
      have hkd:t.ns[i].kids.drop j=t.ns[i].kids[j]::t.ns[i].kids.drop (j+1):=List.drop_eq_getElem_cons hjl'
      have hk:=hkids i hlt' t.ns[i].kids[j] (List.getElem_mem hjl')
      have hk0:t.ns[i].kids[j]=((t.ns[i].kids[j].toNat:Nat):Int):=by omega
      have hkl:t.ns[i].kids[j].toNat < t.n:=by omega
      refine IdxOb.mk ak j hak rfl hjl ?_
      refine LoadOb.mk [.int .i64 t.ns[i].kids[j]] (hrk _) ?_
      refine CodeOb.draw TryzEOK rfl rfl rfl ?_
      have hil:i < (dp.set i m).length:=by simp;omega
      have hkl':t.ns[i].kids[j].toNat < (dp.set i m).length:=by simp;omega
      have hii:(dp.set i m)[i]=m:=by simp
      have hkk:(dp.set i m)[t.ns[i].kids[j].toNat]=dp.getD t.ns[i].kids[j].toNat 0:=by
       have hne:i≠t.ns[i].kids[j].toNat:=by omega
       have h9:t.ns[i].kids[j].toNat < dp.length:=by omega
       rw[List.getElem_set,if_neg hne]
       simp[List.getD_eq_getElem?_getD,h9]
      refine IdxOb.mk ⟨b,0,none⟩ i rfl rfl hlt ?_
      refine LoadOb.mk [.int .i64 m] (intRow_rd' hil hii (by simp)) ?_
      refine IdxOb.mk ⟨b,0,none⟩ t.ns[i].kids[j].toNat rfl hk0 hkl ?_
      refine LoadOb.mk [.int .i64 (dp.getD t.ns[i].kids[j].toNat 0)] (intRow_rd' hkl' hkk (by simp)) ?_
      refine IdxOb.mk ⟨b,0,none⟩ i rfl rfl hlt ?_
      refine StoreOb.add [] [] _ 3 rfl ?_ rfl ?_
      ·simp only[List.size_toArray,List.length_map]
       show 0+i * 1+1≤_
       simp
       omega
      have hwr:IntKind.i64.wrap ((j:Int)+1)=((j+1:Nat):Int):=by
       rw[wrap_i64 ⟨by omega,by have:=hdk.rs.cap;omega⟩]
       omega
      refine ArithOb.mk _ hwr ?_
      have h3k:=hi3 t.ns[i].kids[j].toNat
      refine⟨(j+1,max m (dp.getD t.ns[i].kids[j].toNat 0)),⟨⟨by omega,by simp only;omega,by simp only;omega,?_⟩,by show _ < _;simp only;omega⟩,?_,aF9,.cons rfl .nil⟩
      ·simp only
       rw[hj4,hkd]
       rfl
      ·have e:=intRow_set (dp.set i m) i hil (max m (dp.getD t.ns[i].kids[j].toNat 0))
       simp only[intRow]
       rw[List.set_set] at e
       rw[←e]
       simp only[Nat.zero_add,Nat.mul_one]
       exact .refl
     ·have hjl:¬ j < t.ns[i].kn:=by simpa using h
      have hje:t.ns[i].kids.drop j=[]:=List.drop_eq_nil_of_le (by omega)
      have hm:kidMax dp t.ns[i].kids 0=m:=by rw[hj4,hje];rfl
      have hil:i < (dp.set i m).length:=by simp;omega
      have hii:(dp.set i m)[i]=m:=by simp
      have hwm:IntKind.i64.wrap (m+1)=m+1:=wrap_i64 ⟨by omega,by omega⟩
      have hwr:IntKind.i64.wrap ((i:Int)+1)=((i+1:Nat):Int):=by
       rw[wrap_i64 ⟨by omega,by omega⟩]
       omega
      refine IdxOb.mk ⟨b,0,none⟩ i rfl rfl hlt ?_
      refine LoadOb.mk [.int .i64 m] (intRow_rd' hil hii (by simp)) ?_
      refine ArithOb.mk _ hwm ?_
      refine IdxOb.mk ⟨b,0,none⟩ i rfl rfl hlt ?_
      refine StoreOb.add [] [] _ 3 rfl ?_ rfl ?_
      ·simp only[List.size_toArray,List.length_map]
       show 0+i * 1+1≤_
       omega
      refine ArithOb.mk _ hwr ?_
      refine⟨(i+1,dp.set i (m+1)),⟨⟨by omega,by simp[hi2],?_,?_,?_⟩,by show _ < _;simp only;omega⟩,?_,aF5,.cons rfl .nil⟩
      ·intro q
       have h3q:=hi3 q
       simp only[List.getD_eq_getElem?_getD,List.getElem?_set] at h3q ⊢
       split
       ·rename_i e
        subst e
        have:i < dp.length:=by omega
        simp[this]
        omega
       ·omega
      ·intro q hq
       have h4q:=hi4 q (by omega)
       simp only at hq
       simp only[List.getD_eq_getElem?_getD,List.getElem?_set] at h4q ⊢
       rw[if_neg (by omega)]
       exact h4q
      ·simp only
       rw[hi5,hdrop]
       simp only[depthsFrom,hm]
      ·have e:=intRow_set (dp.set i m) i hil (m+1)
       simp only[intRow]
       rw[List.set_set] at e
       rw[←e]
       simp only[Nat.zero_add,Nat.mul_one]
       exact .refl
   ·have hge:¬ i < t.n:=by simpa using h
    have hdn:t.ns.drop i=[]:=List.drop_eq_nil_of_le (by omega)
    have hall:depthsFrom 0 t.ns (List.replicate t.ns.length 0)=dp:=by rw[hi5,hdn];rfl
    have hr0:t.root=((t.root.toNat:Nat):Int):=by omega
    have hrl:t.root.toNat < dp.length:=by omega
    refine IdxOb.mk ⟨b,0,none⟩ t.root.toNat rfl hr0 (by omega) ?_
    refine LoadOb.mk [.int .i64 dp[t.root.toNat]] (intRow_rd' hrl rfl (by simp)) ?_
    refine⟨_,_,.sub (List.nil_sublist _) .refl,?_,rfl,rfl⟩
    have:depth t=dp[t.root.toNat]:=by
     unfold depth
     rw[hr,hall]
     simp[List.getD_eq_getElem?_getD,hrl]
    rw[this]
    rfl
def mayTree (t:Tr):Bool:=decide (t.n≤1024) && (right t && decide (depth t≤32))
theorem TMay_spec {I:GH} (hc:HasCounts I) {t:Tr} (ht:t.ok I):Spec Tryz.prog 98 [t.val] I [] (fun v I' M'=>v=.bool (mayTree t)∧I'=I∧M'=[]):=by
 refine spec_of_V [] TryzEOK Tryz.func98 rfl rfl rfl ?_
 intro B h0
 refine GuardOb.mk (fun h1=>?_) (fun h1=>?_)
 ·refine CallOb.mk [] [] _ (.refl _) (Right_spec hc ht) ?_
  rintro v I' M' - ⟨rfl,rfl,rfl⟩
  refine GuardOb.mk (fun h2=>?_) (fun h2=>?_)
  ·refine CallOb.mk [] [] _ (.refl _) (Depth_spec hc ht) ?_
   rintro v I' M' - ⟨rfl,rfl,rfl⟩
   refine⟨_,_,.refl,?_,rfl,rfl⟩
   have h1':t.n≤1024:=by simp at h1;omega
   simp[mayTree,h1',h2]
  ·refine⟨_,_,.refl,?_,rfl,rfl⟩
   have h2':right t=false:=h2
   simp[mayTree,h2']
 ·refine⟨_,_,.refl,?_,rfl,rfl⟩
  have h1':¬ t.n≤1024:=by simp at h1;omega
  simp[mayTree,h1']
def tab {α:Type} (z:α) (f:Nd→(Int→α)→α):List Nd→List α→List α
 | [],acc=>acc
 | d::ds,acc=>tab z f ds (acc++[f d fun k=>acc.getD k.toNat z])
section
variable {α:Type} {z:α} {f:Nd→(Int→α)→α}
theorem tab_pre:∀ (ds:List Nd) (acc:List α) (j:Nat),j < acc.length→(tab z f ds acc)[j]?=acc[j]?
 | [],acc,j,_=>rfl
 | d::ds,acc,j,h=>by
  rw[tab,tab_pre ds _ j (by simp;omega),List.getElem?_append_left h]
theorem tab_at:∀ (ds:List Nd) (acc:List α) (j:Nat) (h:j < ds.length),
  (tab z f ds acc)[acc.length+j]?=some (f ds[j] fun k=>((tab z f ds acc).take (acc.length+j)).getD k.toNat z)
 | d::ds,acc,0,_=>by
  rw[tab,Nat.add_zero,tab_pre ds _ acc.length (by simp)]
  simp only[List.getElem?_concat_length,List.getElem_cons_zero,Option.some.injEq]
  congr 1
  funext k
  have:(tab z f ds (acc++[f d fun k=>acc.getD k.toNat z])).take acc.length=acc:=by
   apply List.ext_getElem?
   intro i
   rw[List.getElem?_take]
   split
   ·rename_i hi
    rw[tab_pre ds _ i (by simp;omega),List.getElem?_append_left hi]
   ·rw[List.getElem?_eq_none (by omega)]
  rw[this]
 | d::ds,acc,j+1,h=>by
  have:=tab_at ds (acc++[f d fun k=>acc.getD k.toNat z]) j (by simpa using h)
  rw[tab]
  simp only[List.length_append,List.length_cons,List.length_nil,Nat.zero_add,List.getElem_cons_succ] at this ⊢
  rw[show acc.length+(j+1)=acc.length+1+j from by omega]
  exact this
def tabOf (z:α) (f:Nd→(Int→α)→α) (ns:List Nd) (k:Int):α:=(tab z f ns []).getD k.toNat z
theorem tabOf_eq (hf:∀ d g g',(∀ k∈d.kids,g k=g' k)→f d g=f d g') {t:Tr} (hr:right t=true) {j:Nat} (hj:j < t.ns.length):tabOf z f t.ns j=f t.ns[j] (tabOf z f t.ns):=by
 have h:=tab_at (z:=z) (f:=f) t.ns [] j hj
 simp only[List.length_nil,Nat.zero_add] at h
 unfold tabOf
 rw[List.getD_eq_getElem?_getD,show ((j:Int).toNat)=j from by omega,h,Option.getD_some]
 refine hf _ _ _ fun k hk=>?_
 have:=right_kids hr j hj k hk
 rw[List.getD_eq_getElem?_getD,List.getD_eq_getElem?_getD,List.getElem?_take,if_pos (by omega)]
end
def free (g:Nat→Nat) (s:List Bool):Nat→Nat
 | 0=>0
 | i+1=>free g s i+(bif s.getD i false then 0 else g i)
theorem free_set_ge {g:Nat→Nat} {s:List Bool} {k:Nat}:∀ {i:Nat},i≤k→free g (s.set k true) i=free g s i
 | 0,_=>rfl
 | i+1,h=>by
  unfold free
  rw[free_set_ge (by omega)]
  simp only[List.getD_eq_getElem?_getD,List.getElem?_set]
  rw[if_neg (by omega)]
theorem free_set {g:Nat→Nat} {s:List Bool} {k:Nat} (hs:s.getD k false=false) (hl:k < s.length):∀ {i:Nat},k < i→free g (s.set k true) i+g k=free g s i
 | i+1,h=>by
  unfold free
  by_cases e:i=k
  ·subst e
   rw[free_set_ge (Nat.le_refl _),hs]
   simp[List.getD_eq_getElem?_getD,hl]
  ·have:=free_set (g:=g) hs hl (i:=i) (by omega)
   simp only[List.getD_eq_getElem?_getD,List.getElem?_set] at this ⊢
   rw[if_neg (by omega)]
   omega
def sumOf (g:Int→Nat) (ks:List Int):Nat:=(ks.map g).sum
theorem free_kids {g:Nat→Nat} {i:Nat}:∀ {ks:List Int} {s s':List Bool},kidsOk i ks s=some s'→i≤s.length→s'.length=s.length∧free g s' i+sumOf (fun k=>g k.toNat) ks=free g s i
 | [],s,s',h,_=>by
  simp only[kidsOk,Option.some.injEq] at h
  subst h
  exact⟨rfl,rfl⟩
 | x::ks,s,s',h,hl=>by
  unfold kidsOk at h
  cases hb:(decide (x < 0) || (decide ((i:Int)≤x) || s.getD x.toNat false)) with
  | true=>rw[hb] at h;cases h
  | false=>
   rw[hb] at h
   simp only[Bool.or_eq_false_iff,decide_eq_false_iff_not] at hb
   obtain⟨h1,h2,h3⟩:=hb
   obtain⟨e1,e2⟩:=free_kids (g:=g) h (by simpa using hl)
   have e3:=free_set (g:=g) h3 (by omega) (i:=i) (by omega)
   refine⟨by simpa using e1,?_⟩
   simp only[sumOf,List.map_cons,List.sum_cons] at e2 ⊢
   omega
theorem free_nodes {g:Nat→Nat} {c:Nd→Nat}:∀ {ds:List Nd} {i:Nat} {s s':List Bool},nodesOk i ds s=some s'→i+ds.length≤s.length→(∀ j (h:j < ds.length),g (i+j)≤c ds[j]+sumOf (fun k=>g k.toNat) ds[j].kids) →
  s'.length=s.length∧free g s' (i+ds.length)≤free g s i+(ds.map c).sum
 | [],i,s,s',h,_,_=>by
  simp only[nodesOk,Option.some.injEq] at h
  subst h
  simp
 | d::ds,i,s,s',h,hl,hg=>by
  unfold nodesOk at h
  cases hf:fits d d.kids.length with
  | false=>rw[hf] at h;cases h
  | true=>
   rw[hf] at h
   simp only[cond_true] at h
   cases ho:kidsOk i d.kids s with
   | none=>rw[ho] at h;cases h
   | some s1=>
    rw[ho] at h
    simp only[List.length_cons] at hl
    obtain⟨e1,e2⟩:=free_kids (g:=g) ho (by omega)
    obtain⟨e3,e4⟩:=free_nodes (g:=g) (c:=c) h (by omega) (fun j hj=>by
     have:=hg (j+1) (by simp;omega)
     simp only[List.getElem_cons_succ] at this
     rw[show i+1+j=i+(j+1) from by omega]
     exact this)
    have h0:=hg 0 (by simp)
    simp only[Nat.add_zero,List.getElem_cons_zero] at h0
    refine⟨by omega,?_⟩
    have e5:free g s1 (i+1)≤free g s1 i+g i:=by
     show free g s1 i+_≤_
     cases s1.getD i false<;>simp
    simp only[List.length_cons,List.map_cons,List.sum_cons]
    rw[show i+(ds.length+1)=i+1+ds.length from by omega]
    omega
theorem rootOk_root {root:Int}:∀ {s:List Bool} {i:Nat},rootOk root i s=true→∀ j,j < s.length→(i+j:Nat)=root→s.getD j false=false
 | b::s,i,h,j,hj,e=>by
  unfold rootOk at h
  cases hb:(b == decide ((i:Int)=root)) with
  | true=>rw[hb] at h;cases h
  | false=>
   rw[hb] at h
   cases j with
   | zero=>
    have:decide ((i:Int)=root)=true:=by simpa using e
    rw[this] at hb
    simpa using hb
   | succ j=>
    have:=rootOk_root (i:=i+1) h j (by simpa using hj) (by omega)
    simpa using this
theorem free_ge {g:Nat→Nat} {s:List Bool} {k:Nat} (hk:s.getD k false=false):∀ {n:Nat},k < n→g k≤free g s n
 | n+1,h=>by
  unfold free
  by_cases e:n=k
  ·subst e
   rw[hk]
   simp
  ·have:=free_ge (g:=g) hk (n:=n) (by omega)
   omega
theorem right_sum {t:Tr} (hr:right t=true) {g:Int→Nat} {c:Nd→Nat} (h:∀ j (hj:j < t.ns.length),g j≤c t.ns[j]+sumOf g t.ns[j].kids):g t.root≤(t.ns.map c).sum:=by
 have hroot:=right_root hr
 have hk:=right_kids hr
 unfold right at hr
 simp only[Bool.and_eq_true] at hr
 obtain⟨_,_,hr⟩:=hr
 split at hr
 ·rename_i s hs
  obtain⟨e1,e2⟩:=free_nodes (g:=fun k=>g k) (c:=c) hs (by simp) (fun j hj=>by
   refine Nat.le_trans (by rw[Nat.zero_add];exact h j hj) (Nat.le_of_eq ?_)
   congr 1
   unfold sumOf
   congr 1
   refine List.map_congr_left fun k hkk=>?_
   have:=hk j hj k hkk
   rw[Int.toNat_of_nonneg this.1])
  simp only[List.length_replicate,Nat.zero_add] at e1 e2
  have hz:=rootOk_root hr t.root.toNat (by omega) (by omega)
  have:=free_ge (g:=fun k=>g k) hz (n:=t.ns.length) (by omega)
  rw[Int.toNat_of_nonneg hroot.1] at this
  simp only[free] at e2
  omega
 ·cases hr
theorem right_fits {t:Tr} (hr:right t=true) {j:Nat} (hj:j < t.ns.length):fits t.ns[j] t.ns[j].kids.length=true:=by
 have aux:∀ {ds:List Nd} {i:Nat} {s s':List Bool},nodesOk i ds s=some s'→∀ j (h:j < ds.length),fits ds[j] ds[j].kids.length=true:=by
  intro ds
  induction ds with
  | nil=>intro i s s' _ j hj;cases hj
  | cons d ds ih=>
   intro i s s' h j hj
   unfold nodesOk at h
   cases hf:fits d d.kids.length with
   | false=>rw[hf] at h;cases h
   | true=>
    rw[hf] at h
    simp only[cond_true] at h
    cases ho:kidsOk i d.kids s with
    | none=>rw[ho] at h;cases h
    | some s1=>
     rw[ho] at h
     cases j with
     | zero=>exact hf
     | succ j=>exact ih h j (by simpa using hj)
 unfold right at hr
 simp only[Bool.and_eq_true] at hr
 obtain⟨_,_,hr⟩:=hr
 split at hr
 ·rename_i s hs
  exact aux hs j hj
 ·cases hr
theorem run_app0 {P:Program} {w:World} (t u ty e:Nat) (i:TypeInfo) (ht:P.underlying t=some (.slice e)) {du:TypeDesc} (hu:P.underlying u=some du) (hdu:∀ k,du≠.int k) (hi:P.info? e=some i)
  {sa:Option Addr} {n c:Nat} (hnc:n≤c) {xv:Value} (h0:(∃ b c,xv=.slice b 0 c)∨xv=.string .empty):(Builtin.append_ #[t,u] ty #[.slice sa n c,xv]).run P w=.ok (.slice sa n c) w:=by
 have hdu':(match du with | .int _=>true | _=>false)=false:=by cases du<;>first | rfl | exact(hdu _ rfl).elim
 rcases h0 with ⟨b,c',rfl⟩ | rfl
 ·cases b<;>cases sa<;>simp[Builtin.append_,run_underlying ht,run_underlying hu,sizeOf,typeInfo,hi,hdu',Builtin.lenOf,hnc,Builtin.firstCells,Builtin.zeroCells,loadCells,loadCellsFrom,storeCells]
 ·cases sa<;>simp[Builtin.append_,run_underlying ht,run_underlying hu,sizeOf,typeInfo,hi,hdu',Builtin.lenOf,hnc,Builtin.firstCells,loadCells,storeCells]
section
variable {X:Ctx} {β:Nat→Nat} {a:Act} {w:World} {F:Fr} {C:Bx} {I:GH} {M:List Blk} {o:Oper} {K:KS}
theorem OtherOb.bin {op:BinOp} {x y:Operand} {t t':Nat} (ho:o.op=.binOp op t x y t') (hd:∀ d,o.dst=some d→d < X.n) {p q v:Value} (hx:ev F x=.val p) (hy:ev F y=.val q)
  (hg:∀ w,(eqGuard op t x y p q).run X.P w=.ok () w) (hr:∀ w,Holds I M w→(binOp op t p q).run X.P w=.ok v w) (h:K (put o.dst (.val v) F) C I M):OtherOb X o F C I M K:=by
 refine⟨fun ac w Q ⟨β,hR⟩=>?_⟩
 have ex:=eval_of_ev hR.fr hx
 have ey:=eval_of_ev hR.fr hy
 refine done_vv hR hd (by rw[ho];simp) ?_ h
 unfold execOp
 simp only[ho,Sem.run_bind,ex,ey,hg,Result.andThen_ok,hr w hR.holds,Sem.run_pure]
theorem OtherOb.conv {x:Operand} {s t:Nat} (ho:o.op=.convert s t x) (hd:∀ d,o.dst=some d→d < X.n) {p v:Value} (hx:ev F x=.val p)
  (hr:∀ w,Holds I M w→(convert s t p).run X.P w=.ok v w) (h:K (put o.dst (.val v) F) C I M):OtherOb X o F C I M K:=by
 refine⟨fun ac w Q ⟨β,hR⟩=>?_⟩
 have ex:=eval_of_ev hR.fr hx
 refine done_vv hR hd (by rw[ho];simp) ?_ h
 unfold execOp
 simp only[ho,Sem.run_bind,ex,Result.andThen_ok,hr w hR.holds,Sem.run_pure]
theorem OtherOb.un {op:UnOp} {x:Operand} {t:Nat} (ho:o.op=.unOp op t x) (hd:∀ d,o.dst=some d→d < X.n) {p v:Value} (hx:ev F x=.val p)
  (hr:∀ w,Holds I M w→(Op.unary op p).run X.P w=.ok v w) (h:K (put o.dst (.val v) F) C I M):OtherOb X o F C I M K:=by
 refine⟨fun ac w Q ⟨β,hR⟩=>?_⟩
 have ex:=eval_of_ev hR.fr hx
 refine done_vv hR hd (by rw[ho];simp) ?_ h
 unfold execOp
 simp only[ho,Sem.run_bind,ex,Result.andThen_ok,hr w hR.holds,Sem.run_pure]
def notV (x:Int):Int:=IntKind.u64.wrap (BitVec.ofInt 64 IntKind.u64.max ^^^ BitVec.ofInt 64 x).toNat
theorem OtherOb.notU {x:Operand} {t:Nat} (ho:o.op=.unOp .xor t x) (hd:∀ d,o.dst=some d→d < X.n) {n:Int} (hx:ev F x=.val (.int .u64 n)) (h:K (put o.dst (.val (.int .u64 (notV n))) F) C I M):OtherOb X o F C I M K:=
 .un ho hd hx (fun w _=>rfl) h
theorem OtherOb.append0 (hE:EOK X.P X.E) {s x:Operand} {t u:Nat} (ho:o.op=.call { callee:=.builtin .append,args:=#[s,x],argTypes:=#[t,u] }) (hd:∀ d,o.dst=some d→d < X.n)
  {e:Nat} {ti tu ei:TI} (ht:X.E t=some ti) (hts:ti.sh=.slice e) (hu:X.E u=some tu) (hus:∀ k,tu.sh≠.int k) (he:X.E e=some ei)
  {sa:Option Addr} {n c:Nat} (hs:ev F s=.val (.slice sa n c)) (hnc:n≤c)
  {xv:Value} (hx:ev F x=.val xv) (h0:(∃ b c,xv=.slice b 0 c)∨xv=.string .empty)
  (h:K (put o.dst (.val (.slice sa n c)) F) C I M):OtherOb X o F C I M K:=by
 refine⟨fun a w Q ⟨β,hR⟩=>?_⟩
 obtain⟨inf,z,hi,hi1,hi2,hi3,hi4⟩:=(hE _ _ he).inf
 obtain⟨d,hud,hdd⟩:=(hE _ _ hu).und
 obtain⟨dt,htd,hdt⟩:=(hE _ _ ht).und
 have hdt':dt=.slice e:=by
  rw[hts] at hdt
  cases dt<;>simp_all[shOf]
 subst hdt'
 have hrun:=run_app0 (w:=w) t u o.type e inf htd hud (fun k e'=>hus k (by rw[←hdd,e'];rfl)) hi (sa:=sa) hnc h0
 have es:=eval_of_ev hR.fr hs
 have ex:=eval_of_ev hR.fr hx
 refine done_vv hR hd (by rw[ho];simp) ?_ h
 unfold execOp
 simp only[ho,resolve,invoke,builtin,Sem.run_bind,Sem.run_pure,Result.andThen_ok,List.map_toArray,List.map_cons,List.map_nil,es,ex,hrun]
theorem run_eqGuard_pointer (op:BinOp) (t:Nat) (x y:Operand) (p q:Option Addr) (P:Program) (w:World):(eqGuard op t x y (.pointer p) (.pointer q)).run P w=.ok () w:=by
 unfold eqGuard
 cases op<;>rfl
theorem OtherOb.eqNil (hE:EOK X.P X.E) {x y:Operand} {t t' e:Nat} (ho:o.op=.binOp .eql t x y t') (hd:∀ d,o.dst=some d→d < X.n) {ti:TI} (ht:X.E t=some ti) (hts:ti.sh=.pointer e)
  {p:Option Addr} (hx:ev F x=.val (.pointer p)) (hy:ev F y=.val (.pointer none)) (h:K (put o.dst (.val (.bool p.isNone)) F) C I M):OtherOb X o F C I M K:=by
 obtain⟨d,hud,hdd⟩:=(hE _ _ ht).und
 have h1:d=.pointer e:=by rw[hts] at hdd;cases d<;>simp_all[shOf]
 subst h1
 exact .bin ho hd hx hy (fun w=>run_eqGuard_pointer ..) (fun w _=>run_eql_pointer_nil w t p (by simp[Program.pointee,hud])) h
theorem OtherOb.neSame (hE:EOK X.P X.E) {x y:Operand} {t t' e:Nat} (ho:o.op=.binOp .neq t x y t') (hd:∀ d,o.dst=some d→d < X.n) {ti te:TI} (ht:X.E t=some ti) (hts:ti.sh=.pointer e) (he:X.E e=some te)
  {p:Addr} (hx:ev F x=.val (.pointer (some p))) (hy:ev F y=.val (.pointer (some p))) (h:K (put o.dst (.val (.bool false)) F) C I M):OtherOb X o F C I M K:=by
 obtain⟨d,hud,hdd⟩:=(hE _ _ ht).und
 have h1:d=.pointer e:=by rw[hts] at hdd;cases d<;>simp_all[shOf]
 subst h1
 obtain⟨inf,z,hi,_⟩:=(hE _ _ he).inf
 exact .bin ho hd hx hy (fun w=>run_eqGuard_pointer ..) (fun w _=>Lib.run_neq_ptr_same w p hud hi) h
end
theorem specX_same {P:Program} {f:Nat} {fn:Func} {e:Array Value→Sem Value} {args:List Value} {v:Value} {I:GH} {M:List Blk} (hf:P.funcs[f]?=some fn) (hname:(fn.name == "runtime.NumGoroutine")=false)
  (hb:fn.body.isNone=true) (hn:Extern.findNext fn=none) (he:Extern.find fn=some e) (hr:∀ w,(e args.toArray).run P w=.ok v w):Spec P f args I M fun r I' M'=>r=v∧I'=I∧M'=M:=by
 refine .inr fun w hw=>⟨v,w,I,M,?_,⟨rfl,rfl,rfl⟩,hw,fun _ _ h=>h,fun _ _ h=>.inl h,fun x hx=>.inl ⟨x,hx,rfl⟩,fun _ _ _=>rfl,.refl _,Nat.le_refl _⟩
 rw[run_callFunc_extern hf hname hb hn he,hr]
 rfl
def bytesV (l:List UInt8):List Value:=l.map fun b=>.int .u8 b.toNat
structure Bd where
 used:Bool
 os:OS
 bs:List UInt8
def Bd.blk (b:Nat) (x:Bd):Blk:=⟨b,.cells #[.pointer (bif x.used then some ⟨b,0,none⟩ else none),x.os.val] 168 (0,0)⟩
def Bd.M (b:Nat) (x:Bd):List Blk:=x.blk b::x.os.blk 5
structure Bd.ok (x:Bd):Prop where
 os:x.os.ok 1 (bytesV x.bs)
 ne:∀ g,x.os.a=some g→x.bs≠[]
def Bd.new:Bd:=⟨false,⟨none,0,0,[]⟩,[]⟩
theorem Bd.new_ok:Bd.new.ok:=⟨⟨rfl,fun _=>⟨rfl,rfl⟩,fun g h=>by cases h⟩,fun g h=>by cases h⟩
theorem Bd.ok.n {x:Bd} (h:x.ok):x.os.n=x.bs.length:=by
 have:=h.os.len
 simp[bytesV] at this
 omega
def ptr (b:Nat):Value:=.pointer (some ⟨b,0,none⟩)
theorem blk_rd {I:GH} {M:List Blk} {b T:Nat} {cs:List Value} (hM:(⟨b,.cells cs.toArray T (0,0)⟩:Blk)∈M) {k n:Nat} (h:k+n≤cs.length):Rd I M ((⟨b,0,none⟩:Addr).add k) n ((cs.drop k).take n):=by
 rw[addr_add _ rfl]
 refine⟨rfl,_,T,(0,0),.inr ⟨_,hM,rfl,rfl⟩,?_,?_⟩
 ·simp
 ·simp
  omega
theorem NoEscape_spec {I:GH} {M:List Blk} (v:Value):Spec Tryz.prog 129 [v] I M fun r I' M'=>r=v∧I'=I∧M'=M:=
 specX_same Tryz.func129 (by kernel_rfl) (by kernel_rfl) (by kernel_rfl) (e:=Extern.AbiNoEscape.same) (by kernel_rfl) (fun w=>Lib.run_noEscape w _)
theorem IndexByteString_spec {I:GH} {M:List Blk} (s:ByteArray) (c:UInt8):Spec Tryz.prog 147 [.string s,.int .u8 c.toNat] I M fun r I' M'=>r=.int .i64 (Lib.indexByte s.data.toList c)∧I'=I∧M'=M:=
 specX_same Tryz.func147 (by kernel_rfl) (by kernel_rfl) (by kernel_rfl) (e:=Extern.BytealgIndexByte.indexByte) (by kernel_rfl) (fun w=>by
  have:=Lib.run_indexByteString (P:=Tryz.prog) s (c.toNat:Int) w
  simpa using this)
theorem IndexByteL_spec {I:GH} (s:ByteArray) (c:UInt8):Spec Tryz.prog 143 [.string s,.int .u8 c.toNat] I [] fun r I' M'=>r=.int .i64 (Lib.indexByte s.data.toList c)∧I'=I∧M'=[]:=by
 refine spec_of_V [] TryzEOK Tryz.func143 rfl rfl rfl ?_
 intro B h0
 refine CallOb.mk [] [] _ (.refl _) (IndexByteString_spec s c) ?_
 rintro v I' M' - ⟨rfl,rfl,rfl⟩
 exact⟨_,_,.refl,rfl,rfl,rfl⟩
theorem IndexByte_spec {I:GH} (s:ByteArray) (c:UInt8):Spec Tryz.prog 139 [.string s,.int .u8 c.toNat] I [] fun r I' M'=>r=.int .i64 (Lib.indexByte s.data.toList c)∧I'=I∧M'=[]:=by
 refine spec_of_V [] TryzEOK Tryz.func139 rfl rfl rfl ?_
 intro B h0
 refine CallOb.mk [] [] _ (.refl _) (IndexByteL_spec s c) ?_
 rintro v I' M' - ⟨rfl,rfl,rfl⟩
 exact⟨_,_,.refl,rfl,rfl,rfl⟩
theorem shape_of {I:GH} {M:List Blk} {w:World} (h:Holds I M w) {b T:Nat} {cs:Array Value} {fr:Nat×Nat} (hM:(⟨b,.cells cs T fr⟩:Blk)∈M):w.shape? b=some (T,cs.size):=by
 have:=h.m _ hM
 simp only at this
 simp[World.shape?,this]
theorem copyCheck_spec {I:GH} (b:Nat) (x:Bd):Spec Tryz.prog 121 [ptr b] I [x.blk b] fun r I' M'=>r=.tuple #[]∧I'=I∧M'=[{ x with used:=true:Bd }.blk b]:=by
 obtain⟨used,os,bs⟩:=x
 obtain⟨inf,z,hi,hi1,_⟩:=(TryzEOK 168 _ rfl).inf
 refine spec_of_V [] TryzEOK Tryz.func121 rfl rfl rfl ?_
 intro B h0
 cases used with
 | false=>
  refine LoadOb.mk [.pointer none] (blk_rd (cs:=[.pointer none,os.val]) (k:=0) (n:=1) (T:=168) (List.mem_singleton.2 rfl) (by simp)) ?_
  refine .other (OtherOb.eqNil TryzEOK rfl (by simp) rfl rfl rfl rfl ?_)
  refine CondOb.mk (fun _=>?_) (fun h=>by cases h)
  refine OtherOb.conv rfl (by simp) rfl (fun w hw=>Lib.run_to_unsafe (t:=168) (e:=168) (cells:=2) w ⟨b,0,none⟩ (by kernel_rfl) (by kernel_rfl) (j:=inf) hi (by rw[hi1];decide) (shape_of (cs:=#[.pointer none,os.val]) hw (List.mem_singleton.2 rfl)) (by simp)) ?_
  refine CallOb.mk [Bd.blk b ⟨false,os,bs⟩] [] _ (by simp) (NoEscape_spec _) ?_
  rintro v I' M' - ⟨rfl,rfl,rfl⟩
  refine OtherOb.conv rfl (by simp) rfl (fun w hw=>Lib.run_from_unsafe (u:=168) (e:=168) (cells:=2) w ⟨b,0,none⟩ (by kernel_rfl) (by kernel_rfl) (j:=inf) hi (shape_of (cs:=#[.pointer none,os.val]) hw (List.mem_singleton.2 rfl)) (by kernel_rfl)) ?_
  refine StoreOb.add [] [] _ _ rfl (Nat.le_of_ble_eq_true rfl) rfl ?_
  exact⟨_,_,.refl,rfl,rfl,rfl⟩
 | true=>
  refine LoadOb.mk [ptr b] (blk_rd (cs:=[ptr b,os.val]) (k:=0) (n:=1) (T:=168) (List.mem_singleton.2 rfl) (by simp)) ?_
  refine .other (OtherOb.eqNil TryzEOK rfl (by simp) rfl rfl rfl rfl ?_)
  refine CondOb.mk (fun h=>by cases h) (fun _=>?_)
  refine LoadOb.mk [ptr b] (blk_rd (cs:=[ptr b,os.val]) (k:=0) (n:=1) (T:=168) (List.mem_singleton.2 rfl) (by simp)) ?_
  refine .other (OtherOb.neSame TryzEOK rfl (by simp) rfl rfl rfl rfl rfl ?_)
  refine CondOb.mk (fun h=>by cases h) (fun _=>?_)
  exact⟨_,_,.refl,rfl,rfl,rfl⟩
theorem WriteByte_spec {I:GH} (b:Nat) {x:Bd} (hx:x.ok) (c:UInt8) (hl:x.bs.length < 70368744177664):Spec Tryz.prog 125 [ptr b,.int .u8 c.toNat] I (x.M b)
  fun r I' M'=>r=.nilIface∧I'=I∧∃ y:Bd,y.ok∧y.bs=x.bs++[c]∧M'=y.M b:=by
 refine spec_of_V [] TryzEOK Tryz.func125 rfl rfl rfl ?_
 intro B h0
 have hn:=hx.n
 refine CallOb.mk [x.blk b] (x.os.blk 5) _ (.refl _) (copyCheck_spec b x) ?_
 rintro v I' M' - ⟨rfl,rfl,rfl⟩
 refine LoadOb.mk [x.os.val] (blk_rd (cs:=[ptr b,x.os.val]) (k:=1) (n:=1) (T:=168) (.head _) (by simp)) ?_
 refine AllocOb.mk fun g hg hgM=>?_
 refine OtherOb.append TryzEOK rfl (by simp) (e:=5) rfl rfl rfl x.os (xs:=bytesV x.bs) hx.os rfl (m:=1) rfl (news:=[.int .u8 c.toNat]) (by decide) ?_ rfl (Mr:=[⟨g,.cells #[.int .u8 c.toNat] 5 (0,0)⟩,{ x with used:=true:Bd }.blk b]) ?_ ?_ ?_ ?_
 ·exact blk_rd (cs:=[.int .u8 c.toNat]) (k:=0) (n:=1) (T:=5) (.head _) (by simp)
 ·exact List.perm_append_comm (l₁:=[_,_]) (l₂:=x.os.blk 5)
 ·simp only[maxLen];omega
 ·show (x.os.n+1) * 1≤_
  omega
 ·intro g' c' cur h1 h2 h3 h4
  refine StoreOb.add [⟨g',.cells cur.toArray 5 (0,0)⟩,⟨g,.cells #[.int .u8 c.toNat] 5 (0,0)⟩] [] _ _ rfl (Nat.le_of_ble_eq_true rfl) rfl ?_
  refine⟨_,_,.perm (M1:=[⟨g,.cells #[.int .u8 c.toNat] 5 (0,0)⟩]++Bd.M b ⟨true,⟨some g',x.os.n+1,c',cur⟩,x.bs++[c]⟩) ?_ (.sub (List.sublist_append_right _ _) .refl),rfl,rfl,_,?_,rfl,rfl⟩
  ·exact List.perm_append_comm (l₁:=[_]) (l₂:=[_,_])
  ·refine⟨⟨?_,fun h=>by simp at h,?_⟩,by simp⟩
   ·simp[bytesV,hn]
   ·intro g2 hg2
    refine⟨h1,h2,h3,?_⟩
    rw[h4]
    simp[bytesV]
theorem WriteString_spec {I:GH} (b:Nat) {x:Bd} (hx:x.ok) (s:ByteArray) (hl:x.bs.length+s.size≤70368744177664):Spec Tryz.prog 115 [ptr b,.string s] I (x.M b)
  fun r I' M'=>r=.tuple #[.int .i64 s.size,.nilIface]∧I'=I∧∃ y:Bd,y.ok∧y.bs=x.bs++s.data.toList∧M'=y.M b:=by
 refine spec_of_V [] TryzEOK Tryz.func115 rfl rfl rfl ?_
 intro B h0
 have hn:=hx.n
 refine CallOb.mk [x.blk b] (x.os.blk 5) _ (.refl _) (copyCheck_spec b x) ?_
 rintro v I' M' - ⟨rfl,rfl,rfl⟩
 refine LoadOb.mk [x.os.val] (blk_rd (cs:=[ptr b,x.os.val]) (k:=1) (n:=1) (T:=168) (.head _) (by simp)) ?_
 by_cases hs:s.size=0
 ·have he:s=.empty:=ByteArray.ext (Array.eq_empty_of_size_eq_zero hs)
  subst he
  have hnc:x.os.n≤x.os.c:=by
   cases ha:x.os.a with
   | none=>obtain⟨h1,h2⟩:=hx.os.nil ha;omega
   | some g=>exact(hx.os.cap g ha).2.1
  refine OtherOb.append0 TryzEOK rfl (by simp) (e:=5) rfl rfl rfl (by simp) rfl rfl hnc rfl (.inr rfl) ?_
  refine StoreOb.add [] (x.os.blk 5) _ _ rfl (Nat.le_of_ble_eq_true rfl) rfl ?_
  exact⟨_,_,.refl,rfl,rfl,⟨true,x.os,x.bs⟩,⟨hx.os,hx.ne⟩,by simp,rfl⟩
 ·refine OtherOb.appendS TryzEOK rfl (by simp) (e:=5) rfl rfl rfl rfl rfl rfl x.os (xs:=bytesV x.bs) hx.os rfl rfl (by omega) (Mr:=[{ x with used:=true:Bd }.blk b]) (List.perm_append_comm (l₁:=[_])) ?_ ?_ ?_
  ·simp only[maxLen];omega
  ·show (x.os.n+s.size) * 1≤_
   omega
  ·intro g' c' cur h1 h2 h3 h4
   refine StoreOb.add [⟨g',.cells cur.toArray 5 (0,0)⟩] [] _ _ rfl (Nat.le_of_ble_eq_true rfl) rfl ?_
   refine⟨_,_,.perm (M1:=Bd.M b ⟨true,⟨some g',x.os.n+s.size,c',cur⟩,x.bs++s.data.toList⟩) ?_ .refl,rfl,rfl,_,?_,rfl,rfl⟩
   ·exact List.perm_append_comm (l₁:=[_]) (l₂:=[_])
   ·refine⟨⟨?_,fun h=>by simp at h,?_⟩,fun g _ h=>?_⟩
    ·simp[bytesV,hn]
    ·intro g2 hg2
     refine⟨h1,h2,h3,?_⟩
     rw[h4]
     simp[bytesV,byteVals]
    ·have h5:=congrArg List.length (List.append_eq_nil_iff.1 h).2
     exact hs (by simpa using h5)
theorem BString_spec {I:GH} (b:Nat) {x:Bd} (hx:x.ok) (hl:x.bs.length≤70368744177664):Spec Tryz.prog 116 [ptr b] I (x.M b)
  fun r I' M'=>r=.string ⟨x.bs.toArray⟩∧I'=I∧M'=[]:=by
 refine spec_of_V [] TryzEOK Tryz.func116 rfl rfl rfl ?_
 intro B h0
 have hn:=hx.n
 obtain⟨used,⟨a,n,c,cur⟩,bs⟩:=x
 simp only at hn hl
 subst hn
 refine CodeOb.draw TryzEOK rfl rfl rfl ?_
 cases a with
 | none=>
  obtain⟨h1,h2⟩:=hx.os.nil rfl
  simp only at h1 h2
  have hbs:bs=[]:=List.eq_nil_of_length_eq_zero h1
  subst hbs
  subst h2
  refine LoadOb.mk [.slice none 0 0] (blk_rd (cs:=[.pointer (bif used then some ⟨b,0,none⟩ else none),.slice none 0 0]) (k:=1) (n:=1) (T:=168) (.head _) (by simp)) ?_
  refine LoadOb.mk [.slice none 0 0] (blk_rd (cs:=[.pointer (bif used then some ⟨b,0,none⟩ else none),.slice none 0 0]) (k:=1) (n:=1) (T:=168) (.head _) (by simp)) ?_
  refine OtherOb.ustring0 rfl (by simp) rfl rfl ?_
  exact⟨_,_,.sub (List.nil_sublist _) .refl,rfl,rfl,rfl⟩
 | some g=>
  obtain⟨h1,h2,h3,h4⟩:=hx.os.cap g rfl
  have hne:=hx.ne g rfl
  simp only at h1 h2 h3 h4 hne
  have hpos:bs.length≠0:=fun h=>hne (List.eq_nil_of_length_eq_zero h)
  refine LoadOb.mk [.slice (some ⟨g,0,none⟩) bs.length c] (blk_rd (cs:=[.pointer (bif used then some ⟨b,0,none⟩ else none),.slice (some ⟨g,0,none⟩) bs.length c]) (k:=1) (n:=1) (T:=168) (.head _) (by simp)) ?_
  refine DivOb.mk (by omega) ?_
  refine LoadOb.mk [.slice (some ⟨g,0,none⟩) bs.length c] (blk_rd (cs:=[.pointer (bif used then some ⟨b,0,none⟩ else none),.slice (some ⟨g,0,none⟩) bs.length c]) (k:=1) (n:=1) (T:=168) (.head _) (by simp)) ?_
  refine OtherOb.ustring TryzEOK rfl (by simp) (e:=5) rfl rfl rfl rfl (l:=bs) (g:=g) (cs:=cur.toArray) rfl rfl hne (by omega) (Mr:=[Bd.blk b ⟨used,⟨some g,bs.length,c,cur⟩,bs⟩]) (List.perm_append_comm (l₁:=[_]) (l₂:=[_])) ?_ ?_
  ·rw[Nat.mul_one] at h4
   exact h4
  ·exact⟨_,_,.sub (List.nil_sublist _) .refl,rfl,rfl,rfl⟩
def plainB (c:UInt8) (left:ByteArray):Bool:=decide ((32:Int)≤c.toNat) && (decide ((c.toNat:Int)≤126) && (!decide ((c.toNat:Int)=92) && decide (Lib.indexByte left.data.toList c < 0)))
theorem plain_spec {I:GH} (c:UInt8) (left:ByteArray):Spec Tryz.prog 138 [.int .u8 c.toNat,.string left] I [] fun r I' M'=>r=.bool (plainB c left)∧I'=I∧M'=[]:=by
 refine spec_of_V [] TryzEOK Tryz.func138 rfl rfl rfl ?_
 intro B h0
 refine GuardOb.mk (fun h1=>?_) (fun h1=>?_)
 ·refine GuardOb.mk (fun h2=>?_) (fun h2=>?_)
  ·refine GuardOb.mk (fun h3=>?_) (fun h3=>?_)
   ·refine CallOb.mk [] [] _ (.refl _) (IndexByte_spec left c) ?_
    rintro v I' M' - ⟨rfl,rfl,rfl⟩
    refine⟨_,_,.refl,?_,rfl,rfl⟩
    simp only[plainB,h1,h2,h3,Bool.true_and]
   ·refine⟨_,_,.refl,?_,rfl,rfl⟩
    simp only[plainB,h1,h2,h3,Bool.true_and,Bool.not_true,Bool.false_and]
  ·refine⟨_,_,.refl,?_,rfl,rfl⟩
   simp only[plainB,h1,h2,Bool.true_and,Bool.not_true,Bool.false_and]
 ·refine⟨_,_,.refl,?_,rfl,rfl⟩
  simp only[plainB,h1,Bool.true_and,Bool.not_true,Bool.false_and]
def hexL:ByteArray:=⟨#[48,49,50,51,52,53,54,55,56,57,97,98,99,100,101,102]⟩
def hexd (n:Nat):UInt8:=hexL.data.toList.getD n 0
def putB (c:UInt8) (left:ByteArray):List UInt8:=
 bif plainB c left then [c] else
 bif decide ((c.toNat:Int)=10) then [92,110] else
 bif decide ((c.toNat:Int)=13) then [92,114] else
 bif decide ((c.toNat:Int)=9) then [92,116] else
 bif decide ((c.toNat:Int)=92) || decide ((0:Int)≤Lib.indexByte left.data.toList c) then [92,c] else [92,120,hexd (c.toNat / 16),hexd (c.toNat % 16)]
theorem putB_len (c:UInt8) (left:ByteArray):(putB c left).length≤4:=by
 unfold putB
 cases plainB c left<;>cases decide ((c.toNat:Int)=10)<;>cases decide ((c.toNat:Int)=13)<;>cases decide ((c.toNat:Int)=9)<;>cases (decide ((c.toNat:Int)=92) || decide ((0:Int)≤Lib.indexByte left.data.toList c))<;>simp
theorem and15:∀ n:Nat,n < 256→IntKind.u8.wrap ((BitVec.ofInt 8 (n:Int)) &&& (BitVec.ofInt 8 15)).toNat=((n % 16:Nat):Int):=by decide +kernel
theorem hex_at {j:Nat} (hj:j < hexL.size):hexL[j]=hexd j:=by
 have:j < hexL.data.toList.length:=hj
 simp only[hexd,List.getD_eq_getElem?_getD,List.getElem?_eq_getElem this,Option.getD_some]
 rfl
set_option maxHeartbeats 2000000 in
theorem put_spec {I:GH} (b:Nat) {x:Bd} (hx:x.ok) (c:UInt8) (left:ByteArray) (hl:x.bs.length≤70368744177600):Spec Tryz.prog 134 [ptr b,.int .u8 c.toNat,.string left] I (x.M b)
  fun r I' M'=>I'=I∧∃ y:Bd,y.ok∧y.bs=x.bs++putB c left∧M'=y.M b:=by
 refine spec_of_V [] TryzEOK Tryz.func134 rfl rfl rfl ?_
 intro B h0
 refine CallOb.mk [] (x.M b) _ (.refl _) (plain_spec c left) ?_
 rintro v I' M' - ⟨rfl,rfl,rfl⟩
 refine CondOb.mk (fun h1=>?_) (fun h1=>?_)
 ·refine CallOb.mk (x.M b) [] _ (by simp) (WriteByte_spec b hx c (by omega)) ?_
  rintro v I' M' - ⟨rfl,rfl,y,hy,hyb,rfl⟩
  refine⟨_,_,.refl,rfl,y,hy,?_,by simp⟩
  rw[hyb,putB,h1]
  rfl
 ·refine CondOb.mk (fun h2=>?_) (fun h2=>?_)
  ·refine CallOb.mk (x.M b) [] _ (by simp) (WriteString_spec b hx _ (by show _+2≤_;omega)) ?_
   rintro v I' M' - ⟨rfl,rfl,y,hy,hyb,rfl⟩
   refine⟨_,_,.refl,rfl,y,hy,?_,by simp⟩
   rw[hyb,putB,h1,h2]
   rfl
  ·refine CondOb.mk (fun h3=>?_) (fun h3=>?_)
   ·refine CallOb.mk (x.M b) [] _ (by simp) (WriteString_spec b hx _ (by show _+2≤_;omega)) ?_
    rintro v I' M' - ⟨rfl,rfl,y,hy,hyb,rfl⟩
    refine⟨_,_,.refl,rfl,y,hy,?_,by simp⟩
    rw[hyb,putB,h1,h2,h3]
    rfl
   ·refine CondOb.mk (fun h4=>?_) (fun h4=>?_)
    ·refine CallOb.mk (x.M b) [] _ (by simp) (WriteString_spec b hx _ (by show _+2≤_;omega)) ?_
     rintro v I' M' - ⟨rfl,rfl,y,hy,hyb,rfl⟩
     refine⟨_,_,.refl,rfl,y,hy,?_,by simp⟩
     rw[hyb,putB,h1,h2,h3,h4]
     rfl
    ·have two:∀ (I1:GH),(decide ((c.toNat:Int)=92) || decide ((0:Int)≤Lib.indexByte left.data.toList c))=true→putB c left=[92,c]:=fun _ h=>by
      rw[putB,h1,h2,h3,h4,h]
      rfl
     have other:(decide ((c.toNat:Int)=92) || decide ((0:Int)≤Lib.indexByte left.data.toList c))=false→putB c left=[92,120,hexd (c.toNat / 16),hexd (c.toNat % 16)]:=fun h=>by
      rw[putB,h1,h2,h3,h4,h]
      rfl
     have hc:=c.toNat_lt
     refine GuardOb.mk (fun h5=>?_) (fun h5=>?_)
     ·refine CallOb.mk [] (x.M b) _ (.refl _) (IndexByte_spec left c) ?_
      rintro v I' M' - ⟨rfl,rfl,rfl⟩
      refine CondOb.mk (fun h6=>?_) (fun h6=>?_)
      ·refine CallOb.mk (x.M b) [] _ (by simp) (WriteByte_spec b hx 92 (by omega)) ?_
       rintro v I' M' - ⟨rfl,rfl,y,hy,hyb,rfl⟩
       refine CallOb.mk (y.M b) [] _ (by simp) (WriteByte_spec b hy c (by rw[hyb];simp;omega)) ?_
       rintro v I' M' - ⟨rfl,rfl,z,hz,hzb,rfl⟩
       refine⟨_,_,.refl,rfl,z,hz,?_,by simp⟩
       rw[hzb,hyb,two I' (by rw[h5];exact h6)]
       simp
      ·refine CallOb.mk (x.M b) [] _ (by simp) (WriteString_spec b hx _ (by show _+2≤_;omega)) ?_
       rintro v I' M' - ⟨rfl,rfl,y,hy,hyb,rfl⟩
       have hyl:y.bs.length=x.bs.length+2:=by rw[hyb];simp
       refine ShOb.mk 4 rfl ?_
       refine StrOb.mk (s:=hexL) (c.toNat / 16) ?_ (by show _ < 16;omega) ?_
       ·show (c.toNat:Int).fdiv (2 ^ (min 4 (IntKind.u8.bits)))=_
        have e16:((2:Int) ^ (min 4 IntKind.u8.bits))=16:=by decide
        rw[e16,Int.fdiv_eq_ediv_of_nonneg _ (by omega)]
        omega
       rw[hex_at]
       refine CallOb.mk (y.M b) [] _ (by simp) (WriteByte_spec b hy (hexd (c.toNat / 16)) (by omega)) ?_
       rintro v I' M' - ⟨rfl,rfl,z,hz,hzb,rfl⟩
       have hzl:z.bs.length=x.bs.length+3:=by rw[hzb];simp;omega
       refine StrOb.mk (s:=hexL) (c.toNat % 16) (and15 c.toNat hc) (by show _ < 16;omega) ?_
       rw[hex_at]
       refine CallOb.mk (z.M b) [] _ (by simp) (WriteByte_spec b hz (hexd (c.toNat % 16)) (by omega)) ?_
       rintro v I' M' - ⟨rfl,rfl,u,hu,hub,rfl⟩
       refine⟨_,_,.refl,rfl,u,hu,?_,by simp⟩
       rw[hub,hzb,hyb,other (by rw[h5];exact h6)]
       simp
     ·refine CallOb.mk (x.M b) [] _ (by simp) (WriteByte_spec b hx 92 (by omega)) ?_
      rintro v I' M' - ⟨rfl,rfl,y,hy,hyb,rfl⟩
      refine CallOb.mk (y.M b) [] _ (by simp) (WriteByte_spec b hy c (by rw[hyb];simp;omega)) ?_
      rintro v I' M' - ⟨rfl,rfl,z,hz,hzb,rfl⟩
      refine⟨_,_,.refl,rfl,z,hz,?_,by simp⟩
      rw[hzb,hyb,two I' (by rw[h5];rfl)]
      simp
def dig (n:Nat):List UInt8:=bif Nat.blt n 10 then [UInt8.ofNat (48+n)] else [UInt8.ofNat (48+n / 10),UInt8.ofNat (48+n % 10)]
def digS (n:Nat):ByteArray:=⟨(dig n).toArray⟩
def lowL:ByteArray:=⟨((List.range 10).map (fun n=>UInt8.ofNat (48+n))++(List.range 26).map (fun n=>UInt8.ofNat (97+n))).toArray⟩
def smallL:ByteArray:=⟨((List.range 100).flatMap fun n=>[UInt8.ofNat (48+n / 10),UInt8.ofNat (48+n % 10)]).toArray⟩
theorem low_at:∀ n:Fin 10,(lowL.extract n.val (n.val+1)).data.toList=dig n.val:=by decide +kernel
theorem small_at:∀ n:Fin 100,10≤n.val→(smallL.extract (n.val * 2) (n.val * 2+2)).data.toList=dig n.val:=by decide +kernel
theorem bytes_eq {a b:ByteArray} (h:a.data.toList=b.data.toList):a=b:=ByteArray.ext (Array.ext' h)
theorem dig_len (n:Nat):(dig n).length≤2:=by
 unfold dig
 cases Nat.blt n 10<;>simp
set_option maxRecDepth 20000 in
theorem small_spec {I:GH} (n:Nat) (hn:n < 100):Spec Tryz.prog 149 [.int .i64 n] I [] fun r I' M'=>r=.string (digS n)∧I'=I∧M'=[]:=by
 refine spec_of_V [] TryzEOK Tryz.func149 rfl rfl rfl ?_
 intro B h0
 refine CondOb.mk (fun h=>?_) (fun h=>?_)
 ·have hlt:n < 10:=by simp at h;omega
  refine ArithOb.mk ((n+1:Nat):Int) (by rw[wrap_i64 ⟨by omega,by omega⟩];omega) ?_
  refine SliceOb.mk n (n+1) rfl rfl (by omega) (by show _≤36;omega) ?_
  refine⟨_,_,.refl,?_,rfl,rfl⟩
  have:lowL.extract n (n+1)=digS n:=bytes_eq (low_at ⟨n,hlt⟩)
  rw[←this]
  rfl
 ·have hge:10≤n:=by simp at h;omega
  refine ArithOb.mk ((n * 2:Nat):Int) (by rw[wrap_i64 ⟨by omega,by omega⟩];omega) ?_
  refine ArithOb.mk ((n * 2:Nat):Int) (by rw[wrap_i64 ⟨by omega,by omega⟩];omega) ?_
  refine ArithOb.mk ((n * 2+2:Nat):Int) (by rw[wrap_i64 ⟨by omega,by omega⟩];omega) ?_
  refine SliceOb.mk (n * 2) (n * 2+2) rfl rfl (by omega) (by show _≤200;omega) ?_
  refine⟨_,_,.refl,?_,rfl,rfl⟩
  have:smallL.extract (n * 2) (n * 2+2)=digS n:=bytes_eq (small_at ⟨n,hn⟩ hge)
  rw[←this]
  rfl
theorem FormatInt_spec {I:GH} (n:Nat) (hn:n < 100):Spec Tryz.prog 148 [.int .i64 n,.int .i64 10] I [] fun r I' M'=>r=.string (digS n)∧I'=I∧M'=[]:=by
 refine spec_of_V [] TryzEOK Tryz.func148 rfl rfl rfl ?_
 intro B h0
 refine CondOb.mk (fun h=>?_) (fun h=>by cases h)
 refine GuardOb.mk (fun h=>?_) (fun h=>by simp at h;try omega)
 refine CondOb.mk (fun h=>?_) (fun h=>by simp at h;try omega)
 refine CallOb.mk [] [] _ (.refl _) (small_spec n hn) ?_
 rintro v I' M' - ⟨rfl,rfl,rfl⟩
 exact⟨_,_,.refl,rfl,rfl,rfl⟩
theorem Itoa1_spec {I:GH} (n:Nat) (hn:n < 100):Spec Tryz.prog 146 [.int .i64 n] I [] fun r I' M'=>r=.string (digS n)∧I'=I∧M'=[]:=by
 refine spec_of_V [] TryzEOK Tryz.func146 rfl rfl rfl ?_
 intro B h0
 refine CallOb.mk [] [] _ (.refl _) (FormatInt_spec n hn) ?_
 rintro v I' M' - ⟨rfl,rfl,rfl⟩
 exact⟨_,_,.refl,rfl,rfl,rfl⟩
theorem Itoa_spec {I:GH} (n:Nat) (hn:n < 100):Spec Tryz.prog 142 [.int .i64 n] I [] fun r I' M'=>r=.string (digS n)∧I'=I∧M'=[]:=by
 refine spec_of_V [] TryzEOK Tryz.func142 rfl rfl rfl ?_
 intro B h0
 refine CallOb.mk [] [] _ (.refl _) (Itoa1_spec n hn) ?_
 rintro v I' M' - ⟨rfl,rfl,rfl⟩
 exact⟨_,_,.refl,rfl,rfl,rfl⟩
theorem Show_spec {I:GH} (n:Nat) (hn:n < 100):Spec Tryz.prog 137 [.int .i64 n] I [] fun r I' M'=>r=.string (digS n)∧I'=I∧M'=[]:=by
 refine spec_of_V [] TryzEOK Tryz.func137 rfl rfl rfl ?_
 intro B h0
 refine CallOb.mk [] [] _ (.refl _) (Itoa_spec n hn) ?_
 rintro v I' M' - ⟨rfl,rfl,rfl⟩
 exact⟨_,_,.refl,rfl,rfl,rfl⟩
def wrapsV (node kid:Int):Bool:=
 bif decide (node=5) then decide (kid=5) else
 bif decide (node=4) || (decide (node=7) || decide (node=8)) then decide (kid=4) || decide (kid=5) else
 bif decide (node=6) then decide (kid=4) || (decide (kid=5) || (decide (kid=6) || (decide (kid=7) || decide (kid=8)))) else false
theorem wraps_spec {I:GH} (a b:Int):Spec Tryz.prog 127 [.int .u8 a,.int .u8 b] I [] fun r I' M'=>r=.bool (wrapsV a b)∧I'=I∧M'=[]:=by
 refine spec_of_V [] TryzEOK Tryz.func127 rfl rfl rfl ?_
 intro B h0
 refine CondOb.mk (fun h1=>?_) (fun h1=>?_)
 ·refine⟨_,_,.refl,?_,rfl,rfl⟩
  simp only[wrapsV,h1]
  rfl
 ·have two:∀ (I1:GH) (h:(decide (a=4) || (decide (a=7) || decide (a=8)))=true),wrapsV a b=(decide (b=4) || decide (b=5)):=fun _ h=>by
   simp only[wrapsV,h1,h]
   rfl
  have two':(decide (a=4) || (decide (a=7) || decide (a=8)))=true→GuardOb (decide (b=4)) false (RetOb [] I [] fun I' M'=>Value.bool (decide (b=5))=.bool (wrapsV a b)∧I'=I∧M'=[]) (RetOb [] I [] fun I' M'=>Value.bool true=.bool (wrapsV a b)∧I'=I∧M'=[]):=fun h=>by
   refine GuardOb.mk (fun h4=>?_) (fun h4=>?_)
   ·refine⟨_,_,.refl,?_,rfl,rfl⟩
    rw[two I h,h4]
    rfl
   ·refine⟨_,_,.refl,?_,rfl,rfl⟩
    rw[two I h,h4]
    rfl
  refine CondOb.mk (fun h2=>?_) (fun h2=>?_)
  ·refine CondOb.mk (fun _=>?_) (fun h=>by rw[h2] at h;cases h)
   exact two' (by rw[h2];rfl)
  ·refine CondOb.mk (fun h3=>?_) (fun h3=>?_)
   ·refine CondOb.mk (fun _=>?_) (fun h=>by rw[h3] at h;cases h)
    exact two' (by rw[h3];simp)
   ·refine CondOb.mk (fun h4=>?_) (fun h4=>?_)
    ·exact two' (by rw[h4];simp)
    ·have hw:wrapsV a b=(bif decide (a=6) then decide (b=4) || (decide (b=5) || (decide (b=6) || (decide (b=7) || decide (b=8)))) else false):=by
      simp only[wrapsV,h1,h2,h3,h4]
      rfl
     refine CondOb.mk (fun h5=>?_) (fun h5=>?_)
     ·rw[h5] at hw
      simp only[cond_true] at hw
      refine GuardOb.mk (fun k1=>?_) (fun k1=>?_)
      ·refine GuardOb.mk (fun k2=>?_) (fun k2=>?_)
       ·refine GuardOb.mk (fun k3=>?_) (fun k3=>?_)
        ·refine GuardOb.mk (fun k4=>?_) (fun k4=>?_)
         ·refine⟨_,_,.refl,?_,rfl,rfl⟩
          rw[hw,k1,k2,k3,k4]
          rfl
         ·refine⟨_,_,.refl,?_,rfl,rfl⟩
          rw[hw,k1,k2,k3,k4]
          rfl
        ·refine⟨_,_,.refl,?_,rfl,rfl⟩
         rw[hw,k1,k2,k3]
         rfl
       ·refine⟨_,_,.refl,?_,rfl,rfl⟩
        rw[hw,k1,k2]
        rfl
      ·refine⟨_,_,.refl,?_,rfl,rfl⟩
       rw[hw,k1]
       rfl
     ·refine⟨_,_,.refl,?_,rfl,rfl⟩
      rw[hw,h5]
      rfl
theorem wrap_u64 (x:Int):u64ok (IntKind.u64.wrap x):=by
 unfold IntKind.wrap u64ok
 simp only[IntKind.bits,IntKind.signed]
 simp
 omega
theorem wrap_u8 (x:Int):0≤IntKind.u8.wrap x∧IntKind.u8.wrap x < 256:=by
 unfold IntKind.wrap
 simp only[IntKind.bits,IntKind.signed]
 simp
 omega
theorem wrap_u64_id {x:Int} (h:u64ok x):IntKind.u64.wrap x=x:=by
 obtain⟨h1,h2⟩:=h
 unfold IntKind.wrap
 simp only[IntKind.bits,IntKind.signed]
 simp
 omega
def HasDeb (I:GH) (deb:List Int):Prop:=deb.length=64∧(∀ x∈deb,0≤x∧x < 256)∧∃ T fr,I 3=some (.cells (deb.map (Value.int .u8)).toArray T fr)
theorem HasDeb.rd {I:GH} {deb:List Int} (h:HasDeb I deb) (M:List Blk) {j:Nat} (hj:j < 64):Rd I M (Addr.add ⟨3,0,none⟩ (j * 1)) 1 [.int .u8 (deb.getD j 0)]:=by
 obtain⟨hl,_,T,fr,h⟩:=h
 rw[addr_add _ rfl]
 refine⟨rfl,_,T,fr,.inl h,?_,rfl⟩
 have h1:j < (deb.map (Value.int .u8)).length:=by simp[hl,hj]
 have h2:j < deb.length:=by omega
 simp only[Nat.zero_add,Nat.mul_one]
 rw[List.drop_eq_getElem_cons h1,List.take_succ_cons,List.take_zero]
 simp[List.getD_eq_getElem?_getD,h2]
theorem HasDeb.at {I:GH} {deb:List Int} (h:HasDeb I deb) (j:Nat):0≤deb.getD j 0∧deb.getD j 0 < 256:=by
 rw[List.getD_eq_getElem?_getD]
 by_cases hj:j < deb.length
 ·rw[List.getElem?_eq_getElem hj]
  exact h.2.1 _ (List.getElem_mem hj)
 ·simp[hj]
def andV (x y:Int):Int:=IntKind.u64.wrap (BitVec.ofInt 64 x &&& BitVec.ofInt 64 y).toNat
def tzA (x:Int):Int:=IntKind.u64.wrap (andV x (IntKind.u64.wrap (0 - x)) * 285870213051353865)
def tz64 (deb:List Int) (x:Int):Int:=bif decide (x=0) then 64 else deb.getD ((tzA x).toNat / 2 ^ 58) 0
theorem tz64_ok {I:GH} {deb:List Int} (h:HasDeb I deb) (x:Int):0≤tz64 deb x∧tz64 deb x < 256:=by
 unfold tz64
 cases decide (x=0)
 ·exact h.at _
 ·simp
theorem TZ_spec {I:GH} {deb:List Int} (hb:HasDeb I deb) (x:Int):Spec Tryz.prog 145 [.int .u64 x] I [] fun r I' M'=>r=.int .i64 (tz64 deb x)∧I'=I∧M'=[]:=by
 refine spec_of_V [] TryzEOK Tryz.func145 rfl rfl rfl ?_
 intro B h0
 refine CondOb.mk (fun h=>?_) (fun h=>?_)
 ·refine⟨_,_,.refl,?_,rfl,rfl⟩
  simp only[tz64,h]
  rfl
 ·have ha:=wrap_u64 (andV x (IntKind.u64.wrap (0 - x)) * 285870213051353865)
  refine ArithOb.mk _ rfl ?_
  refine ArithOb.mk (tzA x) rfl ?_
  refine ShOb.mk 58 rfl ?_
  have e1:((2:Int) ^ (min 58 IntKind.u64.bits))=2 ^ 58:=by decide
  rw[e1]
  obtain⟨p1,p2⟩:=ha
  have e2:(tzA x).fdiv (2 ^ 58)=(((tzA x).toNat / 2 ^ 58:Nat):Int):=by
   rw[Int.fdiv_eq_ediv_of_nonneg _ (by decide)]
   have:tzA x=((tzA x).toNat:Int):=(Int.toNat_of_nonneg p1).symm
   omega
  rw[e2]
  have hj:(tzA x).toNat / 2 ^ 58 < 64:=by
   have:tzA x < 18446744073709551616:=p2
   omega
  refine ArrOb.mk ((tzA x).toNat / 2 ^ 58) rfl hj ?_
  refine LoadOb.mk [.int .u8 (deb.getD ((tzA x).toNat / 2 ^ 58) 0)] (hb.rd _ hj) ?_
  have hd:=hb.at ((tzA x).toNat / 2 ^ 58)
  refine ArithOb.mk (deb.getD ((tzA x).toNat / 2 ^ 58) 0) (wrap_i64 ⟨by omega,by omega⟩) ?_
  refine⟨_,_,.refl,?_,rfl,rfl⟩
  simp only[tz64,h]
  rfl
def notC (a b c d:Int):Nat→List Value
 | 0=>[.int .u64 (a),.int .u64 (b),.int .u64 (c),.int .u64 (d)]
 | 1=>[.int .u64 (notV a),.int .u64 (b),.int .u64 (c),.int .u64 (d)]
 | 2=>[.int .u64 (notV a),.int .u64 (notV b),.int .u64 (c),.int .u64 (d)]
 | 3=>[.int .u64 (notV a),.int .u64 (notV b),.int .u64 (notV c),.int .u64 (d)]
 | _=>[.int .u64 (notV a),.int .u64 (notV b),.int .u64 (notV c),.int .u64 (notV d)]
theorem Not_spec {I:GH} (a b c d:Int):Spec Tryz.prog 140 [.agg #[.int .u64 a,.int .u64 b,.int .u64 c,.int .u64 d]] I [] fun r I' M'=>r=.agg #[.int .u64 (notV a),.int .u64 (notV b),.int .u64 (notV c),.int .u64 (notV d)]∧I'=I∧M'=[]:=by
 refine spec_of_V [] TryzEOK Tryz.func140 rfl rfl rfl ?_
 intro B h0
 refine LoopOb.inv (ι:=Nat) (fun i=>{ fl:=[(1,.ref 1 0),(2,.ref 2 0),(5,.val (.agg #[.int .u64 a,.int .u64 b,.int .u64 c,.int .u64 d])),(6,.val (.int .i64 i))],cl:=[(1,notC a b c d i),(2,[.int .u64 0,.int .u64 0,.int .u64 0,.int .u64 0])],gi:=I }) (fun i=>i≤4) (fun i=>4 - i) ?_ ?_
 ·exact⟨0,by simp,.refl,aF4,.cons rfl (.cons rfl .nil)⟩
 ·intro i hi
  match i,hi with
  | 0,_=>
   refine CondOb.mk (fun _=>?_) (fun h=>by simp at h)
   refine ArrOb.mk 0 rfl (by decide) ?_
   refine OtherOb.notU rfl (by simp) rfl ?_
   refine ArrOb.mk 0 rfl (by decide) ?_
   refine ArithOb.mk 1 (by decide) ?_
   exact⟨1,⟨by simp,by simp⟩,.refl,aF4,.cons rfl (.cons rfl .nil)⟩
  | 1,_=>
   refine CondOb.mk (fun _=>?_) (fun h=>by simp at h)
   refine ArrOb.mk 1 rfl (by decide) ?_
   refine OtherOb.notU rfl (by simp) rfl ?_
   refine ArrOb.mk 1 rfl (by decide) ?_
   refine ArithOb.mk 2 (by decide) ?_
   exact⟨2,⟨by simp,by simp⟩,.refl,aF4,.cons rfl (.cons rfl .nil)⟩
  | 2,_=>
   refine CondOb.mk (fun _=>?_) (fun h=>by simp at h)
   refine ArrOb.mk 2 rfl (by decide) ?_
   refine OtherOb.notU rfl (by simp) rfl ?_
   refine ArrOb.mk 2 rfl (by decide) ?_
   refine ArithOb.mk 3 (by decide) ?_
   exact⟨3,⟨by simp,by simp⟩,.refl,aF4,.cons rfl (.cons rfl .nil)⟩
  | 3,_=>
   refine CondOb.mk (fun _=>?_) (fun h=>by simp at h)
   refine ArrOb.mk 3 rfl (by decide) ?_
   refine OtherOb.notU rfl (by simp) rfl ?_
   refine ArrOb.mk 3 rfl (by decide) ?_
   refine ArithOb.mk 4 (by decide) ?_
   exact⟨4,⟨by simp,by simp⟩,.refl,aF4,.cons rfl (.cons rfl .nil)⟩
  | 4,_=>
   refine CondOb.mk (fun h=>by simp at h) (fun _=>?_)
   exact⟨_,_,.refl,rfl,rfl,rfl⟩
theorem All_spec {I:GH}:Spec Tryz.prog 135 [] I [] fun r I' M'=>r=.agg #[.int .u64 (notV 0),.int .u64 (notV 0),.int .u64 (notV 0),.int .u64 (notV 0)]∧I'=I∧M'=[]:=by
 refine spec_of_V [] TryzEOK Tryz.func135 rfl rfl rfl ?_
 intro B h0
 refine CallOb.mk [] [] _ (.refl _) (Not_spec 0 0 0 0) ?_
 rintro v I' M' - ⟨rfl,rfl,rfl⟩
 exact⟨_,_,.refl,rfl,rfl,rfl⟩
theorem ins_self (I:GH) (b:Nat) (o:Obj):ins I b o b=some o:=by
 simp[ins]
theorem ins_le {I:GH} {b:Nat} {o:Obj} (hb:I b=none):∀ c p,I c=some p→ins I b o c=some p:=by
 intro c p h
 unfold ins
 cases e:Nat.beq c b with
 | false=>exact h
 | true=>
  have:=Nat.eq_of_beq_eq_true e
  subst this
  rw[hb] at h
  cases h
theorem andV_nat {x y:Int} (hx:u64ok x) (hy:u64ok y):andV x y=((x.toNat &&& y.toNat:Nat):Int):=by
 obtain⟨x,rfl⟩:=Int.eq_ofNat_of_zero_le hx.1
 obtain⟨y,rfl⟩:=Int.eq_ofNat_of_zero_le hy.1
 have h1:x < 18446744073709551616:=by have:=hx.2;omega
 have h2:y < 18446744073709551616:=by have:=hy.2;omega
 have e:∀ z:Nat,z < 18446744073709551616→(BitVec.ofInt 64 (z:Int)).toNat=z:=fun z hz=>by
  rw[BitVec.toNat_ofInt]
  omega
 unfold andV
 rw[BitVec.toNat_and,e x h1,e y h2,wrap_u64_id]
 ·simp
 ·have:=Nat.and_le_left (n:=x) (m:=y)
  exact⟨by omega,by omega⟩
def nxtV (x:Int):Int:=andV x (IntKind.u64.wrap (x - 1))
def popc (n:Nat):Nat:=((List.range 64).filter n.testBit).length
theorem popc_le (n:Nat):popc n≤64:=by
 have:=List.length_filter_le n.testBit (List.range 64)
 simpa[popc] using this
theorem nxt_pop {x:Int} (hx:u64ok x) (h0:x≠0):u64ok (nxtV x)∧popc (nxtV x).toNat < popc x.toNat:=by
 obtain⟨n,rfl⟩:=Int.eq_ofNat_of_zero_le hx.1
 have h1:n < 18446744073709551616:=by have:=hx.2;omega
 have hpos:0 < n:=by omega
 have hs:u64ok ((n:Int) - 1):=⟨by omega,by omega⟩
 have e:nxtV (n:Int)=((n &&& (n - 1):Nat):Int):=by
  unfold nxtV
  rw[wrap_u64_id hs,andV_nat hx hs]
  congr 2
  omega
 have hle:n &&& (n - 1)≤n - 1:=Nat.and_le_right
 refine⟨by rw[e];exact⟨by omega,by omega⟩,?_⟩
 rw[e]
 simp only[Int.toNat_natCast]
 unfold popc
 have hsub:List.Sublist ((List.range 64).filter (n &&& (n - 1)).testBit) ((List.range 64).filter n.testBit):=by
  have:(List.range 64).filter (n &&& (n - 1)).testBit=((List.range 64).filter n.testBit).filter (n - 1).testBit:=by
   rw[List.filter_filter]
   congr 1
   funext i
   rw[Nat.testBit_and,Bool.and_comm]
  rw[this]
  exact List.filter_sublist
 rcases Nat.lt_or_eq_of_le hsub.length_le with h | h
 ·exact h
 ·exfalso
  have heq:=hsub.eq_of_length h
  have:n &&& (n - 1)=n:=by
   apply Nat.eq_of_testBit_eq
   intro i
   by_cases hi:i < 64
   ·have hm:i∈(List.range 64).filter (n &&& (n - 1)).testBit ↔ i∈(List.range 64).filter n.testBit:=by rw[heq]
    simp only[List.mem_filter,List.mem_range,hi,true_and] at hm
    cases h1:(n &&& (n - 1)).testBit i<;>cases h2:n.testBit i<;>simp_all
   ·have h2:2 ^ 64≤2 ^ i:=Nat.pow_le_pow_right (by omega) (by omega)
    rw[Nat.testBit_lt_two_pow (by omega),Nat.testBit_lt_two_pow (by omega)]
  omega
def byteOf (deb:List Int) (i:Nat) (w:Int):UInt8:=UInt8.ofNat (IntKind.u8.wrap ((i:Int) * 64+tz64 deb w)).toNat
theorem byteOf_val (deb:List Int) (i:Nat) (w:Int):((byteOf deb i w).toNat:Int)=IntKind.u8.wrap ((i:Int) * 64+tz64 deb w):=by
 have:=wrap_u8 ((i:Int) * 64+tz64 deb w)
 unfold byteOf
 rw[UInt8.toNat_ofNat']
 omega
def bitsL (deb:List Int) (i:Nat):Nat→Int→List UInt8
 | 0,_=>[]
 | f+1,w=>bif decide (w=0) then [] else byteOf deb i w::bitsL deb i f (nxtV w)
def eachFrom (deb:List Int):Nat→List Int→List UInt8
 | _,[]=>[]
 | i,w::ws=>bitsL deb i 64 w++eachFrom deb (i+1) ws
theorem bitsL_len (deb:List Int) (i:Nat):∀ f w,(bitsL deb i f w).length≤f
 | 0,_=>by simp[bitsL]
 | f+1,w=>by
  unfold bitsL
  have:=bitsL_len deb i f (nxtV w)
  cases decide (w=0)<;>simp
  exact this
theorem eachFrom_len (deb:List Int):∀ ws i,(eachFrom deb i ws).length≤64 * ws.length
 | [],_=>by simp[eachFrom]
 | w::ws,i=>by
  have h1:=bitsL_len deb i 64 w
  have h2:=eachFrom_len deb ws (i+1)
  simp only[eachFrom,List.length_append,List.length_cons]
  omega
def u8s (l:List UInt8):List (List Value):=l.map fun c=>[.int .u8 c.toNat]
def setV (a b c d:Int):List Value:=[.int .u64 a,.int .u64 b,.int .u64 c,.int .u64 d]
theorem each_spec {I:GH} (a b c d:Int):Spec Tryz.prog 141 [.agg #[.int .u64 a,.int .u64 b,.int .u64 c,.int .u64 d]] I [] fun r I' M'=>∃ g,r=.func (.func 144) #[] #[ptr g]∧I' g=some (.cells (setV a b c d).toArray 49 (0,0))∧(∀ b o,I b=some o→I' b=some o)∧M'=[]:=by
 refine spec_of_V [1] TryzEOK Tryz.func141 rfl rfl rfl ?_
 intro B h0
 refine AllocOb.mk fun g hg hgM=>?_
 exact⟨_,_,.prom rfl (by simp) .refl,g,rfl,ins_self ..,ins_le hg,rfl⟩
theorem each1_iter {I:GH} {deb:List Int} (hdeb:HasDeb I deb) {g:Nat} {a b c d:Int} (hws:∀ x∈[a,b,c,d],u64ok x) (hg:I g=some (.cells (setV a b c d).toArray 49 (0,0))) :
  Iter Tryz.prog 144 [ptr g] I (u8s (eachFrom deb 0 [a,b,c,d])):=by
 intro l R Rx hY I0 M0 hI0 hR0
 refine specE_of_V [] TryzEOK Tryz.func144 rfl rfl rfl ?_
 intro B h0
 have hrd:∀ (I1:GH) (M:List Blk),(∀ b o,I b=some o→I1 b=some o)→Rd I1 M ⟨g,0,none⟩ 4 (setV a b c d):=fun I1 M h=>⟨rfl,_,_,_,.inl (h _ _ hg),rfl,rfl⟩
 refine LoadOb.mk _ (hrd _ _ hI0) ?_
 refine LoopOb.inv (ι:=Nat×Nat×GH×List Blk)
  (fun x=>{ fl:=[(0,.val (.func (.yield l) #[] #[])),(5,.val (.agg (setV a b c d).toArray)),(6,.val (.int .i64 x.1))],gi:=x.2.2.1,mi:=x.2.2.2 })
  (fun x=>x.1≤4∧(∀ b o,I b=some o→x.2.2.1 b=some o)∧R x.2.1 x.2.2.1 x.2.2.2∧x.2.1≤(eachFrom deb 0 [a,b,c,d]).length∧(eachFrom deb 0 [a,b,c,d]).drop x.2.1=eachFrom deb x.1 ([a,b,c,d].drop x.1)) (fun x=>4 - x.1) ?_ ?_
 ·exact⟨(0,0,I0,M0),⟨by simp,hI0,hR0,by simp,rfl⟩,.refl,aF3,.nil⟩
 ·rintro⟨i,k,I1,M1⟩ ⟨hi,hI1,hR1,hkl,hd1⟩
  simp only at hi hI1 hR1 hkl hd1
  refine CondOb.mk (fun h=>?_) (fun h=>?_)
  ·have hlt:i < 4:=by simp at h;omega
   have hlt':i < [a,b,c,d].length:=hlt
   refine ArrOb.mk i rfl hlt ?_
   have hval:pack false ((((setV a b c d).toArray).toList.drop (i * 1)).take 1)=.int .u64 [a,b,c,d][i]:=by
    match i,hlt with
    | 0,_=>rfl
    | 1,_=>rfl
    | 2,_=>rfl
    | 3,_=>rfl
   have hdrop:[a,b,c,d].drop i=[a,b,c,d][i]::[a,b,c,d].drop (i+1):=List.drop_eq_getElem_cons hlt'
   refine LoopOb.inv (ι:=Int×Nat×Nat×GH×List Blk)
    (fun x=>{ fl:=[(0,.val (.func (.yield l) #[] #[])),(3,.val (.int .i64 i)),(4,.val (.int .u64 x.1)),(5,.val (.agg (setV a b c d).toArray)),(6,.val (.int .i64 i))],gi:=x.2.2.2.1,mi:=x.2.2.2.2 })
    (fun x=>u64ok x.1∧popc x.1.toNat≤x.2.1∧(∀ b o,I b=some o→x.2.2.2.1 b=some o)∧R x.2.2.1 x.2.2.2.1 x.2.2.2.2∧x.2.2.1≤(eachFrom deb 0 [a,b,c,d]).length∧(eachFrom deb 0 [a,b,c,d]).drop x.2.2.1=bitsL deb i x.2.1 x.1++eachFrom deb (i+1) ([a,b,c,d].drop (i+1))) (fun x=>popc x.1.toNat) ?_ ?_
   ·refine⟨([a,b,c,d][i],64,k,I1,M1),⟨hws _ (List.getElem_mem hlt'),popc_le _,hI1,hR1,hkl,?_⟩,.refl,.cons .refl (.cons .refl (.cons ?_ (aF2))),.nil⟩
    ·simp only
     rw[hd1,hdrop]
     rfl
    ·simp only
     rw[←hval]
     exact .refl
   ·rintro⟨w,f,k,I1,M1⟩ ⟨hw,hf,hI1,hR1,hkl,hd1⟩
    simp only at hw hf hI1 hR1 hkl hd1
    refine CondOb.mk (fun h=>?_) (fun h=>?_)
    ·have hw0:w≠0:=by simpa using h
     obtain⟨n1,n2⟩:=nxt_pop hw hw0
     obtain⟨f,rfl⟩:∃ f',f=f'+1:=⟨f - 1,by omega⟩
     have hb:bitsL deb i (f+1) w=byteOf deb i w::bitsL deb i f (nxtV w):=by
      simp[bitsL,hw0]
     rw[hb,List.cons_append] at hd1
     have hk:k < (eachFrom deb 0 [a,b,c,d]).length:=by
      apply Nat.lt_of_not_le
      intro hle
      rw[List.drop_eq_nil_of_le hle] at hd1
      cases hd1
     have hdk:=List.drop_eq_getElem_cons hk
     rw[hd1] at hdk
     obtain⟨hk1,hk2⟩:=List.cons.inj hdk
     have hkv:k < (u8s (eachFrom deb 0 [a,b,c,d])).length:=by simpa[u8s] using hk
     have hv:(u8s (eachFrom deb 0 [a,b,c,d]))[k]=[.int .u8 (IntKind.u8.wrap ((i:Int) * 64+tz64 deb w))]:=by
      simp only[u8s,List.getElem_map,←hk1,byteOf_val]
     have hdb:HasDeb I1 deb:=by
      obtain⟨q1,q2,T,fr,q3⟩:=hdeb
      exact⟨q1,q2,T,fr,hI1 _ _ q3⟩
     have htz:=tz64_ok hdb w
     refine ArithOb.mk ((i:Int) * 64) (wrap_i64 ⟨by omega,by omega⟩) ?_
     refine CallOb.mk [] M1 _ (.refl _) (TZ_spec hdb w) ?_
     rintro v I' M' - ⟨rfl,rfl,rfl⟩
     refine ArithOb.mk ((i:Int) * 64+tz64 deb w) (wrap_i64 ⟨by omega,by omega⟩) ?_
     refine ArithOb.mk _ rfl ?_
     refine OtherOb.yield rfl (by simp) rfl rfl ?_
     have hy:=hY k hkv I' M1 hI1 hR1
     rw[hv] at hy
     refine CallObY.mk M1 [] _ (by simp) hy ?_
     rintro v I2 M2 hI2 (⟨rfl,hR2⟩ | ⟨rfl,hx⟩)
     ·refine CondOb.mk (fun h=>by simp at h) (fun _=>?_)
      refine ArithOb.mk _ rfl ?_
      exact⟨(nxtV w,f,k+1,I2,M2),⟨⟨n1,by simp only;omega,fun b o h=>hI2 b o (hI1 b o h),hR2,hk,hk2.symm⟩,by simp only;exact n2⟩,.perm (by simp) .refl,aF5,.nil⟩
     ·refine CondOb.mk (fun _=>?_) (fun h=>by simp at h)
      exact⟨_,_,.perm (by simp) .refl,.inr hx⟩
    ·have hw0:w=0:=by simpa using h
     have hwr:IntKind.i64.wrap ((i:Int)+1)=((i+1:Nat):Int):=by
      rw[wrap_i64 ⟨by omega,by omega⟩]
      omega
     refine ArithOb.mk _ hwr ?_
     have hb:bitsL deb i f w=[]:=by cases f<;>simp[bitsL,hw0]
     rw[hb,List.nil_append] at hd1
     exact⟨(i+1,k,I1,M1),⟨⟨by simp only;omega,hI1,hR1,hkl,hd1⟩,by simp only;omega⟩,.refl,aF3,.nil⟩
  ·have hi4:i=4:=by simp at h;omega
   subst hi4
   refine⟨_,_,.refl,.inl ?_⟩
   have hnil:(eachFrom deb 0 [a,b,c,d]).drop k=[]:=by rw[hd1];rfl
   have hke:k=(u8s (eachFrom deb 0 [a,b,c,d])).length:=by
    have:=List.drop_eq_nil_iff.1 hnil
    simp only[u8s,List.length_map]
    omega
   rw[←hke]
   exact hR1
def runStep (l:List (UInt8×UInt8)) (b:UInt8):List (UInt8×UInt8):=match l.getLast? with
 | some p=>bif decide ((p.2.toNat:Int)+1=b.toNat) then l.dropLast++[(p.1,b)] else l++[(b,b)]
 | none=>[(b,b)]
def runsOf (l:List UInt8):List (UInt8×UInt8):=l.foldl runStep []
def pairC (p:UInt8×UInt8):List Value:=[.int .u8 p.1.toNat,.int .u8 p.2.toNat]
def pairV (l:List (UInt8×UInt8)):List Value:=l.flatMap pairC
theorem pairV_len (l:List (UInt8×UInt8)):(pairV l).length=l.length * 2:=flat_len pairC 2 (fun _=>rfl) l
theorem runStep_len (l:List (UInt8×UInt8)) (b:UInt8):(runStep l b).length≤l.length+1:=by
 unfold runStep
 split
 ·rename_i p h
  cases decide ((p.2.toNat:Int)+1=b.toNat)<;>simp
 ·simp
theorem runsOf_len (l:List UInt8):(runsOf l).length≤l.length:=by
 have:∀ (l:List UInt8) (acc:List (UInt8×UInt8)),(l.foldl runStep acc).length≤acc.length+l.length:=by
  intro l
  induction l with
  | nil=>intro acc;simp
  | cons b l ih=>
   intro acc
   have h1:=ih (runStep acc b)
   have h2:=runStep_len acc b
   simp only[List.foldl_cons,List.length_cons]
   omega
 simpa[runsOf] using this l []
theorem add2 {b i j:Nat}:((⟨b,0,none⟩:Addr).add i).add j=(⟨b,0,none⟩:Addr).add (i+j):=by
 rw[addr_add ⟨_,0,none⟩ rfl i,addr_add _ rfl j,addr_add _ rfl (i+j)]
 simp
theorem blk_rd2 {I:GH} {M:List Blk} {b T:Nat} {cs:List Value} (hM:(⟨b,.cells cs.toArray T (0,0)⟩:Blk)∈M) {i j:Nat} {v:Value} (h:cs[i+j]?=some v):Rd I M (((⟨b,0,none⟩:Addr).add i).add j) 1 [v]:=by
 obtain⟨hl,rfl⟩:=List.getElem?_eq_some_iff.1 h
 have:=blk_rd (I:=I) hM (k:=i+j) (n:=1) (by omega)
 rw[List.drop_eq_getElem_cons hl,List.take_succ_cons,List.take_zero] at this
 rw[add2]
 exact this
theorem splice_at (pre:List Value) (u v z:Value) (rest:List Value) (k:Nat) (hk:k=pre.length+1):splice (pre++([u,v]++rest)) k [z]=pre++([u,z]++rest):=by
 subst hk
 unfold splice
 have e1:(pre++([u,v]++rest)).take (pre.length+1)=pre++[u]:=by
  rw[show pre++([u,v]++rest)=(pre++[u])++(v::rest) from by simp]
  exact List.take_left' (by simp)
 have e2:(pre++([u,v]++rest)).drop (pre.length+1+[z].length)=rest:=by
  rw[show pre++([u,v]++rest)=(pre++[u,v])++rest from by simp]
  exact List.drop_left' (by simp)
 rw[e1,e2]
 simp
theorem app_ok {os:OS} {rs:List (UInt8×UInt8)} {x:UInt8} (hos:os.ok 2 (pairV rs)) {g c:Nat} {cur:List Value} (h1:cur.length=c * 2) (h2:os.n+1≤c) (h3:c≤maxLen) (h4:cur.take ((os.n+1) * 2)=pairV rs++pairC (x,x)) :
  OS.ok ⟨some g,os.n+1,c,cur⟩ 2 (pairV (rs++[(x,x)])):=by
 have hpx:pairV (rs++[(x,x)])=pairV rs++pairC (x,x):=by simp[pairV]
 have hl:=hos.len
 refine⟨?_,(fun h=>by cases h),fun g3 hg3=>⟨h1,h2,h3,by rw[hpx];exact h4⟩⟩
 rw[hpx,List.length_append,hl]
 simp[pairC]
 omega
theorem runsOf_snoc (l:List UInt8) (x:UInt8):runsOf (l++[x])=runStep (runsOf l) x:=by
 simp[runsOf]
set_option maxHeartbeats 1000000 in
theorem Runs_spec {I:GH} {deb:List Int} (hdeb:HasDeb I deb) {a b c d:Int} (hws:∀ x∈[a,b,c,d],u64ok x):Spec Tryz.prog 136 [.agg #[.int .u64 a,.int .u64 b,.int .u64 c,.int .u64 d]] I []
  fun r I' M'=>(∀ b o,I b=some o→I' b=some o)∧∃ os:OS,r=os.val∧os.ok 2 (pairV (runsOf (eachFrom deb 0 [a,b,c,d])))∧M'=os.blk 176:=by
 refine spec_of_V [3] TryzEOK Tryz.func136 rfl rfl rfl ?_
 intro B h0
 refine AllocOb.mk fun g hg hgM=>?_
 refine CallOb.mk [] [⟨g,.cells #[.slice none 0 0] 174 (0,0)⟩] _ (.refl _) (each_spec a b c d) ?_
 rintro v I1 M1 - ⟨g1,rfl,hg1,hI1,rfl⟩
 have hdeb1:HasDeb I1 deb:=by
  obtain⟨q1,q2,T,fr,q3⟩:=hdeb
  exact⟨q1,q2,T,fr,hI1 _ _ q3⟩
 have hL:=eachFrom_len deb [a,b,c,d] 0
 refine CodeOb.range TryzEOK rfl rfl rfl .refl (each1_iter hdeb1 hws hg1) (fun vs h=>?_)
  (fun k I' M'=>(∀ b o,I1 b=some o→I' b=some o)∧∃ os:OS,os.ok 2 (pairV (runsOf ((eachFrom deb 0 [a,b,c,d]).take k)))∧M'=⟨g,.cells #[os.val] 174 (0,0)⟩::os.blk 176)
  (fun _ _ _=>False) ⟨fun _ _ h=>h,⟨none,0,0,[]⟩,⟨rfl,fun _=>⟨rfl,rfl⟩,fun g h=>by cases h⟩,rfl⟩ ?_ ?_ (fun _ _ _ _ h=>h.elim)
 ·obtain⟨c,_,rfl⟩:=List.mem_map.1 h
  rfl
 ·rintro k hk I' M' - ⟨hI',os,hos,rfl⟩ l B h0 h0'
  have hkL:k < (eachFrom deb 0 [a,b,c,d]).length:=by simpa[u8s] using hk
  generalize hLd:eachFrom deb 0 [a,b,c,d]=L at *
  generalize hx:L[k]=x
  have hv:(u8s L)[k]=[.int .u8 x.toNat]:=by simp[u8s,hx]
  rw[hv]
  have htk:runsOf (L.take (k+1))=runStep (runsOf (L.take k)) x:=by
   rw[List.take_succ_eq_append_getElem hkL,hx,runsOf_snoc]
  rw[htk]
  have hrl:(runsOf (L.take k)).length≤256:=by
   have h1:=runsOf_len (L.take k)
   have h2:=List.length_take_le k L
   simp only[List.length_cons,List.length_nil] at hL
   omega
  generalize hrs:runsOf (L.take k)=rs at *
  have hxl:=x.toNat_lt
  obtain⟨oa,n,cp,cur⟩:=os
  have hn:rs.length=n:=by
   have:=hos.len
   rw[pairV_len] at this
   simp only at this
   omega
  cases oa with
  | none=>
   obtain⟨e1,e2⟩:=hos.nil rfl
   simp only at e1 e2
   subst e1
   subst e2
   have hr0:rs=[]:=List.eq_nil_of_length_eq_zero hn
   have hstep:runStep rs x=rs++[(x,x)]:=by rw[hr0];rfl
   refine LoadOb.mk [.slice none 0 0] (blk_rd (cs:=[.slice none 0 0]) (k:=0) (n:=1) (T:=174) (.head _) (by simp)) ?_
   refine ArithOb.mk (-1) (by decide) ?_
   refine GuardOb.mk (fun h=>by simp at h) (fun _=>?_)
   refine LoadOb.mk [.slice none 0 0] (blk_rd (cs:=[.slice none 0 0]) (k:=0) (n:=1) (T:=174) (.head _) (by simp)) ?_
   refine AllocOb.mk fun g2 hg2 hgM2=>?_
   refine OtherOb.append TryzEOK rfl (by simp) (e:=176) rfl rfl rfl (⟨none,0,0,cur⟩:OS) hos rfl (m:=1) rfl (news:=pairC (x,x)) (by decide) (blk_rd (cs:=pairC (x,x)) (k:=0) (n:=2) (T:=176) (.head _) (by simp[pairC])) rfl (Mr:=[⟨g2,.cells (pairC (x,x)).toArray 176 (0,0)⟩,⟨g,.cells #[.slice none 0 0] 174 (0,0)⟩]) (List.perm_append_comm (l₁:=[_,_])) (by simp only[maxLen];omega) (by show (_+1) * 2≤_;simp only;omega) ?_
   intro g' c' cur' q1 q2 q3 q4
   refine StoreOb.mk [⟨g',.cells cur'.toArray 176 (0,0)⟩,⟨g2,.cells (pairC (x,x)).toArray 176 (0,0)⟩] [] _ _ rfl rfl (Nat.le_of_ble_eq_true rfl) rfl ?_
   refine⟨_,_,.perm (M1:=[⟨g2,.cells (pairC (x,x)).toArray 176 (0,0)⟩]++(⟨g,.cells #[OS.val ⟨some g',(⟨none,0,0,cur⟩:OS).n+1,c',cur'⟩] 174 (0,0)⟩::OS.blk ⟨some g',(⟨none,0,0,cur⟩:OS).n+1,c',cur'⟩ 176)) (List.perm_append_comm (l₁:=[_]) (l₂:=[_,_])) (.sub (List.sublist_append_right _ _) .refl),hI',⟨some g',(⟨none,0,0,cur⟩:OS).n+1,c',cur'⟩,?_,rfl⟩
   rw[hstep]
   exact app_ok hos q1 q2 q3 q4
  | some gb=>
   obtain⟨hcl,hnc,hcm,hct⟩:=hos.cap gb rfl
   simp only at hcl hnc hcm hct
   refine LoadOb.mk [.slice (some ⟨gb,0,none⟩) n cp] (blk_rd (cs:=[.slice (some ⟨gb,0,none⟩) n cp]) (k:=0) (n:=1) (T:=174) (.head _) (by simp)) ?_
   refine ArithOb.mk ((n:Int) - 1) (wrap_i64 ⟨by omega,by omega⟩) ?_
   refine GuardOb.mk (fun h1=>?_) (fun h1=>?_)
   ·have hpos:1≤n:=by simp at h1;omega
    obtain⟨rs0,p,rfl⟩:∃ rs0 p,rs=rs0++[p]:=by
     rcases List.eq_nil_or_concat rs with h | ⟨r,p,h⟩
     ·subst h;simp at hn;omega
     ·exact⟨r,p,by simpa using h⟩
    have hn0:rs0.length=n - 1:=by simp at hn;omega
    have hp0:(pairV rs0).length=(n - 1) * 2:=by rw[pairV_len,hn0]
    obtain⟨rest,hcur⟩:∃ rest,cur=pairV rs0++([.int .u8 p.1.toNat,.int .u8 p.2.toNat]++rest):=by
     refine⟨cur.drop (n * 2),?_⟩
     have h2:=List.take_append_drop (n * 2) cur
     rw[hct] at h2
     rw[←h2,List.drop_left' (by rw[pairV_len,hn])]
     simp[pairV,pairC]
    have hat:cur[(n - 1) * 2+1 * 1]?=some (.int .u8 p.2.toNat):=by
     rw[hcur,←hp0,List.getElem?_append_right (by omega)]
     simp
    have hpl:=p.2.toNat_lt
    refine LoadOb.mk [.slice (some ⟨gb,0,none⟩) n cp] (blk_rd (cs:=[.slice (some ⟨gb,0,none⟩) n cp]) (k:=0) (n:=1) (T:=174) (.head _) (by simp)) ?_
    refine IdxOb.mk ⟨gb,0,none⟩ (n - 1) rfl (by omega) (by omega) ?_
    refine ArrOb.mk 1 rfl (by decide) ?_
    refine LoadOb.mk [.int .u8 p.2.toNat] (blk_rd2 (b:=gb) (cs:=cur) (T:=176) (by simp[OS.blk]) hat) ?_
    refine ArithOb.mk (p.2.toNat:Int) (wrap_i64 ⟨by omega,by omega⟩) ?_
    refine ArithOb.mk ((p.2.toNat:Int)+1) (wrap_i64 ⟨by omega,by omega⟩) ?_
    refine ArithOb.mk (x.toNat:Int) (wrap_i64 ⟨by omega,by omega⟩) ?_
    have hstep:runStep (rs0++[p]) x=bif decide ((p.2.toNat:Int)+1=x.toNat) then rs0++[(p.1,x)] else rs0++[p]++[(x,x)]:=by
     simp[runStep]
    refine CondOb.mk (fun h2=>?_) (fun h2=>?_)
    ·rw[h2] at hstep
     refine LoadOb.mk [.slice (some ⟨gb,0,none⟩) n cp] (blk_rd (cs:=[.slice (some ⟨gb,0,none⟩) n cp]) (k:=0) (n:=1) (T:=174) (.head _) (by simp)) ?_
     refine IdxOb.mk ⟨gb,0,none⟩ (n - 1) rfl (by omega) (by omega) ?_
     refine ArrOb.mk 1 rfl (by decide) ?_
     rw[add2]
     refine StoreOb.add [⟨g,.cells #[.slice (some ⟨gb,0,none⟩) n cp] 174 (0,0)⟩] [] cur.toArray _ rfl ?_ rfl ?_
     ·simp only[List.size_toArray]
      show 0+((n - 1) * 2+1)+1≤_
      omega
     ·refine⟨_,_,.refl,hI',⟨some gb,n,cp,splice cur (0+((n - 1) * 2+1 * 1)) [.int .u8 x.toNat]⟩,?_,rfl⟩
      have hsp:splice cur (0+((n - 1) * 2+1 * 1)) [.int .u8 x.toNat]=pairV rs0++([.int .u8 p.1.toNat,.int .u8 x.toNat]++rest):=by
       rw[hcur]
       exact splice_at _ _ _ _ _ _ (by omega)
      rw[hstep,hsp]
      have hpx:pairV (rs0++[(p.1,x)])=pairV rs0++[.int .u8 p.1.toNat,.int .u8 x.toNat]:=by simp[pairV,pairC]
      refine⟨?_,(fun h=>by cases h),fun g3 hg3=>⟨?_,hnc,hcm,?_⟩⟩
      ·simp only[cond_true]
       rw[hpx,List.length_append,hp0]
       simp
       omega
      ·simp only
       rw[←hcl,hcur]
       simp
      ·simp only[cond_true]
       rw[hpx,←List.append_assoc]
       refine List.take_left' ?_
       rw[List.length_append,hp0]
       simp
       omega
    ·rw[h2] at hstep
     simp only[cond_false] at hstep
     refine LoadOb.mk [.slice (some ⟨gb,0,none⟩) n cp] (blk_rd (cs:=[.slice (some ⟨gb,0,none⟩) n cp]) (k:=0) (n:=1) (T:=174) (.head _) (by simp)) ?_
     refine AllocOb.mk fun g2 hg2 hgM2=>?_
     refine OtherOb.append TryzEOK rfl (by simp) (e:=176) rfl rfl rfl (⟨some gb,n,cp,cur⟩:OS) hos rfl (m:=1) rfl (news:=pairC (x,x)) (by decide) (blk_rd (cs:=pairC (x,x)) (k:=0) (n:=2) (T:=176) (.head _) (by simp[pairC])) rfl (Mr:=[⟨g2,.cells (pairC (x,x)).toArray 176 (0,0)⟩,⟨g,.cells #[.slice (some ⟨gb,0,none⟩) n cp] 174 (0,0)⟩]) (List.perm_append_comm (l₁:=[_,_])) (by simp only[maxLen];omega) (by show (_+1) * 2≤_;simp only;omega) ?_
     intro g' c' cur' q1 q2 q3 q4
     refine StoreOb.mk [⟨g',.cells cur'.toArray 176 (0,0)⟩,⟨g2,.cells (pairC (x,x)).toArray 176 (0,0)⟩] [] _ _ rfl rfl (Nat.le_of_ble_eq_true rfl) rfl ?_
     refine⟨_,_,.perm (M1:=[⟨g2,.cells (pairC (x,x)).toArray 176 (0,0)⟩]++(⟨g,.cells #[OS.val ⟨some g',(⟨some gb,n,cp,cur⟩:OS).n+1,c',cur'⟩] 174 (0,0)⟩::OS.blk ⟨some g',(⟨some gb,n,cp,cur⟩:OS).n+1,c',cur'⟩ 176)) (List.perm_append_comm (l₁:=[_]) (l₂:=[_,_])) (.sub (List.sublist_append_right _ _) .refl),hI',⟨some g',(⟨some gb,n,cp,cur⟩:OS).n+1,c',cur'⟩,?_,rfl⟩
     rw[hstep]
     exact app_ok hos q1 q2 q3 q4
   ·have hn0:n=0:=by simp at h1;omega
    have hr0:rs=[]:=List.eq_nil_of_length_eq_zero (by omega)
    have hstep:runStep rs x=rs++[(x,x)]:=by rw[hr0];rfl
    refine LoadOb.mk [.slice (some ⟨gb,0,none⟩) n cp] (blk_rd (cs:=[.slice (some ⟨gb,0,none⟩) n cp]) (k:=0) (n:=1) (T:=174) (.head _) (by simp)) ?_
    refine AllocOb.mk fun g2 hg2 hgM2=>?_
    refine OtherOb.append TryzEOK rfl (by simp) (e:=176) rfl rfl rfl (⟨some gb,n,cp,cur⟩:OS) hos rfl (m:=1) rfl (news:=pairC (x,x)) (by decide) (blk_rd (cs:=pairC (x,x)) (k:=0) (n:=2) (T:=176) (.head _) (by simp[pairC])) rfl (Mr:=[⟨g2,.cells (pairC (x,x)).toArray 176 (0,0)⟩,⟨g,.cells #[.slice (some ⟨gb,0,none⟩) n cp] 174 (0,0)⟩]) (List.perm_append_comm (l₁:=[_,_])) (by simp only[maxLen];omega) (by show (_+1) * 2≤_;simp only;omega) ?_
    intro g' c' cur' q1 q2 q3 q4
    refine StoreOb.mk [⟨g',.cells cur'.toArray 176 (0,0)⟩,⟨g2,.cells (pairC (x,x)).toArray 176 (0,0)⟩] [] _ _ rfl rfl (Nat.le_of_ble_eq_true rfl) rfl ?_
    refine⟨_,_,.perm (M1:=[⟨g2,.cells (pairC (x,x)).toArray 176 (0,0)⟩]++(⟨g,.cells #[OS.val ⟨some g',(⟨some gb,n,cp,cur⟩:OS).n+1,c',cur'⟩] 174 (0,0)⟩::OS.blk ⟨some g',(⟨some gb,n,cp,cur⟩:OS).n+1,c',cur'⟩ 176)) (List.perm_append_comm (l₁:=[_]) (l₂:=[_,_])) (.sub (List.sublist_append_right _ _) .refl),hI',⟨some g',(⟨some gb,n,cp,cur⟩:OS).n+1,c',cur'⟩,?_,rfl⟩
    rw[hstep]
    exact app_ok hos q1 q2 q3 q4
 ·rintro I' M' - ⟨hI',os,hos,rfl⟩
  refine LoadOb.mk [os.val] (blk_rd (cs:=[os.val]) (k:=0) (n:=1) (T:=174) (.head _) (by simp)) ?_
  refine⟨_,_,.sub (List.sublist_cons_self _ _) .refl,fun b o h=>hI' _ _ (hI1 _ _ h),os,rfl,?_,rfl⟩
  have:(eachFrom deb 0 [a,b,c,d]).take (u8s (eachFrom deb 0 [a,b,c,d])).length=eachFrom deb 0 [a,b,c,d]:=List.take_of_length_le (by simp[u8s])
  rw[this] at hos
  exact hos
theorem OS.ok.row {I:GH} {M:List Blk} {os:OS} {α:Type} {f:α→List Value} {size:Nat} (hf:∀ x,(f x).length=size) (h0:0 < size) {l:List α} (h:os.ok size (l.flatMap f)) {e:Nat} (hM:∀ x∈os.blk e,x∈M) {j:Nat} (hj:j < l.length) :
  ∃ ad,os.a.map (fun g=>(⟨g,0,none⟩:Addr))=some ad∧Rd I M (ad.add (j * size)) size (f l[j]):=by
 have hn:l.length=os.n:=by
  have h1:=h.len
  rw[flat_len f size hf] at h1
  exact Nat.eq_of_mul_eq_mul_right h0 h1
 cases ha:os.a with
 | none=>have:=(h.nil ha).1;omega
 | some g=>
  obtain⟨h1,h2,h3,h4⟩:=h.cap g ha
  refine⟨⟨g,0,none⟩,rfl,?_⟩
  have hle:j * size+size≤os.n * size:=by
   have:=Nat.mul_le_mul_right size (show j+1≤os.n by omega)
   rw[Nat.add_mul,Nat.one_mul] at this
   exact this
  have hcl:os.n * size≤os.cur.length:=by rw[h1];exact Nat.mul_le_mul_right _ h2
  have:=blk_rd (I:=I) (M:=M) (b:=g) (T:=e) (cs:=os.cur) (hM _ (by simp[OS.blk,ha])) (k:=j * size) (n:=size) (by omega)
  have e1:(os.cur.drop (j * size)).take size=f l[j]:=by
   rw[←flat_at f size hf l j hj,←h4,List.drop_take,List.take_take]
   congr 1
   omega
  rw[e1] at this
  exact this
def quoL:ByteArray:=⟨#[34]⟩
def clsL:ByteArray:=⟨#[93,45,94]⟩
def litB (s:ByteArray):List UInt8:=[34]++s.data.toList.flatMap (putB · quoL)++[34]
def strOf (l:List UInt8):ByteArray:=⟨l.toArray⟩
theorem flat_le {α β:Type} (f:α→List β) (m:Nat) (hf:∀ x,(f x).length≤m):∀ l:List α,(l.flatMap f).length≤m * l.length
 | []=>by simp
 | x::l=>by
  have h1:=flat_le f m hf l
  have h2:=hf x
  simp only[List.flatMap_cons,List.length_append,List.length_cons,Nat.mul_add]
  omega
theorem Literal_spec {I:GH} (s:ByteArray) (hs:s.size≤1099511627776):Spec Tryz.prog 131 [.string s] I [] fun r I' M'=>r=.string (strOf (litB s))∧I'=I∧M'=[]:=by
 refine spec_of_V [3] TryzEOK Tryz.func131 rfl rfl rfl ?_
 intro B h0
 refine AllocOb.mk fun b hb hbM=>?_
 refine CallOb.mk (Bd.new.M b) [] _ (.refl _) (WriteByte_spec b Bd.new_ok 34 (by decide)) ?_
 rintro v I' M' - ⟨rfl,rfl,x0,hx0,hb0,rfl⟩
 refine LoopOb.inv (ι:=Nat×Bd) (fun p=>{ fl:=[(0,.val (.string s)),(3,.val (ptr b)),(4,.val (.int .i64 p.1))],gi:=I',mi:=p.2.M b })
  (fun p=>p.1≤s.size∧p.2.ok∧p.2.bs=[34]++(s.data.toList.take p.1).flatMap (putB · quoL)) (fun p=>s.size - p.1) ?_ ?_
 ·exact⟨(0,x0),⟨by simp,hx0,by simp[hb0,Bd.new]⟩,.perm (by simp) .refl,aF3,.nil⟩
 ·rintro⟨i,x⟩ ⟨hi,hx,hxb⟩
  simp only at hi hx hxb
  have hlen:x.bs.length≤1+4 * i:=by
   rw[hxb]
   have:=flat_le (putB · quoL) 4 (fun c=>putB_len c quoL) (s.data.toList.take i)
   have h2:=List.length_take_le i s.data.toList
   simp only[List.length_append,List.length_cons,List.length_nil]
   omega
  refine CondOb.mk (fun h=>?_) (fun h=>?_)
  ·have hlt:i < s.size:=by simpa using h
   have hlt':i < s.data.toList.length:=hlt
   refine StrOb.mk i rfl hlt ?_
   refine CallOb.mk (x.M b) [] _ (by simp) (put_spec b hx s[i] quoL (by omega)) ?_
   rintro v I' M' - ⟨rfl,y,hy,hyb,rfl⟩
   have hwr:IntKind.i64.wrap ((i:Int)+1)=((i+1:Nat):Int):=by
    rw[wrap_i64 ⟨by omega,by omega⟩]
    omega
   refine ArithOb.mk _ hwr ?_
   refine⟨(i+1,y),⟨⟨by simp only;omega,hy,?_⟩,by simp only;omega⟩,.perm (by simp) .refl,aF3,.nil⟩
   simp only
   rw[hyb,hxb,List.take_succ_eq_append_getElem hlt',List.flatMap_append,List.append_assoc]
   congr 1
   simp
   rfl
  ·have hge:s.size≤i:=by simpa using h
   have hall:s.data.toList.take i=s.data.toList:=List.take_of_length_le hge
   refine CallOb.mk (x.M b) [] _ (by simp) (WriteByte_spec b hx 34 (by omega)) ?_
   rintro v I' M' - ⟨rfl,rfl,y,hy,hyb,rfl⟩
   refine CallOb.mk (y.M b) [] _ (by simp) (BString_spec b hy (by rw[hyb];simp;omega)) ?_
   rintro v I' M' - ⟨rfl,rfl,rfl⟩
   refine⟨_,_,.refl,?_,rfl,by simp⟩
   rw[hyb,hxb,hall]
   rfl
def runB (p:UInt8×UInt8):List UInt8:=
 putB p.1 clsL++((bif decide (1 < IntKind.u8.wrap ((p.2.toNat:Int) - p.1.toNat)) then [45] else [])++(bif !decide ((p.2.toNat:Int)=p.1.toNat) then putB p.2 clsL else []))
def classB (deb:List Int) (a b c d:Int):List UInt8:=
 bif (a == notV 0 && (b == notV 0 && (c == notV 0 && d == notV 0))) then [46] else [91]++(runsOf (eachFrom deb 0 [a,b,c,d])).flatMap runB++[93]
theorem runB_len (p:UInt8×UInt8):(runB p).length≤9:=by
 have h1:=putB_len p.1 clsL
 have h2:=putB_len p.2 clsL
 unfold runB
 cases decide (1 < IntKind.u8.wrap ((p.2.toNat:Int) - p.1.toNat))<;>cases decide ((p.2.toNat:Int)=p.1.toNat)<;>simp<;>omega
theorem runs_le (deb:List Int) (a b c d:Int):(runsOf (eachFrom deb 0 [a,b,c,d])).length≤256:=by
 have h1:=eachFrom_len deb [a,b,c,d] 0
 have h2:=runsOf_len (eachFrom deb 0 [a,b,c,d])
 simp only[List.length_cons,List.length_nil] at h1
 omega
theorem classB_len (deb:List Int) (a b c d:Int):(classB deb a b c d).length≤2306:=by
 have h1:=runs_le deb a b c d
 have h2:=flat_le runB 9 runB_len (runsOf (eachFrom deb 0 [a,b,c,d]))
 unfold classB
 cases (a == notV 0 && (b == notV 0 && (c == notV 0 && d == notV 0)))
 ·simp only[cond_false,List.length_append,List.length_cons,List.length_nil]
  omega
 ·simp
set_option maxHeartbeats 1000000 in
theorem Class_spec {I:GH} {deb:List Int} (hdeb:HasDeb I deb) {a b c d:Int} (hws:∀ x∈[a,b,c,d],u64ok x):Spec Tryz.prog 132 [.agg #[.int .u64 a,.int .u64 b,.int .u64 c,.int .u64 d]] I []
  fun r I' M'=>r=.string (strOf (classB deb a b c d))∧(∀ b o,I b=some o→I' b=some o)∧M'=[]:=by
 refine spec_of_V [3] TryzEOK Tryz.func132 rfl rfl rfl ?_
 intro B h0
 refine CodeOb.draw TryzEOK rfl rfl rfl ?_
 refine PCallOb.mk _ All_spec ?_
 rintro v I' M' - ⟨rfl,rfl,rfl⟩
 refine BinOb.eq4 TryzEOK (e:=47) rfl rfl rfl rfl (by kernel_rfl) ?_
 refine CondOb.mk (fun h=>?_) (fun h=>?_)
 ·refine⟨_,_,.refl,?_,fun _ _ h=>h,rfl⟩
  simp only[classB,h]
  rfl
 ·refine AllocOb.mk fun g hg hgM=>?_
  refine CallOb.mk (Bd.new.M g) [] _ (.refl _) (WriteByte_spec g Bd.new_ok 91 (by decide)) ?_
  rintro v I' M' - ⟨rfl,rfl,x0,hx0,hb0,rfl⟩
  refine CallOb.mk [] (x0.M g) _ (by simp) (Runs_spec hdeb hws) ?_
  rintro v I1 M1 - ⟨hI1,os,rfl,hos,rfl⟩
  have hrl:=runs_le deb a b c d
  have hcl:classB deb a b c d=[91]++(runsOf (eachFrom deb 0 [a,b,c,d])).flatMap runB++[93]:=by
   simp only[classB,h]
   rfl
  generalize hrs:runsOf (eachFrom deb 0 [a,b,c,d])=rs at *
  have hn:rs.length=os.n:=by
   have:=hos.len
   rw[pairV_len] at this
   omega
  refine LoopOb.inv (ι:=Nat×Bd) (fun p=>{ fl:=[(3,.val (ptr g)),(11,.val os.val),(12,.val (.int .i64 os.n)),(13,.val (.int .i64 p.1))],gi:=I1,mi:=p.2.M g++os.blk 176 })
   (fun p=>p.1≤os.n∧p.2.ok∧p.2.bs=[91]++(rs.take p.1).flatMap runB) (fun p=>os.n - p.1) ?_ ?_
  ·exact⟨(0,x0),⟨by simp,hx0,by simp[hb0,Bd.new]⟩,.perm (by simpa using List.perm_append_comm) .refl,aF4,.nil⟩
  ·rintro⟨i,x⟩ ⟨hi,hx,hxb⟩
   simp only at hi hx hxb
   have hlen:x.bs.length≤1+9 * i:=by
    rw[hxb]
    have:=flat_le runB 9 runB_len (rs.take i)
    have h2:=List.length_take_le i rs
    simp only[List.length_append,List.length_cons,List.length_nil]
    omega
   refine CondOb.mk (fun h=>?_) (fun h=>?_)
   ·have hlt:i < os.n:=by simpa using h
    have hlt':i < rs.length:=by omega
    obtain⟨ad,had,hrd⟩:=OS.ok.row (I:=I1) (M:=x.M g++os.blk 176) (f:=pairC) (fun _=>rfl) (by decide) hos (e:=176) (fun y hy=>by simp[hy]) hlt'
    refine IdxOb.mk ad i had rfl hlt ?_
    refine LoadOb.mk _ hrd ?_
    generalize hp:rs[i]=p
    refine ArrOb.mk 0 rfl (by decide) ?_
    refine CallOb.mk (x.M g) (os.blk 176) _ (.refl _) (put_spec g hx p.1 clsL (by omega)) ?_
    rintro v I' M' - ⟨rfl,y,hy,hyb,rfl⟩
    have hyl:y.bs.length≤5+9 * i:=by
     rw[hyb,List.length_append]
     have:=putB_len p.1 clsL
     omega
    refine ArrOb.mk 1 rfl (by decide) ?_
    refine ArrOb.mk 0 rfl (by decide) ?_
    refine ArithOb.mk _ rfl ?_
    refine CondOb.mk (fun k1=>?_) (fun k1=>?_)
    ·refine CallOb.mk (y.M g) (os.blk 176) _ (by simp) (WriteByte_spec g hy 45 (by omega)) ?_
     rintro v I' M' - ⟨rfl,rfl,u,hu,hub,rfl⟩
     have hul:u.bs.length≤6+9 * i:=by rw[hub];simp;omega
     refine ArrOb.mk 1 rfl (by decide) ?_
     refine ArrOb.mk 0 rfl (by decide) ?_
     refine CondOb.mk (fun k2=>?_) (fun k2=>?_)
     ·refine ArrOb.mk 1 rfl (by decide) ?_
      refine CallOb.mk (u.M g) (os.blk 176) _ (by simp) (put_spec g hu p.2 clsL (by omega)) ?_
      rintro v I' M' - ⟨rfl,z,hz,hzb,rfl⟩
      have hwr:IntKind.i64.wrap ((i:Int)+1)=((i+1:Nat):Int):=by
       rw[wrap_i64 ⟨by omega,by omega⟩]
       omega
      refine ArithOb.mk _ hwr ?_
      refine⟨(i+1,z),⟨⟨by simp only;omega,hz,?_⟩,by simp only;omega⟩,.perm (by simp) .refl,aF4,.nil⟩
      simp only
      rw[hzb,hub,hyb,hxb,List.take_succ_eq_append_getElem hlt',List.flatMap_append,hp]
      simp[runB,k1,k2]
     ·have hwr:IntKind.i64.wrap ((i:Int)+1)=((i+1:Nat):Int):=by
       rw[wrap_i64 ⟨by omega,by omega⟩]
       omega
      refine ArithOb.mk _ hwr ?_
      refine⟨(i+1,u),⟨⟨by simp only;omega,hu,?_⟩,by simp only;omega⟩,.perm (by simp) .refl,aF4,.nil⟩
      simp only
      rw[hub,hyb,hxb,List.take_succ_eq_append_getElem hlt',List.flatMap_append,hp]
      simp[runB,k1,k2]
    ·refine ArrOb.mk 1 rfl (by decide) ?_
     refine ArrOb.mk 0 rfl (by decide) ?_
     refine CondOb.mk (fun k2=>?_) (fun k2=>?_)
     ·refine ArrOb.mk 1 rfl (by decide) ?_
      refine CallOb.mk (y.M g) (os.blk 176) _ (by simp) (put_spec g hy p.2 clsL (by omega)) ?_
      rintro v I' M' - ⟨rfl,z,hz,hzb,rfl⟩
      have hwr:IntKind.i64.wrap ((i:Int)+1)=((i+1:Nat):Int):=by
       rw[wrap_i64 ⟨by omega,by omega⟩]
       omega
      refine ArithOb.mk _ hwr ?_
      refine⟨(i+1,z),⟨⟨by simp only;omega,hz,?_⟩,by simp only;omega⟩,.perm (by simp) .refl,aF4,.nil⟩
      simp only
      rw[hzb,hyb,hxb,List.take_succ_eq_append_getElem hlt',List.flatMap_append,hp]
      simp[runB,k1,k2]
     ·have hwr:IntKind.i64.wrap ((i:Int)+1)=((i+1:Nat):Int):=by
       rw[wrap_i64 ⟨by omega,by omega⟩]
       omega
      refine ArithOb.mk _ hwr ?_
      refine⟨(i+1,y),⟨⟨by simp only;omega,hy,?_⟩,by simp only;omega⟩,.perm (by simp) .refl,aF4,.nil⟩
      simp only
      rw[hyb,hxb,List.take_succ_eq_append_getElem hlt',List.flatMap_append,hp]
      simp[runB,k1,k2]
   ·have hge:os.n≤i:=by simpa using h
    have hall:rs.take i=rs:=List.take_of_length_le (by omega)
    refine CallOb.mk (x.M g) (os.blk 176) _ (.refl _) (WriteByte_spec g hx 93 (by omega)) ?_
    rintro v I' M' - ⟨rfl,rfl,y,hy,hyb,rfl⟩
    refine CallOb.mk (y.M g) (os.blk 176) _ (.refl _) (BString_spec g hy (by rw[hyb];simp;omega)) ?_
    rintro v I' M' - ⟨rfl,rfl,rfl⟩
    refine⟨_,_,.sub (List.nil_sublist _) .refl,?_,hI1,rfl⟩
    rw[hyb,hxb,hall,hcl]
    rfl
end Go.V
