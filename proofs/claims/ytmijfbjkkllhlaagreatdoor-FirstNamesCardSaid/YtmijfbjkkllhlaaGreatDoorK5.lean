/-
  Part 5 of what the proofs of this seat share: the executor, data in memory, walks.
-/
import Derived.Test.YtmijfbjkkllhlaaGreatDoorK4
import Derived.Test.YtmijfbjkkllhlaaGreatDoorK2
import Derived.Test.YtmijfbjkkllhlaaGreatDoorK3
set_option linter.all false
namespace Go.V
open Go
theorem okC_code {n:Nat}:∀ {c:Code},okC n c=true→codeOk n c=true
 | .seq x y,h=>by simp only[okC,codeOk,Bool.and_eq_true] at h ⊢;exact⟨okC_code h.1,okC_code h.2⟩
 | .block _ c,h=>by simp only[okC,codeOk] at h ⊢;exact okC_code h
 | .cond _ x y,h=>by simp only[okC,codeOk,Bool.and_eq_true] at h ⊢;exact⟨okC_code h.1,okC_code h.2⟩
 | .loop c,h=>by simp only[okC,codeOk] at h ⊢;exact okC_code h
 | .region _ ops _,h=>h
 | .scope c,h=>rfl
 | .rangeFunc ..,h=>rfl
 | .skip,h | .exit _,h | .label _,h | .goto _,h | .ret,h | .refuse _,h=>rfl
theorem okC_label {n:Nat}:∀ {c:Code} {l:Nat} {r:Code},okC n c=true→findLabel c l=some r→okC n r=true
 | .seq x y,l,r,h,hl=>by
  simp only[okC,Bool.and_eq_true] at h
  simp only[findLabel] at hl
  split at hl
  ·rename_i rest hr
   cases hl
   simp only[okC,Bool.and_eq_true]
   exact⟨okC_label h.1 hr,h.2⟩
  ·exact okC_label h.2 hl
 | .label l',l,r,h,hl=>by
  simp only[findLabel] at hl
  split at hl
  ·cases hl;rfl
  ·cases hl
 | .skip,_,_,_,hl | .exit _,_,_,_,hl | .goto _,_,_,_,hl | .ret,_,_,_,hl | .refuse _,_,_,_,hl | .block _ _,_,_,_,hl | .cond _ _ _,_,_,_,hl | .loop _,_,_,_,hl | .scope _,_,_,_,hl | .region _ _ _,_,_,_,hl | .rangeFunc _ _ _ _,_,_,_,hl=>by simp[findLabel] at hl
def FunsOK (P:Program):Prop:=∀ (g:Nat) (fn:Func) (c:Code),P.funcs[g]?=some fn→fn.body=some c→okC fn.ntmps c=true∧(fn.name == "runtime.NumGoroutine")=false
def funsChk (P:Program):Bool:=P.funcs.toList.all fun fn=>match fn.body with
 | some c=>okC fn.ntmps c && !(fn.name == "runtime.NumGoroutine")
 | none=>true
theorem funsOK_of {P:Program} (h:funsChk P=true):FunsOK P:=fun g fn c hf hb=>by
 have h1:=List.all_eq_true.1 h fn (by rw[←Array.mem_def];exact Array.mem_of_getElem? hf)
 simp only[hb,Bool.and_eq_true,Bool.not_eq_true'] at h1
 exact h1
def PrimOK (Y:RK):Prop:=∀ g vs m v m',Y.pr g vs m=some (v,m')→∀ (D:Nm) (I:GH) (M:List Blk) (us:List Value),VRs D vs us→MS Y D m I M→Spec Y.P g us I M fun r I' M'=>∃ D',D.ext D' m.n∧VR D' v r∧MS Y D' m' I' M'
def toExit:Ex→Exit
 | .normal=>.normal
 | .exit id=>.exit id
 | .goto l=>.goto l
 | .ret=>.ret
def RkX (Y:RK) (n B:Nat) (h0:World) (I0:GH) (foot:List Nat) (ro:Option Nat):Ctx:=⟨Y.P,Y.E,List.range n,n,B,h0,I0,foot,ro⟩
theorem RkX.esc {Y:RK} {n B:Nat} {h0:World} {I0:GH} {foot:List Nat} {ro:Option Nat}:∀ d,d < (RkX Y n B h0 I0 foot ro).n→(RkX Y n B h0 I0 foot ro).esc.contains d=true:=fun d hd=>by
 have hd':d < n:=hd
 show (List.range n).contains d=true
 simpa using hd'
def CodeOK (Y:RK) (f:Nat):Prop:=∀ top n c fr m ex fr' m',E_code Y f top n c fr m=some (ex,fr',m')→okC n c=true→∀ B h0 I0 foot ro D0 n0 a w,(top=true→ro=none)→St (RkX Y n B h0 I0 foot ro) Y.G Y.pr D0 n0 fr m a w →
 c.wpIn (fen (RkX Y n B h0 I0 foot ro)) 0 Y.P (fun e a w=>e=toExit ex∧St (RkX Y n B h0 I0 foot ro) Y.G Y.pr D0 n0 fr' m' a w) a w
theorem bare_get {α:Type}:∀ (n k:Nat),(Tri.bare n:Tri α).get k=none
 | 0,k=>rfl
 | n+1,k=>by
  rw[Tri.bare,Tri.get_node]
  cases Nat.beq k 0 with
  | true=>rfl
  | false=>
   cases Nat.beq (k % 2) 1 with
   | true=>exact bare_get n _
   | false=>exact bare_get n _
section
variable {X:Ctx} {G:GT} {pr:PR} {D:Nm} {m:Me} {F:Fr} {fr:Tri EV} {C:Bx} {I:GH} {M:List Blk}
theorem resE_ok (hF:FR D F fr) (hm:MS (RX X G pr) D m I M):∀ {rs:List ResultVar} {vs:List EV} {K:List Value→Prop},resE (RX X G pr) fr m.t rs=some vs→(∀ us,VRs D vs us→K us)→resV X F C I M rs K
 | [],vs,K,h,hk=>by
  simp only[resE] at h
  cases h
  exact hk [] .nil
 | .tmp t::l,vs,K,h,hk=>by
  simp only[resE] at h
  split at h
  ·rename_i v vs' h1 h2
   cases h
   obtain⟨u,e1,g1⟩:=(show SvE D (evr F (.tmp t)) v from hF t v h1).evq
   unfold resV
   rw[e1]
   exact resE_ok hF hm h2 fun us hus=>hk _ (.cons g1 hus)
  ·cases h
 | .cell t ty::l,vs,K,h,hk=>by
  simp only[resE] at h
  split at h
  ·rename_i x i vs' h1 h2 h3
   split at h
   ·rename_i v hv
    cases h
    have hnb:∀ q,x≠.b q:=fun q e=>by subst e;cases hv
    obtain⟨u,e1,g1⟩:=SvE.nb (hF t x h1:SvE D (evr F (.tmp t)) x) hnb
    obtain⟨ad,l',us',rfl,hrd,hl,hp⟩:=loadE_ok hm g1 hv
    have h2':X.E ty=some i:=h2
    have e1':evr F (.tmp t)=.val (.pointer (some ad)):=e1
    unfold resV
    rw[e1',h2']
    exact⟨us',hrd,resE_ok hF hm h3 fun us hus=>hk _ (.cons (packE_ok hp hl) hus)⟩
   ·cases h
  ·cases h
end
theorem call_fn {Y:RK} (hE:EOK Y.P Y.E) (hF:FunsOK Y.P) (hpr:PrimOK Y) {f:Nat} (hc:CodeOK Y f) {g:Nat} {args:List EV} {m:Me} {v:EV} {fn:Func} {c:Code} {us:List Value} {D:Nm} {I:GH} {M:List Blk} (hf:Y.P.funcs[g]?=some fn) (hb:fn.body=some c)
  (hle:args.length≤fn.ntmps) {fr fr':Tri EV} (hfr:∀ t w,fr.get t=some w→args[t]?=some w) {ex:Ex} {m1:Me} (hex:ex=.normal∨ex=.ret) (h:E_code Y f true fn.ntmps c fr m=some (ex,fr',m1)) {vs:List EV} (hr:resE Y fr' m1.t fn.results.toList=some vs)
  (hv:v=resOf vs) (hu:VRs D args us) (hm:MS Y D m I M):SpecE Y.P g us I M fun r I' M'=>∃ D',D.ext D' m.n∧VR D' v r∧MS Y D' m1 I' M':=by
 obtain⟨hok,hnm⟩:=hF g fn c hf hb
 refine specE_of_W (List.range fn.ntmps) hE hf hb hnm ?_ fun B h0 a w hR=>?_
 ·rw[Bool.and_eq_true]
  exact⟨okC_code hok,Nat.ble_eq_true_of_le (by rw[hu.len];exact hle)⟩
 ·have hfr0:FR D (frOf us) fr:=fun t w hw=>by
   obtain⟨x,h1,h2⟩:=hu.get (hfr t w hw)
   refine .inl ⟨x,?_,h2⟩
   simp only[frOf,h1]
  have hst:St (RkX Y fn.ntmps B h0 I (M.map (·.num)) none) Y.G Y.pr D m.n fr m a w:=⟨D,_,_,I,M,hR,hfr0,hm,Nm.ext_refl,Nat.le_refl _⟩
  refine wpIn_mono (hc _ _ _ _ _ _ _ _ h hok B h0 I (M.map (·.num)) none D m.n a w (fun _=>rfl) hst) ?_
  rintro e a' w' ⟨rfl,D',F',C',I',M',hR',hF',hm',hx,hn⟩
  have hres:∀ ex',ex'=.normal∨ex'=.ret→retK (RkX Y fn.ntmps B h0 I (M.map (·.num)) none) fn.results.toList (fun r I' M'=>∃ D',D.ext D' m.n∧VR D' v r∧MS Y D' m1 I' M') ex' F' C' I' M':=fun ex' he=>by
   have hdone:=resE_ok (X:=RkX Y fn.ntmps B h0 I (M.map (·.num)) none) (G:=Y.G) (pr:=Y.pr) (C:=C') hF' hm' hr (K:=fun vs=>match vs with
    | [v']=>RetOb (M.map (·.num)) I' M' ((fun r I' M'=>∃ D',D.ext D' m.n∧VR D' v r∧MS Y D' m1 I' M') v')
    | vs=>RetOb (M.map (·.num)) I' M' ((fun r I' M'=>∃ D',D.ext D' m.n∧VR D' v r∧MS Y D' m1 I' M') (.tuple vs.toArray))) fun us' hus=>by
     clear hr
     match vs,us',hus,hv with
     | [],us',hus,hv=>
      rw[hus.unnil]
      refine⟨I',M',.refl,D',hx,?_,hm'⟩
      rw[hv]
      exact .mkTup .nil
     | [v1],us',hus,hv=>
      obtain⟨x,xs,h1,h2,rfl⟩:=hus.uncons
      rw[h2.unnil]
      refine⟨I',M',.refl,D',hx,?_,hm'⟩
      rw[hv]
      exact h1
     | v1::v2::vs,us',hus,hv=>
      obtain⟨x,xs,h1,h2,rfl⟩:=hus.uncons
      obtain⟨y,ys,h3,h4,rfl⟩:=h2.uncons
      refine⟨I',M',.refl,D',hx,?_,hm'⟩
      rw[hv]
      exact .mkTup hus
   rcases he with rfl | rfl<;>exact hdone
  rcases hex with rfl | rfl
  ·exact⟨F',C',I',M',hR',hres _ (.inl rfl)⟩
  ·exact⟨F',C',I',M',hR',hres _ (.inr rfl)⟩
end Go.V
namespace Go.V
open Go
theorem Spec.weakK {P:Program} {f:Nat} {args:List Value} {I:GH} {M:List Blk} {p q:Value→GH→List Blk→Prop} (h:Spec P f args I M p) (hk:∀ v I' M',p v I' M'→q v I' M'):Spec P f args I M q:=by
 rcases h with ⟨h1,h2⟩ | h
 ·refine .inl ⟨h1,fun w hw=>?_⟩
  refine(h2 w hw).mono ?_
  rintro e w' ⟨v,I',M',e1,e2,e3,e4⟩
  exact⟨v,I',M',e1,hk _ _ _ e2,e3,e4⟩
 ·refine .inr fun w hw=>?_
  obtain⟨v,w',I',M',e1,e2,e3,e4⟩:=h w hw
  exact⟨v,w',I',M',e1,hk _ _ _ e2,e3,e4⟩
section
variable {Y:RK} {D:Nm} {m m':Me} {I:GH} {M:List Blk}
theorem callB_ok (hE:EOK Y.P Y.E) (hF:FunsOK Y.P) (hpr:PrimOK Y) {f:Nat} (hc:CodeOK Y f) {g:Nat} {args:List EV} {v:EV} {us:List Value} (h:callB Y (E_code Y f) g args m=some (v,m')) (hu:VRs D args us) (hm:MS Y D m I M) :
  SpecE Y.P g us I M fun r I' M'=>∃ D',D.ext D' m.n∧VR D' v r∧MS Y D' m' I' M':=by
 unfold callB at h
 obtain⟨fn,hf,h1⟩:=opn_eq h
 obtain⟨c,hb,h2⟩:=opn_eq h1
 obtain⟨hle,h3⟩:=cnd_some h2
 obtain⟨fr,g1,g2⟩:=Tri.puts_ok args (Tri.bare 12) 0
 rw[g1] at h3
 have hfr:∀ t w,fr.get t=some w→args[t]?=some w:=fun t w hw=>by
  rcases g2 t w hw with ⟨_,h⟩ | ⟨_,h⟩
  ·simpa using h
  ·rw[bare_get] at h;cases h
 unfold callRk at h3
 split at h3
 ·rename_i fr' m1 hx
  unfold retE at h3
  obtain⟨vs,hr,h4⟩:=opn_eq h3
  cases h4
  exact call_fn hE hF hpr hc hf hb (Nat.le_of_ble_eq_true hle) hfr (.inl rfl) hx hr rfl hu hm
 ·rename_i fr' m1 hx
  unfold retE at h3
  obtain⟨vs,hr,h4⟩:=opn_eq h3
  cases h4
  exact call_fn hE hF hpr hc hf hb (Nat.le_of_ble_eq_true hle) hfr (.inr rfl) hx hr rfl hu hm
 ·cases h3
theorem callF_ok (hE:EOK Y.P Y.E) (hF:FunsOK Y.P) (hpr:PrimOK Y) {f:Nat} (hc:CodeOK Y f) {g:Nat} {args:List EV} {v:EV} {us:List Value} (h:callF Y (E_code Y f) g args m=some (v,m')) (hu:VRs D args us) (hm:MS Y D m I M) :
  Spec Y.P g us I M fun r I' M'=>∃ D',D.ext D' m.n∧VR D' v r∧MS Y D' m' I' M':=by
 unfold callF at h
 cases hp:Y.pr g args m with
 | none=>rw[hp] at h;exact .inl (callB_ok hE hF hpr hc h hu hm)
 | some p=>
  rw[hp] at h
  have h':some p=some (v,m'):=h
  cases h'
  exact hpr g args m v m' hp D I M us hu hm
theorem RelB.kept {X:Ctx} {β:Nat→Nat} {a:Act} {w W:World} {F:Fr} {C:Bx} {I0 I':GH} {M0 M':List Blk} (h:RelB X β a w F C I' M') (h1:X.h0=W) (h2:X.B=W.heap.size) (h3:X.I0=I0) (h4:X.foot=M0.map (·.num)):Kept I0 M0 W I' M' w where
 le:=by rw[←h3];exact h.le0
 newI b o hb:=by
  rcases h.new0 b o hb with h5 | h5
  ·exact .inl (by rw[←h3];exact h5)
  ·exact .inr (by rw[←h2];exact h5)
 newM x hx:=by
  rcases h.own x hx with h5 | h5
  ·rw[h4] at h5
   obtain⟨y,hy,e⟩:=List.mem_map.1 h5
   exact .inl ⟨y,hy,e⟩
  ·exact .inr (by rw[←h2];exact h5)
 old b hb hn:=by
  rw[←h1]
  refine h.old b (by rw[h2];exact hb) fun hm=>?_
  rw[h4] at hm
  obtain⟨y,hy,e⟩:=List.mem_map.1 hm
  exact hn y hy e
 out:=by rw[←h1];exact h.out
 sz:=by rw[←h2];exact h.sz
theorem putAllE_ok {R:Type}:∀ {ps:List Nat} {args:List EV} {fr0:Tri EV} {K:Tri EV→Option R} {r:R} {us:List Value} {tmps:Array Value},putAllE ps args fr0 K=some r→VRs D args us→(∀ t∈ps,t < tmps.size)→(∀ t v,fr0.get t=some v→VR D v (tmps.getD t undef)) →
  ∃ fr1,K fr1=some r∧us.length=ps.length∧((ps.zip us).foldl (fun (tmps:Array Value) (p:Nat×Value)=>tmps.setIfInBounds p.1 p.2) tmps).size=tmps.size ∧
   ∀ t v,fr1.get t=some v→VR D v (((ps.zip us).foldl (fun (tmps:Array Value) (p:Nat×Value)=>tmps.setIfInBounds p.1 p.2) tmps).getD t undef)
 | [],[],fr0,K,r,us,tmps,h,hu,hp,h0=>by
  have:=hu.unnil
  subst this
  exact⟨fr0,h,rfl,rfl,h0⟩
 | [],_::_,fr0,K,r,us,tmps,h,hu,hp,h0=>by simp[putAllE] at h
 | _::_,[],fr0,K,r,us,tmps,h,hu,hp,h0=>by simp[putAllE] at h
 | t0::ps,v0::args,fr0,K,r,us,tmps,h,hu,hp,h0=>by
  obtain⟨x,xs,g1,g2,rfl⟩:=hu.uncons
  simp only[putAllE] at h
  obtain⟨fr1,h1,h2⟩:=Tri.set_ok (some v0) fr0 t0
  rw[h1] at h
  have hlt:=hp t0 (by simp)
  obtain⟨fr2,h3,h4,h5,h6⟩:=putAllE_ok (tmps:=tmps.setIfInBounds t0 x) h g2 (fun t ht=>by simpa using hp t (by simp[ht])) fun t v ht=>by
   rw[Array.getD_eq_getD_getElem?,Array.getElem?_setIfInBounds]
   rcases h2 t v ht with ⟨rfl,e⟩ | ⟨hne,hg⟩
   ·have:=(some_inj' e)
    subst this
    simp only[if_true,hlt]
    exact g1
   ·rw[if_neg (Ne.symm hne),←Array.getD_eq_getD_getElem?]
    exact h0 t v hg
  exact⟨fr2,h3,by simp[h4],by simpa using h5,h6⟩
theorem EntR.loopE {E:Env} {a:Loc} {b:Bool} {n:Nat} {fr:Tri EV} {ps:List Nat} {asg body:Code} (h:EntR D E M a (.loop b n fr ps asg body)):∃ L,(⟨a.b,.loop L⟩:Blk)∈M∧LpR D b n fr ps asg body L:=by
 cases h with
 | loop L h1 h2=>exact⟨L,h1,h2⟩
theorem EntR.doneE {E:Env} {a:Loc} {c:Code} {n:Nat} {fr:Tri EV} {ps:List Nat} {asg body:Code} (h:EntR D E M a (.done c n fr ps asg body)):∃ L,(⟨a.b,.loop L⟩:Blk)∈M∧L.state=.done∧L.pending=some c:=by
 cases h with
 | done L h1 h2 h3=>exact⟨L,h1,h2,h3⟩
theorem MS.swap (h:MS Y D m I M) {t':Tri Ent} {l:Nat} {e0 e1:Ent} {al:Loc} {o o':Obj} {Mr:List Blk} (hg:m.t.get l=some e0) (ha:D l=some al) (hM:M.Perm (⟨al.b,o⟩::Mr)) (ht:∀ id e,t'.get id=some e→(id=l∧some e1=some e)∨(id≠l∧m.t.get id=some e))
  (he:EntR D Y.E (⟨al.b,o'⟩::Mr) al e1):MS Y D ⟨t',m.n⟩ I (⟨al.b,o'⟩::Mr):=by
 refine h.step (fun id e hi=>(ht id e hi).imp (fun q=>⟨q.1,some_inj' q.2⟩) fun q=>q) ha (Nm.le_refl D) (fun _ _=>rfl) h.dom (fun _ _ h=>h) (fun id e a' hne hi hai x hx hn=>?_) he fun id e a' hne hi hai hb=>hne (h.inj _ _ _ _ _ _ hi hg hai ha hb)
 rcases List.mem_cons.1 (hM.mem_iff.1 hx) with rfl | hx
 ·exact(hne (h.inj _ _ _ _ _ _ hi hg hai ha hn.symm)).elim
 ·exact List.mem_cons_of_mem _ hx
end
end Go.V
namespace Go.V
open Go
section
variable {Y:RK} {D:Nm} {m m':Me} {I:GH} {M:List Blk}
theorem callY_ok {f:Nat} (hc:CodeOK Y f) {l:Nat} {args:List EV} {v:EV} {us:List Value} {al:Loc} (h:callY (E_code Y f) l args m=some (v,m')) (hl:D l=some al) (hu:VRs D args us) (hm:MS Y D m I M) :
  SpecY Y.P al.b us I M fun r I' M'=>∃ D',D.ext D' m.n∧VR D' v r∧MS Y D' m' I' M':=by
 unfold callY at h
 split at h
 ·rename_i n fr0 ps asg body hg
  obtain⟨L,hM,hL⟩:=(hm.ent _ _ _ hg hl).loopE
  intro W hW
  have hrec:W.heap[al.b]?=some (.loop L):=hW.m _ hM
  have hst:L.state=.ready:=hL.st
  have hops:∀ t∈ps,t < L.tmps.size:=fun t ht=>by rw[hL.sz];exact hL.op t (by rw[hL.ps];exact ht)
  obtain⟨fr1,h1,hlen,hsz,hfr1⟩:=putAllE_ok (tmps:=L.tmps) h hu hops hL.fr
  have hps:L.params.size=ps.length:=by rw[←hL.ps];simp
  refine⟨_,_,_,_,run_yield hrec (by rw[hps];simpa using hlen),?_⟩
  have htm:(L.params.zip us.toArray).foldl (fun tmps (x:Nat×Value)=>match x with | (t,a)=>tmps.setIfInBounds t a) L.tmps=(ps.zip us).foldl (fun (tmps:Array Value) (p:Nat×Value)=>tmps.setIfInBounds p.1 p.2) L.tmps:=by
   rw[←Array.foldl_toList,←hL.ps]
   simp
  rw[htm]
  generalize hT:(ps.zip us).foldl (fun (tmps:Array Value) (p:Nat×Value)=>tmps.setIfInBounds p.1 p.2) L.tmps=T at hfr1 hsz
  rw[hL.asg,hL.body]
  have hoa:okC n asg=true:=by rw[←hL.asg];exact hL.oa
  have hob:okC n body=true:=by rw[←hL.body];exact hL.ob
  refine roundIn_of_wpIn (F:=Fence.wide) (n:=0) trivial ?_
  let X1:Ctx:=RkX Y n W.heap.size W I (M.map (·.num)) (some al.b)
  have hrel:RelB X1 (fun _=>0) { tmps:=T,defers:=[] } W (fun t=>.val (T.getD t undef)) (fun _=>none) I M:={
   size:=hsz.trans hL.sz
   defers:=⟨[],rfl,List.nodup_nil,fun r hr=>by cases hr⟩
   holds:=hW
   fr:=fun t=>rfl
   bx:=fun s cs hs=>by cases hs
   inj:=fun s s' h1=>by simp at h1
   le0:=fun b o hb=>hb
   new0:=fun b o hb=>.inl hb
   own:=fun x hx=>.inl (List.mem_map.2 ⟨x,hx,rfl⟩)
   old:=fun b hb hf=>rfl
   out:=.refl _
   sz:=Nat.le_refl _ }
  unfold begR at h1
  split at h1
  ·rename_i fr2 m2 hasg
   have hs1:St X1 Y.G Y.pr D m.n fr1 m { tmps:=T,defers:=[] } W:=⟨D,_,_,I,M,⟨_,hrel⟩,fun t v hv=>.val (hfr1 t v hv),hm,Nm.ext_refl,Nat.le_refl _⟩
   refine wpIn_mono (hc _ _ _ _ _ _ _ _ hasg hoa _ _ _ _ _ D m.n _ _ (fun e=>by cases e) hs1) ?_
   rintro e a1 w1 ⟨rfl,D2,F2,C2,I2,M2,⟨β2,hR2⟩,hF2,hm2,hx2,hn2⟩
   have hl2:D2 l=some al:=by rw[hx2 l (hm.dom _ _ hl)];exact hl
   have h2:begQ (E_code Y f) l n body (m2.t.get l) fr2 m2=some (v,m'):=h1
   unfold begQ at h2
   split at h2
   ·rename_i n' fr0' ps' asg' body' hg2
    obtain⟨L2,hM2,hL2⟩:=(hm2.ent _ _ _ hg2 hl2).loopE
    obtain⟨pre,post,hsp⟩:=List.append_of_mem hM2
    have hperm:M2.Perm (⟨al.b,.loop L2⟩::(pre++post)):=by rw[hsp];exact List.perm_middle
    have hh1:w1.heap[al.b]?=some (.loop L2):=hR2.holds.m _ hM2
    have hlt1:=(Array.getElem?_eq_some_iff.1 hh1).1
    refine⟨_,run_beginRound hh1 hL2.st,?_⟩
    obtain⟨t3,h3,h4⟩:=Tri.set_ok (some (Ent.loop true n' fr0' ps' asg' body')) m2.t l
    rw[h3] at h2
    have hR3:RelB X1 β2 a1 (w1.putObj al.b (.loop { L2 with state:=.busy })) F2 C2 I2 (⟨al.b,.loop { L2 with state:=.busy }⟩::(pre++post)):=
     (hR2.wk (.perm hperm .refl)).swap (by simp) (World.putObj_heap_same hlt1) (fun b hb=>World.putObj_heap_other hb) (putObj_same _ _ _)
    have hm3:MS Y D2 ⟨t3,m2.n⟩ I2 (⟨al.b,.loop { L2 with state:=.busy }⟩::(pre++post)):=hm2.swap hg2 hl2 hperm h4 (.loop { L2 with state:=.busy } (by simp) ⟨rfl,hL2.pd,hL2.sz,hL2.fr,hL2.ps,hL2.asg,hL2.body,hL2.oa,hL2.ob,hL2.op⟩)
    unfold endRk at h2
    obtain⟨⟨ex,fr4,m4⟩,hbody,h5⟩:=opn_eq h2
    have hs3:St X1 Y.G Y.pr D m.n fr2 ⟨t3,m2.n⟩ a1 (w1.putObj al.b (.loop { L2 with state:=.busy })):=⟨D2,F2,C2,I2,_,⟨β2,hR3⟩,hF2,hm3,hx2,hn2⟩
    refine wpIn_mono (hc _ _ _ _ _ _ _ _ hbody hob _ _ _ _ _ D m.n _ _ (fun e=>by cases e) hs3) ?_
    rintro e a4 w4 ⟨rfl,D4,F4,C4,I4,M4,⟨β4,hR4⟩,hF4,hm4,hx4,hn4⟩
    have hl4:D4 l=some al:=by rw[hx4 l (hm.dom _ _ hl)];exact hl
    have h6:endQ l (m4.t.get l) (codeOf ex) m4=some (v,m'):=h5
    unfold endQ at h6
    split at h6
    ·rename_i n4 fr04 ps4 asg4 body4 hg4
     obtain⟨L4,hM4,hL4⟩:=(hm4.ent _ _ _ hg4 hl4).loopE
     obtain⟨pre4,post4,hsp4⟩:=List.append_of_mem hM4
     have hperm4:M4.Perm (⟨al.b,.loop L4⟩::(pre4++post4)):=by rw[hsp4];exact List.perm_middle
     have hh4:w4.heap[al.b]?=some (.loop L4):=hR4.holds.m _ hM4
     have hlt4:=(Array.getElem?_eq_some_iff.1 hh4).1
     obtain⟨t5,h7,h8⟩:=Tri.set_ok (some (opn (codeOf ex) (Ent.loop false n4 fr04 ps4 asg4 body4) fun c=>Ent.done c n4 fr04 ps4 asg4 body4)) m4.t l
     rw[h7] at h6
     cases h6
     have fin:∀ jump,codeOf ex=jump→∃ v' w',(Instr.endRound al.b jump).run Y.P w4=.ok v' w'∧∃ r I' M',Ending.returned v'=.returned r∧(∃ D',D.ext D' m.n∧VR D' (.b (codeOf ex).isNone) r∧MS Y D' ⟨t5,m4.n⟩ I' M')∧Holds I' M' w'∧Kept I M W I' M' w':=by
      rintro jump hj
      let L5:Loop:={ L4 with state:=if jump.isNone then .ready else .done,pending:=jump }
      have hR5:RelB X1 β4 a4 (w4.putObj al.b (.loop L5)) F4 C4 I4 (⟨al.b,.loop L5⟩::(pre4++post4)):=
       (hR4.wk (.perm hperm4 .refl)).swap (by simp) (World.putObj_heap_same hlt4) (fun b hb=>World.putObj_heap_other hb) (putObj_same _ _ _)
      refine⟨_,_,run_endRound jump hh4,_,I4,_,rfl,⟨D4,hx4,?_,hm4.swap hg4 hl4 hperm4 h8 ?_⟩,hR5.holds,hR5.kept rfl rfl rfl rfl⟩
      ·rw[hj]
       simp[VR]
      ·rw[hj]
       cases jump with
       | none=>exact .loop L5 (by simp) ⟨rfl,rfl,hL4.sz,hL4.fr,hL4.ps,hL4.asg,hL4.body,hL4.oa,hL4.ob,hL4.op⟩
       | some c=>exact .done L5 (by simp) rfl rfl
     cases ex with
     | normal=>exact fin none rfl
     | exit id=>exact fin _ rfl
     | goto t=>exact fin _ rfl
     | ret=>exact fin _ rfl
    ·cases h6
   ·cases h2
  ·cases h1
 ·cases h
end
end Go.V
namespace Go.V
open Go
section
variable {Y:RK}
theorem call_ok (hE:EOK Y.P Y.E) (hF:FunsOK Y.P) (hpr:PrimOK Y) {f:Nat} (hc:CodeOK Y f):CallOK Y (E_call Y (E_code Y f)):=fun fv l m v m' h D I M u us hfv hus hm=>by
 unfold E_call at h
 split at h
 ·rename_i g fs cs
  simp only[VR] at hfv
  obtain⟨vs,ws,h1,h2,rfl⟩:=hfv
  refine .inl ⟨g,_,_,rfl,?_⟩
  have:=callF_ok hE hF hpr hc h (h1.append (hus.append h2)) hm
  simpa using this
 ·rename_i q
  simp only[VR] at hfv
  obtain⟨al,h1,rfl⟩:=hfv
  exact .inr ⟨al.b,rfl,callY_ok hc h h1 hus hm⟩
 ·cases h
theorem St.world {X:Ctx} {G:GT} {pr:PR} {D0:Nm} {n0:Nat} {fr:Tri EV} {m:Me} {a:Act} {w:World} (h:St X G pr D0 n0 fr m a w):∃ D F β,(∀ t,SVok β (F t) (a.tmps.getD t undef))∧FR D F fr:=by
 obtain⟨D,F,C,I,M,⟨β,hR⟩,hF,_⟩:=h
 exact⟨D,F,β,hR.fr,hF⟩
theorem St.eval {X:Ctx} {G:GT} {pr:PR} {D0:Nm} {n0:Nat} {fr:Tri EV} {m:Me} {a:Act} {w:World} (h:St X G pr D0 n0 fr m a w) {x:Operand} {b:Bool} (hx:rdO fr x=some (.b b)):a.eval x=.bool b:=by
 obtain⟨D,F,β,h1,h2⟩:=h.world
 obtain⟨u,e1,g1⟩:=(h2.op [x]).ev (x:=x) (by simp) hx
 rw[eval_of_ev h1 e1,g1.bool]
theorem SvE.ok {D:Nm} {β:Nat→Nat} {x:SV} {v:EV} {u:Value} (h:SvE D x v) (hx:SVok β x u):VR D v u:=by
 rcases h with ⟨y,rfl,h⟩ | ⟨q,rfl,rfl⟩
 ·have:u=y:=hx
  subst this
  exact h
 ·have:u=.bool q:=hx
  subst this
  simp[VR]
theorem range_ok (hE:EOK Y.P Y.E) (hF:FunsOK Y.P) (hpr:PrimOK Y) {f:Nat} (hc:CodeOK Y f) {top:Bool} {n:Nat} {x:Operand} {ps:Array Tmp} {asg body:Code} {fr fr':Tri EV} {m m':Me} {ex:Ex} (h:c_range Y (E_code Y f) top n (rdO fr x) ps.toList asg body fr m=some (ex,fr',m'))
  (hok:okC n (.rangeFunc x ps asg body)=true) {B:Nat} {h0:World} {I0:GH} {foot:List Nat} {ro:Option Nat} {D0:Nm} {n0:Nat} {a:Act} {w:World} (hro:top=true→ro=none) (hs:St (RkX Y n B h0 I0 foot ro) Y.G Y.pr D0 n0 fr m a w) :
  (Code.rangeFunc x ps asg body).wpIn (fen (RkX Y n B h0 I0 foot ro)) 0 Y.P (fun e a w=>e=toExit ex∧St (RkX Y n B h0 I0 foot ro) Y.G Y.pr D0 n0 fr' m' a w) a w:=by
 unfold c_range at h
 split at h
 ·rename_i g cap hx
  have hro':=hro rfl
  subst hro'
  obtain⟨D,F,C,I,M,⟨β,hR⟩,hFR,hm,hx0,hn0⟩:=hs
  obtain⟨u,e1,g1⟩:=(hFR.op [x]).ev (x:=x) (by simp) hx
  simp only[VR] at g1
  obtain⟨vs,ws,h1,h2,rfl⟩:=g1
  have hvs:=h1.unnil
  subst hvs
  simp only[okC,Bool.and_eq_true] at hok
  obtain⟨t1,h3,h4⟩:=newE_ok h
  refine wpIn_rangeFunc fun fn _=>?_
  let rc:Loop:={ state:=.ready,pending:=none,fn:=fn,tmps:=a.tmps,params:=ps,assign:=asg,body:=body,defers:=w.heap.size }
  let l:=w.heap.size+1
  let w2:World:=(w.alloc (.deferred (some []))).alloc (.loop rc)
  have hRm:=hR.alloc_mark.alloc_blk (.loop rc)
  have hl:(w.alloc (.deferred (some []))).heap.size=l:=by simp[l]
  rw[hl] at hRm
  have hfrl:∀ q∈M,q.num≠l:=fun q hq e=>by
   have:=hR.holds.lt hq
   omega
  have hms1:MS Y (D.set m.n ⟨l,0,0⟩) ⟨t1,m.n+1⟩ I (⟨l,.loop rc⟩::M):=hm.new (a:=⟨l,0,0⟩) h3 hfrl (.loop rc (by simp) ⟨rfl,rfl,hR.size,fun t v ht=>((hFR t v ht).ok (hR.fr t)).mono (Nm.le_set _ hm.fresh),rfl,rfl,rfl,hok.1,hok.2.1,
   fun t ht=>Nat.le_of_ble_eq_true (List.all_eq_true.1 hok.2.2 t ht)⟩)
  unfold c_left at h4
  obtain⟨⟨v,m2⟩,hcall,h5⟩:=opn_eq h4
  have hle1:=Nm.le_set (D:=D) ⟨l,0,0⟩ hm.fresh
  have hargs:VRs (D.set m.n ⟨l,0,0⟩) (.y m.n::cap) (.func (.yield l) #[] #[]::ws):=.cons (by simp only[VR];exact⟨_,Nm.set_self _ _ _,rfl⟩) (h2.mono hle1)
  obtain⟨hent,hcalls⟩:=callB_ok hE hF hpr hc hcall hargs hms1
  have hcw:=hcalls w2 hRm.holds
  have e2:=eval_of_ev hR.fr e1
  refine⟨l,[markOf w.heap.size],w2,{ target:=.fn (.func g) ws.toArray,args:=#[.func (.yield l) #[] #[]] },w2,g,(.func (.yield l) #[] #[]::ws).toArray,w2,?_,?_,fun _ _=>trivial,?_,(fun h=>by cases h),?_⟩
  ·show (Instr.enterLoop fn a.tmps ps asg body none).run Y.P w=_
   exact run_enterLoop_outer fn a.tmps ps asg body
  ·show (Deferred.ofValue (a.eval x) (#[Operand.const (.func (.yield l) #[] #[])].map a.eval)).run Y.P w2=_
   rw[e2]
   simp[Deferred.ofValue,Act.eval]
  ·simp only[invoke]
   rw[show #[Value.func (.yield l) #[] #[]]++ws.toArray=(.func (.yield l) #[] #[]::ws).toArray from by apply Array.ext';simp]
   exact hent _ _
  ·refine(calls_fen (X:=RkX Y n B h0 I0 foot none) hcw _).mono ?_
   rintro e w3 ⟨r,I3,M3,rfl,⟨D3,hx3,hv3,hm3⟩,hH3,hK3⟩
   have hr3:=hRm.after (Mr:=[]) (by simp) hH3 hK3
   rw[List.append_nil] at hr3
   have hl3:D3 m.n=some ⟨l,0,0⟩:=by rw[hx3 m.n (Nat.lt_succ_self _)];exact Nm.set_self _ _ _
   have hle3:=hms1.le hx3
   have hFR3:FR D3 F fr:=fun t v ht=>(hFR t v ht).mono (Nm.le_trans hle1 hle3)
   have hext:D0.ext D3 n0:=fun i hi=>by
    have hi1:i < m.n+1:=by
     have:i < m.n:=by omega
     omega
    rw[hx3 i hi1]
    show (if i=m.n then _ else D i)=D0 i
    rw[if_neg (by omega)]
    exact hx0 i hi
   have fin:∀ (L:Loop) (t4:Tri Ent) (j:Option Code),(⟨l,.loop L⟩:Blk)∈M3→L.state≠.busy→L.pending=j→(∃ e0,m2.t.get m.n=some e0)→(∀ id e,t4.get id=some e→(id=m.n∧(none:Option Ent)=some e)∨(id≠m.n∧m2.t.get id=some e))→n0≤m2.n →
     ∃ w4,(Instr.endLoop l).run Y.P w3=.ok j w4∧St (RkX Y n B h0 I0 foot none) Y.G Y.pr D0 n0 fr ⟨t4,m2.n⟩ { a with defers:=[markOf w.heap.size]++a.defers } w4:=by
    rintro L t4 j hL hb hp ⟨e0,he0⟩ ht4 hn4
    have hh3:w3.heap[l]?=some (.loop L):=hH3.m _ hL
    obtain⟨pre,post,hsp⟩:=List.append_of_mem hL
    have hperm:M3.Perm (⟨l,.loop L⟩::(pre++post)):=by rw[hsp];exact List.perm_middle
    have hsub:∀ i en,t4.get i=some en→i≠m.n∧m2.t.get i=some en:=fun i en hi=>by
     rcases ht4 i en hi with ⟨_,h8⟩ | h8
     ·cases h8
     ·exact h8
    have hR4:=(hr3.wk (.perm hperm .refl)).dropM (o':=.loop { L with state:=.exhausted })
    refine⟨_,(by rw[←hp];exact run_endLoop hh3 hb),D3,F,C,I3,pre++post,⟨β,hR4⟩,hFR3,⟨fun i en b hi hb'=>?_,fun i i' en en' b b' hi hi'=>hm3.inj i i' en en' b b' (hsub i en hi).2 (hsub i' en' hi').2,hm3.dom,hm3.glo⟩,hext,hn4⟩
    refine(hm3.ent i en b (hsub i en hi).2 hb').mono (Nm.le_refl D3) fun q hq hn=>?_
    rcases List.mem_cons.1 (hperm.mem_iff.1 hq) with rfl | hq
    ·exact((hsub i en hi).1 (hm3.inj _ _ _ _ _ _ (hsub i en hi).2 he0 hb' hl3 hn.symm)).elim
    ·exact hq
   have hn2:∀ {e0:Ent},m2.t.get m.n=some e0→n0≤m2.n:=fun _=>by
    have:=hm3.dom _ _ hl3
    omega
   have h6:(match m2.t.get m.n with
    | some (.loop false ..)=>m2.t.setK none m.n fun t=>some (Ex.normal,fr,(⟨t,m2.n⟩:Me))
    | some (.done c ..)=>opn (exOf c) none fun ex=>m2.t.setK none m.n fun t=>some (ex,fr,⟨t,m2.n⟩)
    | _=>none)=some (ex,fr',m'):=h5
   split at h6
   ·rename_i n3 fr3 ps3 asg3 body3 hg3
    obtain⟨L,hL,hLp⟩:=(hm3.ent _ _ _ hg3 hl3).loopE
    obtain⟨t4,h7,h8⟩:=Tri.set_ok (none:Option Ent) m2.t m.n
    rw[h7] at h6
    cases h6
    obtain⟨w4,h9,h10⟩:=fin L t4 none hL (by rw[hLp.st];simp) hLp.pd ⟨_,hg3⟩ h8 (hn2 hg3)
    exact⟨none,w4,h9,rfl,h10⟩
   ·rename_i c n3 fr3 ps3 asg3 body3 hg3
    obtain⟨L,hL,hst,hpd⟩:=(hm3.ent _ _ _ hg3 hl3).doneE
    obtain⟨ex',hex,h6⟩:=opn_eq h6
    obtain⟨t4,h7,h8⟩:=Tri.set_ok (none:Option Ent) m2.t m.n
    rw[h7] at h6
    cases h6
    obtain⟨w4,h9,h10⟩:=fin L t4 (some c) hL (by rw[hst];simp) hpd ⟨_,hg3⟩ h8 (hn2 hg3)
    refine⟨some c,w4,h9,?_⟩
    unfold exOf at hex
    split at hex
    ·cases hex;exact wpIn_exit ⟨rfl,h10⟩
    ·cases hex;exact wpIn_goto ⟨rfl,h10⟩
    ·cases hex;exact wpIn_ret ⟨rfl,h10⟩
    ·cases hex
   ·cases h6
 ·cases h
end
end Go.V
namespace Go.V
open Go
section
variable {Y:RK}
theorem toExit_then {next:Act→World→Prop} {Q:Exit→Act→World→Prop} {ex:Ex} {a:Act} {w:World} (h:Q (toExit ex) a w) (hne:ex≠.normal):Exit.then next Q (toExit ex) a w:=by
 cases ex<;>first | exact(hne rfl).elim | exact h
theorem code_ok (hE:EOK Y.P Y.E) (hF:FunsOK Y.P) (hpr:PrimOK Y) (hmx:Y.P.follows .mixedOrders=true):∀ f k,k≤f→CodeOK Y k:=by
 intro f
 induction f with
 | zero=>
  intro k hk top n c fr m ex fr' m' h
  have:k=0:=by omega
  subst this
  cases h
 | succ f ih=>
  intro k hk
  by_cases hkf:k≤f
  ·exact ih k hkf
  have hk1:k=f+1:=by omega
  subst hk1
  have hc:=ih f (Nat.le_refl _)
  have hcall:=call_ok hE hF hpr hc
  intro top n c fr m ex fr' m' h hok B h0 I0 foot ro D0 n0 a w hro hs
  have h1:E_codeF Y f (E_code Y f) top n c fr m=some (ex,fr',m'):=h
  have hesc:=@RkX.esc Y n B h0 I0 foot ro
  unfold E_codeF at h1
  cases c with
  | skip=>cases h1;exact wpIn_skip ⟨rfl,hs⟩
  | label l=>cases h1;exact wpIn_label ⟨rfl,hs⟩
  | ret=>cases h1;exact wpIn_ret ⟨rfl,hs⟩
  | exit id=>cases h1;exact wpIn_exit ⟨rfl,hs⟩
  | goto l=>cases h1;exact wpIn_goto ⟨rfl,hs⟩
  | refuse s=>cases h1
  | seq x y=>
   simp only[okC,Bool.and_eq_true] at hok
   simp only[c_then] at h1
   split at h1
   ·rename_i fr1 m1 hx
    refine wpIn_seq (wpIn_mono (hc _ _ _ _ _ _ _ _ hx hok.1 B h0 I0 foot ro D0 n0 a w hro hs) ?_)
    rintro e a1 w1 ⟨rfl,hs1⟩
    exact hc _ _ _ _ _ _ _ _ h1 hok.2 B h0 I0 foot ro D0 n0 a1 w1 hro hs1
   ·rename_i hno
    refine wpIn_seq (wpIn_mono (hc _ _ _ _ _ _ _ _ h1 hok.1 B h0 I0 foot ro D0 n0 a w hro hs) ?_)
    rintro e a1 w1 ⟨rfl,hs1⟩
    exact toExit_then ⟨rfl,hs1⟩ fun e=>hno fr' m' (by rw[h1,e])
  | block id c=>
   simp only[okC] at hok
   simp only[c_block] at h1
   split at h1
   ·rename_i j fr1 m1 hx
    refine wpIn_block (wpIn_mono (hc _ _ _ _ _ _ _ _ hx hok B h0 I0 foot ro D0 n0 a w hro hs) ?_)
    rintro e a1 w1 ⟨rfl,hs1⟩
    simp only[toExit,Exit.inBlock]
    by_cases hj:j=id
    ·subst hj
     rw[beq_self'] at h1
     have h2:some (Ex.normal,fr1,m1)=some (ex,fr',m'):=h1
     cases h2
     rw[if_pos rfl]
     exact⟨rfl,hs1⟩
    ·rw[beq_ne hj] at h1
     have h2:some (Ex.exit j,fr1,m1)=some (ex,fr',m'):=h1
     cases h2
     rw[if_neg hj]
     exact⟨rfl,hs1⟩
   ·rename_i hno
    refine wpIn_block (wpIn_mono (hc _ _ _ _ _ _ _ _ h1 hok B h0 I0 foot ro D0 n0 a w hro hs) ?_)
    rintro e a1 w1 ⟨rfl,hs1⟩
    cases ex with
    | exit j=>exact(hno j fr' m' h1).elim
    | normal=>exact⟨rfl,hs1⟩
    | goto l=>exact⟨rfl,hs1⟩
    | ret=>exact⟨rfl,hs1⟩
  | cond x c1 c2=>
   simp only[okC,Bool.and_eq_true] at hok
   simp only[c_cond] at h1
   split at h1
   ·rename_i b hx
    refine wpIn_cond (hs.eval hx) ?_
    cases b with
    | true=>exact hc _ _ _ _ _ _ _ _ h1 hok.1 B h0 I0 foot ro D0 n0 a w hro hs
    | false=>exact hc _ _ _ _ _ _ _ _ h1 hok.2 B h0 I0 foot ro D0 n0 a w hro hs
   ·cases h1
  | loop c=>
   simp only[okC] at hok
   let J (k:Nat) (a:Act) (w:World):Prop:=k≤f+1∧∃ fr1 m1,E_code Y k top n (.loop c) fr1 m1=some (ex,fr',m')∧St (RkX Y n B h0 I0 foot ro) Y.G Y.pr D0 n0 fr1 m1 a w
   refine wpIn_loop_rel J (m:=f+1) ⟨Nat.le_refl _,fr,m,h,hs⟩ ?_
   rintro k a1 w1 ⟨hk,fr1,m1,h2,hs1⟩
   cases k with
   | zero=>cases h2
   | succ k=>
    have hck:=ih k (by omega)
    have h3:c_then (E_code Y k top n c fr1 m1) (E_code Y k top n (.loop c))=some (ex,fr',m'):=h2
    simp only[c_then] at h3
    split at h3
    ·rename_i fr2 m2 hx
     refine wpIn_mono (hck _ _ _ _ _ _ _ _ hx hok B h0 I0 foot ro D0 n0 a1 w1 hro hs1) ?_
     rintro e a2 w2 ⟨rfl,hs2⟩
     exact⟨k,Nat.lt_succ_self k,by omega,fr2,m2,h3,hs2⟩
    ·rename_i hno
     refine wpIn_mono (hck _ _ _ _ _ _ _ _ h3 hok B h0 I0 foot ro D0 n0 a1 w1 hro hs1) ?_
     rintro e a2 w2 ⟨rfl,hs2⟩
     exact toExit_then ⟨rfl,hs2⟩ fun e=>hno fr' m' (by rw[h3,e])
  | region id ops dr=>
   cases dr with
   | false=>
    simp only[c_ops] at h1
    obtain⟨⟨fr1,m1⟩,hx,h2⟩:=opn_eq h1
    cases h2
    refine wpIn_region ?_
    have:=E_ops_ok (X:=RkX Y n B h0 I0 foot ro) (G:=Y.G) (pr:=Y.pr) (D0:=D0) (n0:=n0) hE hesc hcall ops (fun e a w=>e=toExit .normal∧St (RkX Y n B h0 I0 foot ro) Y.G Y.pr D0 n0 fr1 m1 a w) (fun a w h=>⟨rfl,h⟩) ops.toList 0 (by simp) (opsOk_spec hok) hx hs
    have h9:wpOpsIn (fen (RkX Y n B h0 I0 foot ro)) 0 Y.P ops (fun e a w=>e=toExit .normal∧St (RkX Y n B h0 I0 foot ro) Y.G Y.pr D0 n0 fr1 m1 a w) (List.range' 0 ops.toList.length) a w:=this
    rw[List.range_eq_range']
    simpa using h9
   | true=>
    simp only[c_ops] at h1
    obtain⟨⟨fr1,m1⟩,hx,h2⟩:=opn_eq h1
    cases h2
    exact E_drawn_ok (X:=RkX Y n B h0 I0 foot ro) (G:=Y.G) (pr:=Y.pr) (D0:=D0) (n0:=n0) hE hesc hcall hmx hok hx (fun a w h=>⟨rfl,h⟩) hs
  | scope c=>
   simp only[okC] at hok
   have step:∀ (k:Nat) (x:Code) (fr1:Tri EV) (m1:Me) (a1:Act) (w1:World),okC n x=true→E_scope (E_code Y f) top n c (k+1) x fr1 m1=some (ex,fr',m')→St (RkX Y n B h0 I0 foot ro) Y.G Y.pr D0 n0 fr1 m1 a1 w1 →
     x.wpIn (fen (RkX Y n B h0 I0 foot ro)) 0 Y.P (fun e a' w'=>match e with
      | .goto l=>∃ rest fr2 m2,findLabel c l=some rest∧E_scope (E_code Y f) top n c k rest fr2 m2=some (ex,fr',m')∧St (RkX Y n B h0 I0 foot ro) Y.G Y.pr D0 n0 fr2 m2 a' w'
      | e=>e=toExit ex∧St (RkX Y n B h0 I0 foot ro) Y.G Y.pr D0 n0 fr' m' a' w') a1 w1:=fun k x fr1 m1 a1 w1 hx h2 hs1=>by
    have h3:(match E_code Y f top n x fr1 m1 with
     | some (.goto l,fr,m)=>opn (findLabel c l) none fun rest=>E_scope (E_code Y f) top n c k rest fr m
     | r=>r)=some (ex,fr',m'):=h2
    split at h3
    ·rename_i l fr2 m2 he
     obtain⟨rest,hrest,h4⟩:=opn_eq h3
     refine wpIn_mono (hc _ _ _ _ _ _ _ _ he hx B h0 I0 foot ro D0 n0 a1 w1 hro hs1) ?_
     rintro e a2 w2 ⟨rfl,hs2⟩
     exact⟨rest,fr2,m2,hrest,h4,hs2⟩
    ·rename_i hno
     refine wpIn_mono (hc _ _ _ _ _ _ _ _ h3 hx B h0 I0 foot ro D0 n0 a1 w1 hro hs1) ?_
     rintro e a2 w2 ⟨rfl,hs2⟩
     cases ex with
     | goto l=>exact(hno l fr' m' h3).elim
     | exit j=>exact⟨rfl,hs2⟩
     | normal=>exact⟨rfl,hs2⟩
     | ret=>exact⟨rfl,hs2⟩
   let J (l k:Nat) (a:Act) (w:World):Prop:=∃ rest fr1 m1,findLabel c l=some rest∧E_scope (E_code Y f) top n c k rest fr1 m1=some (ex,fr',m')∧St (RkX Y n B h0 I0 foot ro) Y.G Y.pr D0 n0 fr1 m1 a w
   cases f with
   | zero=>cases h1
   | succ f'=>
    refine wpIn_scope_rel J (wpIn_mono (step f' c fr m a w hok h1 hs) ?_) ?_
    ·intro e a1 w1 he
     cases e with
     | goto l=>exact⟨f',he⟩
     | _=>exact he
    ·rintro l k a1 w1 ⟨rest,fr1,m1,hrest,h2,hs1⟩
     cases k with
     | zero=>cases h2
     | succ k=>
      refine⟨rest,hrest,wpIn_mono (step k rest fr1 m1 a1 w1 (okC_label hok hrest) h2 hs1) ?_⟩
      intro e a2 w2 he
      cases e with
      | goto l'=>exact⟨k,Nat.lt_succ_self k,he⟩
      | _=>exact he
  | rangeFunc x ps asg body=>exact range_ok hE hF hpr hc h1 hok hro hs
theorem reckon (hE:EOK Y.P Y.E) (hF:FunsOK Y.P) (hpr:PrimOK Y) (hmx:Y.P.follows .mixedOrders=true) {f g:Nat} {args:List EV} {m m':Me} {v:EV} (h:callF Y (E_code Y f) g args m=some (v,m')) {D:Nm} {I:GH} {M:List Blk} {us:List Value} (hu:VRs D args us) (hm:MS Y D m I M) :
  Spec Y.P g us I M fun r I' M'=>∃ D',D.ext D' m.n∧VR D' v r∧MS Y D' m' I' M':=
 callF_ok hE hF hpr (code_ok hE hF hpr hmx f f (Nat.le_refl _)) h hu hm
end
end Go.V
namespace Go.V
open Go
theorem frame_end {I I':GH} {M M':List Blk} {w w':World} (h:Holds I M w) (h1:Holds I' M' w') (h2:Kept I [] w I' M' w') :
  Holds I' (M'++M) w'∧Kept I M w I' (M'++M) w'∧∀ x∈M',∀ y∈M,x.num≠y.num:=by
 have hlt:∀ x∈M,x.num < w.heap.size:=fun x hx=>(Array.getElem?_eq_some_iff.1 (h.m x hx)).1
 have hge:∀ x∈M',w.heap.size≤x.num:=fun x hx=>by
  rcases h2.newM x hx with ⟨y,hy,_⟩ | h
  ·cases hy
  ·exact h
 have hne:∀ x∈M',∀ y∈M,x.num≠y.num:=fun x hx y hy e=>by
  have:=hlt y hy
  have:=hge x hx
  omega
 refine⟨⟨h1.i,fun x hx=>?_,fun x hx=>?_,?_⟩,⟨h2.le,h2.newI,fun x hx=>?_,fun b hb _=>h2.old b hb (by simp),h2.out,h2.sz⟩,hne⟩
 ·rcases List.mem_append.1 hx with hx | hx
  ·exact h1.m x hx
  ·rw[h2.old x.num (hlt x hx) (by simp)]
   exact h.m x hx
 ·rcases List.mem_append.1 hx with hx | hx
  ·exact h1.d x hx
  ·cases he:I' x.num with
   | none=>rfl
   | some o=>
    rcases h2.newI _ _ he with h3 | h3
    ·rw[h.d x hx] at h3
     cases h3
    ·have:=hlt x hx
     omega
 ·rw[List.map_append,List.nodup_append]
  refine⟨h1.nd,h.nd,fun a ha b hb e=>?_⟩
  obtain⟨x,hx,rfl⟩:=List.mem_map.1 ha
  obtain⟨y,hy,rfl⟩:=List.mem_map.1 hb
  exact hne x hx y hy e
 ·rcases List.mem_append.1 hx with hx | hx
  ·exact .inr (hge x hx)
  ·exact .inl ⟨x,hx,rfl⟩
theorem Spec.frame {P:Program} {f:Nat} {args:List Value} {I:GH} {M:List Blk} {Q:Value→GH→List Blk→Prop} (h:Spec P f args I [] Q):Spec P f args I M fun r I' M''=>∃ M',M''=M'++M∧(∀ x∈M',∀ y∈M,x.num≠y.num)∧(∀ b o,I b=some o→I' b=some o)∧Q r I' M':=by
 have h0:∀ {w:World},Holds I M w→Holds I [] w:=fun hw=>⟨hw.i,by simp,by simp,by simp⟩
 rcases h with ⟨h1,h2⟩ | h
 ·refine .inl ⟨h1,fun w hw=>?_⟩
  refine(h2 w (h0 hw)).mono ?_
  rintro e w' ⟨v,I',M',e1,e2,e3,e4⟩
  obtain⟨g1,g2,g3⟩:=frame_end hw e3 e4
  exact⟨v,I',M'++M,e1,⟨M',rfl,g3,e4.le,e2⟩,g1,g2⟩
 ·refine .inr fun w hw=>?_
  obtain⟨v,w',I',M',e1,e2,e3,e4⟩:=h w (h0 hw)
  obtain⟨g1,g2,g3⟩:=frame_end hw e3 e4
  exact⟨v,w',I',M'++M,e1,⟨M',rfl,g3,e4.le,e2⟩,g1,g2⟩
mutual
def shV (k:Nat):EV→EV
 | .p id off=>.p (Nat.add id k) off
 | .sl id off n c=>.sl (Nat.add id k) off n c
 | .sx id off e n=>.sx (Nat.add id k) off e n
 | .m id=>.m (Nat.add id k)
 | .y id=>.y (Nat.add id k)
 | .f g l r=>.f g (shVs k l) (shVs k r)
 | .iv t v=>.iv t (shV k v)
 | .t l=>.t (shVs k l)
 | .a l=>.a (shVs k l)
 | .b x=>.b x
 | .i a n=>.i a n
 | .s l=>.s l
 | .pn=>.pn
 | .g n off=>.g n off
 | .sn=>.sn
 | .gs n off a c=>.gs n off a c
 | .so=>.so
 | .mn=>.mn
 | .fn=>.fn
 | .ni=>.ni
def shVs (k:Nat):List EV→List EV
 | []=>[]
 | v::l=>shV k v::shVs k l
end
section
mutual
theorem shV_ok {D0 D:Nm} {k:Nat} (hD:∀ id a,D0 id=some a→D (Nat.add id k)=some a):∀ (v:EV) {u:Value},VR D0 v u→VR D (shV k v) u
 | .p id off,u,h=>by
  simp only[VR,shV] at h ⊢
  obtain⟨a,ha,h⟩:=h
  exact⟨a,hD _ _ ha,h⟩
 | .sl id off n c,u,h=>by
  simp only[VR,shV] at h ⊢
  obtain⟨a,ha,h⟩:=h
  exact⟨a,hD _ _ ha,h⟩
 | .sx id off e n,u,h=>by
  simp only[VR,shV] at h ⊢
  obtain⟨a,ha,h⟩:=h
  exact⟨a,hD _ _ ha,h⟩
 | .m id,u,h=>by
  simp only[VR,shV] at h ⊢
  obtain⟨a,ha,h⟩:=h
  exact⟨a,hD _ _ ha,h⟩
 | .y id,u,h=>by
  simp only[VR,shV] at h ⊢
  obtain⟨a,ha,h⟩:=h
  exact⟨a,hD _ _ ha,h⟩
 | .f g l r,u,h=>by
  simp only[VR,shV] at h ⊢
  obtain⟨vs,ws,h1,h2,h⟩:=h
  exact⟨vs,ws,shVs_ok hD l h1,shVs_ok hD r h2,h⟩
 | .iv t v,u,h=>by
  simp only[VR,shV] at h ⊢
  obtain⟨x,h1,h⟩:=h
  exact⟨x,shV_ok hD v h1,h⟩
 | .t l,u,h=>by
  simp only[VR,shV] at h ⊢
  obtain⟨x,h1,h⟩:=h
  exact⟨x,shVs_ok hD l h1,h⟩
 | .a l,u,h=>by
  simp only[VR,shV] at h ⊢
  obtain⟨x,h1,h⟩:=h
  exact⟨x,shVs_ok hD l h1,h⟩
 | .b x,u,h=>by simpa only[VR,shV] using h
 | .i a n,u,h=>by simpa only[VR,shV] using h
 | .s l,u,h=>by simpa only[VR,shV] using h
 | .pn,u,h=>by simpa only[VR,shV] using h
 | .g n off,u,h=>by simpa only[VR,shV] using h
 | .sn,u,h=>by simpa only[VR,shV] using h
 | .gs n off a c,u,h=>by simpa only[VR,shV] using h
 | .so,u,h=>by simpa only[VR,shV] using h
 | .mn,u,h=>by simpa only[VR,shV] using h
 | .fn,u,h=>by simpa only[VR,shV] using h
 | .ni,u,h=>by simpa only[VR,shV] using h
theorem shVs_ok {D0 D:Nm} {k:Nat} (hD:∀ id a,D0 id=some a→D (Nat.add id k)=some a):∀ (l:List EV) {us:List Value},VRs D0 l us→VRs D (shVs k l) us
 | [],us,h=>by simpa only[VRs,shVs] using h
 | v::l,us,h=>by
  simp only[VRs,shVs] at h ⊢
  obtain⟨x,xs,h1,h2,h⟩:=h
  exact⟨x,xs,shV_ok hD v h1,shVs_ok hD l h2,h⟩
end
end
end Go.V
namespace Go.V
open Go
inductive SE where
 | cells (l:List EV) (T:Nat)
 | map (es:List (EV×EV))
noncomputable def readEnt:Ent→Option SE
 | .cells cs T lim=>cs.manyK 0 lim fun l=>some (.cells l T)
 | .map es=>some (.map es)
 | _=>none
noncomputable def readAll (t:Tri Ent):Nat→Nat→Option (List SE)
 | _,0=>some []
 | id,n+1=>opn (t.get id) none fun e=>opn (readEnt e) none fun s=>opn (readAll t (Nat.add id 1) n) none fun l=>some (s::l)
def shP (k:Nat):List (EV×EV)→List (EV×EV)
 | []=>[]
 | p::l=>(shV k p.1,shV k p.2)::shP k l
noncomputable def SE.ent (k:Nat):SE→Ent
 | .cells l T=>Tri.putsK (shVs k l) .nil 0 fun cs=>.cells cs T l.length
 | .map es=>.map (shP k es)
noncomputable def putSs {R:Type} (k:Nat):List SE→Nat→Tri Ent→(Tri Ent→R)→R
 | [],_,t,K=>K t
 | s::l,id,t,K=>t.setK (some (s.ent k)) id fun t=>putSs k l (Nat.add id 1) t K
noncomputable def memo (v:EV) (L:List SE) (m:Me):Option (EV×Me):=forceN m.n fun n=>forceN (Nat.add n L.length) fun n'=>putSs n L n m.t fun t=>some (shV n v,⟨t,n'⟩)
theorem readAll_ok {t:Tri Ent}:∀ {n id:Nat} {L:List SE},readAll t id n=some L→L.length=n∧∀ j s,L[j]?=some s→∃ e,t.get (id+j)=some e∧readEnt e=some s
 | 0,id,L,h=>by
  cases h
  exact⟨rfl,by simp⟩
 | n+1,id,L,h=>by
  unfold readAll at h
  obtain⟨e,h1,h⟩:=opn_eq h
  obtain⟨s,h2,h⟩:=opn_eq h
  obtain⟨l,h3,h⟩:=opn_eq h
  cases h
  obtain⟨g1,g2⟩:=readAll_ok h3
  refine⟨by simp[g1],fun j s' hj=>?_⟩
  cases j with
  | zero=>
   cases hj
   exact⟨e,h1,h2⟩
  | succ j=>
   obtain⟨e',k1,k2⟩:=g2 j s' (by simpa using hj)
   refine⟨e',?_,k2⟩
   rw[←k1]
   congr 1
   show id+(j+1)=id+1+j
   omega
theorem putSs_ok (k:Nat):∀ (L:List SE) (id:Nat) (t:Tri Ent),∃ t':Tri Ent,(∀ {R:Type} (K:Tri Ent→R),putSs k L id t K=K t') ∧
  ∀ j e,t'.get j=some e→(id≤j∧∃ s,L[j - id]?=some s∧e=s.ent k)∨((j < id∨id+L.length≤j)∧t.get j=some e)
 | [],id,t=>⟨t,fun K=>rfl,fun j e h=>.inr ⟨by simp;omega,h⟩⟩
 | s::L,id,t=>by
  obtain⟨t1,h1,h2⟩:=Tri.set_ok (some (s.ent k)) t id
  obtain⟨t',h3,h4⟩:=putSs_ok k L (id+1) t1
  refine⟨t',fun K=>?_,fun j e h=>?_⟩
  ·unfold putSs
   rw[h1]
   exact h3 K
  ·rcases h4 j e h with ⟨g1,s',g2,g3⟩ | ⟨g1,g2⟩
   ·refine .inl ⟨by omega,s',?_,g3⟩
    rw[show j - id=(j - (id+1))+1 by omega]
    simpa using g2
   ·rcases h2 j e g2 with ⟨rfl,g3⟩ | ⟨g3,g4⟩
    ·refine .inl ⟨Nat.le_refl _,s,by simp,?_⟩
     cases g3
     rfl
    ·refine .inr ⟨?_,g4⟩
     simp only[List.length_cons]
     omega
theorem shP_ok {D0 D:Nm} {k:Nat} (hD:∀ id a,D0 id=some a→D (Nat.add id k)=some a) {es:List (EV×EV)} {l:List MapEntry} (h:MpR D0 es l):MpR D (shP k es) l:=by
 induction h with
 | nil=>exact .nil
 | cons hk hv t ih=>exact .cons (shV_ok hD _ hk) (shV_ok hD _ hv) ih
theorem shVs_get {k:Nat}:∀ {l:List EV} {i:Nat} {v:EV},(shVs k l)[i]?=some v→∃ v0,l[i]?=some v0∧v=shV k v0
 | [],i,v,h=>by simp[shVs] at h
 | x::l,0,v,h=>by
  simp only[shVs,List.getElem?_cons_zero,Option.some.injEq] at h
  exact⟨x,rfl,h.symm⟩
 | x::l,i+1,v,h=>by
  simp only[shVs,List.getElem?_cons_succ] at h
  simpa using shVs_get h
theorem ent_sh {D0 D:Nm} {k:Nat} (hD:∀ id a,D0 id=some a→D (Nat.add id k)=some a) {E:Env} {M M':List Blk} (hM:∀ x∈M,x∈M') {a:Loc} {e:Ent} {s:SE} (h:EntR D0 E M a e) (hr:readEnt e=some s):EntR D E M' a (s.ent k):=by
 cases h with
 | @cells cs T lim arr h0 h1 h2 h3 h4 h5=>
  unfold readEnt at hr
  obtain⟨l,g1,g2,g3⟩:=Tri.many_ok cs lim 0 _ _ hr
  cases g3
  obtain⟨t',k1,k2⟩:=Tri.puts_ok (shVs k l) (.nil:Tri EV) 0
  show EntR D E M' a (Tri.putsK (shVs k l) .nil 0 fun cs=>Ent.cells cs T l.length)
  rw[k1,g1]
  refine .cells arr h0 (hM _ h1) h2 (fun i v hi hg=>?_) h4 h5
  rcases k2 i v hg with ⟨_,h⟩ | ⟨_,h⟩
  ·obtain⟨v0,e1,rfl⟩:=shVs_get (by simpa using h)
   have:=g2 i hi
   rw[Nat.zero_add,e1] at this
   obtain⟨x,f1,f2⟩:=h3 i v0 hi this
   exact⟨x,f1,shV_ok hD _ f2⟩
  ·cases h
 | map l clock h1 h2=>
  cases hr
  exact .map l clock (hM _ h1) (shP_ok hD h2)
 | loop L h1 h2=>cases hr
 | done L h1 h2 h3=>cases hr
theorem memo_ok {Y:RK} (hE:EOK Y.P Y.E) (hF:FunsOK Y.P) (hmx:Y.P.follows .mixedOrders=true) {f g:Nat} {args:List EV} {m0:Me} {v0:EV} {L:List SE}
  (h0:callF ⟨Y.P,Y.E,fun _=>none,fun _ _ _=>none⟩ (E_code ⟨Y.P,Y.E,fun _=>none,fun _ _ _=>none⟩ f) g args ⟨.nil,0⟩=some (v0,m0)) (hL:readAll m0.t 0 m0.n=some L)
  (hcl:∀ D us,VRs D args us→VRs (fun _=>none) args us) {m m':Me} {v:EV} (h:memo v0 L m=some (v,m')) {D:Nm} {I:GH} {M:List Blk} {us:List Value} (hu:VRs D args us) (hm:MS Y D m I M) :
  Spec Y.P g us I M fun r I' M'=>∃ D',D.ext D' m.n∧VR D' v r∧MS Y D' m' I' M':=by
 have hpr:PrimOK ⟨Y.P,Y.E,fun _=>none,fun _ _ _=>none⟩:=fun g vs m v m' h=>by cases h
 have hm0:MS ⟨Y.P,Y.E,fun _=>none,fun _ _ _=>none⟩ (fun _=>none) ⟨.nil,0⟩ I []:=⟨fun id e a h h'=>(by cases h'),fun id id' e e' a a' h h1 h'=>(by cases h'),fun id a h=>(by cases h),fun g cs h=>(by cases h)⟩
 have hs:=(reckon (Y:=⟨Y.P,Y.E,fun _=>none,fun _ _ _=>none⟩) hE hF hpr hmx h0 (hcl D us hu) hm0).frame (M:=M)
 refine Spec.weakK hs ?_
 rintro r I' M'' ⟨M0,rfl,hne,hle,D0,-,hv,hs0⟩
 unfold memo at h
 rw[forceN_eq,forceN_eq] at h
 obtain⟨t',h1,h2⟩:=putSs_ok m.n L m.n m.t
 rw[h1] at h
 cases h
 obtain⟨g1,g2⟩:=readAll_ok hL
 let D':Nm:=fun id=>if id < m.n then D id else D0 (id - m.n)
 have hD:∀ id a,D0 id=some a→D' (Nat.add id m.n)=some a:=fun id a ha=>by
  show (if id+m.n < m.n then D (id+m.n) else D0 (id+m.n - m.n))=some a
  rw[if_neg (by omega),Nat.add_sub_cancel,ha]
 have hle':D.le D':=fun id a ha=>by
  show (if id < m.n then D id else D0 (id - m.n))=some a
  rw[if_pos (hm.dom _ _ ha),ha]
 have lo:∀ id,id < m.n→D' id=D id:=fun id hi=>if_pos hi
 have hi':∀ id,m.n≤id→D' id=D0 (id - m.n):=fun id hi=>if_neg (by omega)
 have src:∀ id e a,t'.get id=some e→D' id=some a→(m.n≤id∧∃ s e0,e=s.ent m.n∧m0.t.get (id - m.n)=some e0∧readEnt e0=some s∧D0 (id - m.n)=some a)∨(id < m.n∧m.t.get id=some e∧D id=some a):=fun id e a he ha=>by
  rcases h2 id e he with ⟨k1,s,k2,k3⟩ | ⟨k1,k2⟩
  ·obtain⟨e0,k4,k5⟩:=g2 _ _ k2
   rw[Nat.zero_add] at k4
   rw[hi' _ k1] at ha
   exact .inl ⟨k1,s,e0,k3,k4,k5,ha⟩
  ·rcases Nat.lt_or_ge id m.n with hlt | hge
   ·rw[lo _ hlt] at ha
    exact .inr ⟨hlt,k2,ha⟩
   ·rw[hi' _ hge] at ha
    have:=hs0.dom _ _ ha
    omega
 refine⟨D',fun id hi=>lo id hi,shV_ok hD _ hv,⟨fun id e a he ha=>?_,fun id id' e e' a a' he he' ha ha' hb=>?_,fun id a ha=>?_,hm.glo.mono hle⟩⟩
 ·rcases src id e a he ha with ⟨k1,s,e0,rfl,k2,k3,k4⟩ | ⟨k1,k2,k3⟩
  ·exact ent_sh hD (fun x hx=>List.mem_append_left _ hx) (hs0.ent _ _ _ k2 k4) k3
  ·exact(hm.ent _ _ _ k2 k3).mono hle' fun x hx _=>List.mem_append_right _ hx
 ·rcases src id e a he ha with ⟨k1,s,e0,rfl,k2,k3,k4⟩ | ⟨k1,k2,k3⟩
  ·rcases src id' e' a' he' ha' with ⟨j1,s',e0',rfl,j2,j3,j4⟩ | ⟨j1,j2,j3⟩
   ·have:=hs0.inj _ _ _ _ _ _ k2 j2 k4 j4 hb
    omega
   ·obtain⟨x,hx,hxn⟩:=hs0.blk k2 k4
    obtain⟨y,hy,hyn⟩:=hm.blk j2 j3
    exact(hne x hx y hy (hxn.trans (hb.trans hyn.symm))).elim
  ·rcases src id' e' a' he' ha' with ⟨j1,s',e0',rfl,j2,j3,j4⟩ | ⟨j1,j2,j3⟩
   ·obtain⟨x,hx,hxn⟩:=hs0.blk j2 j4
    obtain⟨y,hy,hyn⟩:=hm.blk k2 k3
    exact(hne x hx y hy (hxn.trans (hb.symm.trans hyn.symm))).elim
   ·exact hm.inj _ _ _ _ _ _ k2 j2 k3 j3 hb
 ·show id < m.n+L.length
  rcases Nat.lt_or_ge id m.n with hlt | hge
  ·omega
  ·rw[hi' _ hge] at ha
   have:=hs0.dom _ _ ha
   omega
end Go.V
namespace Go.V
open Go Go.Proofs
theorem lies_many (k:Nat):liesAt Tryz.prog Tryz.prog.depth 229 ((k+1) * 2 / Tryz.prog.cellsOf 229) 0 229 1=true:=by
 have h2:Tryz.prog.cellsOf 229=2:=by kernel_rfl
 have hd:Tryz.prog.depth=(Tryz.prog.depth - 1)+1:=by kernel_rfl
 have hsl:sameLayout Tryz.prog Tryz.prog.depth 229 229=true:=by kernel_rfl
 have hr:rowAt Tryz.prog (sameLayout Tryz.prog Tryz.prog.depth · 229) Tryz.prog.depth 229 (k+1) 0 1=true:=by
  generalize hf:(sameLayout Tryz.prog Tryz.prog.depth · 229)=f
  have hf':f 229=true:=by rw[←hf];exact hsl
  rw[hd]
  unfold rowAt
  simp only[h2,hf']
  simp
 rw[h2,Nat.mul_div_cancel _ (by decide:0 < 2)]
 rw[hd]
 unfold liesAt
 rw[hr]
 rfl
theorem copyCheckN {I:GH} (pre post:List Blk) (b:Nat) (v:Value) (k:Nat) (rest:List Value) (hr:rest.length=2 * k) :
  Spec Tryz.prog 203 [ptr b] I (pre++⟨b,.cells (.pointer none::v::rest).toArray 229 (0,0)⟩::post) fun r I' M'=>r=.tuple #[]∧I'=I∧M'=pre++⟨b,.cells (splice (.pointer none::v::rest) 0 [ptr b]).toArray 229 (0,0)⟩::post:=by
 obtain⟨inf,z,hi,hi1,_⟩:=(TryzEOK 229 _ rfl).inf
 refine spec_of_V [] TryzEOK Tryz.func203 rfl rfl rfl ?_
 intro B h0
 have hm:∀ {o:Obj},(⟨b,o⟩:Blk)∈pre++⟨b,o⟩::post:=fun {o}=>List.mem_append.2 (.inr (.head _))
 have hsz:(Value.pointer none::v::rest).toArray.size=(k+1) * 2:=by
  simp[hr]
  omega
 have hl:liesAt Tryz.prog Tryz.prog.depth 229 ((Value.pointer none::v::rest).toArray.size / Tryz.prog.cellsOf 229) 0 229 1=true:=by
  rw[hsz]
  exact lies_many k
 refine LoadOb.mk [.pointer none] (blk_rd (cs:=.pointer none::v::rest) (k:=0) (n:=1) (T:=229) hm (by simp)) ?_
 refine .other (OtherOb.eqNil TryzEOK rfl (by simp) rfl rfl rfl rfl ?_)
 refine CondOb.mk (fun _=>?_) (fun h=>by cases h)
 refine OtherOb.conv rfl (by simp) rfl (fun w hw=>Lib.run_to_unsafe (t:=229) (e:=229) w ⟨b,0,none⟩ (by kernel_rfl) (by kernel_rfl) (j:=inf) (cells:=(Value.pointer none::v::rest).toArray.size) hi (by rw[hi1];decide) (shape_of hw hm) (by rw[hsz];show 0 < _;omega)) ?_
 refine CallOb.mk (pre++⟨b,.cells (.pointer none::v::rest).toArray 229 (0,0)⟩::post) [] _ (by simp) (NoEscape_spec _) ?_
 rintro v I' M' - ⟨rfl,rfl,rfl⟩
 refine OtherOb.conv rfl (by simp) rfl (fun w hw=>Lib.run_from_unsafe (u:=229) (e:=229) w ⟨b,0,none⟩ (by kernel_rfl) (by kernel_rfl) (j:=inf) (cells:=(Value.pointer none::v::rest).toArray.size) hi (shape_of hw (List.mem_append.2 (.inl hm))) hl) ?_
 refine StoreOb.mk pre post _ _ (List.append_nil _) rfl (by rw[hsz];show 0+0+1≤(k+1) * 2;omega) rfl ?_
 exact⟨_,_,.refl,rfl,rfl,rfl⟩
theorem copyCheckU {I:GH} {M:List Blk} {b:Nat} {arr:Array Value} {T:Nat} (hM:(⟨b,.cells arr T (0,0)⟩:Blk)∈M) (h0:arr[0]?=some (ptr b)) :
  Spec Tryz.prog 203 [ptr b] I M fun r I' M'=>r=.tuple #[]∧I'=I∧M'=M:=by
 refine spec_of_V [] TryzEOK Tryz.func203 rfl rfl rfl ?_
 intro B h0'
 have hr:Rd I M ((⟨b,0,none⟩:Addr).add 0) 1 [ptr b]:=by
  obtain⟨l⟩:=arr
  cases l with
  | nil=>simp at h0
  | cons x l=>
   simp only[List.getElem?_toArray,List.getElem?_cons_zero,Option.some.injEq] at h0
   subst h0
   exact blk_rd (cs:=ptr b::l) (k:=0) (n:=1) hM (by simp)
 refine LoadOb.mk [ptr b] hr ?_
 refine .other (OtherOb.eqNil TryzEOK rfl (by simp) rfl rfl rfl rfl ?_)
 refine CondOb.mk (fun h=>by cases h) (fun _=>?_)
 refine LoadOb.mk [ptr b] hr ?_
 refine .other (OtherOb.neSame TryzEOK rfl (by simp) rfl rfl rfl rfl rfl ?_)
 refine CondOb.mk (fun h=>by cases h) (fun _=>?_)
 exact⟨_,_,.refl,rfl,rfl,rfl⟩
theorem store_at {Y:RK} {D:Nm} {m:Me} {I:GH} {M:List Blk} {R:Type} {id off:Nat} {cs:Tri EV} {T lim:Nat} {a:Loc} {arr:Array Value} {pre post:List Blk} (hm:MS Y D m I M) (hg:m.t.get id=some (.cells cs T lim)) (ha:D id=some a)
  (ho:a.o=0) (hsp:M=pre++⟨a.b,.cells arr T (0,0)⟩::post) (hsz:a.o+lim≤arr.size) (hc:∀ i v,i < lim→cs.get i=some v→∃ x,arr[a.o+i]?=some x∧VR D v x) (hk:∀ i,Y.E T=some i→arr.size=a.o+a.c * i.size) (hmx:a.c≤maxLen)
  {l:List EV} {vs:List Value} (hl:VRs D l vs) {K:Me→Option R} {r:R} (h:storeE m (.p id off) l K=some r) :
  ∃ m',K m'=some r∧m'.n=m.n∧off+vs.length≤arr.size∧MS Y D m' I (pre++⟨a.b,.cells (splice arr.toList off vs).toArray T (0,0)⟩::post):=by
 unfold storeE at h
 simp only[hg] at h
 cases hb:(Nat.ble (Nat.add off l.length) lim && l.all EV.one) with
 | false=>rw[hb] at h;cases h
 | true=>
  rw[hb] at h
  simp only[cond_true] at h
  rw[Bool.and_eq_true] at hb
  have hlim:off+l.length≤lim:=Nat.le_of_ble_eq_true hb.1
  obtain⟨cs',h1,h2⟩:=Tri.puts_ok l cs off
  rw[h1] at h
  obtain⟨t',h3,h4⟩:=Tri.set_ok (some (Ent.cells cs' T lim)) m.t id
  rw[h3] at h
  have hlen:=hl.len
  have hfit:off+vs.length≤arr.size:=by omega
  refine⟨_,h,rfl,hfit,?_⟩
  have hnew:∀ x∈M,x.num≠a.b→x∈pre++⟨a.b,.cells (splice arr.toList off vs).toArray T (0,0)⟩::post:=fun x hx hn=>by
   rw[hsp] at hx
   rcases List.mem_append.1 hx with hx | hx
   ·exact List.mem_append.2 (.inl hx)
   ·rcases List.mem_cons.1 hx with rfl | hx
    ·exact(hn rfl).elim
    ·exact List.mem_append.2 (.inr (List.mem_cons_of_mem _ hx))
  refine hm.step (fun i e hi=>(h4 i e hi).imp (fun q=>⟨q.1,some_inj' q.2⟩) fun q=>q) ha (Nm.le_refl D) (fun _ _=>rfl) hm.dom (fun _ _ h=>h) (fun i e a' hne hi hai x hx hn=>hnew x hx ?_) ?_ ?_
  ·rw[hn]
   exact fun hb=>hne (hm.inj _ _ _ _ _ _ hi hg hai ha hb)
  ·have hls:(splice arr.toList off vs).length=arr.size:=by rw[splice_len (by simpa using hfit)];simp
   refine .cells (splice arr.toList off vs).toArray ho (by simp) (by simp[hls];exact hsz) (fun i v hi hgi=>?_) (fun i hi=>by simp[hls];exact hk i hi) hmx
   rw[ho,Nat.zero_add]
   simp only[List.getElem?_toArray]
   rw[splice_get (by simpa using hfit)]
   rcases h2 i v hgi with ⟨g1,g2⟩ | ⟨g1,g2⟩
   ·have hlt:=(List.getElem?_eq_some_iff.1 g2).1
    rw[if_pos ⟨g1,by omega⟩]
    exact hl.get g2
   ·rw[if_neg (by omega)]
    have:=hc i v hi g2
    rw[ho,Nat.zero_add] at this
    simpa using this
  ·intro i e a' hne hi hai hb
   exact hne (hm.inj _ _ _ _ _ _ hi hg hai ha hb)
noncomputable def ccE (m:Me) (vs:List EV):Option (EV×Me):=match vs with
 | [.p id 0]=>(match m.t.get id with
  | some (.cells cs T lim)=>cnd (Nat.beq T 229 && Nat.ble 2 lim) (match cs.get 0 with
   | some .pn=>storeE m (.p id 0) [.p id 0] fun m=>some (.t [],m)
   | some (.p id' 0)=>cnd (Nat.beq id id') (some (.t [],m)) none
   | _=>none) none
  | _=>none)
 | _=>none
theorem cc_ok {Y:RK} (hY:Y.P=Tryz.prog) (hYE:Y.E=TryzE) {m m':Me} {vs:List EV} {v:EV} (h:ccE m vs=some (v,m')) {D:Nm} {I:GH} {M:List Blk} {us:List Value} (hu:VRs D vs us) (hm:MS Y D m I M) :
  Spec Y.P 203 us I M fun r I' M'=>∃ D',D.ext D' m.n∧VR D' v r∧MS Y D' m' I' M':=by
 unfold ccE at h
 split at h
 ·rename_i id
  obtain⟨x,xs,hx,hn,rfl⟩:=hu.uncons
  obtain rfl:=hn.unnil
  obtain⟨a,ha,rfl⟩:=hx.ptr
  split at h
  ·rename_i cs T lim hg
   obtain⟨h1,hq⟩:=cnd_some h
   clear h
   rw[Bool.and_eq_true] at h1
   obtain⟨hT,hlim⟩:=h1
   obtain rfl:=Nat.eq_of_beq_eq_true hT
   have hlim:=Nat.le_of_ble_eq_true hlim
   obtain⟨arr,ho,hM,hl,hc,hk,hmx⟩:=hm.ent _ _ _ hg ha
   have hsz:=hk _ (by rw[hYE];rfl)
   have hsz:arr.size=a.c * 2:=by
    rw[hsz,ho,Nat.zero_add]
   have hp:Value.pointer (some ⟨a.b,a.o+0,none⟩)=ptr a.b:=by rw[ho];rfl
   split at hq
   ·rename_i hc0
    obtain⟨x0,hx0,hv0⟩:=hc 0 _ (by omega) hc0
    obtain⟨pre,post,hsp⟩:=List.append_of_mem hM
    obtain⟨m1,h2,h3,h4,h5⟩:=store_at hm hg ha ho hsp hl hc hk hmx (l:=[.p id 0]) (vs:=[ptr a.b]) (by simp only[VRs,VR];exact⟨_,_,⟨a,ha,hp.symm⟩,rfl,rfl⟩) hq
    cases h2
    rw[hp,hY,hsp]
    obtain⟨l⟩:=arr
    have hx0':x0=.pointer none:=by simpa only[VR] using hv0
    rw[ho] at hx0
    match l,hx0,hsz with
    | [],hx0,_=>simp at hx0
    | [_],_,hsz=>simp at hsz;omega
    | y::w::rest,hx0,hsz=>
     have hy:y=.pointer none:=by simpa[hx0'] using hx0
     subst hy
     have hrl:rest.length=2 * (a.c - 1):=by simp at hsz;omega
     refine Spec.weakK (copyCheckN pre post a.b w (a.c - 1) rest hrl) ?_
     rintro r I' M' ⟨rfl,rfl,rfl⟩
     exact⟨D,Nm.ext_refl,by simp only[VR,VRs];exact⟨[],rfl,rfl⟩,h5⟩
   ·rename_i id' hc0
    obtain⟨h2,hq2⟩:=cnd_some hq
    obtain rfl:=Nat.eq_of_beq_eq_true h2
    cases hq2
    obtain⟨x0,hx0,hv0⟩:=hc 0 _ (by omega) hc0
    obtain⟨a',ha',rfl⟩:=hv0.ptr
    rw[ha] at ha'
    cases ha'
    rw[hp] at hx0 ⊢
    rw[hY]
    refine Spec.weakK (copyCheckU hM (by rw[←hx0,ho])) ?_
    rintro r I' M' ⟨rfl,rfl,rfl⟩
    exact⟨D,Nm.ext_refl,by simp only[VR,VRs];exact⟨[],rfl,rfl⟩,hm⟩
   ·cases hq
  ·cases h
 ·cases h
end Go.V
namespace Go.V
open Go Go.Proofs
def frz (I:GH):List Blk→GH
 | []=>I
 | x::l=>ins (frz I l) x.num x.obj
theorem frz_inv {I:GH}:∀ {M:List Blk} {b:Nat} {o:Obj},frz I M b=some o→I b=some o∨∃ x∈M,x.num=b∧x.obj=o
 | [],b,o,h=>.inl h
 | x::l,b,o,h=>by
  unfold frz ins at h
  by_cases e:b=x.num
  ·subst e
   simp only[beq_self',cond_true,Option.some.injEq] at h
   exact .inr ⟨x,by simp,rfl,h⟩
  ·simp only[beq_ne e,cond_false] at h
   rcases frz_inv h with h | ⟨y,h1,h2,h3⟩
   ·exact .inl h
   ·exact .inr ⟨y,by simp[h1],h2,h3⟩
theorem frz_mem {I:GH}:∀ {M:List Blk} (hn:(M.map (·.num)).Nodup) {x:Blk},x∈M→frz I M x.num=some x.obj
 | y::l,hn,x,h=>by
  simp only[List.map_cons,List.nodup_cons] at hn
  rcases List.mem_cons.1 h with rfl | h
  ·unfold frz ins
   simp only[beq_self',cond_true]
  ·have e:x.num≠y.num:=fun e=>hn.1 (List.mem_map.2 ⟨x,h,e⟩)
   unfold frz ins
   simp only[beq_ne e,cond_false]
   exact frz_mem hn.2 h
theorem frz_le {I:GH}:∀ {M:List Blk} (hd:∀ x∈M,I x.num=none) {b:Nat} {o:Obj},I b=some o→frz I M b=some o
 | [],hd,b,o,h=>h
 | y::l,hd,b,o,h=>by
  have e:b≠y.num:=fun e=>by
   have:=hd y (by simp)
   rw[←e,h] at this
   cases this
  unfold frz ins
  simp only[beq_ne e,cond_false]
  exact frz_le (fun x hx=>hd x (by simp[hx])) h
theorem kn_frz {I:GH} {M:List Blk} (hn:(M.map (·.num)).Nodup) (hd:∀ x∈M,I x.num=none) {b:Nat} {o:Obj} (h:Kn I M b o):frz I M b=some o:=by
 rcases h with h | ⟨x,h1,rfl,rfl⟩
 ·exact frz_le hd h
 ·exact frz_mem hn h1
structure Frz (I:GH) (M:List Blk) (J:GH):Prop where
 kn:∀ b o,Kn I M b o→J b=some o
 inv:∀ b o,J b=some o→Kn I M b o
theorem Frz.rd {I J:GH} {M:List Blk} (h:Frz I M J) {a:Addr} {n:Nat} {vs:List Value} (hr:Rd I M a n vs) (M':List Blk):Rd J M' a n vs:=by
 obtain⟨h1,cs,T,f,h2,h3,h4⟩:=hr
 exact⟨h1,cs,T,f,.inl (h.kn _ _ h2),h3,h4⟩
theorem Frz.le {I J:GH} {M:List Blk} (h:Frz I M J):∀ b o,I b=some o→J b=some o:=fun b o hb=>h.kn b o (.inl hb)
theorem frz_end {I I':GH} {M':List Blk} {w w':World} (h1:Holds I' M' w') (h2:Kept I [] w I' M' w'):Frz I' M' (frz I' M')∧Holds (frz I' M') [] w'∧Kept I [] w (frz I' M') [] w':=by
 refine⟨⟨fun b o h=>kn_frz h1.nd h1.d h,fun b o h=>?_⟩,⟨fun b o h=>?_,by simp,by simp,by simp⟩,⟨fun b o h=>frz_le h1.d (h2.le _ _ h),fun b o h=>?_,by simp,h2.old,h2.out,h2.sz⟩⟩
 ·rcases frz_inv h with h | ⟨x,g1,g2,g3⟩
  ·exact .inl h
  ·exact .inr ⟨x,g1,g2,g3⟩
 ·rcases frz_inv h with h | ⟨x,g1,rfl,rfl⟩
  ·exact h1.i _ _ h
  ·exact h1.m _ g1
 ·rcases frz_inv h with h | ⟨x,g1,rfl,rfl⟩
  ·exact h2.newI _ _ h
  ·rcases h2.newM _ g1 with ⟨y,hy,_⟩ | h
   ·cases hy
   ·exact .inr h
theorem Spec.frz {P:Program} {f:Nat} {args:List Value} {I:GH} {Q:Value→GH→List Blk→Prop} (h:Spec P f args I [] Q):Spec P f args I [] fun r J M''=>M''=[]∧(∀ b o,I b=some o→J b=some o)∧∃ I' M',Q r I' M'∧Frz I' M' J:=by
 rcases h with ⟨h1,h2⟩ | h
 ·refine .inl ⟨h1,fun w hw=>?_⟩
  refine(h2 w hw).mono ?_
  rintro e w' ⟨v,I',M',e1,e2,e3,e4⟩
  obtain⟨g1,g2,g3⟩:=frz_end e3 e4
  exact⟨v,_,[],e1,⟨rfl,g3.le,I',M',e2,g1⟩,g2,g3⟩
 ·refine .inr fun w hw=>?_
  obtain⟨v,w',I',M',e1,e2,e3,e4⟩:=h w hw
  obtain⟨g1,g2,g3⟩:=frz_end e3 e4
  exact⟨v,w',_,[],e1,⟨rfl,g3.le,I',M',e2,g1⟩,g2,g3⟩
noncomputable def triL {α:Type} (l:List α):Tri α:=Tri.putsK l .nil 0 id
theorem triL_get {α:Type} {l:List α} {i:Nat} {v:α} (h:(triL l).get i=some v):l[i]?=some v:=by
 obtain⟨t,h1,h2⟩:=Tri.puts_ok l (.nil:Tri α) 0
 unfold triL at h
 rw[h1] at h
 rcases h2 _ _ h with ⟨_,h⟩ | ⟨_,h⟩
 ·simpa using h
 ·cases h
noncomputable def GTs:GT:=fun g=>cnd (Nat.beq g 0) (some (triL (countsL.map (EV.i .i64))))
 (cnd (Nat.beq g 1) (some (triL (signsL.map EV.s)))
 (cnd (Nat.beq g 2) (some (triL [.i .i64 0,.i .i64 1,.s [63],.i .i64 0,.i .i64 (-1),.s [42],.i .i64 1,.i .i64 (-1),.s [43]]))
 (cnd (Nat.beq g 4) (some (triL (debL.map (EV.i .u8)))) none)))
theorem gi_map {α:Type} {f:α→EV} {h:α→Value} (hf:∀ x D,VR D (f x) (h x)) {l:List α} {i:Nat} {v:EV} (hv:(triL (l.map f)).get i=some v):∃ x,(l.map h).toArray[i]?=some x∧∀ D,VR D v x:=by
 have:=triL_get hv
 rw[List.getElem?_map] at this
 cases hx:l[i]? with
 | none=>rw[hx] at this;cases this
 | some x=>
  rw[hx] at this
  simp only[Option.map_some,Option.some.injEq] at this
  subst this
  exact⟨h x,by simp[hx],hf x⟩
theorem gi_tabs {I:GH} (hT:Tabs I debL):GI GTs I:=by
 intro g cs h
 unfold GTs at h
 rw[cnd_eq,cnd_eq,cnd_eq,cnd_eq] at h
 cases h1:Nat.beq g 0 with
 | true=>
  rw[h1,cond_true] at h
  obtain rfl:=Nat.eq_of_beq_eq_true h1
  have h:=Option.some.inj h
  subst h
  obtain⟨T,f,h⟩:=hT.c
  exact⟨_,T,f,h,fun i v hv=>gi_map (f:=EV.i .i64) (h:=Value.int .i64) (fun x D=>by simp only[VR]) hv⟩
 | false=>
 rw[h1,cond_false] at h
 cases h2:Nat.beq g 1 with
 | true=>
  rw[h2,cond_true] at h
  obtain rfl:=Nat.eq_of_beq_eq_true h2
  have h:=Option.some.inj h
  subst h
  obtain⟨T,f,h⟩:=hT.s
  exact⟨_,T,f,h,fun i v hv=>gi_map (f:=EV.s) (h:=fun l=>Value.string (strOf l)) (fun x D=>by simp only[VR,strOf]) hv⟩
 | false=>
 rw[h2,cond_false] at h
 cases h3:Nat.beq g 2 with
 | true=>
  rw[h3,cond_true] at h
  obtain rfl:=Nat.eq_of_beq_eq_true h3
  have h:=Option.some.inj h
  subst h
  obtain⟨T,f,h⟩:=hT.p
  refine⟨_,T,f,h,fun i v hv=>?_⟩
  have hv:=triL_get hv
  rcases i with _ | _ | _ | _ | _ | _ | _ | _ | _ | i
  all_goals first | (cases hv;exact⟨_,rfl,fun D=>by simp only[VR]<;>rfl⟩) | (simp at hv)
 | false=>
 rw[h3,cond_false] at h
 cases h4:Nat.beq g 4 with
 | true=>
  rw[h4,cond_true] at h
  obtain rfl:=Nat.eq_of_beq_eq_true h4
  have h:=Option.some.inj h
  subst h
  obtain⟨_,_,T,f,h⟩:=hT.d
  exact⟨_,T,f,h,fun i v hv=>gi_map (f:=EV.i .u8) (h:=Value.int .u8) (fun x D=>by simp only[VR]) hv⟩
 | false=>
 rw[h4,cond_false] at h
 cases h
noncomputable def idxN:List UInt8→Nat→Nat→Int
 | [],_,_=>-1
 | b::l,c,k=>cnd (Nat.beq b.toNat c) (Int.ofNat k) (idxN l c (Nat.succ k))
theorem idxN_eq (c:UInt8):∀ (l:List UInt8) (k:Nat),idxN l c.toNat k=if Lib.indexByte l c=-1 then -1 else Lib.indexByte l c+k
 | [],k=>rfl
 | b::l,k=>by
  have hge:=Lib.indexByte_ge l c
  unfold idxN Lib.indexByte
  rw[cnd_eq]
  by_cases h:b=c
  ·subst h
   simp
  ·have h1:Nat.beq b.toNat c.toNat=false:=by
    cases hb:Nat.beq b.toNat c.toNat with
    | false=>rfl
    | true=>exact absurd (UInt8.toNat_inj.1 (Nat.eq_of_beq_eq_true hb)) h
   have h2:(b == c)=false:=by simpa using h
   rw[h1,cond_false,h2,idxN_eq c l]
   simp only[Bool.false_eq_true,if_false]
   by_cases h3:Lib.indexByte l c=-1
   ·simp[h3]
   ·have h4:(Lib.indexByte l c == -1)=false:=by simpa using h3
    rw[h4,if_neg h3]
    simp only[Bool.false_eq_true,if_false]
    rw[if_neg (by omega)]
    omega
theorem yk_funs:FunsOK Tryz.prog:=funsOK_of (by kernel_rfl)
theorem yk_orders:Tryz.prog.follows .mixedOrders=true:=by kernel_rfl
noncomputable def YZ:RK:=⟨Tryz.prog,TryzE,fun _=>none,fun _ _ _=>none⟩
noncomputable def rdM:List SE:=[.map [(.i .u8 123,.f 217 [] []),(.i .u8 34,.f 218 [] []),(.i .u8 91,.f 219 [] []),(.i .u8 46,.f 220 [] []),(.i .u8 47,.f 236 [] [.p 1 0]),(.i .u8 38,.f 236 [] [.p 2 0]),(.i .u8 33,.f 236 [] [.p 3 0]),(.i .u8 63,.f 236 [] [.p 4 0]),(.i .u8 42,.f 236 [] [.p 5 0]),(.i .u8 43,.f 236 [] [.p 6 0]),(.i .u8 40,.f 236 [] [.p 7 0]),(.i .u8 41,.f 236 [] [.p 8 0]),(.i .u8 60,.f 222 [] []),(.i .u8 62,.f 236 [] [.p 10 0]),(.i .u8 58,.f 236 [] [.p 11 0]),(.i .u8 65,.f 223 [] []),(.i .u8 66,.f 223 [] []),(.i .u8 67,.f 223 [] []),(.i .u8 68,.f 223 [] []),(.i .u8 69,.f 223 [] []),(.i .u8 70,.f 223 [] []),(.i .u8 71,.f 223 [] []),(.i .u8 72,.f 223 [] []),(.i .u8 73,.f 223 [] []),(.i .u8 74,.f 223 [] []),(.i .u8 75,.f 223 [] []),(.i .u8 76,.f 223 [] []),(.i .u8 77,.f 223 [] []),(.i .u8 78,.f 223 [] []),(.i .u8 79,.f 223 [] []),(.i .u8 80,.f 223 [] []),(.i .u8 81,.f 223 [] []),(.i .u8 82,.f 223 [] []),(.i .u8 83,.f 223 [] []),(.i .u8 84,.f 223 [] []),(.i .u8 85,.f 223 [] []),(.i .u8 86,.f 223 [] []),(.i .u8 87,.f 223 [] []),(.i .u8 88,.f 223 [] []),(.i .u8 89,.f 223 [] []),(.i .u8 90,.f 223 [] []),(.i .u8 95,.f 223 [] []),(.i .u8 97,.f 223 [] []),(.i .u8 98,.f 223 [] []),(.i .u8 99,.f 223 [] []),(.i .u8 100,.f 223 [] []),(.i .u8 101,.f 223 [] []),(.i .u8 102,.f 223 [] []),(.i .u8 103,.f 223 [] []),(.i .u8 104,.f 223 [] []),(.i .u8 105,.f 223 [] []),(.i .u8 106,.f 223 [] []),(.i .u8 107,.f 223 [] []),(.i .u8 108,.f 223 [] []),(.i .u8 109,.f 223 [] []),(.i .u8 110,.f 223 [] []),(.i .u8 111,.f 223 [] []),(.i .u8 112,.f 223 [] []),(.i .u8 113,.f 223 [] []),(.i .u8 114,.f 223 [] []),(.i .u8 115,.f 223 [] []),(.i .u8 116,.f 223 [] []),(.i .u8 117,.f 223 [] []),(.i .u8 118,.f 223 [] []),(.i .u8 119,.f 223 [] []),(.i .u8 120,.f 223 [] []),(.i .u8 121,.f 223 [] []),(.i .u8 122,.f 223 [] [])],
 .cells [.i .u8 3] 5,
 .cells [.i .u8 4] 5,
 .cells [.i .u8 5] 5,
 .cells [.i .u8 6] 5,
 .cells [.i .u8 7] 5,
 .cells [.i .u8 8] 5,
 .cells [.i .u8 9] 5,
 .cells [.i .u8 10] 5,
 .cells [.i .u8 11] 5,
 .cells [.i .u8 12] 5,
 .cells [.i .u8 13] 5]
theorem rd_run:(opn (callF YZ (E_code YZ 100000) 205 [] ⟨.nil,0⟩) none fun p=>opn (readAll p.2.t 0 p.2.n) none fun L=>some (p.1,L))=some (EV.m 0,rdM):=by kernel_rfl
noncomputable def prL:PR:=fun g vs m=>cnd (Nat.beq g 253) (match vs with
 | [.s l,.i .u8 (.ofNat k)]=>cnd (Nat.blt k 256) (some (.i .i64 (idxN l k 0),m)) none
 | _=>none) (cnd (Nat.beq g 216) (match vs with
 | [v]=>some (v,m)
 | _=>none) (cnd (Nat.beq g 205) (match vs with
 | []=>memo (.m 0) rdM m
 | _=>none) (cnd (Nat.beq g 203) (ccE m vs) none)))
noncomputable def YK:RK:=⟨Tryz.prog,TryzE,GTs,prL⟩
theorem prim_ok:PrimOK YK:=by
 intro g vs m v m' h D I M us hu hm
 change prL g vs m=some (v,m') at h
 unfold prL at h
 rw[cnd_eq] at h
 cases h1:Nat.beq g 253 with
 | true=>
  rw[h1,cond_true] at h
  obtain rfl:=Nat.eq_of_beq_eq_true h1
  split at h
  ·rename_i l k
   rw[cnd_eq] at h
   cases hk:Nat.blt k 256 with
   | false=>rw[hk] at h;cases h
   | true=>
    rw[hk,cond_true] at h
    have hk':k < 256:=Nat.blt_eq ▸ hk
    cases h
    simp only[VRs,VR] at hu
    obtain⟨x,xs,rfl,⟨y,ys,rfl,rfl,rfl⟩,rfl⟩:=hu
    have hkc:(UInt8.ofNat k).toNat=k:=by simp;omega
    have:=IndexByteString_spec (I:=I) (M:=M) ⟨l.toArray⟩ (UInt8.ofNat k)
    rw[hkc] at this
    refine Spec.weakK this ?_
    rintro r I' M' ⟨rfl,rfl,rfl⟩
    refine⟨D,Nm.ext_refl,?_,hm⟩
    simp only[VR]
    have:=idxN_eq (UInt8.ofNat k) l 0
    rw[hkc] at this
    rw[this]
    split
    ·rename_i e
     simp[e]
    ·simp
  ·cases h
 | false=>
 rw[h1,cond_false,cnd_eq] at h
 cases h2:Nat.beq g 216 with
 | true=>
  rw[h2,cond_true] at h
  obtain rfl:=Nat.eq_of_beq_eq_true h2
  split at h
  ·cases h
   simp only[VRs] at hu
   obtain⟨x,xs,hu,rfl,rfl⟩:=hu
   refine Spec.weakK (NoEscape_spec _) ?_
   rintro r I' M' ⟨rfl,rfl,rfl⟩
   exact⟨D,Nm.ext_refl,hu,hm⟩
  ·cases h
 | false=>
 rw[h2,cond_false,cnd_eq] at h
 cases h3:Nat.beq g 205 with
 | true=>
  rw[h3,cond_true] at h
  obtain rfl:=Nat.eq_of_beq_eq_true h3
  split at h
  ·obtain⟨⟨v0,m0⟩,h4,h5⟩:=opn_eq rd_run
   obtain⟨L,h6,h7⟩:=opn_eq h5
   cases h7
   exact memo_ok (Y:=YK) TryzEOK yk_funs yk_orders h4 h6 (fun D us h=>by simpa only[VRs] using h) h hu hm
  ·cases h
 | false=>
 rw[h3,cond_false,cnd_eq] at h
 cases h4:Nat.beq g 203 with
 | true=>
  rw[h4,cond_true] at h
  obtain rfl:=Nat.eq_of_beq_eq_true h4
  exact cc_ok rfl rfl h hu hm
 | false=>
 rw[h4,cond_false] at h
 cases h
theorem reckonX {I:GH} (hT:Tabs I debL) {f g:Nat} {args:List EV} {m':Me} {v:EV} (h:callF YK (E_code YK f) g args ⟨.nil,0⟩=some (v,m')) {us:List Value} (hu:VRs (fun _=>none) args us) :
  Spec Tryz.prog g us I [] fun r J M''=>M''=[]∧(∀ b o,I b=some o→J b=some o)∧∃ I' M' D',VR D' v r∧MS YK D' m' I' M'∧Frz I' M' J:=by
 have hm:MS YK (fun _=>none) ⟨.nil,0⟩ I []:=⟨fun id e a h h'=>(by cases h'),fun id id' e e' a a' h h1 h'=>(by cases h'),fun id a h=>(by cases h),gi_tabs hT⟩
 refine Spec.weakK (reckon (Y:=YK) TryzEOK yk_funs prim_ok yk_orders h hu hm).frz ?_
 rintro r J M'' ⟨rfl,h1,I',M',⟨D',-,h2,h3⟩,h4⟩
 exact⟨rfl,h1,I',M',D',h2,h3,h4⟩
end Go.V
namespace Go.V
open Go Go.Proofs
noncomputable def gives (f g:Nat) (args:List EV):Option EV:=opn (callF YK (E_code YK f) g args ⟨.nil,0⟩) none fun p=>some p.1
theorem gives_spec {I:GH} (hT:Tabs I debL) {f g:Nat} {args:List EV} {b:Bool} (h:gives f g args=some (.b b)) {us:List Value} (hu:VRs (fun _=>none) args us) :
  Spec Tryz.prog g us I [] fun r J M''=>r=.bool b∧(∀ b o,I b=some o→J b=some o)∧M''=[]:=by
 unfold gives at h
 obtain⟨⟨v,m'⟩,h1,h⟩:=opn_eq h
 cases h
 refine Spec.weakK (reckonX hT h1 hu) ?_
 rintro r J M'' ⟨rfl,hle,I',M',D',hv,hm,hJ⟩
 simp only[VR] at hv
 exact⟨hv,hle,rfl⟩
end Go.V
namespace Go.V
open Go Go.Proofs
theorem of11_0:gives 100000 49 [.s [97,32,60,45,32,34,120,34,32,47,32,97],.s [34,97,98,34],.s [97],.b false]=some (.b true):=by kernel_rfl
theorem of11_1:gives 100000 49 [.s [97,32,60,45,32,34,120,34,32,47,32,97],.s [34,97,34,63,32,34,98,34],.s [97,98],.b false]=some (.b true):=by kernel_rfl
end Go.V
namespace Go.V
open Go Go.Proofs
theorem of11_2:gives 100000 49 [.s [97,32,60,45,32,34,120,34,32,47,32,97],.s [34,97,34,42],.s [97],.b true]=some (.b true):=by kernel_rfl
theorem of11_3:gives 100000 49 [.s [97,32,60,45,32,34,120,34,32,47,32,97],.s [33,34,97,34,32,91,97,45,99,93],.s [97,98,99],.b false]=some (.b true):=by kernel_rfl
end Go.V
namespace Go.V
open Go Go.Proofs
theorem of11_4:gives 100000 49 [.s [97,32,60,45,32,34,120,34,32,47,32,97],.s [97],.s [120],.b false]=some (.b true):=by kernel_rfl
theorem of11_5:gives 100000 49 [.s [97,32,60,45,32,34,120,34,32,47,32,97],.s [97,63],.s [120],.b true]=some (.b true):=by kernel_rfl
theorem of11_6:gives 100000 49 [.s [97,32,60,45,32,34,120,34,32,47,32,97],.s [38,91,93],.s [],.b false]=some (.b true):=by kernel_rfl
end Go.V
namespace Go.V
open Go Go.Proofs
theorem awake11_spec {I:GH} (hT:Tabs I debL):Spec Tryz.prog 34 [] I [] fun v J M''=>v=.bool true∧(∀ b o,I b=some o→J b=some o)∧M''=[]:=by
 refine spec_of_V [] TryzEOK Tryz.func34 rfl rfl rfl ?_
 intro B h0
 refine CallOb.mk [] [] _ (.refl _) (gives_spec hT of11_0 (us:=_) (by simp only[VRs,VR];exact⟨_,_,rfl,⟨_,_,rfl,⟨_,_,rfl,⟨_,_,rfl,rfl,rfl⟩,rfl⟩,rfl⟩,rfl⟩)) ?_
 rintro v I1 M1 - ⟨rfl,hI1,rfl⟩
 have hT1:=hT.mono hI1
 refine GuardOb.mk (fun _=>?_) (fun h=>by cases h)
 refine CallOb.mk [] [] _ (.refl _) (gives_spec hT1 of11_1 (us:=_) (by simp only[VRs,VR];exact⟨_,_,rfl,⟨_,_,rfl,⟨_,_,rfl,⟨_,_,rfl,rfl,rfl⟩,rfl⟩,rfl⟩,rfl⟩)) ?_
 rintro v I2 M2 - ⟨rfl,hI2,rfl⟩
 have hT2:=hT1.mono hI2
 refine GuardOb.mk (fun _=>?_) (fun h=>by cases h)
 refine CallOb.mk [] [] _ (.refl _) (gives_spec hT2 of11_2 (us:=_) (by simp only[VRs,VR];exact⟨_,_,rfl,⟨_,_,rfl,⟨_,_,rfl,⟨_,_,rfl,rfl,rfl⟩,rfl⟩,rfl⟩,rfl⟩)) ?_
 rintro v I3 M3 - ⟨rfl,hI3,rfl⟩
 have hT3:=hT2.mono hI3
 refine GuardOb.mk (fun _=>?_) (fun h=>by cases h)
 refine CallOb.mk [] [] _ (.refl _) (gives_spec hT3 of11_3 (us:=_) (by simp only[VRs,VR];exact⟨_,_,rfl,⟨_,_,rfl,⟨_,_,rfl,⟨_,_,rfl,rfl,rfl⟩,rfl⟩,rfl⟩,rfl⟩)) ?_
 rintro v I4 M4 - ⟨rfl,hI4,rfl⟩
 have hT4:=hT3.mono hI4
 refine GuardOb.mk (fun _=>?_) (fun h=>by cases h)
 refine CallOb.mk [] [] _ (.refl _) (gives_spec hT4 of11_4 (us:=_) (by simp only[VRs,VR];exact⟨_,_,rfl,⟨_,_,rfl,⟨_,_,rfl,⟨_,_,rfl,rfl,rfl⟩,rfl⟩,rfl⟩,rfl⟩)) ?_
 rintro v I5 M5 - ⟨rfl,hI5,rfl⟩
 have hT5:=hT4.mono hI5
 refine GuardOb.mk (fun _=>?_) (fun h=>by cases h)
 refine CallOb.mk [] [] _ (.refl _) (gives_spec hT5 of11_5 (us:=_) (by simp only[VRs,VR];exact⟨_,_,rfl,⟨_,_,rfl,⟨_,_,rfl,⟨_,_,rfl,rfl,rfl⟩,rfl⟩,rfl⟩,rfl⟩)) ?_
 rintro v I6 M6 - ⟨rfl,hI6,rfl⟩
 have hT6:=hT5.mono hI6
 refine GuardOb.mk (fun _=>?_) (fun h=>by cases h)
 refine CallOb.mk [] [] _ (.refl _) (gives_spec hT6 of11_6 (us:=_) (by simp only[VRs,VR];exact⟨_,_,rfl,⟨_,_,rfl,⟨_,_,rfl,⟨_,_,rfl,rfl,rfl⟩,rfl⟩,rfl⟩,rfl⟩)) ?_
 rintro v I7 M7 - ⟨rfl,hI7,rfl⟩
 have hT7:=hT6.mono hI7
 exact⟨_,_,.refl,rfl,fun b o h=>hI7 _ _ (hI6 _ _ (hI5 _ _ (hI4 _ _ (hI3 _ _ (hI2 _ _ (hI1 _ _ h)))))),rfl⟩
end Go.V
namespace Go.V
open Go Go.Proofs
structure Fl where
 z:Bool
 s:Bool
 f:Bool
 deriving DecidableEq
def Fl.cells (x:Fl):List Value:=[.bool x.z,.bool x.s,.bool x.f]
def Fl.val (x:Fl):Value:=.agg #[.bool x.z,.bool x.s,.bool x.f]
theorem Fl.cells_len (x:Fl):x.cells.length=3:=rfl
def Fl.suc (x:Fl):Bool:=x.z || x.s
theorem neB3_run (x y:Fl) (p q:Operand) (w:World):(do eqGuard .neq 80 p q x.val y.val;binOp .neq 80 x.val y.val:Sem Value).run Tryz.prog w=.ok (.bool (!decide (x=y))) w:=by
 obtain⟨a,b,c⟩:=x
 obtain⟨d,e,f⟩:=y
 cases a<;>cases b<;>cases c<;>cases d<;>cases e<;>cases f<;>kernel_rfl
theorem BinOb.neF {x y:Operand} {p q:Fl} {V:Value→Prop} {other:Prop} (h:V (.bool (!decide (p=q)))):BinOb Tryz.prog .neq 80 x y (.val (.agg #[.bool p.z,.bool p.s,.bool p.f])) (.val (.agg #[.bool q.z,.bool q.s,.bool q.f])) V other:=
 .mk _ _ _ rfl rfl (fun w=>neB3_run p q x y w) h
theorem fl_eq {z s f:Bool} {x:Fl} (h1:z=x.z) (h2:s=x.s) (h3:f=x.f):Value.agg #[.bool z,.bool s,.bool f]=x.val:=by
 subst h1 h2 h3
 rfl
theorem fl_cells {z s f:Bool} {x:Fl} (h1:z=x.z) (h2:s=x.s) (h3:f=x.f):[Value.bool z,Value.bool s,Value.bool f]=x.cells:=by
 subst h1 h2 h3
 rfl
theorem sv_bool {a b:Bool} (h:a=b):SvLe (.val (.bool a)) (.val (.bool b)):=by
 subst h
 exact .refl
theorem sv_lit {a b:Bool} (h:a=b):SvLe (.lit a) (.val (.bool b)):=by
 subst h
 exact .lit
theorem perm_nil {M:List Blk}:M.Perm (M++[]):=by simp
theorem BinOb.ne4 {P:Program} {E:Env} (hE:EOK P E) {t e:Nat} {ti ei:TI} {x y:Operand} (ht:E t=some ti) (hts:ti.sh=.array 4 e) (he:E e=some ei) {k:IntKind} (hes:ei.sh=.int k)
  (hg:P.eqGuardType P.depth t=false) {a0 a1 a2 a3 b0 b1 b2 b3:Int} {V:Value→Prop} {other:Prop}
  (h:V (.bool (!(a0 == b0 && (a1 == b1 && (a2 == b2 && a3 == b3)))))):BinOb P .neq t x y (.val (.agg #[.int k a0,.int k a1,.int k a2,.int k a3])) (.val (.agg #[.int k b0,.int k b1,.int k b2,.int k b3])) V other:=by
 obtain⟨d,hud,hdd⟩:=(hE _ _ ht).und
 obtain⟨de,hue,hde⟩:=(hE _ _ he).und
 obtain⟨inf,z,hi,hi1,_⟩:=(hE _ _ he).inf
 have h1:d=.array 4 e:=by rw[hts] at hdd;cases d<;>simp_all[shOf]
 have h2:de=.int k:=by rw[hes] at hde;cases de<;>simp_all[shOf]
 subst h1
 subst h2
 have hs1:inf.size=1:=by rw[hi1];exact(hE _ _ he).sz1 (by rw[hes];rfl)
 refine .mk _ _ _ rfl rfl (fun w=>?_) h
 simp only[Sem.run_bind,run_eqGuard_agg (hm:=hg),Result.andThen_ok,binOp,eq4_run hud hue hi hs1,Sem.run_pure]
theorem Suc_spec {I:GH} {M:List Blk} (x:Fl):Spec Tryz.prog 45 [x.val] I M fun v I' M'=>v=.bool x.suc∧I'=I∧M'=M:=by
 obtain⟨a,b,c⟩:=x
 refine spec_of_V [] TryzEOK Tryz.func45 rfl rfl rfl ?_
 intro B h0
 refine GuardOb.mk (fun h=>?_) (fun h=>?_)
 ·exact⟨_,_,.refl,by rw[show a=false from h];rfl,rfl,rfl⟩
 ·exact⟨_,_,.refl,by rw[show a=true from h];rfl,rfl,rfl⟩
structure FsAt (I:GH) (M:List Blk) (a:Option Addr) (n:Nat) (ks:List Fl):Prop where
 n:ks.length=n
 rd:∀ j (h:j < ks.length),∃ ad,a=some ad∧Rd I M (ad.add (j * 3)) 3 ks[j].cells
def seqStep (st:Fl×Bool) (k:Fl):Fl×Bool:=(⟨st.1.z && k.z,st.1.s || k.s,st.1.f || (st.2 && k.f)⟩,st.2 && k.suc)
def seqGo (ks:List Fl):Fl×Bool:=ks.foldl seqStep (⟨true,false,false⟩,true)
def seqFl (ks:List Fl):Fl:=⟨(seqGo ks).1.z,(seqGo ks).1.s && (seqGo ks).2,(seqGo ks).1.f⟩
def chStep (f k:Fl):Fl:=⟨f.z || (f.f && k.z),f.s || (f.f && k.s),f.f && k.f⟩
def chFl (ks:List Fl):Fl:=ks.foldl chStep ⟨false,false,true⟩
def fl0:Fl:=⟨false,false,false⟩
def repFl (d:Nd) (k:Fl):Fl:=bif decide (d.hi=0) then ⟨true,false,false⟩ else ⟨k.z || (decide (d.lo=0) && k.f),k.s,decide (0 < d.lo) && k.f⟩
def comeFl (d:Nd) (ks:List Fl):Fl:=
 bif decide (d.k=0) then ⟨true,false,false⟩ else
 bif decide (d.k=1) then ⟨false,!d.setZ,true⟩ else
 bif decide (d.k=2) then ⟨false,true,true⟩ else
 bif decide (d.k=3) then ks.headD fl0 else
 bif decide (d.k=4) then seqFl ks else
 bif decide (d.k=5) then chFl ks else
 bif decide (d.k=6) then repFl d (ks.headD fl0) else
 bif decide (d.k=7) then ⟨(ks.headD fl0).suc,false,(ks.headD fl0).f⟩ else
 bif decide (d.k=8) then ⟨(ks.headD fl0).f,false,(ks.headD fl0).suc⟩ else ks.headD fl0
section
variable {I:GH} {M:List Blk} {d:Nd} {a:Option Addr} {n c:Nat} {ks:List Fl}
theorem FsAt.head (hk:FsAt I M a n ks) (h0:0 < n):∃ ad,a=some ad∧Rd I M (ad.add (0 * 3)) 3 (ks.headD fl0).cells:=by
 have h1:0 < ks.length:=by rw[hk.n];exact h0
 obtain⟨ad,h2,h3⟩:=hk.rd 0 h1
 refine⟨ad,h2,?_⟩
 cases ks with
 | nil=>simp at h1
 | cons k ks=>exact h3
theorem fEmpty_spec:Spec Tryz.prog 164 [d.val,.slice a n c] I M fun v I' M'=>v=Fl.val ⟨true,false,false⟩∧I'=I∧M'=M:=by
 refine spec_of_V [] TryzEOK Tryz.func164 rfl rfl rfl ?_
 intro B h0
 exact⟨_,_,.refl,rfl,rfl,rfl⟩
theorem fText_spec:Spec Tryz.prog 166 [d.val,.slice a n c] I M fun v I' M'=>v=Fl.val ⟨false,true,true⟩∧I'=I∧M'=M:=by
 refine spec_of_V [] TryzEOK Tryz.func166 rfl rfl rfl ?_
 intro B h0
 exact⟨_,_,.refl,rfl,rfl,rfl⟩
theorem fItself_spec (hk:FsAt I M a n ks) (h0:0 < n):Spec Tryz.prog 167 [d.val,.slice a n c] I M fun v I' M'=>v=(ks.headD fl0).val∧I'=I∧M'=M:=by
 refine spec_of_V [] TryzEOK Tryz.func167 rfl rfl rfl ?_
 intro B h0'
 obtain⟨ad,had,hrd⟩:=hk.head h0
 refine IdxOb.mk ad 0 had rfl h0 ?_
 refine LoadOb.mk _ hrd ?_
 exact⟨_,_,.refl,rfl,rfl,rfl⟩
theorem fAnd_spec (hk:FsAt I M a n ks) (h0:0 < n):Spec Tryz.prog 171 [d.val,.slice a n c] I M fun v I' M'=>v=Fl.val ⟨(ks.headD fl0).suc,false,(ks.headD fl0).f⟩∧I'=I∧M'=M:=by
 refine spec_of_V [] TryzEOK Tryz.func171 rfl rfl rfl ?_
 intro B h0'
 obtain⟨ad,had,hrd⟩:=hk.head h0
 refine CodeOb.draw TryzEOK rfl rfl rfl ?_
 refine IdxOb.mk ad 0 had rfl h0 ?_
 refine LoadOb.mk _ hrd ?_
 refine IdxOb.mk ad 0 had rfl h0 ?_
 refine LoadOb.mk _ (hrd.part (k:=2) (m:=1) (by decide)) ?_
 refine PCallOb.mkR M [] _ perm_nil (Suc_spec (ks.headD fl0)) (fun v I' M' h x hx=>by rw[h.2.2];exact hx) ?_
 rintro v I' M' - ⟨rfl,rfl,rfl⟩
 rw[List.append_nil]
 exact⟨_,_,.refl,rfl,rfl,rfl⟩
theorem fNot_spec (hk:FsAt I M a n ks) (h0:0 < n):Spec Tryz.prog 172 [d.val,.slice a n c] I M fun v I' M'=>v=Fl.val ⟨(ks.headD fl0).f,false,(ks.headD fl0).suc⟩∧I'=I∧M'=M:=by
 refine spec_of_V [] TryzEOK Tryz.func172 rfl rfl rfl ?_
 intro B h0'
 obtain⟨ad,had,hrd⟩:=hk.head h0
 refine CodeOb.draw TryzEOK rfl rfl rfl ?_
 refine IdxOb.mk ad 0 had rfl h0 ?_
 refine LoadOb.mk _ (hrd.part (k:=2) (m:=1) (by decide)) ?_
 refine IdxOb.mk ad 0 had rfl h0 ?_
 refine LoadOb.mk _ hrd ?_
 refine PCallOb.mkR M [] _ perm_nil (Suc_spec (ks.headD fl0)) (fun v I' M' h x hx=>by rw[h.2.2];exact hx) ?_
 rintro v I' M' - ⟨rfl,rfl,rfl⟩
 rw[List.append_nil]
 exact⟨_,_,.refl,rfl,rfl,rfl⟩
theorem fSet_spec:Spec Tryz.prog 165 [d.val,.slice a n c] I M fun v I' M'=>v=Fl.val ⟨false,!d.setZ,true⟩∧I'=I∧M'=M:=by
 refine spec_of_V [] TryzEOK Tryz.func165 rfl rfl rfl ?_
 intro B h0
 refine BinOb.ne4 TryzEOK (e:=63) rfl rfl rfl rfl (by kernel_rfl) ?_
 exact⟨_,_,.refl,rfl,rfl,rfl⟩
theorem fRep_spec (hk:FsAt I M a n ks) (h0:0 < n):Spec Tryz.prog 170 [d.val,.slice a n c] I M fun v I' M'=>v=(repFl d (ks.headD fl0)).val∧I'=I∧M'=M:=by
 refine spec_of_V [] TryzEOK Tryz.func170 rfl rfl rfl ?_
 intro B h0'
 obtain⟨ad,had,hrd⟩:=hk.head h0
 generalize ks.headD fl0=k at hrd
 obtain⟨kz,kss,kf⟩:=k
 refine CondOb.mk (fun h=>?_) (fun h=>?_)
 ·refine⟨_,_,.refl,fl_eq ?_ ?_ ?_,rfl,rfl⟩<;>simp[repFl,h]
 refine IdxOb.mk ad 0 had rfl h0 ?_
 refine LoadOb.mk _ hrd ?_
 repeat' refine GuardOb.mk (fun h=>?_) (fun h=>?_)
 all_goals refine⟨_,_,.refl,fl_eq ?_ ?_ ?_,rfl,rfl⟩
 all_goals first | (simp_all[repFl];done) | (simp_all[repFl];intros;omega)
theorem fChoice_spec (hk:FsAt I M a n ks) (hn:n≤140737488355328):Spec Tryz.prog 169 [d.val,.slice a n c] I M fun v I' M'=>v=(chFl ks).val∧I'=I∧M'=M:=by
 refine spec_of_V [] TryzEOK Tryz.func169 rfl rfl rfl ?_
 intro B h0'
 have hkn:=hk.n
 refine LoopOb.inv (ι:=Nat×Fl) (fun x=>{ fl:=[(4,.ref 4 0),(5,.ref 5 0),(9,.val (.slice a n c)),(10,.val (.int .i64 n)),(11,.val (.int .i64 x.1))],cl:=[(4,fl0.cells),(5,x.2.cells)],gi:=I,mi:=M })
  (fun x=>x.1≤n∧x.2=(ks.take x.1).foldl chStep ⟨false,false,true⟩) (fun x=>n - x.1) ?_ ?_
 ·exact⟨(0,⟨false,false,true⟩),⟨Nat.zero_le _,rfl⟩,.refl,.cons .refl (.cons .refl (.cons .refl (.cons .refl (.cons .refl .nil)))),.cons rfl (.cons rfl .nil)⟩
 rintro⟨i,f⟩ ⟨hi,hf⟩
 simp only at hi hf
 refine CondOb.mk (fun h=>?_) (fun h=>?_)
 rotate_left
 ·have hge:n≤i:=by have:=of_decide_eq_false h;omega
  refine⟨_,_,.refl,?_,rfl,rfl⟩
  rw[List.take_of_length_le (by omega)] at hf
  rw[chFl,←hf]
  rfl
 have hlt:i < n:=by have:=of_decide_eq_true h;omega
 obtain⟨ad,had,hrd⟩:=hk.rd i (by omega)
 have hst:∀ g:Fl,g=chStep f (ks[i]'(by omega))→g=(ks.take (i+1)).foldl chStep ⟨false,false,true⟩:=fun g hg=>by
  rw[List.take_succ_eq_append_getElem (by omega),List.foldl_append,←hf,hg]
  rfl
 generalize ks[i]'(by omega)=k at hrd hst
 obtain⟨kz,kss,kf⟩:=k
 obtain⟨z,s,ff⟩:=f
 refine IdxOb.mk ad i had rfl hlt ?_
 refine LoadOb.mk _ hrd ?_
 repeat' refine GuardOb.mk (fun h=>?_) (fun h=>?_)
 all_goals refine ArithOb.mk _ (next_wr (i:=i) (by omega)) ?_
 all_goals refine⟨(i+1,_),⟨⟨by simp only;omega,hst _ rfl⟩,by simp only;omega⟩,.refl,.cons .refl (.cons .refl (.cons .refl (.cons .refl (.cons .refl .nil)))),.cons rfl (.cons ?_ .nil)⟩
 all_goals clear hst hf hrd
 all_goals (refine congrArg some (fl_cells ?_ ?_ ?_)<;>simp_all[chStep])
theorem seqGo_snoc (l:List Fl) (k:Fl):seqGo (l++[k])=seqStep (seqGo l) k:=by simp[seqGo]
set_option maxHeartbeats 4000000 in
theorem fSeq_spec (hk:FsAt I M a n ks) (hn:n≤140737488355328):Spec Tryz.prog 168 [d.val,.slice a n c] I M fun v I' M'=>v=(seqFl ks).val∧I'=I∧M'=M:=by
 refine spec_of_V [] TryzEOK Tryz.func168 rfl rfl rfl ?_
 intro B h0'
 have hkn:=hk.n
 refine LoopOb.inv (ι:=Nat×Fl×Bool) (fun x=>{ fl:=[(4,.ref 4 0),(5,.ref 5 0),(6,.val (.bool x.2.2)),(10,.val (.slice a n c)),(11,.val (.int .i64 n)),(12,.val (.int .i64 x.1))],cl:=[(4,fl0.cells),(5,x.2.1.cells)],gi:=I,mi:=M })
  (fun x=>x.1≤n∧x.2=seqGo (ks.take x.1)) (fun x=>n - x.1) ?_ ?_
 ·exact⟨(0,⟨true,false,false⟩,true),⟨Nat.zero_le _,rfl⟩,.refl,.cons .refl (.cons .refl (.cons .lit (.cons .refl (.cons .refl (.cons .refl .nil))))),.cons rfl (.cons rfl .nil)⟩
 rintro⟨i,f,sc⟩ ⟨hi,hf⟩
 simp only at hi hf
 refine CondOb.mk (fun h=>?_) (fun h=>?_)
 rotate_left
 ·have hge:n≤i:=by have:=of_decide_eq_false h;omega
  rw[List.take_of_length_le (by omega)] at hf
  obtain⟨z,s,ff⟩:=f
  have e1:(seqGo ks).1=⟨z,s,ff⟩:=by rw[←hf]
  have e2:(seqGo ks).2=sc:=by rw[←hf]
  refine GuardOb.mk (fun h2=>?_) (fun h2=>?_)
  all_goals refine⟨_,_,.refl,fl_eq ?_ ?_ ?_,rfl,rfl⟩
  all_goals simp_all[seqFl]
 have hlt:i < n:=by have:=of_decide_eq_true h;omega
 obtain⟨ad,had,hrd⟩:=hk.rd i (by omega)
 have hst:∀ g:Fl×Bool,g=seqStep (f,sc) (ks[i]'(by omega))→g=seqGo (ks.take (i+1)):=fun g hg=>by
  rw[List.take_succ_eq_append_getElem (by omega),seqGo_snoc,←hf,hg]
 generalize ks[i]'(by omega)=k at hrd hst
 obtain⟨kz,kss,kf⟩:=k
 obtain⟨z,s,ff⟩:=f
 refine IdxOb.mk ad i had rfl hlt ?_
 refine LoadOb.mk _ hrd ?_
 repeat' first
  | refine GuardOb.mk (fun h=>?_) (fun h=>?_)
  |(refine CallOb.mk M [] _ perm_nil (Suc_spec ⟨kz,kss,kf⟩) ?_;rintro v I' M' - ⟨rfl,rfl,rfl⟩;rw[List.append_nil])
 all_goals refine ArithOb.mk _ (next_wr (i:=i) (by omega)) ?_
 all_goals refine⟨(i+1,_),⟨⟨by simp only;omega,hst _ rfl⟩,by simp only;omega⟩,.refl,.cons .refl (.cons .refl (.cons ?_ (.cons .refl (.cons .refl (.cons .refl .nil))))),.cons rfl (.cons ?_ .nil)⟩
 all_goals clear hst hf hrd
 all_goals first
  |(refine congrArg some (fl_cells ?_ ?_ ?_)<;>simp_all[seqStep])
  |(refine sv_bool ?_;simp_all[seqStep])
  |(refine sv_lit ?_;simp_all[seqStep])
end
end Go.V
namespace Go.V
open Go Go.Proofs
def worV (x y:Int):Int:=IntKind.u64.wrap ((BitVec.ofInt 64 x ||| BitVec.ofInt 64 y).toNat:Int)
theorem worV_bv (x y:BitVec 64):worV x.toNat y.toNat=((x ||| y).toNat:Int):=by
 unfold worV
 rw[bv_ofInt,bv_ofInt,wrap_bv]
def worC (x y:Ws):Nat→List Value
 | 0=>[.int .u64 x.a.toNat,.int .u64 x.b.toNat,.int .u64 x.c.toNat,.int .u64 x.d.toNat]
 | 1=>[.int .u64 (worV x.a.toNat y.a.toNat),.int .u64 x.b.toNat,.int .u64 x.c.toNat,.int .u64 x.d.toNat]
 | 2=>[.int .u64 (worV x.a.toNat y.a.toNat),.int .u64 (worV x.b.toNat y.b.toNat),.int .u64 x.c.toNat,.int .u64 x.d.toNat]
 | 3=>[.int .u64 (worV x.a.toNat y.a.toNat),.int .u64 (worV x.b.toNat y.b.toNat),.int .u64 (worV x.c.toNat y.c.toNat),.int .u64 x.d.toNat]
 | _=>[.int .u64 (worV x.a.toNat y.a.toNat),.int .u64 (worV x.b.toNat y.b.toNat),.int .u64 (worV x.c.toNat y.c.toNat),.int .u64 (worV x.d.toNat y.d.toNat)]
theorem Or_spec {I:GH} {M:List Blk} (x y:Ws):Spec Tryz.prog 88 [x.val,y.val] I M fun r I' M'=>r=(x.or y).val∧I'=I∧M'=M:=by
 refine spec_of_V [] TryzEOK Tryz.func88 rfl rfl rfl ?_
 intro B h0
 refine LoopOb.inv (ι:=Nat) (fun i=>{ fl:=[(2,.ref 2 0),(4,.ref 4 0),(7,.val y.val),(8,.val (.int .i64 i))],cl:=[(2,worC x y i),(4,Ws.zero.cells)],gi:=I,mi:=M }) (fun i=>i≤4) (fun i=>4 - i) ?_ ?_
 ·exact⟨0,by simp,.refl,.cons .refl (.cons .refl (.cons .refl (.cons .refl .nil))),.cons rfl (.cons rfl .nil)⟩
 ·intro i hi
  match i,hi with
  | 0,_=>
   refine CondOb.mk (fun _=>?_) (fun h=>by simp at h)
   refine ArrOb.mk 0 rfl (by decide) ?_
   refine ArrOb.mk 0 rfl (by decide) ?_
   refine ArrOb.mk 0 rfl (by decide) ?_
   refine ArithOb.mk 1 (by decide) ?_
   exact⟨1,⟨by simp,by simp⟩,.refl,.cons .refl (.cons .refl (.cons .refl (.cons .refl .nil))),.cons rfl (.cons rfl .nil)⟩
  | 1,_=>
   refine CondOb.mk (fun _=>?_) (fun h=>by simp at h)
   refine ArrOb.mk 1 rfl (by decide) ?_
   refine ArrOb.mk 1 rfl (by decide) ?_
   refine ArrOb.mk 1 rfl (by decide) ?_
   refine ArithOb.mk 2 (by decide) ?_
   exact⟨2,⟨by simp,by simp⟩,.refl,.cons .refl (.cons .refl (.cons .refl (.cons .refl .nil))),.cons rfl (.cons rfl .nil)⟩
  | 2,_=>
   refine CondOb.mk (fun _=>?_) (fun h=>by simp at h)
   refine ArrOb.mk 2 rfl (by decide) ?_
   refine ArrOb.mk 2 rfl (by decide) ?_
   refine ArrOb.mk 2 rfl (by decide) ?_
   refine ArithOb.mk 3 (by decide) ?_
   exact⟨3,⟨by simp,by simp⟩,.refl,.cons .refl (.cons .refl (.cons .refl (.cons .refl .nil))),.cons rfl (.cons rfl .nil)⟩
  | 3,_=>
   refine CondOb.mk (fun _=>?_) (fun h=>by simp at h)
   refine ArrOb.mk 3 rfl (by decide) ?_
   refine ArrOb.mk 3 rfl (by decide) ?_
   refine ArrOb.mk 3 rfl (by decide) ?_
   refine ArithOb.mk 4 (by decide) ?_
   exact⟨4,⟨by simp,by simp⟩,.refl,.cons .refl (.cons .refl (.cons .refl (.cons .refl .nil))),.cons rfl (.cons rfl .nil)⟩
  | 4,_=>
   refine CondOb.mk (fun h=>by simp at h) (fun _=>?_)
   refine⟨_,_,.refl,?_,rfl,rfl⟩
   show Value.agg #[.int .u64 (worV x.a.toNat y.a.toNat),.int .u64 (worV x.b.toNat y.b.toNat),.int .u64 (worV x.c.toNat y.c.toNat),.int .u64 (worV x.d.toNat y.d.toNat)]=_
   rw[worV_bv,worV_bv,worV_bv,worV_bv]
   rfl
theorem BinOb.eqW {x y:Operand} {p q:Ws} {V:Value→Prop} {other:Prop} (h:V (.bool (decide (p=q)))) :
  BinOb Tryz.prog .eql 65 x y (.val (.agg #[.int .u64 p.a.toNat,.int .u64 p.b.toNat,.int .u64 p.c.toNat,.int .u64 p.d.toNat])) (.val (.agg #[.int .u64 q.a.toNat,.int .u64 q.b.toNat,.int .u64 q.c.toNat,.int .u64 q.d.toNat])) V other:=by
 refine BinOb.eq4 TryzEOK (e:=63) rfl rfl rfl rfl (by kernel_rfl) ?_
 rw[Ws.eqb]
 exact h
theorem eqI_bv (x y:BitVec 64):eqI (x.toNat:Int) (y.toNat:Int)=decide (x=y):=by
 rw[eqI_eq,←bv_nat_inj,Bool.eq_iff_iff]
 simp
theorem opn_s {α R:Type} (v:α) (x:R) (f:α→R):opn (some v) x f=f v:=rfl
theorem eqE_first (a0 a1 a2 a3 b0 b1 b2 b3:Int) (f g:Bool):eqT Tryz.prog TryzE 8 67 (.a [.i .u64 a0,.i .u64 a1,.i .u64 a2,.i .u64 a3,.b f]) (.a [.i .u64 b0,.i .u64 b1,.i .u64 b2,.i .u64 b3,.b g])=some (eqI a0 b0 && (eqI a1 b1 && (eqI a2 b2 && (eqI a3 b3 && (f == g))))):=by
 obtain⟨i67,h67,hs67⟩:∃ i,TryzE 67=some i∧i.sh=.struct [(65,0),(4,4)]:=⟨_,rfl,rfl⟩
 obtain⟨i65,h65,hs65,hz65⟩:∃ i,TryzE 65=some i∧i.sh=.array 4 63∧i.size=4:=⟨_,rfl,rfl,rfl⟩
 obtain⟨i63,h63,hs63,hz63⟩:∃ i,TryzE 63=some i∧i.sh=.int .u64∧i.size=1:=⟨_,rfl,rfl,rfl⟩
 obtain⟨i4,h4,hs4,hz4⟩:∃ i,TryzE 4=some i∧i.sh=.bool∧i.size=1:=⟨_,rfl,rfl,rfl⟩
 have hp:plainT Tryz.prog 67=true:=by kernel_rfl
 have hr:List.range 4=[0,1,2,3]:=rfl
 have hq:∀ k a b,eqT Tryz.prog TryzE (k+1) 63 (.i .u64 a) (.i .u64 b)=some (eqI a b):=fun k a b=>by
  simp only[eqT,h63,opn_s,hs63]
  rfl
 have hb:∀ k a b,eqT Tryz.prog TryzE (k+1) 4 (.b a) (.b b)=some (a == b):=fun k a b=>by
  simp only[eqT,h4,opn_s,hs4]
 have hset:∀ k,eqT Tryz.prog TryzE (k+2) 65 (.a [.i .u64 a0,.i .u64 a1,.i .u64 a2,.i .u64 a3]) (.a [.i .u64 b0,.i .u64 b1,.i .u64 b2,.i .u64 b3])=some (eqI a0 b0 && (eqI a1 b1 && (eqI a2 b2 && eqI a3 b3))):=fun k=>by
  rw[eqT]
  simp only[h65,opn_s,hs65,h63,hz63,hr,List.map_cons,List.map_nil]
  have p0:∀ c0 c1 c2 c3,partE TryzE 63 (0 * 1) [.i .u64 c0,.i .u64 c1,.i .u64 c2,.i .u64 c3]=some (.i .u64 c0):=fun _ _ _ _=>rfl
  have p1:∀ c0 c1 c2 c3,partE TryzE 63 (1 * 1) [.i .u64 c0,.i .u64 c1,.i .u64 c2,.i .u64 c3]=some (.i .u64 c1):=fun _ _ _ _=>rfl
  have p2:∀ c0 c1 c2 c3,partE TryzE 63 (2 * 1) [.i .u64 c0,.i .u64 c1,.i .u64 c2,.i .u64 c3]=some (.i .u64 c2):=fun _ _ _ _=>rfl
  have p3:∀ c0 c1 c2 c3,partE TryzE 63 (3 * 1) [.i .u64 c0,.i .u64 c1,.i .u64 c2,.i .u64 c3]=some (.i .u64 c3):=fun _ _ _ _=>rfl
  simp only[eqPl,p0,p1,p2,p3,opn_s,hq,cnd_eq]
  cases eqI a0 b0<;>cases eqI a1 b1<;>cases eqI a2 b2<;>cases eqI a3 b3<;>rfl
 rw[eqT]
 simp only[h67,opn_s,hs67,hp]
 have p0:∀ c0 c1 c2 c3 c4,partE TryzE 65 0 [.i .u64 c0,.i .u64 c1,.i .u64 c2,.i .u64 c3,c4]=some (.a [.i .u64 c0,.i .u64 c1,.i .u64 c2,.i .u64 c3]):=fun _ _ _ _ _=>rfl
 have p1:∀ c0 c1 c2 c3 c4,partE TryzE 4 4 [.i .u64 c0,.i .u64 c1,.i .u64 c2,.i .u64 c3,c4]=some c4:=fun _ _ _ _ _=>rfl
 simp only[eqPl,p0,p1,opn_s,hset,hb,cnd_eq]
 cases eqI a0 b0<;>cases eqI a1 b1<;>cases eqI a2 b2<;>cases eqI a3 b3<;>cases f<;>cases g<;>rfl
theorem Fi.eqb (x y:Fi):(eqI x.w.a.toNat y.w.a.toNat && (eqI x.w.b.toNat y.w.b.toNat && (eqI x.w.c.toNat y.w.c.toNat && (eqI x.w.d.toNat y.w.d.toNat && (x.f == y.f)))))=decide (x=y):=by
 obtain⟨⟨a,b,c,d⟩,f⟩:=x
 obtain⟨⟨a',b',c',d'⟩,f'⟩:=y
 simp only[eqI_bv]
 rw[Bool.eq_iff_iff]
 simp[and_assoc]
theorem Fi.vrs (D:Nm) (x:Fi):VRs D [.i .u64 x.w.a.toNat,.i .u64 x.w.b.toNat,.i .u64 x.w.c.toNat,.i .u64 x.w.d.toNat,.b x.f] x.cells:=by
 simp[VRs,VR,Fi.cells]
theorem BinOb.eqI {x y:Operand} {p q:Fi} {V:Value→Prop} {other:Prop} (h:V (.bool (decide (p=q)))) :
  BinOb Tryz.prog .eql 67 x y (.val (.agg #[.int .u64 p.w.a.toNat,.int .u64 p.w.b.toNat,.int .u64 p.w.c.toNat,.int .u64 p.w.d.toNat,.bool p.f])) (.val (.agg #[.int .u64 q.w.a.toNat,.int .u64 q.w.b.toNat,.int .u64 q.w.c.toNat,.int .u64 q.w.d.toNat,.bool q.f])) V other:=by
 refine b_agg_ok (X:=⟨Tryz.prog,TryzE,[],0,0,default,fun _=>none,[],none⟩) (D:=fun _=>none) (v:=.b (decide (p=q))) TryzEOK ?_ (Fi.vrs _ p) (Fi.vrs _ q) (fun u hu=>by simp only[VR] at hu;rw[hu];exact h)
 show b_agg Tryz.prog TryzE .eql 67 _ _=_
 unfold b_agg
 rw[eqE_first,Fi.eqb,show Tryz.prog.eqGuardType Tryz.prog.depth 67=false by kernel_rfl]
 rfl
theorem BinOb.neI {x y:Operand} {p q:Fi} {V:Value→Prop} {other:Prop} (h:V (.bool (!decide (p=q)))) :
  BinOb Tryz.prog .neq 67 x y (.val (.agg #[.int .u64 p.w.a.toNat,.int .u64 p.w.b.toNat,.int .u64 p.w.c.toNat,.int .u64 p.w.d.toNat,.bool p.f])) (.val (.agg #[.int .u64 q.w.a.toNat,.int .u64 q.w.b.toNat,.int .u64 q.w.c.toNat,.int .u64 q.w.d.toNat,.bool q.f])) V other:=by
 refine b_agg_ok (X:=⟨Tryz.prog,TryzE,[],0,0,default,fun _=>none,[],none⟩) (D:=fun _=>none) (v:=.b (!decide (p=q))) TryzEOK ?_ (Fi.vrs _ p) (Fi.vrs _ q) (fun u hu=>by simp only[VR] at hu;rw[hu];exact h)
 show b_agg Tryz.prog TryzE .neq 67 _ _=_
 unfold b_agg
 rw[eqE_first,Fi.eqb,show Tryz.prog.eqGuardType Tryz.prog.depth 67=false by kernel_rfl]
 rfl
theorem ISeq_spec {I:GH} {M:List Blk} (x y:Fi):Spec Tryz.prog 51 [x.val,y.val] I M fun r I' M'=>r=(x.seq y).val∧I'=I∧M'=M:=by
 obtain⟨xw,xf⟩:=x
 refine spec_of_V [] TryzEOK Tryz.func51 rfl rfl rfl ?_
 intro B h0
 refine CondOb.mk (fun h=>?_) (fun h=>?_)
 ·have hf:xf=false:=by simpa using h
  subst hf
  exact⟨_,_,.refl,rfl,rfl,rfl⟩
 have hf:xf=true:=by simpa using h
 subst hf
 refine CodeOb.draw TryzEOK rfl rfl rfl ?_
 refine PCallOb.mkR M [] _ perm_nil (Or_spec xw y.w) (fun v I' M' h x hx=>by rw[h.2.2];exact hx) ?_
 rintro v I' M' - ⟨rfl,rfl,rfl⟩
 rw[List.append_nil]
 exact⟨_,_,.refl,rfl,rfl,rfl⟩
theorem IChoice_spec {I:GH} {M:List Blk} (x y:Fi):Spec Tryz.prog 53 [x.val,y.val] I M fun r I' M'=>r=(x.choice y).val∧I'=I∧M'=M:=by
 obtain⟨xw,xf⟩:=x
 refine spec_of_V [] TryzEOK Tryz.func53 rfl rfl rfl ?_
 intro B h0
 refine CodeOb.draw TryzEOK rfl rfl rfl ?_
 refine PCallOb.mkR M [] _ perm_nil (Or_spec xw y.w) (fun v I' M' h x hx=>by rw[h.2.2];exact hx) ?_
 rintro v I' M' - ⟨rfl,rfl,rfl⟩
 rw[List.append_nil]
 refine GuardOb.mk (fun h=>?_) (fun h=>?_)
 all_goals
  have hf:xf=_:=h
  subst hf
  exact⟨_,_,.refl,rfl,rfl,rfl⟩
end Go.V
namespace Go.V
open Go Go.Proofs
theorem u0:u64ok 0:=⟨by decide,by decide⟩
theorem i0:i64ok 0:=⟨by decide,by decide⟩
theorem leaf_spec {I:GH} {d:Nd} (hd:d.ok I):Spec Tryz.prog 73 [d.val] I [] fun v I' M'=>(∀ b o,I b=some o→I' b=some o)∧∃ t:Tr,v=t.val∧t.ok I'∧t.ns=[d]∧t.root=0∧M'=[]:=by
 refine spec_of_V [] TryzEOK Tryz.func73 rfl rfl rfl ?_
 intro B h0
 refine AllocOb.mk fun b hb hbM=>?_
 refine⟨_,_,.prom rfl (by simp) .refl,ins_le hb,⟨[d],some ⟨b,0,none⟩,1,1,0⟩,rfl,⟨⟨rfl,⟨Nat.le_refl _,by show 1 * 96≤_;omega⟩,.inr ⟨_,rfl,rfl,_,_,_,ins_self ..,rfl⟩⟩,fun x hx=>?_,i0⟩,rfl,rfl,rfl⟩
 simp only[List.mem_singleton] at hx
 subst hx
 exact hd.mono (ins_le hb)
def leafNd (k:Int) (s:ByteArray):Nd:=⟨k,0,0,0,0,s,0,0,none,0,0,[]⟩
theorem leafNd_ok {I:GH} {k:Int} (hk:0≤k∧k < 256) {s:ByteArray} (hs:s.size≤140737488355328):(leafNd k s).ok I:=
 ⟨hk,u0,u0,u0,u0,by show s.size≤_;omega,i0,i0,⟨rfl,⟨Nat.le_refl _,by show 0 * 8≤_;omega⟩,.inl rfl⟩,fun x hx=>by cases hx⟩
set_option maxRecDepth 20000 in
theorem Rule_spec {I:GH} {s:ByteArray} (hs:s.size≤140737488355328):Spec Tryz.prog 31 [.string s] I [] fun v I' M'=>(∀ b o,I b=some o→I' b=some o)∧∃ t:Tr,v=t.val∧t.ok I'∧t.ns=[leafNd 3 s]∧t.root=0∧M'=[]:=by
 refine spec_of_V [] TryzEOK Tryz.func31 rfl rfl rfl ?_
 intro B h0
 have hl:=leaf_spec (I:=I) (leafNd_ok (k:=3) (by decide) hs)
 have hv:(leafNd 3 s).val=.agg #[.int .u8 3,.int .u64 0,.int .u64 0,.int .u64 0,.int .u64 0,.string s,.int .i64 0,.int .i64 0,.slice none 0 0]:=rfl
 rw[hv] at hl
 refine CallOb.mk [] [] _ (.refl _) hl ?_
 rintro v I' M' - ⟨hI,t,rfl,ht,h1,h2,rfl⟩
 exact⟨_,_,.refl,hI,t,rfl,ht,h1,h2,rfl⟩
set_option maxRecDepth 20000 in
theorem Empty_spec {I:GH}:Spec Tryz.prog 50 [] I [] fun v I' M'=>(∀ b o,I b=some o→I' b=some o)∧∃ t:Tr,v=t.val∧t.ok I'∧t.ns=[leafNd 0 ⟨#[]⟩]∧t.root=0∧M'=[]:=by
 refine spec_of_V [] TryzEOK Tryz.func50 rfl rfl rfl ?_
 intro B h0
 have hl:=leaf_spec (I:=I) (leafNd_ok (k:=0) (s:=⟨#[]⟩) (by decide) (by decide))
 have hv:(leafNd 0 ⟨#[]⟩).val=.agg #[.int .u8 0,.int .u64 0,.int .u64 0,.int .u64 0,.int .u64 0,.string ⟨#[]⟩,.int .i64 0,.int .i64 0,.slice none 0 0]:=rfl
 rw[hv] at hl
 refine CallOb.mk [] [] _ (.refl _) hl ?_
 rintro v I' M' - ⟨hI,t,rfl,ht,h1,h2,rfl⟩
 exact⟨_,_,.refl,hI,t,rfl,ht,h1,h2,rfl⟩
end Go.V
namespace Go.V
open Go Go.Proofs
def plainR (d:Nd):Bool:=decide (d.t=⟨#[]⟩) && (decide (d.lo=0) && decide (d.hi=0))
def fitsR (d:Nd) (n:Int):Bool:=
 bif decide (d.k=0) then plainR d && decide (n=0) else
 bif decide (d.k=1) then plainR d && decide (n=0) else
 bif decide (d.k=2) then decide (d.lo=0) && (decide (d.hi=0) && (decide (n=0) && (decide ((1:Int)≤d.t.size) && decide ((d.t.size:Int)≤255)))) else
 bif decide (d.k=3) then decide (d.lo=0) && (decide (d.hi=0) && (decide (n=0) && mayName d.t)) else
 bif decide (d.k=4) || decide (d.k=5) then plainR d && decide (2≤n) else
 bif decide (d.k=6) then decide (d.t=⟨#[]⟩) && (decide (n=1) && (decide (0≤d.lo) && (decide (d.lo≤99) && (decide (d.hi=-1) || (decide (d.lo≤d.hi) && decide (d.hi≤99)))))) else
 bif decide (d.k=7) || decide (d.k=8) then plainR d && decide (n=1) else
 bif decide (d.k=9) then decide (d.lo=0) && (decide (d.hi=0) && (decide (n=1) && mayName d.t)) else false
end Go.V
namespace Go.V
open Go Go.Proofs
end Go.V
namespace Go.V
open Go Go.Proofs
end Go.V
namespace Go.V
open Go Go.Proofs
structure LeafAt (I:GH) (a:Option Addr) (c:Nat) (k:Int) (s:ByteArray):Prop where
 rs:RS I a 1 c 9 96 (leafNd k s).cells
theorem LeafAt.rd {I:GH} {a:Option Addr} {c:Nat} {k:Int} {s:ByteArray} (h:LeafAt I a c k s):∃ ad,a=some ad∧∀ M,Rd I M (ad.add (0 * 9)) 9 (leafNd k s).cells:=by
 have:=RS.row (f:=Nd.cells) (l:=[leafNd k s]) Nd.cells_len (size:=9) (j:=0) (by simpa using h.rs) (by decide) (Nat.le_refl 1)
 simpa using this
end Go.V
namespace Go.V
open Go Go.Proofs
theorem OtherOb.nd {X:Ctx} {o:Oper} {F:Fr} {C:Bx} {I:GH} {M:List Blk} {K:KS} (h:OtherOb X o F C I M (fun F C I M=>(M.map (·.num)).Nodup→(∀ x∈M,I x.num=none)→K F C I M)):OtherOb X o F C I M K:=
 ⟨fun a w Q hR=>Oper.wpIn_mono (fun a' w'=>fun ⟨F',C',I',M',⟨β,hr⟩,hk⟩=>⟨F',C',I',M',⟨β,hr⟩,hk hr.holds.nd hr.holds.d⟩) (h.1 a w Q hR)⟩
theorem appk_ok {os:OS} {xs ys:List Value} {size:Nat} (hos:os.ok size xs) {g c:Nat} {cur:List Value} (hy:ys.length=size) (h1:cur.length=c * size) (h2:os.n+1≤c) (h3:c≤maxLen) (h4:cur.take ((os.n+1) * size)=xs++ys) :
  OS.ok ⟨some g,os.n+1,c,cur⟩ size (xs++ys):=by
 have hl:=hos.len
 refine⟨?_,(fun h=>by cases h),fun g3 hg3=>⟨h1,h2,h3,h4⟩⟩
 rw[List.length_append,hl,hy]
 simp only
 rw[Nat.add_mul,Nat.one_mul]
abbrev Lf:=Tr×Int×ByteArray
def Lf.nd (x:Lf):Nd:=leafNd x.2.1 x.2.2
structure Lf.ok (I:GH) (x:Lf):Prop where
 t:x.1.ok I
 ns:x.1.ns=[x.nd]
 root:x.1.root=0
 fits:fitsR x.nd 0=true
end Go.V
namespace Go.V
open Go Go.Proofs
def backGo (ns:List Nd):Nat→List Int→List Int→List Int
 | 0,_,b=>b
 | f+1,todo,b=>match todo.getLast? with
  | none=>b
  | some n=>backGo ns f (todo.dropLast++(nodeAt ns n.toNat).kids) (b++[n])
def backOf (ns:List Nd) (node:Int):List Int:=backGo ns (ns.length+1) [node] []
def Nd.ct (d:Nd):Nd:=⟨d.k,d.s0,d.s1,d.s2,d.s3,d.t,d.lo,d.hi,none,0,0,d.kids⟩
def Nd.withKids (d:Nd) (l:List Int):Nd:=⟨d.k,d.s0,d.s1,d.s2,d.s3,d.t,d.lo,d.hi,none,0,0,l⟩
def subStep (ns:List Nd) (st:List Int×List Nd) (b:Int):List Int×List Nd:=
 (st.1.set b.toNat st.2.length,st.2++[(nodeAt ns b.toNat).withKids ((nodeAt ns b.toNat).kids.map fun k=>(st.1.set b.toNat st.2.length).getD k.toNat 0)])
def subC (ns:List Nd) (node:Int):List Nd:=((backOf ns node).reverse.foldl (subStep ns) (List.replicate ns.length 0,[])).2
end Go.V
namespace Go.V
open Go Go.Proofs
theorem Rd.mono {I I':GH} {M:List Blk} {a:Addr} {n:Nat} {vs:List Value} (h:Rd I M a n vs) (hI:∀ b o,I b=some o→I' b=some o):Rd I' M a n vs:=by
 obtain⟨h1,cs,T,fr,h2,h3⟩:=h
 exact⟨h1,cs,T,fr,h2.imp (hI _ _) id,h3⟩
theorem Rd.sub {I:GH} {M M':List Blk} {a:Addr} {n:Nat} {vs:List Value} (h:Rd I M a n vs) (hM:∀ x∈M,x∈M'):Rd I M' a n vs:=by
 obtain⟨h1,cs,T,fr,h2,h3⟩:=h
 refine⟨h1,cs,T,fr,h2.imp id ?_,h3⟩
 rintro⟨x,hx,e1,e2⟩
 exact⟨x,hM x hx,e1,e2⟩
def ofStep (st:List Nd×List Int) (l:List Nd):List Nd×List Int:=
 (st.1++l.map (fun x=>x.withKids (x.kids.map fun k=>(st.1.length:Int)+k)),st.2++[((st.1.length+l.length:Nat):Int) - 1])
def ofNds (d:Nd) (ls:List (List Nd)):List Nd:=(ls.foldl ofStep ([],[])).1++[d.withKids (ls.foldl ofStep ([],[])).2]
end Go.V
namespace Go.V
open Go Go.Proofs
section
variable {X:Ctx} {β:Nat→Nat} {a:Act} {w:World} {F:Fr} {C:Bx} {I:GH} {M:List Blk} {o:Oper} {Q:Exit→Act→World→Prop} {K:KS}
theorem lookup_runs (hE:EOK X.P X.E) {t:Nat} {ti tk:TI} {k e:Nat} (ht:X.E t=some ti) (hts:ti.sh=.map k e) (hk:X.E k=some tk) (hks:tk.sh=.string)
  (hz:∀ w,(zeroValue e).run X.P w=.ok (.int .i64 0) w) {g:Nat} {l:List (ByteArray×Int)} {s:ByteArray} (hg:w.heap[g]?=some (mapO l)) (ok:Bool) :
  (Instr.lookup t (.map (some g)) (.string s) ok).run X.P w=.ok (bif ok then .tuple #[.int .i64 ((lookM s l).getD 0),.bool (lookM s l).isSome] else .int .i64 ((lookM s l).getD 0)) w:=by
 obtain⟨d,hud,hdd⟩:=(hE _ _ ht).und
 have h1:d=.map k e:=by rw[hts] at hdd;cases d<;>simp_all[shOf]
 subst h1
 obtain⟨dk,huk,hdk⟩:=(hE _ _ hk).und
 have h2:dk=.string:=by rw[hks] at hdk;cases dk<;>simp_all[shOf]
 subst h2
 have hg:w.heap[g]?=some (.map (ents l 0).toArray l.length):=hg
 obtain⟨r,hf1,hf2⟩:=findNow_ents s l 0 0
 have hc:(Instr.checkKey (ents l 0).toArray.isEmpty 10000 k (.string s)).run X.P w=.ok () w:=MapKept.run_checkKey (k:=.string s) huk (by simp[MapKept.IsKey]) _ 9999
 have hfk:(Instr.findKey k (.string s) (ents l 0)).run X.P w=.ok r w:=MapKept.run_findKey huk hf1
 unfold Instr.lookup
 simp only[Sem.run_bind,run_underlying hud,Result.andThen_ok,MapKept.run_getObj_map hg,Sem.run_pure,hc,hfk]
 cases r with
 | none=>
  cases hl:lookM s l with
  | none=>cases ok<;>simp[hz]
  | some v=>rw[hl] at hf2;simp at hf2
 | some p=>
  cases hl:lookM s l with
  | none=>rw[hl] at hf2;simp at hf2
  | some v=>
   rw[hl] at hf2
   simp only[Option.map_some,Option.some.injEq] at hf2
   cases ok<;>simp[hf2]
theorem OtherOb.lookupT (hE:EOK X.P X.E) {t:Nat} {x y:Operand} (ho:o.op=.lookup t x y true) (hd:∀ d,o.dst=some d→d < X.n) {ti tk:TI} {k e:Nat} (ht:X.E t=some ti) (hts:ti.sh=.map k e) (hk:X.E k=some tk) (hks:tk.sh=.string)
  (hz:∀ w,(zeroValue e).run X.P w=.ok (.int .i64 0) w) {g:Nat} {l:List (ByteArray×Int)} {s:ByteArray} (hx:ev F x=.val (.map (some g))) (hy:ev F y=.val (.string s)) (hM:Kn I M g (mapO l))
  (h:K (put o.dst (.val (.tuple #[.int .i64 ((lookM s l).getD 0),.bool (lookM s l).isSome])) F) C I M):OtherOb X o F C I M K:=by
 refine⟨fun a w Q ⟨β,hR⟩=>?_⟩
 have hrun:=lookup_runs hE ht hts hk hks hz (hM.heap hR.holds) (s:=s) true
 have ex:=eval_of_ev hR.fr hx
 have ey:=eval_of_ev hR.fr hy
 refine done_vv hR hd (by rw[ho];simp) ?_ h
 unfold execOp
 simp only[ho,ex,ey,Sem.run_bind,hrun,Result.andThen_ok,Sem.run_pure,cond_true]
theorem OtherOb.lookupF (hE:EOK X.P X.E) {t:Nat} {x y:Operand} (ho:o.op=.lookup t x y false) (hd:∀ d,o.dst=some d→d < X.n) {ti tk:TI} {k e:Nat} (ht:X.E t=some ti) (hts:ti.sh=.map k e) (hk:X.E k=some tk) (hks:tk.sh=.string)
  (hz:∀ w,(zeroValue e).run X.P w=.ok (.int .i64 0) w) {g:Nat} {l:List (ByteArray×Int)} {s:ByteArray} (hx:ev F x=.val (.map (some g))) (hy:ev F y=.val (.string s)) (hM:Kn I M g (mapO l))
  (h:K (put o.dst (.val (.int .i64 ((lookM s l).getD 0))) F) C I M):OtherOb X o F C I M K:=by
 refine⟨fun a w Q ⟨β,hR⟩=>?_⟩
 have hrun:=lookup_runs hE ht hts hk hks hz (hM.heap hR.holds) (s:=s) false
 have ex:=eval_of_ev hR.fr hx
 have ey:=eval_of_ev hR.fr hy
 refine done_vv hR hd (by rw[ho];simp) ?_ h
 unfold execOp
 simp only[ho,ex,ey,Sem.run_bind,hrun,Result.andThen_ok,Sem.run_pure,cond_false]
end
def placesGo:List (ByteArray×Int)→Nat→List Df→List (ByteArray×Int)
 | acc,_,[]=>acc
 | acc,i,d::ds=>placesGo (bif (lookM d.name acc).isSome then acc else acc++[(d.name,(i:Int))]) (i+1) ds
def placesL (ds:List Df):List (ByteArray×Int):=placesGo [] 0 ds
set_option maxHeartbeats 1000000 in
theorem places_spec {I:GH} {g:Gr} (hg:g.ok I):Spec Tryz.prog 81 [g.val] I [] fun v I' M'=>(∀ b o,I b=some o→I' b=some o)∧M'=[]∧∃ gm,v=.map (some gm)∧I' gm=some (mapO (placesL g.ds)):=by
 refine spec_of_VF [] TryzEOK Tryz.func81 rfl rfl rfl ?_
 intro B h0
 have hgn:=hg.n
 have hcap:=hg.rs.cap
 refine OtherOb.makeMap TryzEOK rfl (by simp) rfl rfl rfl fun bm=>?_
 refine LoopOb.inv (ι:=Nat×List (ByteArray×Int)) (fun x=>{ fl:=[(1,.ref 1 0),(3,.val (.map (some bm))),(13,.val (.slice g.a g.n g.c)),(14,.val (.int .i64 g.n)),(15,.val (.int .i64 x.1))],cl:=[(1,[.slice g.a g.n g.c])],gi:=I,mi:=[⟨bm,mapO x.2⟩] })
  (fun x=>x.1≤g.n∧placesL g.ds=placesGo x.2 x.1 (g.ds.drop x.1)) (fun x=>g.n - x.1) ?_ ?_
 ·exact⟨(0,[]),⟨Nat.zero_le _,rfl⟩,.refl,.cons .refl (.cons .refl (.cons .refl (.cons .refl (.cons .refl .nil)))),.cons rfl .nil⟩
 rintro⟨i,acc⟩ ⟨hi,hp⟩
 simp only at hi hp
 refine CondOb.mk (fun h=>?_) (fun h=>?_)
 ·have hlt:i < g.n:=by have:(i:Int) < (g.n:Int):=of_decide_eq_true h;omega
  have hlt':i < g.ds.length:=by omega
  obtain⟨ad,had,hrd⟩:=hg.rs.row Df.cells_len hlt hlt'
  rw[List.drop_eq_getElem_cons hlt',placesGo] at hp
  refine IdxOb.mk ad i had rfl hlt ?_
  refine LoadOb.mk _ (hrd _) ?_
  refine OtherOb.lookupT TryzEOK rfl (by simp) rfl rfl rfl rfl (fun w=>zero_int w) (l:=acc) (g:=bm) rfl rfl (.inr ⟨_,.head _,rfl,rfl⟩) ?_
  refine CondOb.mk (fun h3=>?_) (fun h3=>?_)
  ·have hn:(lookM g.ds[i].name acc).isSome=false:=by simpa using h3
   have hl:lookM g.ds[i].name acc=none:=by simpa using hn
   rw[hn,cond_false] at hp
   refine OtherOb.mapNew TryzEOK rfl rfl rfl rfl rfl rfl rfl rfl rfl hl (Mr:=[]) (.refl _) ?_
   refine ArithOb.mk _ (next_wr (i:=i) (by omega)) ?_
   exact⟨(i+1,_),⟨⟨by simp only;omega,hp⟩,by simp only;omega⟩,.refl,.cons .refl (.cons .refl (.cons .refl (.cons .refl (.cons .refl .nil)))),.cons rfl .nil⟩
  ·have hn:(lookM g.ds[i].name acc).isSome=true:=by simpa using h3
   rw[hn,cond_true] at hp
   refine ArithOb.mk _ (next_wr (i:=i) (by omega)) ?_
   exact⟨(i+1,_),⟨⟨by simp only;omega,hp⟩,by simp only;omega⟩,.refl,.cons .refl (.cons .refl (.cons .refl (.cons .refl (.cons .refl .nil)))),.cons rfl .nil⟩
 have hge:g.n≤i:=by have:¬ (i:Int) < (g.n:Int):=of_decide_eq_false h;omega
 rw[List.drop_eq_nil_of_le (by omega),placesGo] at hp
 intro hfa
 have hb:=hfa.d ⟨bm,mapO acc⟩ (.head _)
 exact⟨_,_,.prom rfl (by simp) .refl,ins_le hb,rfl,bm,rfl,by rw[hp];exact ins_self ..⟩
end Go.V
namespace Go.V
open Go Go.Proofs
def comeFs:List Nat:=[164,165,166,167,168,169,170,171,172,167]
def comeVs:List Value:=[.func (.func 164) #[] #[],.func (.func 165) #[] #[],.func (.func 166) #[] #[],.func (.func 167) #[] #[],.func (.func 168) #[] #[],.func (.func 169) #[] #[],.func (.func 170) #[] #[],.func (.func 171) #[] #[],.func (.func 172) #[] #[],.func (.func 167) #[] #[]]
theorem comes_spec {I:GH}:Spec Tryz.prog 122 [] I [] fun v I' M'=>v=.agg comeVs.toArray∧I'=I∧M'=[]:=by
 refine spec_of_V [] TryzEOK Tryz.func122 rfl rfl rfl ?_
 intro B h0
 exact⟨_,_,.refl,rfl,rfl,rfl⟩
theorem come_at {I:GH} {M:List Blk} {d:Nd} {a:Option Addr} {n c:Nat} {ks:List Fl} (hk:FsAt I M a n ks) (hn:n≤140737488355328) (j:Nat) (hj:j < 10) (hd:d.k=j) (h0:(j=3∨6≤j)→0 < n) :
  Spec Tryz.prog (comeFs.getD j 0) [d.val,.slice a n c] I M fun v I' M'=>v=(comeFl d ks).val∧I'=I∧M'=M:=by
 match j,hj,hd,h0 with
 | 0,_,hd,_=>rw[show comeFl d ks=⟨true,false,false⟩ by simp[comeFl,hd]];exact fEmpty_spec (I:=I) (M:=M) (d:=d) (a:=a) (n:=n) (c:=c)
 | 1,_,hd,_=>rw[show comeFl d ks=⟨false,!d.setZ,true⟩ by simp[comeFl,hd]];exact fSet_spec (I:=I) (M:=M) (d:=d) (a:=a) (n:=n) (c:=c)
 | 2,_,hd,_=>rw[show comeFl d ks=⟨false,true,true⟩ by simp[comeFl,hd]];exact fText_spec (I:=I) (M:=M) (d:=d) (a:=a) (n:=n) (c:=c)
 | 3,_,hd,h0=>rw[show comeFl d ks=ks.headD fl0 by simp[comeFl,hd]];exact fItself_spec (d:=d) (c:=c) hk (h0 (by omega))
 | 4,_,hd,_=>rw[show comeFl d ks=seqFl ks by simp[comeFl,hd]];exact fSeq_spec (d:=d) (c:=c) hk hn
 | 5,_,hd,_=>rw[show comeFl d ks=chFl ks by simp[comeFl,hd]];exact fChoice_spec (d:=d) (c:=c) hk hn
 | 6,_,hd,h0=>rw[show comeFl d ks=repFl d (ks.headD fl0) by simp[comeFl,hd]];exact fRep_spec (d:=d) (c:=c) hk (h0 (by omega))
 | 7,_,hd,h0=>rw[show comeFl d ks=⟨(ks.headD fl0).suc,false,(ks.headD fl0).f⟩ by simp[comeFl,hd]];exact fAnd_spec (d:=d) (c:=c) hk (h0 (by omega))
 | 8,_,hd,h0=>rw[show comeFl d ks=⟨(ks.headD fl0).f,false,(ks.headD fl0).suc⟩ by simp[comeFl,hd]];exact fNot_spec (d:=d) (c:=c) hk (h0 (by omega))
 | 9,_,hd,h0=>rw[show comeFl d ks=ks.headD fl0 by simp[comeFl,hd]];exact fItself_spec (d:=d) (c:=c) hk (h0 (by omega))
def flRow (b:Nat) (l:List Fl):Blk:=⟨b,.cells (l.flatMap Fl.cells).toArray 80 (0,0)⟩
theorem fl_len (l:List Fl):(l.flatMap Fl.cells).length=l.length * 3:=flat_len _ 3 Fl.cells_len l
theorem flRow_rd {I:GH} {M:List Blk} {b:Nat} {l:List Fl} (hM:flRow b l∈M) {j:Nat} (hj:j < l.length):Rd I M ((⟨b,0,none⟩:Addr).add (j * 3)) 3 l[j].cells:=by
 have h:=blk_rd (I:=I) (cs:=l.flatMap Fl.cells) (k:=j * 3) (n:=3) hM (by rw[fl_len];omega)
 rwa [flat_at Fl.cells 3 Fl.cells_len l j hj] at h
theorem flRow_set (l:List Fl) (j:Nat) (hj:j < l.length) (x:Fl):splice (l.flatMap Fl.cells) (j * 3) x.cells=(l.set j x).flatMap Fl.cells:=by
 have e:l.flatMap Fl.cells=(l.take j).flatMap Fl.cells++(l[j].cells++(l.drop (j+1)).flatMap Fl.cells):=by
  have h1:l=l.take j++(l[j]::l.drop (j+1)):=by rw[←List.drop_eq_getElem_cons hj,List.take_append_drop]
  have h2:=congrArg (fun q:List Fl=>q.flatMap Fl.cells) h1
  simp only[List.flatMap_append,List.flatMap_cons] at h2
  exact h2
 have hl:((l.take j).flatMap Fl.cells).length=j * 3:=by rw[fl_len,List.length_take];congr 1;omega
 unfold splice
 rw[List.set_eq_take_append_cons_drop,if_pos hj,List.flatMap_append,List.flatMap_cons,e,List.append_assoc]
 congr 1
 ·rw[←hl,List.take_left]
 ·congr 1
  rw[Fl.cells_len,←hl,←List.append_assoc,List.drop_left' (by rw[List.length_append,Fl.cells_len])]
theorem flat_snoc (l:List Fl) (x:Fl):(l++[x]).flatMap Fl.cells=l.flatMap Fl.cells++x.cells:=by simp
theorem OS.zero {os:OS} {size:Nat} {xs:List Value} (h:os.ok size xs):OS.ok ⟨os.a,0,os.c,os.cur⟩ size []:=by
 refine⟨by simp,fun ha=>⟨rfl,(h.nil ha).2⟩,fun g hg=>?_⟩
 obtain⟨h1,h2,h3,h4⟩:=h.cap g hg
 exact⟨h1,Nat.zero_le _,h3,by simp⟩
theorem OS.fsAt {I:GH} {M:List Blk} {os:OS} {l:List Fl} {e:Nat} (h:os.ok 3 (l.flatMap Fl.cells)) (hM:∀ x∈os.blk e,x∈M):FsAt I M (os.a.map fun g=>⟨g,0,none⟩) os.n l:=by
 have hl:=h.len
 rw[fl_len] at hl
 refine⟨by omega,fun j hj=>?_⟩
 obtain⟨a,n,c,cur⟩:=os
 simp only at hl
 cases a with
 | none=>have:=(h.nil rfl).1;simp only at this;omega
 | some g=>
  obtain⟨h1,h2,h3,h4⟩:=h.cap g rfl
  simp only at h1 h2 h4
  refine⟨⟨g,0,none⟩,rfl,?_⟩
  have hm:(⟨g,.cells cur.toArray e (0,0)⟩:Blk)∈M:=hM _ (by simp[OS.blk])
  have hr:=blk_rd (I:=I) (cs:=cur) (k:=j * 3) (n:=3) hm (by omega)
  have e1:(cur.drop (j * 3)).take 3=((cur.take (n * 3)).drop (j * 3)).take 3:=by
   rw[List.drop_take,List.take_take]
   congr 1
   omega
  rw[e1,h4,flat_at Fl.cells 3 Fl.cells_len l j hj] at hr
  exact hr
def kidsF (pl:List (ByteArray×Int)) (fl acc:List Fl) (d:Nd):List Fl:=
 d.kids.map (fun k=>acc.getD k.toNat fl0)++bif decide (d.k=3) then [fl.getD ((lookM d.t pl).getD 0).toNat fl0] else []
def nodesF (pl:List (ByteArray×Int)) (fl:List Fl):List Nd→List Fl→List Fl
 | [],acc=>acc
 | d::ds,acc=>nodesF pl fl ds (acc++[comeFl d (kidsF pl fl acc d)])
theorem nodesF_len (pl:List (ByteArray×Int)) (fl:List Fl):∀ (ds:List Nd) (acc:List Fl),(nodesF pl fl ds acc).length=acc.length+ds.length
 | [],acc=>rfl
 | d::ds,acc=>by
  rw[nodesF,nodesF_len]
  simp
  omega
def Called (pl:List (ByteArray×Int)) (n:Nat) (ns:List Nd):Prop:=∀ d∈ns,d.k=3→∃ i:Nat,lookM d.t pl=some (i:Int)∧i < n
theorem fits_k {d:Nd} {n:Int} (h:fits d n=true):d.k < 10:=by
 apply Int.lt_of_not_ge
 intro hge
 have:(10:Int)≤d.k:=hge
 simp[fits,this] at h
theorem fits_kid {d:Nd} {n:Int} (h0:0≤d.k) (h:fits d n=true) (hk:6≤d.k):0 < n:=by
 have h10:=fits_k h
 have hcases:d.k=6∨d.k=7∨d.k=8∨d.k=9:=by omega
 rcases hcases with e | e | e | e<;>(simp[fits,e,cntLo,cntHi,countsL] at h;omega)
theorem rep_at (acc:List Fl) (n i:Nat) (hl:acc.length=i) (hi:i < n) (x:Fl):(acc++List.replicate (n - i) fl0).set i x=(acc++[x])++List.replicate (n - (i+1)) fl0:=by
 subst hl
 rw[List.set_append_right _ _ (Nat.le_refl _),Nat.sub_self,show n - acc.length=(n - (acc.length+1))+1 by omega,List.replicate_succ,List.set_cons_zero]
 simp
theorem rowOf_fl:∀ n:Nat,rowOf fl0.cells (n * 3)=(List.replicate n fl0).flatMap Fl.cells:=fun n=>by
 apply List.ext_getElem
 ·rw[fl_len,List.length_replicate]
  simp[rowOf_eq,madeCells]
 intro i h1 h2
 have h3:∀ x∈(List.replicate n fl0).flatMap Fl.cells,x=Value.bool false:=fun x hx=>by
  obtain⟨y,hy,hx⟩:=List.mem_flatMap.1 hx
  have:=List.eq_of_mem_replicate hy
  subst this
  simpa[Fl.cells,fl0] using hx
 rw[h3 _ (List.getElem_mem h2)]
 have hz:∀ j,j < 3→fl0.cells[j]! = Value.bool false:=fun j hj=>by
  match j,hj with
  | 0,_=>rfl
  | 1,_=>rfl
  | 2,_=>rfl
 simp only[rowOf,List.getElem_map,List.getElem_range]
 exact hz _ (Nat.mod_lt _ (by decide))
theorem ble_fl {acc:List Fl} {n i:Nat} (hacc:acc.length=i) (hlt:i < n) (x:Fl):Nat.ble (0+i * 3+x.cells.length) ((acc++List.replicate (n - i) fl0).flatMap Fl.cells).length=true:=by
 rw[Nat.ble_eq,fl_len,Fl.cells_len,List.length_append,List.length_replicate]
 omega
set_option maxRecDepth 100000 in
set_option maxHeartbeats 16000000 in
theorem fnodes_spec {I:GH} {M0:List Blk} {t:Tr} (ht:t.ok I) (hr:right t=true) {gm:Nat} {pl:List (ByteArray×Int)} (hm:I gm=some (mapO pl)) {la:Option Addr} {ln lc:Nat} {fl:List Fl} (hfl:FsAt I M0 la ln fl) (hc:Called pl ln t.ns) :
  Spec Tryz.prog 83 [.map (some gm),.slice la ln lc,t.val] I M0 fun v I' M'=>I'=I∧∃ b,v=.slice (some ⟨b,0,none⟩) t.n t.n∧M'=flRow b (nodesF pl fl t.ns [])::M0:=by
 refine spec_of_V [] TryzEOK Tryz.func83 rfl rfl rfl ?_
 intro B h0
 have htn:=ht.n
 have hcap:=ht.rs.cap
 refine CallOb.mk [] M0 _ (.refl _) comes_spec ?_
 rintro v I1 M1 - ⟨rfl,rfl,rfl⟩
 refine MakeOb.mk t.n t.n rfl rfl (Nat.le_refl _) (by show 3 * t.n≤_;omega) (by omega) ?_
 refine AllocOb.mk fun b8 hb8 hbM8=>?_
 refine LoopOb.inv (ι:=Nat×List Fl×OS) (fun x=>{ fl:=[(0,.val (.map (some gm))),(1,.val (.slice la ln lc)),(5,.ref 5 0),(7,.ref 7 0),(8,.val (.slice (some ⟨b8,0,none⟩) t.n t.n)),(9,.val x.2.2.val),(20,.val (.slice t.a t.n t.c)),(21,.val (.int .i64 t.n)),(22,.val (.int .i64 x.1))],cl:=[(5,t.cells),(7,comeVs)],gi:=I1,mi:=flRow b8 (x.2.1++List.replicate (t.n - x.1) fl0)::(x.2.2.blk 80++M0) })
  (fun x=>x.1≤t.n∧x.2.1.length=x.1∧nodesF pl fl t.ns []=nodesF pl fl (t.ns.drop x.1) x.2.1∧∃ ks,x.2.2.ok 3 ks) (fun x=>t.n - x.1) ?_ ?_
 ·refine⟨(0,[],OS0),⟨Nat.zero_le _,rfl,rfl,[],OS0_ok 3⟩,?_,.cons .refl (.cons .refl (.cons .refl (.cons .refl (.cons .refl (.cons .refl (.cons .refl (.cons .refl (.cons .refl .nil)))))))),.cons rfl (.cons rfl .nil)⟩
  have e:rowOf fl0.cells (t.n * 3)=(List.replicate t.n fl0).flatMap Fl.cells:=rowOf_fl t.n
  simp only[flRow,List.nil_append,Nat.sub_zero]
  rw[←e]
  exact .refl
 rintro⟨i,acc,ko⟩ ⟨hi,hacc,hnf,kx,hko⟩
 simp only at hi hacc hnf hko
 refine CondOb.mk (fun h=>?_) (fun h=>?_)
 rotate_left
 ·have hge:i=t.n:=by have:¬ (i:Int) < (t.n:Int):=of_decide_eq_false h;omega
  subst hge
  rw[List.drop_eq_nil_of_le (by omega),nodesF] at hnf
  refine⟨I1,flRow b8 (acc++List.replicate (t.n - t.n) fl0)::M0,.sub (.cons_cons _ (List.sublist_append_right _ _)) .refl,rfl,b8,rfl,?_⟩
  rw[hnf,Nat.sub_self,List.replicate_zero,List.append_nil]
 have hlt:i < t.n:=by have:(i:Int) < (t.n:Int):=of_decide_eq_true h;omega
 have hlt':i < t.ns.length:=by omega
 obtain⟨ad,had,hrd⟩:=ht.rs.row Nd.cells_len hlt hlt'
 have hdm:=List.getElem_mem hlt'
 have hd:=ht.ns _ hdm
 have hkn:=hd.kn
 have hkc:=hd.rs.cap
 have hkv:=right_kids hr i hlt'
 have hft:=right_fits hr hlt'
 have hcd:=hc _ hdm
 have hnf':nodesF pl fl t.ns []=nodesF pl fl (t.ns.drop (i+1)) (acc++[comeFl t.ns[i] (kidsF pl fl acc t.ns[i])]):=by
  rw[hnf,List.drop_eq_getElem_cons hlt',nodesF]
 generalize t.ns[i]=d at hrd hd hkn hkc hkv hft hcd hnf'
 have hk0:=hd.k.1
 have hk10:=fits_k hft
 have hrow:∀ {M:List Blk} {q:Int},flRow b8 (acc++List.replicate (t.n - i) fl0)∈M→q∈d.kids→Rd I1 M ((⟨b8,0,none⟩:Addr).add (q.toNat * 3)) 3 (acc.getD q.toNat fl0).cells:=fun {M q} hM hq=>by
  have hq':=hkv q hq
  have hql:q.toNat < acc.length:=by omega
  have:=flRow_rd (I:=I1) hM (j:=q.toNat) (by rw[List.length_append];omega)
  rw[List.getElem_append_left hql] at this
  simpa[List.getD_eq_getElem?_getD,hql] using this
 refine IdxOb.mk ad i had rfl hlt ?_
 refine LoadOb.mk _ (hrd _) ?_
 refine SliceOb.mk 0 0 rfl rfl (Nat.le_refl _) (Nat.zero_le _) ?_
 refine LoopOb.inv (ι:=Nat×OS×List Fl) (fun x=>{ fl:=[(0,.val (.map (some gm))),(1,.val (.slice la ln lc)),(5,.ref 5 0),(7,.ref 7 0),(8,.val (.slice (some ⟨b8,0,none⟩) t.n t.n)),(9,.val x.2.1.val),(10,.val (.int .i64 i)),(11,.ref 11 0),(20,.val (.slice t.a t.n t.c)),(21,.val (.int .i64 t.n)),(22,.val (.int .i64 i)),(30,.val (.slice d.ka d.kn d.kc)),(31,.val (.int .i64 d.kn)),(32,.val (.int .i64 x.1))],cl:=[(5,t.cells),(7,comeVs),(11,d.cells)],gi:=I1,mi:=flRow b8 (acc++List.replicate (t.n - i) fl0)::(x.2.1.blk 80++M0) })
  (fun x=>x.1≤d.kn∧x.2.1.ok 3 (x.2.2.flatMap Fl.cells)∧x.2.2=(d.kids.take x.1).map fun k=>acc.getD k.toNat fl0) (fun x=>d.kn - x.1) ?_ ?_
 ·exact⟨(0,⟨ko.a,0,ko.c,ko.cur⟩,[]),⟨Nat.zero_le _,OS.zero hko,rfl⟩,.refl,.cons .refl (.cons .refl (.cons .refl (.cons .refl (.cons .refl (.cons .refl (.cons .refl (.cons .refl (.cons .refl (.cons .refl (.cons .refl (.cons .refl (.cons .refl (.cons .refl .nil))))))))))))),.cons rfl (.cons rfl (.cons rfl .nil))⟩
 rintro⟨k,k2,kl⟩ ⟨hk,hk2,hkl⟩
 simp only at hk hk2 hkl
 have hk2n:k2.n=kl.length:=by have:=hk2.len;rw[fl_len] at this;omega
 have hkll:kl.length≤k:=by rw[hkl,List.length_map];exact List.length_take_le _ _
 refine CondOb.mk (fun h=>?_) (fun h=>?_)
 ·have hkk:k < d.kn:=by have:(k:Int) < (d.kn:Int):=of_decide_eq_true h;omega
  have hkk':k < d.kids.length:=by omega
  obtain⟨ak,hak,hrk⟩:=hd.rs.one hkk hkk'
  have hq:=hkv _ (List.getElem_mem hkk')
  refine IdxOb.mk ak k hak rfl hkk ?_
  refine LoadOb.mk _ (hrk _) ?_
  refine IdxOb.mk ⟨b8,0,none⟩ d.kids[k].toNat rfl (by omega) (by omega) ?_
  refine LoadOb.mk _ (hrow (.head _) (List.getElem_mem hkk')) ?_
  refine AllocOb.mk fun b9 hb9 hbM9=>?_
  refine OtherOb.append TryzEOK rfl (by simp) (e:=80) rfl rfl rfl k2 hk2 rfl (m:=1) rfl (news:=(acc.getD d.kids[k].toNat fl0).cells) (by decide) (blk_rd (b:=b9) (cs:=(acc.getD d.kids[k].toNat fl0).cells) (k:=0) (n:=3) (T:=80) (.head _) (Nat.le_of_ble_eq_true rfl)) rfl (Mr:=⟨b9,.cells (acc.getD d.kids[k].toNat fl0).cells.toArray 80 (0,0)⟩::flRow b8 (acc++List.replicate (t.n - i) fl0)::M0) (by
   have:=List.perm_append_comm_assoc [(⟨b9,.cells (acc.getD d.kids[k].toNat fl0).cells.toArray 80 (0,0)⟩:Blk),flRow b8 (acc++List.replicate (t.n - i) fl0)] (k2.blk 80) M0
   exact this) (by simp only[maxLen];omega) (by show (k2.n+1) * 3≤_;omega) ?_
  intro g2 c2 cur2 r1 r2 r3 r4
  refine ArithOb.mk _ (next_wr (i:=k) (by omega)) ?_
  refine⟨(k+1,⟨some g2,k2.n+1,c2,cur2⟩,kl++[acc.getD d.kids[k].toNat fl0]),⟨⟨by simp only;omega,?_,?_⟩,by simp only;omega⟩,.sub (M1:=[(⟨g2,.cells cur2.toArray 80 (0,0)⟩:Blk),flRow b8 (acc++List.replicate (t.n - i) fl0)]++M0) (.cons_cons _ (.cons _ (.refl _))) (.perm (List.Perm.swap _ _ _) .refl),.cons .refl (.cons .refl (.cons .refl (.cons .refl (.cons .refl (.cons .refl (.cons .refl (.cons .refl (.cons .refl (.cons .refl (.cons .refl (.cons .refl (.cons .refl (.cons .refl .nil))))))))))))),.cons rfl (.cons rfl (.cons rfl .nil))⟩
  ·simp only
   rw[flat_snoc]
   exact appk_ok hk2 (Fl.cells_len _) r1 r2 r3 r4
  ·simp only
   rw[List.take_succ_eq_append_getElem hkk',List.map_append,←hkl]
   rfl
 have hge:d.kn≤k:=by have:¬ (k:Int) < (d.kn:Int):=of_decide_eq_false h;omega
 rw[List.take_of_length_le (by omega)] at hkl
 have hkln:kl.length=d.kids.length:=by rw[hkl,List.length_map]
 have hb2:k2.n+1≤140737488355328:=by omega
 clear h hk hkll
 have hset:∀ x:Fl,splice ((acc++List.replicate (t.n - i) fl0).flatMap Fl.cells) (0+i * 3) x.cells=((acc++[x])++List.replicate (t.n - (i+1)) fl0).flatMap Fl.cells:=fun x=>by
  rw[Nat.zero_add,flRow_set _ _ (by simp;omega),rep_at acc t.n i hacc hlt]
 have hinv:∀ (ko2:OS) (ks2:List Value),ko2.ok 3 ks2→((i+1≤t.n∧(acc++[comeFl d (kidsF pl fl acc d)]).length=i+1∧nodesF pl fl t.ns []=nodesF pl fl (t.ns.drop (i+1)) (acc++[comeFl d (kidsF pl fl acc d)])∧∃ ks,ko2.ok 3 ks)∧t.n - (i+1) < t.n - i):=fun ko2 ks2 h2=>
  ⟨⟨hlt,by simp[hacc],hnf',ks2,h2⟩,by omega⟩
 by_cases h3:d.k=3
 ·refine CondOb.mk (fun _=>?_) (fun h=>absurd h (by simp[h3]))
  obtain⟨q,hq1,hq2⟩:=hcd h3
  have hkf:kidsF pl fl acc d=kl++[fl.getD q fl0]:=by
   rw[kidsF,←hkl,hq1,h3]
   rfl
  have hql:q < fl.length:=by rw[hfl.n];exact hq2
  obtain⟨al,hal,hrl⟩:=hfl.rd q hql
  have hgq:fl.getD q fl0=fl[q]:=by simp[List.getD_eq_getElem?_getD,hql]
  refine OtherOb.lookupF TryzEOK rfl (by simp) rfl rfl rfl rfl (fun w=>zero_int w) (l:=pl) (g:=gm) rfl rfl (.inl hm) ?_
  rw[hq1]
  refine IdxOb.mk al q hal rfl hq2 ?_
  refine LoadOb.mk _ (hrl.sub fun x hx=>by simp[hx]) ?_
  refine AllocOb.mk fun b9 hb9 hbM9=>?_
  refine OtherOb.append TryzEOK rfl (by simp) (e:=80) rfl rfl rfl k2 hk2 rfl (m:=1) rfl (news:=fl[q].cells) (by decide) (blk_rd (b:=b9) (cs:=fl[q].cells) (k:=0) (n:=3) (T:=80) (.head _) (Nat.le_of_ble_eq_true rfl)) rfl (Mr:=⟨b9,.cells fl[q].cells.toArray 80 (0,0)⟩::flRow b8 (acc++List.replicate (t.n - i) fl0)::M0) (by
   have:=List.perm_append_comm_assoc [(⟨b9,.cells fl[q].cells.toArray 80 (0,0)⟩:Blk),flRow b8 (acc++List.replicate (t.n - i) fl0)] (k2.blk 80) M0
   exact this) (by simp only[maxLen];omega) (by show (k2.n+1) * 3≤_;omega) ?_
  intro g2 c2 cur2 r1 r2 r3 r4
  have hok2:=appk_ok (g:=g2) hk2 (Fl.cells_len fl[q]) r1 r2 r3 r4
  rw[←flat_snoc,←hgq,←hkf] at hok2
  have hks:=OS.fsAt (I:=I1) (M:=⟨g2,.cells cur2.toArray 80 (0,0)⟩::⟨b9,.cells fl[q].cells.toArray 80 (0,0)⟩::flRow b8 (acc++List.replicate (t.n - i) fl0)::M0) (e:=80) hok2 (fun x hx=>by
   simp only[OS.blk,List.mem_singleton] at hx
   subst hx
   exact .head _)
  refine CodeOb.draw TryzEOK rfl rfl rfl ?_
  obtain⟨dk,s0,s1,s2,s3,dt,lo,hi',dka,dkn,dkc,dkids⟩:=d
  simp only at h3
  subst h3
  refine ArrOb.mk 3 rfl (by decide) ?_
  refine PCallOb.mkR _ [] _ perm_nil (come_at (d:=⟨3,s0,s1,s2,s3,dt,lo,hi',dka,dkn,dkc,dkids⟩) hks hb2 3 (by decide) rfl (fun _=>Nat.succ_pos _)) (fun v I' M' h x hx=>by rw[h.2.2];exact hx) ?_
  rintro v I2 M2 - ⟨rfl,rfl,rfl⟩
  rw[List.append_nil]
  refine IdxOb.mk ⟨b8,0,none⟩ i rfl rfl hlt ?_
  refine StoreOb.addTo [(⟨g2,.cells cur2.toArray 80 (0,0)⟩:Blk),⟨b9,.cells fl[q].cells.toArray 80 (0,0)⟩] M0 ((acc++List.replicate (t.n - i) fl0).flatMap Fl.cells) _ rfl (ble_fl hacc hlt _) rfl _ (hset _) ?_
  refine ArithOb.mk _ (next_wr (i:=i) (by omega)) ?_
  exact⟨(i+1,_,⟨some g2,k2.n+1,c2,cur2⟩),hinv _ _ hok2,.sub (M1:=[(⟨g2,.cells cur2.toArray 80 (0,0)⟩:Blk),flRow b8 _]++M0) (.cons_cons _ (.cons _ (.refl _))) (.perm (List.Perm.swap _ _ _) .refl),.cons .refl (.cons .refl (.cons .refl (.cons .refl (.cons .refl (.cons .refl (.cons .refl (.cons .refl (.cons .refl .nil)))))))),.cons rfl (.cons rfl .nil)⟩
 refine CondOb.mk (fun h=>absurd (of_decide_eq_true h) h3) (fun _=>?_)
 have hkf:kidsF pl fl acc d=kl:=by
  rw[kidsF,←hkl,decide_eq_false h3]
  simp
 rw[hkf] at hinv
 have hks:=OS.fsAt (I:=I1) (M:=flRow b8 (acc++List.replicate (t.n - i) fl0)::(k2.blk 80++M0)) (e:=80) hk2 (fun x hx=>by simp[hx])
 have hpos:6≤d.k→0 < k2.n:=fun h6=>by
  have:=fits_kid hk0 hft h6
  omega
 have hcases:d.k=0∨d.k=1∨d.k=2∨d.k=4∨d.k=5∨d.k=6∨d.k=7∨d.k=8∨d.k=9:=by omega
 obtain⟨dk,s0,s1,s2,s3,dt,lo,hi',dka,dkn,dkc,dkids⟩:=d
 simp only at hcases hpos h3
 refine CodeOb.draw TryzEOK rfl rfl rfl ?_
 rcases hcases with rfl | rfl | rfl | rfl | rfl | rfl | rfl | rfl | rfl
 ·refine ArrOb.mk 0 rfl (by decide) ?_
  refine PCallOb.mkR _ [] _ perm_nil (come_at (d:=⟨0,s0,s1,s2,s3,dt,lo,hi',dka,dkn,dkc,dkids⟩) hks (Nat.le_of_succ_le hb2) 0 (by decide) rfl (fun h=>by omega)) (fun v I' M' h x hx=>by rw[h.2.2];exact hx) ?_
  rintro v I2 M2 - ⟨rfl,rfl,rfl⟩
  rw[List.append_nil]
  refine IdxOb.mk ⟨b8,0,none⟩ i rfl rfl hlt ?_
  refine StoreOb.addTo [] (k2.blk 80++M0) ((acc++List.replicate (t.n - i) fl0).flatMap Fl.cells) _ rfl (ble_fl hacc hlt _) rfl _ (hset _) ?_
  refine ArithOb.mk _ (next_wr (i:=i) (by omega)) ?_
  exact⟨(i+1,_,k2),hinv _ _ hk2,.refl,.cons .refl (.cons .refl (.cons .refl (.cons .refl (.cons .refl (.cons .refl (.cons .refl (.cons .refl (.cons .refl .nil)))))))),.cons rfl (.cons rfl .nil)⟩
 ·refine ArrOb.mk 1 rfl (by decide) ?_
  refine PCallOb.mkR _ [] _ perm_nil (come_at (d:=⟨1,s0,s1,s2,s3,dt,lo,hi',dka,dkn,dkc,dkids⟩) hks (Nat.le_of_succ_le hb2) 1 (by decide) rfl (fun h=>by omega)) (fun v I' M' h x hx=>by rw[h.2.2];exact hx) ?_
  rintro v I2 M2 - ⟨rfl,rfl,rfl⟩
  rw[List.append_nil]
  refine IdxOb.mk ⟨b8,0,none⟩ i rfl rfl hlt ?_
  refine StoreOb.addTo [] (k2.blk 80++M0) ((acc++List.replicate (t.n - i) fl0).flatMap Fl.cells) _ rfl (ble_fl hacc hlt _) rfl _ (hset _) ?_
  refine ArithOb.mk _ (next_wr (i:=i) (by omega)) ?_
  exact⟨(i+1,_,k2),hinv _ _ hk2,.refl,.cons .refl (.cons .refl (.cons .refl (.cons .refl (.cons .refl (.cons .refl (.cons .refl (.cons .refl (.cons .refl .nil)))))))),.cons rfl (.cons rfl .nil)⟩
 ·refine ArrOb.mk 2 rfl (by decide) ?_
  refine PCallOb.mkR _ [] _ perm_nil (come_at (d:=⟨2,s0,s1,s2,s3,dt,lo,hi',dka,dkn,dkc,dkids⟩) hks (Nat.le_of_succ_le hb2) 2 (by decide) rfl (fun h=>by omega)) (fun v I' M' h x hx=>by rw[h.2.2];exact hx) ?_
  rintro v I2 M2 - ⟨rfl,rfl,rfl⟩
  rw[List.append_nil]
  refine IdxOb.mk ⟨b8,0,none⟩ i rfl rfl hlt ?_
  refine StoreOb.addTo [] (k2.blk 80++M0) ((acc++List.replicate (t.n - i) fl0).flatMap Fl.cells) _ rfl (ble_fl hacc hlt _) rfl _ (hset _) ?_
  refine ArithOb.mk _ (next_wr (i:=i) (by omega)) ?_
  exact⟨(i+1,_,k2),hinv _ _ hk2,.refl,.cons .refl (.cons .refl (.cons .refl (.cons .refl (.cons .refl (.cons .refl (.cons .refl (.cons .refl (.cons .refl .nil)))))))),.cons rfl (.cons rfl .nil)⟩
 ·refine ArrOb.mk 4 rfl (by decide) ?_
  refine PCallOb.mkR _ [] _ perm_nil (come_at (d:=⟨4,s0,s1,s2,s3,dt,lo,hi',dka,dkn,dkc,dkids⟩) hks (Nat.le_of_succ_le hb2) 4 (by decide) rfl (fun h=>by omega)) (fun v I' M' h x hx=>by rw[h.2.2];exact hx) ?_
  rintro v I2 M2 - ⟨rfl,rfl,rfl⟩
  rw[List.append_nil]
  refine IdxOb.mk ⟨b8,0,none⟩ i rfl rfl hlt ?_
  refine StoreOb.addTo [] (k2.blk 80++M0) ((acc++List.replicate (t.n - i) fl0).flatMap Fl.cells) _ rfl (ble_fl hacc hlt _) rfl _ (hset _) ?_
  refine ArithOb.mk _ (next_wr (i:=i) (by omega)) ?_
  exact⟨(i+1,_,k2),hinv _ _ hk2,.refl,.cons .refl (.cons .refl (.cons .refl (.cons .refl (.cons .refl (.cons .refl (.cons .refl (.cons .refl (.cons .refl .nil)))))))),.cons rfl (.cons rfl .nil)⟩
 ·refine ArrOb.mk 5 rfl (by decide) ?_
  refine PCallOb.mkR _ [] _ perm_nil (come_at (d:=⟨5,s0,s1,s2,s3,dt,lo,hi',dka,dkn,dkc,dkids⟩) hks (Nat.le_of_succ_le hb2) 5 (by decide) rfl (fun h=>by omega)) (fun v I' M' h x hx=>by rw[h.2.2];exact hx) ?_
  rintro v I2 M2 - ⟨rfl,rfl,rfl⟩
  rw[List.append_nil]
  refine IdxOb.mk ⟨b8,0,none⟩ i rfl rfl hlt ?_
  refine StoreOb.addTo [] (k2.blk 80++M0) ((acc++List.replicate (t.n - i) fl0).flatMap Fl.cells) _ rfl (ble_fl hacc hlt _) rfl _ (hset _) ?_
  refine ArithOb.mk _ (next_wr (i:=i) (by omega)) ?_
  exact⟨(i+1,_,k2),hinv _ _ hk2,.refl,.cons .refl (.cons .refl (.cons .refl (.cons .refl (.cons .refl (.cons .refl (.cons .refl (.cons .refl (.cons .refl .nil)))))))),.cons rfl (.cons rfl .nil)⟩
 ·refine ArrOb.mk 6 rfl (by decide) ?_
  refine PCallOb.mkR _ [] _ perm_nil (come_at (d:=⟨6,s0,s1,s2,s3,dt,lo,hi',dka,dkn,dkc,dkids⟩) hks (Nat.le_of_succ_le hb2) 6 (by decide) rfl (fun _=>hpos (by decide))) (fun v I' M' h x hx=>by rw[h.2.2];exact hx) ?_
  rintro v I2 M2 - ⟨rfl,rfl,rfl⟩
  rw[List.append_nil]
  refine IdxOb.mk ⟨b8,0,none⟩ i rfl rfl hlt ?_
  refine StoreOb.addTo [] (k2.blk 80++M0) ((acc++List.replicate (t.n - i) fl0).flatMap Fl.cells) _ rfl (ble_fl hacc hlt _) rfl _ (hset _) ?_
  refine ArithOb.mk _ (next_wr (i:=i) (by omega)) ?_
  exact⟨(i+1,_,k2),hinv _ _ hk2,.refl,.cons .refl (.cons .refl (.cons .refl (.cons .refl (.cons .refl (.cons .refl (.cons .refl (.cons .refl (.cons .refl .nil)))))))),.cons rfl (.cons rfl .nil)⟩
 ·refine ArrOb.mk 7 rfl (by decide) ?_
  refine PCallOb.mkR _ [] _ perm_nil (come_at (d:=⟨7,s0,s1,s2,s3,dt,lo,hi',dka,dkn,dkc,dkids⟩) hks (Nat.le_of_succ_le hb2) 7 (by decide) rfl (fun _=>hpos (by decide))) (fun v I' M' h x hx=>by rw[h.2.2];exact hx) ?_
  rintro v I2 M2 - ⟨rfl,rfl,rfl⟩
  rw[List.append_nil]
  refine IdxOb.mk ⟨b8,0,none⟩ i rfl rfl hlt ?_
  refine StoreOb.addTo [] (k2.blk 80++M0) ((acc++List.replicate (t.n - i) fl0).flatMap Fl.cells) _ rfl (ble_fl hacc hlt _) rfl _ (hset _) ?_
  refine ArithOb.mk _ (next_wr (i:=i) (by omega)) ?_
  exact⟨(i+1,_,k2),hinv _ _ hk2,.refl,.cons .refl (.cons .refl (.cons .refl (.cons .refl (.cons .refl (.cons .refl (.cons .refl (.cons .refl (.cons .refl .nil)))))))),.cons rfl (.cons rfl .nil)⟩
 ·refine ArrOb.mk 8 rfl (by decide) ?_
  refine PCallOb.mkR _ [] _ perm_nil (come_at (d:=⟨8,s0,s1,s2,s3,dt,lo,hi',dka,dkn,dkc,dkids⟩) hks (Nat.le_of_succ_le hb2) 8 (by decide) rfl (fun _=>hpos (by decide))) (fun v I' M' h x hx=>by rw[h.2.2];exact hx) ?_
  rintro v I2 M2 - ⟨rfl,rfl,rfl⟩
  rw[List.append_nil]
  refine IdxOb.mk ⟨b8,0,none⟩ i rfl rfl hlt ?_
  refine StoreOb.addTo [] (k2.blk 80++M0) ((acc++List.replicate (t.n - i) fl0).flatMap Fl.cells) _ rfl (ble_fl hacc hlt _) rfl _ (hset _) ?_
  refine ArithOb.mk _ (next_wr (i:=i) (by omega)) ?_
  exact⟨(i+1,_,k2),hinv _ _ hk2,.refl,.cons .refl (.cons .refl (.cons .refl (.cons .refl (.cons .refl (.cons .refl (.cons .refl (.cons .refl (.cons .refl .nil)))))))),.cons rfl (.cons rfl .nil)⟩
 ·refine ArrOb.mk 9 rfl (by decide) ?_
  refine PCallOb.mkR _ [] _ perm_nil (come_at (d:=⟨9,s0,s1,s2,s3,dt,lo,hi',dka,dkn,dkc,dkids⟩) hks (Nat.le_of_succ_le hb2) 9 (by decide) rfl (fun _=>hpos (by decide))) (fun v I' M' h x hx=>by rw[h.2.2];exact hx) ?_
  rintro v I2 M2 - ⟨rfl,rfl,rfl⟩
  rw[List.append_nil]
  refine IdxOb.mk ⟨b8,0,none⟩ i rfl rfl hlt ?_
  refine StoreOb.addTo [] (k2.blk 80++M0) ((acc++List.replicate (t.n - i) fl0).flatMap Fl.cells) _ rfl (ble_fl hacc hlt _) rfl _ (hset _) ?_
  refine ArithOb.mk _ (next_wr (i:=i) (by omega)) ?_
  exact⟨(i+1,_,k2),hinv _ _ hk2,.refl,.cons .refl (.cons .refl (.cons .refl (.cons .refl (.cons .refl (.cons .refl (.cons .refl (.cons .refl (.cons .refl .nil)))))))),.cons rfl (.cons rfl .nil)⟩
end Go.V
namespace Go.V
open Go
structure Fl.le (a b:Fl):Prop where
 z:a.z=true→b.z=true
 s:a.s=true→b.s=true
 f:a.f=true→b.f=true
theorem Fl.le_refl (a:Fl):a.le a:=⟨id,id,id⟩
theorem Fl.le.trans {a b c:Fl} (h:a.le b) (h':b.le c):a.le c:=⟨fun x=>h'.z (h.z x),fun x=>h'.s (h.s x),fun x=>h'.f (h.f x)⟩
theorem Fl.le.antisymm {a b:Fl} (h:a.le b) (h':b.le a):a=b:=by
 obtain⟨a1,a2,a3⟩:=a
 obtain⟨b1,b2,b3⟩:=b
 have e:∀ {x y:Bool},(x=true→y=true)→(y=true→x=true)→x=y:=fun {x y} h h'=>by cases x<;>cases y<;>simp_all
 have e1:a1=b1:=e h.z h'.z
 have e2:a2=b2:=e h.s h'.s
 have e3:a3=b3:=e h.f h'.f
 subst e1 e2 e3
 rfl
theorem Fl.bot (a:Fl):fl0.le a:=⟨(fun h=>by cases h),(fun h=>by cases h),(fun h=>by cases h)⟩
def within (a b:Fl):Bool:=(!a.z || b.z) && ((!a.s || b.s) && (!a.f || b.f))
theorem Fl.suc_mono {a b:Fl} (h:a.le b):a.suc=true→b.suc=true:=by
 intro hs
 simp only[Fl.suc,Bool.or_eq_true] at hs ⊢
 exact hs.imp h.z h.s
inductive LeL:List Fl→List Fl→Prop
 | nil:LeL [] []
 | cons {a b l m} (h:Fl.le a b) (t:LeL l m):LeL (a::l) (b::m)
theorem LeL.refl:∀ l,LeL l l
 | []=>.nil
 | a::l=>.cons a.le_refl (LeL.refl l)
theorem LeL.trans:∀ {a b c},LeL a b→LeL b c→LeL a c
 | _,_,_,.nil,.nil=>.nil
 | _,_,_,.cons h t,.cons h' t'=>.cons (h.trans h') (t.trans t')
theorem LeL.antisymm:∀ {a b},LeL a b→LeL b a→a=b
 | _,_,.nil,_=>rfl
 | _,_,.cons h t,.cons h' t'=>by rw[h.antisymm h',t.antisymm t']
theorem LeL.len:∀ {a b},LeL a b→a.length=b.length
 | _,_,.nil=>rfl
 | _,_,.cons h t=>by simp[t.len]
theorem LeL.append:∀ {a b c d},LeL a b→LeL c d→LeL (a++c) (b++d)
 | _,_,_,_,.nil,h=>h
 | _,_,_,_,.cons h t,h'=>.cons h (t.append h')
theorem LeL.getD:∀ {a b},LeL a b→∀ i,(a.getD i fl0).le (b.getD i fl0)
 | _,_,.nil,i=>by simp;exact Fl.le_refl _
 | _,_,.cons h t,0=>h
 | _,_,.cons h t,i+1=>by simpa using t.getD i
theorem LeL.of:∀ {a b:List Fl},a.length=b.length→(∀ i,i < a.length→(a.getD i fl0).le (b.getD i fl0))→LeL a b
 | [],[],_,_=>.nil
 | x::a,y::b,hl,h=>.cons (by simpa using h 0 (by simp)) (LeL.of (by simpa using hl) fun i hi=>by simpa using h (i+1) (by simpa using hi))
theorem LeL.map {α:Type} {f g:α→Fl}:∀ {l:List α},(∀ x∈l,(f x).le (g x))→LeL (l.map f) (l.map g)
 | [],_=>.nil
 | x::l,h=>.cons (h x (.head _)) (LeL.map fun y hy=>h y (.tail _ hy))
theorem LeL.head {a b:List Fl} (h:LeL a b):(a.headD fl0).le (b.headD fl0):=by
 cases h with
 | nil=>exact Fl.le_refl _
 | cons h _=>exact h
theorem LeL.bot:∀ l:List Fl,LeL (List.replicate l.length fl0) l
 | []=>.nil
 | a::l=>.cons a.bot (LeL.bot l)
theorem seq_mono:∀ {a b:List Fl},LeL a b→∀ {x y:Fl×Bool},x.1.le y.1→(x.2=true→y.2=true)→(a.foldl seqStep x).1.le (b.foldl seqStep y).1∧((a.foldl seqStep x).2=true→(b.foldl seqStep y).2=true)
 | _,_,.nil,_,_,h1,h2=>⟨h1,h2⟩
 | _,_,.cons h t,x,y,h1,h2=>by
  refine seq_mono t ⟨?_,?_,?_⟩ ?_
  ·simp only[seqStep,Bool.and_eq_true]
   exact fun g=>⟨h1.z g.1,h.z g.2⟩
  ·simp only[seqStep,Bool.or_eq_true]
   exact fun g=>g.imp h1.s h.s
  ·simp only[seqStep,Bool.or_eq_true,Bool.and_eq_true]
   exact fun g=>g.imp h1.f fun g=>⟨h2 g.1,h.f g.2⟩
  ·simp only[seqStep,Bool.and_eq_true]
   exact fun g=>⟨h2 g.1,Fl.suc_mono h g.2⟩
theorem ch_mono:∀ {a b:List Fl},LeL a b→∀ {x y:Fl},x.le y→(a.foldl chStep x).le (b.foldl chStep y)
 | _,_,.nil,_,_,h1=>h1
 | _,_,.cons h t,x,y,h1=>by
  refine ch_mono t ⟨?_,?_,?_⟩
  ·simp only[chStep,Bool.or_eq_true,Bool.and_eq_true]
   exact fun g=>g.imp h1.z fun g=>⟨h1.f g.1,h.z g.2⟩
  ·simp only[chStep,Bool.or_eq_true,Bool.and_eq_true]
   exact fun g=>g.imp h1.s fun g=>⟨h1.f g.1,h.s g.2⟩
  ·simp only[chStep,Bool.and_eq_true]
   exact fun g=>⟨h1.f g.1,h.f g.2⟩
theorem rep_mono (d:Nd) {a b:Fl} (h:a.le b):(repFl d a).le (repFl d b):=by
 unfold repFl
 cases decide (d.hi=0) with
 | true=>exact Fl.le_refl _
 | false=>
  refine⟨?_,h.s,?_⟩
  ·simp only[cond_false,Bool.or_eq_true,Bool.and_eq_true]
   exact fun g=>g.imp h.z fun g=>⟨g.1,h.f g.2⟩
  ·simp only[cond_false,Bool.and_eq_true]
   exact fun g=>⟨g.1,h.f g.2⟩
theorem come_mono (d:Nd) {a b:List Fl} (h:LeL a b):(comeFl d a).le (comeFl d b):=by
 have hh:=h.head
 unfold comeFl
 cases decide (d.k=0) with
 | true=>exact Fl.le_refl _
 | false=>
 cases decide (d.k=1) with
 | true=>exact Fl.le_refl _
 | false=>
 cases decide (d.k=2) with
 | true=>exact Fl.le_refl _
 | false=>
 cases decide (d.k=3) with
 | true=>exact hh
 | false=>
 cases decide (d.k=4) with
 | true=>
  have hs:=seq_mono h (x:=(⟨true,false,false⟩,true)) (y:=(⟨true,false,false⟩,true)) (Fl.le_refl _) id
  refine⟨hs.1.z,?_,hs.1.f⟩
  simp only[cond_true,cond_false,seqFl,seqGo,Bool.and_eq_true]
  exact fun g=>⟨hs.1.s g.1,hs.2 g.2⟩
 | false=>
 cases decide (d.k=5) with
 | true=>exact ch_mono h (Fl.le_refl _)
 | false=>
 cases decide (d.k=6) with
 | true=>exact rep_mono d hh
 | false=>
 cases decide (d.k=7) with
 | true=>exact⟨Fl.suc_mono hh,id,hh.f⟩
 | false=>
 cases decide (d.k=8) with
 | true=>exact⟨hh.f,id,Fl.suc_mono hh⟩
 | false=>exact hh
theorem kids_mono {pl:List (ByteArray×Int)} {fl fl' acc acc':List Fl} (h:LeL fl fl') (ha:LeL acc acc') (d:Nd):LeL (kidsF pl fl acc d) (kidsF pl fl' acc' d):=by
 unfold kidsF
 refine(LeL.map fun k _=>ha.getD _).append ?_
 cases decide (d.k=3) with
 | true=>exact .cons (h.getD _) .nil
 | false=>exact .nil
theorem nodes_mono {pl:List (ByteArray×Int)} {fl fl':List Fl} (h:LeL fl fl'):∀ (ds:List Nd) {acc acc':List Fl},LeL acc acc'→LeL (nodesF pl fl ds acc) (nodesF pl fl' ds acc')
 | [],_,_,ha=>ha
 | d::ds,_,_,ha=>nodes_mono h ds (ha.append (.cons (come_mono d (kids_mono h ha d)) .nil))
def bodyF (pl:List (ByteArray×Int)) (fl:List Fl) (d:Df):Fl:=(nodesF pl fl d.t.ns []).getD d.t.root.toNat fl0
theorem body_mono {pl:List (ByteArray×Int)} {fl fl':List Fl} (h:LeL fl fl') (d:Df):(bodyF pl fl d).le (bodyF pl fl' d):=(nodes_mono h d.t.ns .nil).getD _
def roundGo (pl:List (ByteArray×Int)):Nat→List Df→List Fl→List Fl
 | _,[],l=>l
 | i,d::ds,l=>roundGo pl (i+1) ds (l.set i (bodyF pl l d))
structure PreF (ds:List Df) (l:List Fl):Prop where
 len:l.length=ds.length
 up:∀ i (h:i < ds.length),(l.getD i fl0).le (bodyF (placesL ds) l ds[i])
 least:∀ m:List Fl,m.length=ds.length→(∀ i (h:i < ds.length),(bodyF (placesL ds) m ds[i]).le (m.getD i fl0))→LeL l m
theorem set_getD (l:List Fl) (i j:Nat) (x:Fl) (hi:i < l.length):(l.set i x).getD j fl0=if i=j then x else l.getD j fl0:=by
 simp only[List.getD_eq_getElem?_getD,List.getElem?_set]
 by_cases e:i=j
 ·subst e
  simp[hi]
 ·rw[if_neg e,if_neg e]
theorem PreF.start (ds:List Df):PreF ds (List.replicate ds.length fl0):=by
 refine⟨by simp,fun i h=>?_,fun m hm _=>by rw[←hm];exact LeL.bot m⟩
 have:(List.replicate ds.length fl0).getD i fl0=fl0:=by simp[List.getD_eq_getElem?_getD,h]
 rw[this]
 exact Fl.bot _
theorem PreF.step {ds:List Df} {l:List Fl} (h:PreF ds l) {i:Nat} (hi:i < ds.length):PreF ds (l.set i (bodyF (placesL ds) l ds[i]))∧LeL l (l.set i (bodyF (placesL ds) l ds[i])):=by
 have hil:i < l.length:=by rw[h.len];exact hi
 have hle:LeL l (l.set i (bodyF (placesL ds) l ds[i])):=LeL.of (by simp) fun j hj=>by
  rw[set_getD _ _ _ _ hil]
  by_cases e:i=j
  ·subst e
   rw[if_pos rfl]
   exact h.up i hi
  ·rw[if_neg e]
   exact Fl.le_refl _
 refine⟨⟨by simpa using h.len,fun j hj=>?_,fun m hm hc=>?_⟩,hle⟩
 ·rw[set_getD _ _ _ _ hil]
  by_cases e:i=j
  ·subst e
   rw[if_pos rfl]
   exact body_mono hle _
  ·rw[if_neg e]
   exact(h.up j hj).trans (body_mono hle _)
 ·have hlm:=h.least m hm hc
  refine LeL.of (by simp[h.len,hm]) fun j hj=>?_
  rw[set_getD _ _ _ _ hil]
  by_cases e:i=j
  ·subst e
   rw[if_pos rfl]
   exact(body_mono hlm _).trans (hc i hi)
  ·rw[if_neg e]
   exact hlm.getD j
theorem roundGo_pre {ds:List Df}:∀ (rest pre:List Df) {l:List Fl},ds=pre++rest→PreF ds l→PreF ds (roundGo (placesL ds) pre.length rest l)∧LeL l (roundGo (placesL ds) pre.length rest l) ∧
  (roundGo (placesL ds) pre.length rest l=l→∀ i (h:i < ds.length),pre.length≤i→l.getD i fl0=bodyF (placesL ds) l ds[i])
 | [],pre,l,hds,h=>⟨h,LeL.refl l,fun _ i hi hge=>by
  rw[hds,List.append_nil] at hi
  omega⟩
 | d::rest,pre,l,hds,h=>by
  have hi:pre.length < ds.length:=by rw[hds];simp
  have hd:ds[pre.length]=d:=by simp[hds]
  have hil:pre.length < l.length:=by rw[h.len];exact hi
  obtain⟨s1,s2⟩:=h.step hi
  rw[hd] at s1 s2
  obtain⟨r1,r2,r3⟩:=roundGo_pre rest (pre++[d]) (by rw[hds];simp) s1
  rw[List.length_append,List.length_cons,List.length_nil,Nat.zero_add] at r1 r2 r3
  refine⟨r1,s2.trans r2,fun e i hi2 hge=>?_⟩
  have e1:l.set pre.length (bodyF (placesL ds) l d)=l:=by
   refine LeL.antisymm ?_ s2
   have:roundGo (placesL ds) pre.length (d::rest) l=roundGo (placesL ds) (pre.length+1) rest (l.set pre.length (bodyF (placesL ds) l d)):=rfl
   rw[this] at e
   rw[e] at r2
   exact r2
  have e2:roundGo (placesL ds) (pre.length+1) rest l=l:=by
   have:roundGo (placesL ds) pre.length (d::rest) l=roundGo (placesL ds) (pre.length+1) rest (l.set pre.length (bodyF (placesL ds) l d)):=rfl
   rw[this,e1] at e
   exact e
  rw[e1] at r3
  by_cases hp:i=pre.length
  ·subst hp
   have h4:=set_getD l pre.length pre.length (bodyF (placesL ds) l d) hil
   rw[e1,if_pos rfl] at h4
   rw[h4,hd]
  ·exact r3 e2 i hi2 (by omega)
structure IsFlow (ds:List Df) (l:List Fl):Prop where
 len:l.length=ds.length
 fix:∀ i (h:i < ds.length),l.getD i fl0=bodyF (placesL ds) l ds[i]
 least:∀ m:List Fl,m.length=ds.length→(∀ i (h:i < ds.length),(bodyF (placesL ds) m ds[i]).le (m.getD i fl0))→LeL l m
theorem PreF.done {ds:List Df} {l:List Fl} (h:PreF ds l) (hf:roundGo (placesL ds) 0 ds l=l):IsFlow ds l:=
 ⟨h.len,fun i hi=>(roundGo_pre ds [] rfl h).2.2 hf i hi (Nat.zero_le _),h.least⟩
theorem IsFlow.unique {ds:List Df} {l l':List Fl} (h:IsFlow ds l) (h':IsFlow ds l'):l=l':=
 LeL.antisymm (h.least l' h'.len fun i hi=>by rw[←h'.fix i hi];exact Fl.le_refl _) (h'.least l h.len fun i hi=>by rw[←h.fix i hi];exact Fl.le_refl _)
def offF (x:Fl):Nat:=(bif x.z then 0 else 1)+((bif x.s then 0 else 1)+(bif x.f then 0 else 1))
def offs (l:List Fl):Nat:=(l.map offF).sum
theorem offF_le {a b:Fl} (h:a.le b):offF b≤offF a∧(offF a≤offF b→a=b):=by
 obtain⟨a1,a2,a3⟩:=a
 obtain⟨b1,b2,b3⟩:=b
 obtain⟨h1,h2,h3⟩:=h
 cases a1<;>cases b1<;>cases a2<;>cases b2<;>cases a3<;>cases b3<;>simp_all[offF]
theorem offs_le:∀ {l m:List Fl},LeL l m→offs m≤offs l∧(offs l≤offs m→l=m)
 | _,_,.nil=>⟨Nat.le_refl _,fun _=>rfl⟩
 | _,_,.cons h t=>by
  obtain⟨h1,h2⟩:=offF_le h
  obtain⟨t1,t2⟩:=offs_le t
  simp only[offs,List.map_cons,List.sum_cons] at t1 t2 ⊢
  refine⟨by omega,fun h=>?_⟩
  rw[h2 (by omega),t2 (by omega)]
theorem offs_lt {l m:List Fl} (h:LeL l m) (hne:m≠l):offs m < offs l:=by
 obtain⟨h1,h2⟩:=offs_le h
 apply Nat.lt_of_le_of_ne h1
 intro e
 exact hne (h2 (by omega)).symm
def firstAt (nm:ByteArray):List Df→Nat→Option Int
 | [],_=>none
 | d::ds,i=>bif decide (nm=d.name) then some (i:Int) else firstAt nm ds (i+1)
theorem lookM_snoc (s n:ByteArray) (v:Int):∀ l:List (ByteArray×Int),lookM s (l++[(n,v)])=match lookM s l with
  | some x=>some x
  | none=>bif decide (s=n) then some v else none
 | []=>rfl
 | p::l=>by
  have ih:=lookM_snoc s n v l
  simp only[List.cons_append,lookM]
  cases decide (s=p.1) with
  | true=>rfl
  | false=>simpa using ih
theorem places_look:∀ (ds:List Df) (acc:List (ByteArray×Int)) (i:Nat) (nm:ByteArray),lookM nm (placesGo acc i ds)=match lookM nm acc with
  | some x=>some x
  | none=>firstAt nm ds i
 | [],acc,i,nm=>by
  rw[placesGo,firstAt]
  cases lookM nm acc<;>rfl
 | d::ds,acc,i,nm=>by
  rw[placesGo,places_look ds,firstAt]
  cases hd:(lookM d.name acc).isSome with
  | true=>
   simp only[cond_true]
   cases hl:lookM nm acc with
   | some x=>rfl
   | none=>
    have:decide (nm=d.name)=false:=by
     rw[decide_eq_false_iff_not]
     intro e
     rw[←e,hl] at hd
     cases hd
    rw[this]
    rfl
  | false=>
   simp only[cond_false,lookM_snoc]
   cases hl:lookM nm acc with
   | some x=>rfl
   | none=>cases decide (nm=d.name)<;>rfl
theorem places_first (ds:List Df) (nm:ByteArray):lookM nm (placesL ds)=firstAt nm ds 0:=places_look ds [] 0 nm
theorem firstAt_lt:∀ {ds:List Df} {i:Nat} {nm:ByteArray} {v:Int},firstAt nm ds i=some v→∃ j:Nat,v=((i+j:Nat):Int)∧j < ds.length
 | d::ds,i,nm,v,h=>by
  unfold firstAt at h
  cases hd:decide (nm=d.name) with
  | true=>
   rw[hd] at h
   simp only[cond_true,Option.some.injEq] at h
   exact⟨0,by rw[←h];rfl,by simp⟩
  | false=>
   rw[hd] at h
   obtain⟨j,h1,h2⟩:=firstAt_lt h
   exact⟨j+1,by rw[h1];congr 1;omega,by simpa using h2⟩
def namedOk (pl:List (ByteArray×Int)) (ns:List Nd):Bool:=ns.all fun d=>!decide (d.k=3) || (lookM d.t pl).isSome
theorem called_of {ds:List Df} {ns:List Nd} (h:namedOk (placesL ds) ns=true):Called (placesL ds) ds.length ns:=by
 intro d hd hk
 have:=List.all_eq_true.1 h d hd
 simp only[hk,decide_true,Bool.not_true,Bool.false_or] at this
 obtain⟨v,hv⟩:=Option.isSome_iff_exists.1 this
 have hv':=hv
 rw[places_first] at hv'
 obtain⟨j,h1,h2⟩:=firstAt_lt hv'
 rw[Nat.zero_add] at h1
 exact⟨j,by rw[hv,h1],h2⟩
theorem dups_places:∀ (ds:List Df) {acc r:List (ByteArray×Int)} {i:Nat},dups acc i ds=some r→placesGo acc i ds=r
 | [],acc,r,i,h=>by
  simp only[dups,Option.some.injEq] at h
  exact h
 | d::ds,acc,r,i,h=>by
  unfold dups at h
  cases hd:(lookM d.name acc).isSome with
  | true=>rw[hd] at h;cases h
  | false=>
   rw[hd] at h
   rw[placesGo,hd]
   exact dups_places ds h
theorem pairs_mem {d:Df} {nd:Nd} (hn:nd∈d.t.ns):∀ (ds:List Df) (i:Nat),d∈ds→∃ j,(j,nd)∈nodePairs i ds:=by
 intro ds
 induction ds with
 | nil=>intro i hd;cases hd
 | cons x ds ih=>
  intro i hd
  rcases List.mem_cons.1 hd with e | hd
  ·subst e
   exact⟨i,List.mem_append.2 (.inl (List.mem_map.2 ⟨nd,hn,rfl⟩))⟩
  ·obtain⟨j,hj⟩:=ih (i+1) hd
   exact⟨j,List.mem_append.2 (.inr hj)⟩
theorem may_named {deb:List Int} {g:Gr} (h:mayG deb g=0):∀ d∈g.ds,namedOk (placesL g.ds) d.t.ns=true:=by
 unfold mayG at h
 cases h1:decide ((g.n:Int)=0) with
 | true=>rw[h1] at h;cases h
 | false=>
 cases h2:okDefs g.ds with
 | false=>rw[h1,h2] at h;cases h
 | true=>
 cases h3:largeG deb g with
 | true=>rw[h1,h2,h3] at h;cases h
 | false=>
 rw[h1,h2,h3] at h
 simp only[cond_false,Bool.not_true] at h
 split at h
 ·cases h
 ·rename_i acc hacc
  have hp:placesL g.ds=acc:=dups_places g.ds hacc
  cases h4:allNamed acc g.ds with
  | false=>rw[h4] at h;cases h
  | true=>
   intro d hd
   rw[hp,namedOk,List.all_eq_true]
   intro nd hnd
   obtain⟨j,hj⟩:=pairs_mem hnd g.ds 0 hd
   exact List.all_eq_true.1 h4 _ hj
theorem may_ok {deb:List Int} {g:Gr} (h:mayG deb g=0):okDefs g.ds=true:=by
 unfold mayG at h
 cases h1:decide ((g.n:Int)=0) with
 | true=>rw[h1] at h;cases h
 | false=>
 cases h2:okDefs g.ds with
 | false=>rw[h1,h2] at h;cases h
 | true=>rfl
end Go.V
namespace Go.V
open Go
structure OrdB (α:Type) where
 le:α→α→Prop
 bot:α
 refl:∀ a,le a a
 trans:∀ {a b c},le a b→le b c→le a c
 anti:∀ {a b},le a b→le b a→a=b
 low:∀ a,le bot a
structure LeR {α:Type} (O:OrdB α) (l m:List α):Prop where
 len:l.length=m.length
 at':∀ i,O.le (l.getD i O.bot) (m.getD i O.bot)
section
variable {α:Type} {O:OrdB α}
theorem LeR.refl (l:List α):LeR O l l:=⟨rfl,fun _=>O.refl _⟩
theorem LeR.trans {a b c:List α} (h:LeR O a b) (h':LeR O b c):LeR O a c:=⟨h.len.trans h'.len,fun i=>O.trans (h.at' i) (h'.at' i)⟩
theorem LeR.anti {a b:List α} (h:LeR O a b) (h':LeR O b a):a=b:=by
 apply List.ext_getElem h.len
 intro i h1 h2
 have:=O.anti (h.at' i) (h'.at' i)
 simpa[List.getD_eq_getElem?_getD,h1,h2] using this
theorem LeR.of {a b:List α} (hl:a.length=b.length) (h:∀ i,i < a.length→O.le (a.getD i O.bot) (b.getD i O.bot)):LeR O a b:=⟨hl,fun i=>by
 by_cases hi:i < a.length
 ·exact h i hi
 ·have e:a.getD i O.bot=O.bot:=by simp[List.getD_eq_getElem?_getD,List.getElem?_eq_none (Nat.le_of_not_lt hi)]
  rw[e]
  exact O.low _⟩
theorem LeR.snoc {a b:List α} {x y:α} (h:LeR O a b) (hx:O.le x y):LeR O (a++[x]) (b++[y]):=by
 have hl:=h.len
 refine .of (by simp[hl]) fun i hi=>?_
 rcases Nat.lt_or_ge i a.length with h1 | h1
 ·have h2:i < b.length:=by omega
  have:=h.at' i
  simpa[List.getD_eq_getElem?_getD,List.getElem?_append_left h1,List.getElem?_append_left h2] using this
 ·have h2:i=a.length:=by simp at hi;omega
  subst h2
  have e1:(a++[x]).getD a.length O.bot=x:=by simp[List.getD_eq_getElem?_getD]
  have e2:(b++[y]).getD a.length O.bot=y:=by rw[hl];simp[List.getD_eq_getElem?_getD]
  rw[e1,e2]
  exact hx
theorem set_getR (l:List α) (b:α) (i j:Nat) (x:α) (hi:i < l.length):(l.set i x).getD j b=if i=j then x else l.getD j b:=by
 simp only[List.getD_eq_getElem?_getD,List.getElem?_set]
 by_cases e:i=j
 ·subst e
  simp[hi]
 ·rw[if_neg e,if_neg e]
def roundR (body:List α→Nat→α):Nat→Nat→List α→List α
 | _,0,l=>l
 | i,k+1,l=>roundR body (i+1) k (l.set i (body l i))
structure PreR (O:OrdB α) (n:Nat) (body:List α→Nat→α) (l:List α):Prop where
 len:l.length=n
 up:∀ i,i < n→O.le (l.getD i O.bot) (body l i)
 least:∀ m:List α,m.length=n→(∀ i,i < n→O.le (body m i) (m.getD i O.bot))→LeR O l m
structure IsR (O:OrdB α) (n:Nat) (body:List α→Nat→α) (l:List α):Prop where
 len:l.length=n
 fix:∀ i,i < n→l.getD i O.bot=body l i
 least:∀ m:List α,m.length=n→(∀ i,i < n→O.le (body m i) (m.getD i O.bot))→LeR O l m
theorem IsR.unique {n:Nat} {body:List α→Nat→α} {l l':List α} (h:IsR O n body l) (h':IsR O n body l'):l=l':=
 LeR.anti (h.least l' h'.len fun i hi=>by rw[←h'.fix i hi];exact O.refl _) (h'.least l h.len fun i hi=>by rw[←h.fix i hi];exact O.refl _)
theorem rep_getR (n i:Nat) (b:α):(List.replicate n b).getD i b=b:=by
 by_cases h:i < n<;>simp[List.getD_eq_getElem?_getD,List.getElem?_replicate,h]
theorem PreR.start (n:Nat) (body:List α→Nat→α):PreR O n body (List.replicate n O.bot):=by
 refine⟨by simp,fun i h=>?_,fun m hm _=>⟨by simp[hm],fun i=>?_⟩⟩
 ·rw[rep_getR];exact O.low _
 ·rw[rep_getR];exact O.low _
section
variable {n:Nat} {body:List α→Nat→α} (hmono:∀ {l m:List α},LeR O l m→∀ i,i < n→O.le (body l i) (body m i))
include hmono
theorem PreR.step {l:List α} (h:PreR O n body l) {i:Nat} (hi:i < n):PreR O n body (l.set i (body l i))∧LeR O l (l.set i (body l i)):=by
 have hil:i < l.length:=by rw[h.len];exact hi
 have hle:LeR O l (l.set i (body l i)):=.of (by simp) fun j hj=>by
  rw[set_getR _ _ _ _ _ hil]
  by_cases e:i=j
  ·subst e
   rw[if_pos rfl]
   exact h.up i hi
  ·rw[if_neg e]
   exact O.refl _
 refine⟨⟨by simpa using h.len,fun j hj=>?_,fun m hm hc=>?_⟩,hle⟩
 ·rw[set_getR _ _ _ _ _ hil]
  by_cases e:i=j
  ·subst e
   rw[if_pos rfl]
   exact hmono hle _ hi
  ·rw[if_neg e]
   exact O.trans (h.up j hj) (hmono hle _ hj)
 ·have hlm:=h.least m hm hc
  refine .of (by simp[h.len,hm]) fun j hj=>?_
  rw[set_getR _ _ _ _ _ hil]
  by_cases e:i=j
  ·subst e
   rw[if_pos rfl]
   exact O.trans (hmono hlm _ hi) (hc i hi)
  ·rw[if_neg e]
   exact hlm.at' j
theorem roundR_pre:∀ (k i:Nat) {l:List α},i+k=n→PreR O n body l→PreR O n body (roundR body i k l)∧LeR O l (roundR body i k l) ∧
  (roundR body i k l=l→∀ j,j < n→i≤j→l.getD j O.bot=body l j)
 | 0,i,l,hk,h=>⟨h,LeR.refl l,fun _ j hj hge=>by omega⟩
 | k+1,i,l,hk,h=>by
  have hi:i < n:=by omega
  have hil:i < l.length:=by rw[h.len];exact hi
  obtain⟨s1,s2⟩:=h.step hmono hi
  obtain⟨r1,r2,r3⟩:=roundR_pre k (i+1) (by omega) s1
  refine⟨r1,s2.trans r2,fun e j hj hge=>?_⟩
  have e0:roundR body i (k+1) l=roundR body (i+1) k (l.set i (body l i)):=rfl
  have e1:l.set i (body l i)=l:=by
   refine LeR.anti (O:=O) ?_ s2
   rw[e0] at e
   rw[e] at r2
   exact r2
  have e2:roundR body (i+1) k l=l:=by
   rw[e0,e1] at e
   exact e
  rw[e1] at r3
  by_cases hp:j=i
  ·subst hp
   have h4:=set_getR l O.bot j j (body l j) hil
   rw[e1,if_pos rfl] at h4
   exact h4
  ·exact r3 e2 j hj (by omega)
theorem PreR.done {l:List α} (h:PreR O n body l) (hf:roundR body 0 n l=l):IsR O n body l:=
 ⟨h.len,fun i hi=>(roundR_pre hmono n 0 (Nat.zero_add n) h).2.2 hf i hi (Nat.zero_le _),h.least⟩
end
end
theorem countP_eq_of {α:Type} {p q:α→Bool}:∀ {l:List α},(∀ x∈l,p x=true→q x=true)→l.countP q≤l.countP p→∀ x∈l,q x=true→p x=true
 | [],_,_,x,hx,_=>by cases hx
 | y::l,h,hle,x,hx,hq=>by
  have hm:=List.countP_mono_left (p:=p) (q:=q) (l:=l) (fun x hx=>h x (.tail _ hx))
  rw[List.countP_cons,List.countP_cons] at hle
  have hy:=h y (.head _)
  have key:(q y=true→p y=true)∧l.countP q≤l.countP p:=by
   cases hp:p y<;>cases hqy:q y<;>simp_all<;>omega
  rcases List.mem_cons.1 hx with rfl | hx
  ·exact key.1 hq
  ·exact countP_eq_of (fun x hx=>h x (.tail _ hx)) key.2 x hx hq
def offW (x:BitVec 64):Nat:=(List.range 64).countP fun i=>!x.getLsbD i
theorem offW_le {x y:BitVec 64} (h:x &&& y=x):offW y≤offW x∧(offW x≤offW y→x=y):=by
 have hb:∀ i,x.getLsbD i=true→y.getLsbD i=true:=fun i hx=>by
  have:=congrArg (fun w:BitVec 64=>w.getLsbD i) h
  simp only[BitVec.getLsbD_and,hx,Bool.true_and] at this
  exact this
 have hp:∀ i∈List.range 64,(!y.getLsbD i)=true→(!x.getLsbD i)=true:=fun i _ hi=>by
  have h1:=hb i
  cases hx:x.getLsbD i with
  | false=>rfl
  | true=>rw[h1 hx] at hi;cases hi
 refine⟨List.countP_mono_left hp,fun hle=>?_⟩
 have:=countP_eq_of hp hle
 apply BitVec.eq_of_getLsbD_eq
 intro i hi
 have h1:=hb i
 have h2:=this i (List.mem_range.2 hi)
 cases hx:x.getLsbD i<;>cases hy:y.getLsbD i<;>simp_all
def offI (x:Fi):Nat:=(offW x.w.a+offW x.w.b+offW x.w.c+offW x.w.d)+(bif x.f then 0 else 1)
theorem offI_le {a b:Fi} (h:a.le b):offI b≤offI a∧(offI a≤offI b→a=b):=by
 obtain⟨h1,h2⟩:=h
 obtain⟨⟨a1,a2,a3,a4⟩,af⟩:=a
 obtain⟨⟨b1,b2,b3,b4⟩,bf⟩:=b
 have h1:=of_decide_eq_true h1
 simp only[Ws.and,Ws.mk.injEq] at h1
 obtain⟨g1,g2,g3,g4⟩:=h1
 obtain⟨p1,q1⟩:=offW_le g1
 obtain⟨p2,q2⟩:=offW_le g2
 obtain⟨p3,q3⟩:=offW_le g3
 obtain⟨p4,q4⟩:=offW_le g4
 simp only at h2
 have hf:(bif bf then 0 else 1)≤(bif af then 0 else 1)∧((bif af then 0 else 1)≤(bif bf then 0 else 1)→af=bf):=by
  cases af<;>cases bf<;>simp_all
 unfold offI
 simp only
 refine⟨by omega,fun hle=>?_⟩
 obtain rfl:=q1 (by omega)
 obtain rfl:=q2 (by omega)
 obtain rfl:=q3 (by omega)
 obtain rfl:=q4 (by omega)
 obtain rfl:=hf.2 (by omega)
 rfl
def OI:OrdB Fi:=⟨Fi.le,fi0,Fi.le_refl,fun h h'=>h.trans h',fun h h'=>h.antisymm h',Fi.bot⟩
def offsI (l:List Fi):Nat:=(l.map offI).sum
theorem offsI_le:∀ {l m:List Fi},LeR OI l m→offsI m≤offsI l∧(offsI l≤offsI m→l=m)
 | [],[],_=>⟨Nat.le_refl _,fun _=>rfl⟩
 | [],_::_,h=>by have:=h.len;simp at this
 | _::_,[],h=>by have:=h.len;simp at this
 | a::l,b::m,h=>by
  have h0:a.le b:=h.at' 0
  have ht:LeR OI l m:=⟨by simpa using h.len,fun i=>by simpa using h.at' (i+1)⟩
  obtain⟨h1,h2⟩:=offI_le h0
  obtain⟨t1,t2⟩:=offsI_le ht
  simp only[offsI,List.map_cons,List.sum_cons] at t1 t2 ⊢
  refine⟨by omega,fun h=>?_⟩
  rw[h2 (by omega),t2 (by omega)]
theorem offsI_lt {l m:List Fi} (h:LeR OI l m) (hne:m≠l):offsI m < offsI l:=by
 obtain⟨h1,h2⟩:=offsI_le h
 apply Nat.lt_of_le_of_ne h1
 intro e
 exact hne (h2 (by omega)).symm
def Ws.one (i:Nat) (x:BitVec 64):Ws:=⟨bif decide (i=0) then x else 0,bif decide (i=1) then x else 0,bif decide (i=2) then x else 0,bif decide (i=3) then x else 0⟩
def byteW (b:UInt8):Ws:=.one (b.toNat / 64) (1#64 <<< (b.toNat % 64))
def ofW (l:List UInt8):Ws:=l.foldl (fun w b=>w.or (byteW b)) .zero
def Nd.ws (d:Nd):Ws:=⟨BitVec.ofInt 64 d.s0,BitVec.ofInt 64 d.s1,BitVec.ofInt 64 d.s2,BitVec.ofInt 64 d.s3⟩
def repFi (d:Nd) (k:Fi):Fi:=bif decide (d.hi=0) then fiT else ⟨k.w,k.f || decide (d.lo=0)⟩
def seqFi (ks:List Fi):Fi:=ks.foldl Fi.seq fiT
def chFi (ks:List Fi):Fi:=ks.foldl Fi.choice fi0
def textFi (t:ByteArray):Fi:=⟨ofW (t.data.toList.take 1),false⟩
def comeFi (d:Nd) (x:Fl) (ks:List Fi):Fi:=
 bif decide (d.k=0) then ⟨.zero,x.suc⟩ else
 bif decide (d.k=1) then ⟨d.ws,false⟩ else
 bif decide (d.k=2) then textFi d.t else
 bif decide (d.k=3) then ks.headD fi0 else
 bif decide (d.k=4) then seqFi ks else
 bif decide (d.k=5) then chFi ks else
 bif decide (d.k=6) then repFi d (ks.headD fi0) else
 bif decide (d.k=7) then ⟨.zero,x.suc⟩ else
 bif decide (d.k=8) then ⟨.zero,x.suc⟩ else ks.headD fi0
def kidsI (pl:List (ByteArray×Int)) (fl acc:List Fi) (d:Nd):List Fi:=
 d.kids.map (fun k=>acc.getD k.toNat fi0)++bif decide (d.k=3) then [fl.getD ((lookM d.t pl).getD 0).toNat fi0] else []
def nodesI (pl:List (ByteArray×Int)) (fl:List Fi) (xs:List Fl):List Nd→List Fi→List Fi
 | [],acc=>acc
 | d::ds,acc=>nodesI pl fl xs ds (acc++[comeFi d (xs.getD acc.length fl0) (kidsI pl fl acc d)])
theorem nodesI_len (pl:List (ByteArray×Int)) (fl:List Fi) (xs:List Fl):∀ (ds:List Nd) (acc:List Fi),(nodesI pl fl xs ds acc).length=acc.length+ds.length
 | [],acc=>rfl
 | d::ds,acc=>by
  rw[nodesI,nodesI_len]
  simp
  omega
theorem LeI.map {α:Type} {f g:α→Fi} {l:List α} (h:∀ x∈l,(f x).le (g x)):LeR OI (l.map f) (l.map g):=.of (by simp) fun i hi=>by
 have hi':i < l.length:=by simpa using hi
 have:=h _ (List.getElem_mem hi')
 simpa[List.getD_eq_getElem?_getD,hi'] using (show OI.le _ _ from this)
theorem fold_mono {f:Fi→Fi→Fi} (hf:∀ {a b x y:Fi},a.le b→x.le y→(f a x).le (f b y)):∀ {l m:List Fi} {a b:Fi},LeR OI l m→a.le b→(l.foldl f a).le (m.foldl f b)
 | [],[],_,_,_,h=>h
 | [],_::_,_,_,h,_=>by have:=h.len;simp at this
 | _::_,[],_,_,h,_=>by have:=h.len;simp at this
 | x::l,y::m,a,b,h,h'=>fold_mono hf (l:=l) (m:=m) ⟨by simpa using h.len,fun i=>by simpa using h.at' (i+1)⟩ (hf h' (h.at' 0))
theorem head_mono {l m:List Fi} (h:LeR OI l m):(l.headD fi0).le (m.headD fi0):=by
 have:=h.at' 0
 cases l<;>cases m<;>exact this
theorem comeI_mono (d:Nd) (x:Fl) {a b:List Fi} (h:LeR OI a b):(comeFi d x a).le (comeFi d x b):=by
 have hh:=head_mono h
 unfold comeFi
 cases decide (d.k=0) with
 | true=>exact Fi.le_refl _
 | false=>
 cases decide (d.k=1) with
 | true=>exact Fi.le_refl _
 | false=>
 cases decide (d.k=2) with
 | true=>exact Fi.le_refl _
 | false=>
 cases decide (d.k=3) with
 | true=>exact hh
 | false=>
 cases decide (d.k=4) with
 | true=>exact fold_mono Fi.seq_mono h (Fi.le_refl _)
 | false=>
 cases decide (d.k=5) with
 | true=>exact fold_mono Fi.choice_mono h (Fi.le_refl _)
 | false=>
 cases decide (d.k=6) with
 | true=>
  simp only[cond_true,cond_false,repFi]
  cases decide (d.hi=0) with
  | true=>exact Fi.le_refl _
  | false=>
   refine⟨hh.w,?_⟩
   simp only[cond_false,Bool.or_eq_true]
   exact fun g=>g.imp hh.f id
 | false=>
 cases decide (d.k=7) with
 | true=>exact Fi.le_refl _
 | false=>
 cases decide (d.k=8) with
 | true=>exact Fi.le_refl _
 | false=>exact hh
theorem LeI.append {a b c d:List Fi} (h:LeR OI a b) (h':LeR OI c d):LeR OI (a++c) (b++d):=by
 have hl:=h.len
 have hl':=h'.len
 refine .of (by simp[hl,hl']) fun i hi=>?_
 rcases Nat.lt_or_ge i a.length with h1 | h1
 ·have h2:i < b.length:=by omega
  have:=h.at' i
  simpa[List.getD_eq_getElem?_getD,List.getElem?_append_left h1,List.getElem?_append_left h2] using this
 ·have h2:b.length≤i:=by omega
  have:=h'.at' (i - a.length)
  simp only[List.getD_eq_getElem?_getD,List.getElem?_append_right h1,List.getElem?_append_right h2] at this ⊢
  rwa [hl] at this ⊢
theorem kidsI_mono {pl:List (ByteArray×Int)} {fl fl' acc acc':List Fi} (h:LeR OI fl fl') (ha:LeR OI acc acc') (d:Nd):LeR OI (kidsI pl fl acc d) (kidsI pl fl' acc' d):=by
 unfold kidsI
 refine LeI.append (LeI.map fun k _=>ha.at' _) ?_
 cases decide (d.k=3) with
 | true=>
  refine .of rfl fun i hi=>?_
  have:i=0:=by simpa using hi
  subst this
  exact h.at' _
 | false=>exact LeR.refl _
theorem nodesI_mono {pl:List (ByteArray×Int)} {fl fl':List Fi} {xs:List Fl} (h:LeR OI fl fl'):∀ (ds:List Nd) {acc acc':List Fi},LeR OI acc acc'→LeR OI (nodesI pl fl xs ds acc) (nodesI pl fl' xs ds acc')
 | [],_,_,ha=>ha
 | d::ds,acc,acc',ha=>by
  rw[nodesI,nodesI,←ha.len]
  exact nodesI_mono h ds (ha.snoc (comeI_mono d _ (kidsI_mono h ha d)))
def bodyI (pl:List (ByteArray×Int)) (F:List Fl) (ds:List Df) (l:List Fi) (i:Nat):Fi:=match ds[i]? with
 | some d=>(nodesI pl l (nodesF pl F d.t.ns []) d.t.ns []).getD d.t.root.toNat fi0
 | none=>fi0
theorem bodyI_mono {pl:List (ByteArray×Int)} {F:List Fl} {ds:List Df} {l m:List Fi} (h:LeR OI l m) (i:Nat):(bodyI pl F ds l i).le (bodyI pl F ds m i):=by
 unfold bodyI
 split
 ·exact(nodesI_mono h _ (LeR.refl _)).at' _
 ·exact Fi.le_refl _
def IsFirst (ds:List Df) (F:List Fl) (l:List Fi):Prop:=IsR OI ds.length (bodyI (placesL ds) F ds) l
def PreI (ds:List Df) (F:List Fl) (l:List Fi):Prop:=PreR OI ds.length (bodyI (placesL ds) F ds) l
end Go.V
namespace Go.V
open Go Go.Proofs
theorem shl_bit {k:Nat} (hk:k < 64):IntKind.u64.wrap (1 * 2 ^ (min k IntKind.u64.bits))=((1#64 <<< k).toNat:Int):=by
 have h1:(1#64 <<< k).toNat=2 ^ k:=by
  rw[BitVec.toNat_shiftLeft,Nat.shiftLeft_eq]
  have:2 ^ k < 2 ^ 64:=Nat.pow_lt_pow_right (by decide) hk
  simp only[BitVec.toNat_ofNat]
  rw[Nat.mod_eq_of_lt (by decide:1 < 2 ^ 64),Nat.one_mul]
  exact Nat.mod_eq_of_lt this
 have h2:min k IntKind.u64.bits=k:=by simp only[IntKind.bits];omega
 have h3:2 ^ k < 2 ^ 64:=Nat.pow_lt_pow_right (by decide) hk
 rw[h1,h2,Int.one_mul]
 have e:((2:Int) ^ k)=((2 ^ k:Nat):Int):=by simp
 rw[e]
 generalize 2 ^ k=q at h3
 unfold IntKind.wrap
 simp only[IntKind.bits,IntKind.signed]
 simp
 omega
theorem ofW_snoc (l:List UInt8) (b:UInt8):ofW (l++[b])=(ofW l).or (byteW b):=by simp[ofW]
set_option maxHeartbeats 1000000 in
theorem Of_spec {I:GH} {M:List Blk} (s:ByteArray) (hs:s.size≤140737488355328):Spec Tryz.prog 87 [.string s] I M fun r I' M'=>r=(ofW s.data.toList).val∧I'=I∧M'=M:=by
 refine spec_of_V [] TryzEOK Tryz.func87 rfl rfl rfl ?_
 intro B h0
 have hsz:s.data.toList.length=s.size:=Array.length_toList
 refine LoopOb.inv (ι:=Nat) (fun i=>{ fl:=[(0,.val (.string s)),(2,.ref 2 0),(3,.ref 3 0),(4,.val (.int .i64 i))],cl:=[(2,Ws.zero.cells),(3,(ofW (s.data.toList.take i)).cells)],gi:=I,mi:=M }) (fun i=>i≤s.size) (fun i=>s.size - i) ?_ ?_
 ·exact⟨0,Nat.zero_le _,.refl,.cons .refl (.cons .refl (.cons .refl (.cons .refl (.nil)))),.cons rfl (.cons rfl (.nil))⟩
 intro i hi
 refine CondOb.mk (fun h=>?_) (fun h=>?_)
 rotate_left
 ·have hge:s.size≤i:=by have:¬ (i:Int) < (s.size:Int):=of_decide_eq_false h;omega
  have hw:s.data.toList.take i=s.data.toList:=List.take_of_length_le (by omega)
  refine⟨_,_,.refl,?_,rfl,rfl⟩
  show (ofW (s.data.toList.take i)).val=_
  rw[hw]
 have hlt:i < s.size:=by have:(i:Int) < (s.size:Int):=of_decide_eq_true h;omega
 have hget:s.data.toList[i]'(by omega)=s[i]:=by rw[Array.getElem_toList];rfl
 have hnext:ofW (s.data.toList.take (i+1))=(ofW (s.data.toList.take i)).or (byteW s[i]):=by
  rw[List.take_succ_eq_append_getElem (by omega),ofW_snoc,hget]
 generalize ofW (s.data.toList.take i)=w at hnext
 have hb:=s[i].toNat_lt
 have em:((s[i].toNat:Int)).tmod 64=((s[i].toNat % 64:Nat):Int):=rfl
 have ed:((s[i].toNat:Int)).tdiv 64=((s[i].toNat / 64:Nat):Int):=rfl
 refine CodeOb.draw TryzEOK rfl rfl rfl ?_
 refine StrOb.mk i rfl hlt ?_
 refine DivOb.mk (by decide) ?_
 rcases(by omega:s[i].toNat / 64=0∨s[i].toNat / 64=1∨s[i].toNat / 64=2∨s[i].toNat / 64=3) with hj | hj | hj | hj
 ·refine ArithOb.mk 0 (by rw[ed,hj];decide) ?_
  refine ArrOb.mk 0 rfl (by decide) ?_
  refine StrOb.mk i rfl hlt ?_
  refine DivOb.mk (by decide) ?_
  refine ShOb.mk (s[i].toNat % 64) em ?_
  refine ArithOb.mk _ (shl_bit (by omega)) ?_
  refine ArrOb.mk 0 rfl (by decide) ?_
  refine ArithOb.mk _ (next_wr (i:=i) (by omega)) ?_
  refine⟨i+1,⟨hlt,by omega⟩,.refl,.cons .refl (.cons .refl (.cons .refl (.cons .refl (.nil)))),.cons rfl (.cons ?_ .nil)⟩
  rw[hnext,show byteW s[i]=Ws.one 0 (1#64 <<< (s[i].toNat % 64)) by rw[byteW,hj]]
  refine congrArg some ?_
  show ([.int .u64 (worV w.a.toNat (1#64 <<< (s[i].toNat % 64)).toNat),.int .u64 w.b.toNat,.int .u64 w.c.toNat,.int .u64 w.d.toNat]:List Value)=_
  rw[worV_bv]
  simp[Ws.cells,Ws.or,Ws.one]
 ·refine ArithOb.mk 1 (by rw[ed,hj];decide) ?_
  refine ArrOb.mk 1 rfl (by decide) ?_
  refine StrOb.mk i rfl hlt ?_
  refine DivOb.mk (by decide) ?_
  refine ShOb.mk (s[i].toNat % 64) em ?_
  refine ArithOb.mk _ (shl_bit (by omega)) ?_
  refine ArrOb.mk 1 rfl (by decide) ?_
  refine ArithOb.mk _ (next_wr (i:=i) (by omega)) ?_
  refine⟨i+1,⟨hlt,by omega⟩,.refl,.cons .refl (.cons .refl (.cons .refl (.cons .refl (.nil)))),.cons rfl (.cons ?_ .nil)⟩
  rw[hnext,show byteW s[i]=Ws.one 1 (1#64 <<< (s[i].toNat % 64)) by rw[byteW,hj]]
  refine congrArg some ?_
  show ([.int .u64 w.a.toNat,.int .u64 (worV w.b.toNat (1#64 <<< (s[i].toNat % 64)).toNat),.int .u64 w.c.toNat,.int .u64 w.d.toNat]:List Value)=_
  rw[worV_bv]
  simp[Ws.cells,Ws.or,Ws.one]
 ·refine ArithOb.mk 2 (by rw[ed,hj];decide) ?_
  refine ArrOb.mk 2 rfl (by decide) ?_
  refine StrOb.mk i rfl hlt ?_
  refine DivOb.mk (by decide) ?_
  refine ShOb.mk (s[i].toNat % 64) em ?_
  refine ArithOb.mk _ (shl_bit (by omega)) ?_
  refine ArrOb.mk 2 rfl (by decide) ?_
  refine ArithOb.mk _ (next_wr (i:=i) (by omega)) ?_
  refine⟨i+1,⟨hlt,by omega⟩,.refl,.cons .refl (.cons .refl (.cons .refl (.cons .refl (.nil)))),.cons rfl (.cons ?_ .nil)⟩
  rw[hnext,show byteW s[i]=Ws.one 2 (1#64 <<< (s[i].toNat % 64)) by rw[byteW,hj]]
  refine congrArg some ?_
  show ([.int .u64 w.a.toNat,.int .u64 w.b.toNat,.int .u64 (worV w.c.toNat (1#64 <<< (s[i].toNat % 64)).toNat),.int .u64 w.d.toNat]:List Value)=_
  rw[worV_bv]
  simp[Ws.cells,Ws.or,Ws.one]
 ·refine ArithOb.mk 3 (by rw[ed,hj];decide) ?_
  refine ArrOb.mk 3 rfl (by decide) ?_
  refine StrOb.mk i rfl hlt ?_
  refine DivOb.mk (by decide) ?_
  refine ShOb.mk (s[i].toNat % 64) em ?_
  refine ArithOb.mk _ (shl_bit (by omega)) ?_
  refine ArrOb.mk 3 rfl (by decide) ?_
  refine ArithOb.mk _ (next_wr (i:=i) (by omega)) ?_
  refine⟨i+1,⟨hlt,by omega⟩,.refl,.cons .refl (.cons .refl (.cons .refl (.cons .refl (.nil)))),.cons rfl (.cons ?_ .nil)⟩
  rw[hnext,show byteW s[i]=Ws.one 3 (1#64 <<< (s[i].toNat % 64)) by rw[byteW,hj]]
  refine congrArg some ?_
  show ([.int .u64 w.a.toNat,.int .u64 w.b.toNat,.int .u64 w.c.toNat,.int .u64 (worV w.d.toNat (1#64 <<< (s[i].toNat % 64)).toNat)]:List Value)=_
  rw[worV_bv]
  simp[Ws.cells,Ws.or,Ws.one]
section
variable {I:GH} {M:List Blk} {d:Nd} {x:Fl} {a:Option Addr} {n c:Nat} {ks:List Fi}
theorem IsAt.head (hk:IsAt I M a n ks) (h0:0 < n):∃ ad,a=some ad∧Rd I M (ad.add (0 * 5)) 5 (ks.headD fi0).cells:=by
 have h1:0 < ks.length:=by rw[hk.n];exact h0
 obtain⟨ad,h2,h3⟩:=hk.rd 0 h1
 refine⟨ad,h2,?_⟩
 cases ks with
 | nil=>simp at h1
 | cons k ks=>exact h3
theorem iFlows_spec:Spec Tryz.prog 156 [d.val,x.val,.slice a n c] I M fun v I' M'=>v=Fi.val ⟨.zero,x.suc⟩∧I'=I∧M'=M:=by
 refine spec_of_V [] TryzEOK Tryz.func156 rfl rfl rfl ?_
 intro B h0
 refine CallOb.mk M [] _ perm_nil (Suc_spec x) ?_
 rintro v I' M' - ⟨rfl,rfl,rfl⟩
 rw[List.append_nil]
 exact⟨_,_,.refl,rfl,rfl,rfl⟩
theorem bv_int {z:Int} (h:u64ok z):((BitVec.ofInt 64 z).toNat:Int)=z:=by
 obtain⟨w,rfl⟩:=bv_of h
 rw[bv_ofInt]
theorem iBytes_spec (hd:u64ok d.s0∧u64ok d.s1∧u64ok d.s2∧u64ok d.s3):Spec Tryz.prog 157 [d.val,x.val,.slice a n c] I M fun v I' M'=>v=Fi.val ⟨d.ws,false⟩∧I'=I∧M'=M:=by
 refine spec_of_V [] TryzEOK Tryz.func157 rfl rfl rfl ?_
 intro B h0
 refine⟨_,_,.refl,?_,rfl,rfl⟩
 obtain⟨h0,h1,h2,h3⟩:=hd
 simp only[Fi.val,Nd.ws,bv_int h0,bv_int h1,bv_int h2,bv_int h3]
 rfl
theorem iText_spec (h1:1≤d.t.size):Spec Tryz.prog 158 [d.val,x.val,.slice a n c] I M fun v I' M'=>v=(textFi d.t).val∧I'=I∧M'=M:=by
 refine spec_of_V [] TryzEOK Tryz.func158 rfl rfl rfl ?_
 intro B h0
 refine SliceOb.mk 0 1 rfl rfl (by decide) h1 ?_
 have hl:(d.t.extract 0 1).data.toList=d.t.data.toList.take 1:=by simp
 refine CallOb.mk M [] _ perm_nil (Of_spec (d.t.extract 0 1) (by simp;omega)) ?_
 rintro v I' M' - ⟨rfl,rfl,rfl⟩
 rw[List.append_nil]
 refine⟨_,_,.refl,?_,rfl,rfl⟩
 rw[hl]
 rfl
theorem iItself_spec (hk:IsAt I M a n ks) (h0:0 < n):Spec Tryz.prog 159 [d.val,x.val,.slice a n c] I M fun v I' M'=>v=(ks.headD fi0).val∧I'=I∧M'=M:=by
 refine spec_of_V [] TryzEOK Tryz.func159 rfl rfl rfl ?_
 intro B h0'
 obtain⟨ad,had,hrd⟩:=hk.head h0
 refine IdxOb.mk ad 0 had rfl h0 ?_
 refine LoadOb.mk _ hrd ?_
 exact⟨_,_,.refl,rfl,rfl,rfl⟩
theorem iRep_spec (hk:IsAt I M a n ks) (h0:0 < n):Spec Tryz.prog 162 [d.val,x.val,.slice a n c] I M fun v I' M'=>v=(repFi d (ks.headD fi0)).val∧I'=I∧M'=M:=by
 refine spec_of_V [] TryzEOK Tryz.func162 rfl rfl rfl ?_
 intro B h0'
 obtain⟨ad,had,hrd⟩:=hk.head h0
 generalize ks.headD fi0=k at hrd
 obtain⟨⟨k0,k1,k2,k3⟩,kf⟩:=k
 refine CondOb.mk (fun h=>?_) (fun h=>?_)
 ·refine⟨_,_,.refl,?_,rfl,rfl⟩
  simp[repFi,h]
  rfl
 refine CodeOb.draw TryzEOK rfl rfl rfl ?_
 refine IdxOb.mk ad 0 had rfl h0 ?_
 refine LoadOb.mk _ (hrd.part (k:=0) (m:=4) (by decide)) ?_
 refine IdxOb.mk ad 0 had rfl h0 ?_
 refine LoadOb.mk _ (hrd.part (k:=4) (m:=1) (by decide)) ?_
 refine GuardOb.mk (fun h2=>?_) (fun h2=>?_)
 all_goals
  have hf:kf=_:=h2
  subst hf
  refine⟨_,_,.refl,?_,rfl,rfl⟩
  simp[repFi,h]
  rfl
theorem iChoice_spec (hk:IsAt I M a n ks) (hn:n≤140737488355328):Spec Tryz.prog 161 [d.val,x.val,.slice a n c] I M fun v I' M'=>v=(chFi ks).val∧I'=I∧M'=M:=by
 refine spec_of_V [] TryzEOK Tryz.func161 rfl rfl rfl ?_
 intro B h0'
 have hkn:=hk.n
 refine LoopOb.inv (ι:=Nat×Fi) (fun s=>{ fl:=[(6,.ref 6 0),(7,.ref 7 0),(10,.val (.slice a n c)),(11,.val (.int .i64 n)),(12,.val (.int .i64 s.1))],cl:=[(6,fi0.cells),(7,s.2.cells)],gi:=I,mi:=M })
  (fun s=>s.1≤n∧s.2=chFi (ks.take s.1)) (fun s=>n - s.1) ?_ ?_
 ·exact⟨(0,fi0),⟨Nat.zero_le _,rfl⟩,.refl,.cons .refl (.cons .refl (.cons .refl (.cons .refl (.cons .refl (.nil))))),.cons rfl (.cons rfl (.nil))⟩
 rintro⟨i,f⟩ ⟨hi,hf⟩
 simp only at hi hf
 refine CondOb.mk (fun h=>?_) (fun h=>?_)
 rotate_left
 ·have hge:n≤i:=by have:=of_decide_eq_false h;omega
  refine⟨_,_,.refl,?_,rfl,rfl⟩
  rw[List.take_of_length_le (by omega)] at hf
  rw[←hf]
  rfl
 have hlt:i < n:=by have:=of_decide_eq_true h;omega
 obtain⟨ad,had,hrd⟩:=hk.rd i (by omega)
 have hst:f.choice (ks[i]'(by omega))=chFi (ks.take (i+1)):=by
  rw[List.take_succ_eq_append_getElem (by omega),chFi,List.foldl_append,hf]
  rfl
 generalize ks[i]'(by omega)=k at hrd hst
 refine IdxOb.mk ad i had rfl hlt ?_
 refine LoadOb.mk _ hrd ?_
 refine CallOb.mk M [] _ perm_nil (IChoice_spec f k) ?_
 rintro v I' M' - ⟨rfl,rfl,rfl⟩
 rw[List.append_nil]
 refine ArithOb.mk _ (next_wr (i:=i) (by omega)) ?_
 exact⟨(i+1,f.choice k),⟨⟨by simp only;omega,hst⟩,by simp only;omega⟩,.refl,.cons .refl (.cons .refl (.cons .refl (.cons .refl (.cons .refl (.nil))))),.cons rfl (.cons rfl (.nil))⟩
theorem iSeq_spec (hk:IsAt I M a n ks) (hn:n≤140737488355328):Spec Tryz.prog 160 [d.val,x.val,.slice a n c] I M fun v I' M'=>v=(seqFi ks).val∧I'=I∧M'=M:=by
 refine spec_of_V [] TryzEOK Tryz.func160 rfl rfl rfl ?_
 intro B h0'
 have hkn:=hk.n
 refine LoopOb.inv (ι:=Nat×Fi) (fun s=>{ fl:=[(6,.ref 6 0),(7,.ref 7 0),(11,.val (.slice a n c)),(12,.val (.int .i64 n)),(13,.val (.int .i64 s.1))],cl:=[(6,fi0.cells),(7,s.2.cells)],gi:=I,mi:=M })
  (fun s=>s.1≤n∧s.2=seqFi (ks.take s.1)) (fun s=>n - s.1) ?_ ?_
 ·exact⟨(0,fiT),⟨Nat.zero_le _,rfl⟩,.refl,.cons .refl (.cons .refl (.cons .refl (.cons .refl (.cons .refl (.nil))))),.cons rfl (.cons rfl (.nil))⟩
 rintro⟨i,f⟩ ⟨hi,hf⟩
 simp only at hi hf
 refine CondOb.mk (fun h=>?_) (fun h=>?_)
 rotate_left
 ·have hge:n≤i:=by have:=of_decide_eq_false h;omega
  refine⟨_,_,.refl,?_,rfl,rfl⟩
  rw[List.take_of_length_le (by omega)] at hf
  rw[←hf]
  rfl
 have hlt:i < n:=by have:=of_decide_eq_true h;omega
 obtain⟨ad,had,hrd⟩:=hk.rd i (by omega)
 have hst:f.seq (ks[i]'(by omega))=seqFi (ks.take (i+1)):=by
  rw[List.take_succ_eq_append_getElem (by omega),seqFi,List.foldl_append,hf]
  rfl
 generalize ks[i]'(by omega)=k at hrd hst
 refine IdxOb.mk ad i had rfl hlt ?_
 refine LoadOb.mk _ hrd ?_
 refine CallOb.mk M [] _ perm_nil (ISeq_spec f k) ?_
 rintro v I' M' - ⟨rfl,rfl,rfl⟩
 rw[List.append_nil]
 refine ArithOb.mk _ (next_wr (i:=i) (by omega)) ?_
 exact⟨(i+1,f.seq k),⟨⟨by simp only;omega,hst⟩,by simp only;omega⟩,.refl,.cons .refl (.cons .refl (.cons .refl (.cons .refl (.cons .refl (.nil))))),.cons rfl (.cons rfl (.nil))⟩
end
def comeIs:List Nat:=[156,157,158,159,160,161,162,156,156,159]
def comeIv:List Value:=[.func (.func 156) #[] #[],.func (.func 157) #[] #[],.func (.func 158) #[] #[],.func (.func 159) #[] #[],.func (.func 160) #[] #[],.func (.func 161) #[] #[],.func (.func 162) #[] #[],.func (.func 156) #[] #[],.func (.func 156) #[] #[],.func (.func 159) #[] #[]]
theorem icomes_spec {I:GH}:Spec Tryz.prog 120 [] I [] fun v I' M'=>v=.agg comeIv.toArray∧I'=I∧M'=[]:=by
 refine spec_of_V [] TryzEOK Tryz.func120 rfl rfl rfl ?_
 intro B h0
 exact⟨_,_,.refl,rfl,rfl,rfl⟩
theorem icome_at {I:GH} {M:List Blk} {d:Nd} {x:Fl} {a:Option Addr} {n c:Nat} {ks:List Fi} (hu:u64ok d.s0∧u64ok d.s1∧u64ok d.s2∧u64ok d.s3) (hk:IsAt I M a n ks) (hn:n≤140737488355328) (j:Nat) (hj:j < 10) (hd:d.k=j) (h0:(j=3∨j=6∨j=9)→0 < n) (ht:j=2→1≤d.t.size) :
  Spec Tryz.prog (comeIs.getD j 0) [d.val,x.val,.slice a n c] I M fun v I' M'=>v=(comeFi d x ks).val∧I'=I∧M'=M:=by
 match j,hj,hd,h0,ht with
 | 0,_,hd,_,_=>rw[show comeFi d x ks=⟨.zero,x.suc⟩ by simp[comeFi,hd]];exact iFlows_spec (d:=d) (x:=x) (a:=a) (n:=n) (c:=c)
 | 1,_,hd,_,_=>rw[show comeFi d x ks=⟨d.ws,false⟩ by simp[comeFi,hd]];exact iBytes_spec (d:=d) (x:=x) (a:=a) (n:=n) (c:=c) hu
 | 2,_,hd,_,ht=>rw[show comeFi d x ks=textFi d.t by simp[comeFi,hd]];exact iText_spec (d:=d) (x:=x) (a:=a) (n:=n) (c:=c) (ht rfl)
 | 3,_,hd,h0,_=>rw[show comeFi d x ks=ks.headD fi0 by simp[comeFi,hd]];exact iItself_spec (d:=d) (x:=x) (c:=c) hk (h0 (by omega))
 | 4,_,hd,_,_=>rw[show comeFi d x ks=seqFi ks by simp[comeFi,hd]];exact iSeq_spec (d:=d) (x:=x) (c:=c) hk hn
 | 5,_,hd,_,_=>rw[show comeFi d x ks=chFi ks by simp[comeFi,hd]];exact iChoice_spec (d:=d) (x:=x) (c:=c) hk hn
 | 6,_,hd,h0,_=>rw[show comeFi d x ks=repFi d (ks.headD fi0) by simp[comeFi,hd]];exact iRep_spec (d:=d) (x:=x) (c:=c) hk (h0 (by omega))
 | 7,_,hd,_,_=>rw[show comeFi d x ks=⟨.zero,x.suc⟩ by simp[comeFi,hd]];exact iFlows_spec (d:=d) (x:=x) (a:=a) (n:=n) (c:=c)
 | 8,_,hd,_,_=>rw[show comeFi d x ks=⟨.zero,x.suc⟩ by simp[comeFi,hd]];exact iFlows_spec (d:=d) (x:=x) (a:=a) (n:=n) (c:=c)
 | 9,_,hd,h0,_=>rw[show comeFi d x ks=ks.headD fi0 by simp[comeFi,hd]];exact iItself_spec (d:=d) (x:=x) (c:=c) hk (h0 (by omega))
end Go.V
namespace Go.V
open Go Go.Proofs
theorem FsAt.mono {I I':GH} {M:List Blk} {a:Option Addr} {n:Nat} {ks:List Fl} (h:FsAt I M a n ks) (hI:∀ b o,I b=some o→I' b=some o):FsAt I' M a n ks:=
 ⟨h.n,fun j hj=>by
  obtain⟨ad,h1,h2⟩:=h.rd j hj
  exact⟨ad,h1,h2.mono hI⟩⟩
theorem flRow_at {I:GH} {M:List Blk} {b:Nat} {l:List Fl} (hM:flRow b l∈M):FsAt I M (some ⟨b,0,none⟩) l.length l:=
 ⟨rfl,fun j hj=>⟨_,rfl,flRow_rd hM hj⟩⟩
def nodesP (g:Gr) (fl:List Fl) (t:Tr):Option (List Fl):=bif decide (fl.length=g.n) && (right t && namedOk (placesL g.ds) t.ns) then some (nodesF (placesL g.ds) fl t.ns []) else none
set_option maxHeartbeats 4000000 in
theorem FNodes_spec {I:GH} {M0:List Blk} {deb:List Int} (hT:Tabs I deb) {g:Gr} (hg:g.ok I) {t:Tr} (ht:t.ok I) {la:Option Addr} {ln lc:Nat} {fl:List Fl} (hfl:FsAt I M0 la ln fl) :
  Spec Tryz.prog 44 [g.val,.slice la ln lc,t.val] I M0 fun v I' M'=>(∀ b o,I b=some o→I' b=some o) ∧
   ((nodesP g fl t=none∧v=.tuple #[.slice none 0 0,.bool false]∧M'=M0)∨∃ r b,nodesP g fl t=some r∧v=.tuple #[.slice (some ⟨b,0,none⟩) t.n t.n,.bool true]∧M'=flRow b r::M0):=by
 refine spec_of_V [] TryzEOK Tryz.func44 rfl rfl rfl ?_
 intro B h0
 have hgn:=hg.n
 have htn:=ht.n
 have hcap:=ht.rs.cap
 have hfn:=hfl.n
 refine GuardOb.mk (fun h=>?_) (fun h=>?_)
 rotate_left
 ·refine⟨_,_,.refl,fun _ _ h=>h,.inl ⟨?_,rfl,rfl⟩⟩
  have hne:¬ (ln:Int)=(g.n:Int):=by simpa using h
  have:decide (fl.length=g.n)=false:=decide_eq_false (by omega)
  simp[nodesP,this]
 have hln:ln=g.n:=by
  have:(ln:Int)=(g.n:Int):=by simpa using h
  omega
 have hd1:decide (fl.length=g.n)=true:=decide_eq_true (by omega)
 refine CallOb.mk [] M0 _ (.refl _) (Right_spec hT.c ht) ?_
 rintro v I1 M1 - ⟨rfl,rfl,rfl⟩
 refine CondOb.mk (fun h=>?_) (fun h=>?_)
 ·refine⟨_,_,.refl,fun _ _ h=>h,.inl ⟨?_,rfl,rfl⟩⟩
  have:right t=false:=by simpa using h
  simp[nodesP,this]
 have hr:right t=true:=by simpa using h
 refine CallOb.mk [] M0 _ (.refl _) (places_spec hg) ?_
 rintro v I2 M2 - ⟨hI2,rfl,gm,rfl,hgm⟩
 have ht2:=ht.mono hI2
 refine LoopOb.inv (ι:=Nat) (fun x=>{ fl:=[(1,.val (.slice la ln lc)),(3,.ref 3 0),(5,.ref 5 0),(8,.val (.map (some gm))),(27,.val (.slice t.a t.n t.c)),(28,.val (.int .i64 t.n)),(29,.val (.int .i64 x))],cl:=[(3,[.slice g.a g.n g.c]),(5,t.cells)],gi:=I2,mi:=M0 })
  (fun x=>x≤t.n∧∀ d∈t.ns.take x,(!decide (d.k=3) || (lookM d.t (placesL g.ds)).isSome)=true) (fun x=>t.n - x) ?_ ?_
 ·exact⟨0,⟨Nat.zero_le _,fun d hd=>by simp at hd⟩,.refl,.cons .refl (.cons .refl (.cons .refl (.cons .refl (.cons .refl (.cons .refl (.cons .refl .nil)))))),.cons rfl (.cons rfl .nil)⟩
 rintro i ⟨hi,hnm⟩
 refine CondOb.mk (fun h=>?_) (fun h=>?_)
 ·have hlt:i < t.n:=by have:(i:Int) < (t.n:Int):=of_decide_eq_true h;omega
  have hlt':i < t.ns.length:=by omega
  obtain⟨ad,had,hrd⟩:=ht2.rs.row Nd.cells_len hlt hlt'
  have htk:t.ns.take (i+1)=t.ns.take i++[t.ns[i]]:=List.take_succ_eq_append_getElem hlt'
  have hmem:=List.getElem_mem hlt'
  have next:(!decide (t.ns[i].k=3) || (lookM t.ns[i].t (placesL g.ds)).isSome)=true→∀ d∈t.ns.take (i+1),(!decide (d.k=3) || (lookM d.t (placesL g.ds)).isSome)=true:=fun h d hd=>by
   rw[htk] at hd
   rcases List.mem_append.1 hd with hd | hd
   ·exact hnm d hd
   ·simp only[List.mem_singleton] at hd
    rw[hd]
    exact h
  refine IdxOb.mk ad i had rfl hlt ?_
  refine LoadOb.mk _ (hrd _) ?_
  refine CondOb.mk (fun h3=>?_) (fun h3=>?_)
  ·refine ArithOb.mk _ (next_wr (i:=i) (by omega)) ?_
   refine⟨i+1,⟨⟨by omega,next ?_⟩,by omega⟩,.refl,.cons .refl (.cons .refl (.cons .refl (.cons .refl (.cons .refl (.cons .refl (.cons .refl .nil)))))),.cons rfl (.cons rfl .nil)⟩
   rw[show (!decide (t.ns[i].k=3))=true from h3]
   rfl
  ·refine OtherOb.lookupT TryzEOK rfl (by simp) rfl rfl rfl rfl (fun w=>zero_int w) (l:=placesL g.ds) (g:=gm) rfl rfl (.inl hgm) ?_
   refine CondOb.mk (fun h4=>?_) (fun h4=>?_)
   ·refine⟨_,_,.refl,hI2,.inl ⟨?_,rfl,rfl⟩⟩
    have h5:namedOk (placesL g.ds) t.ns=false:=by
     rw[namedOk,List.all_eq_false]
     refine⟨_,hmem,?_⟩
     have h6:(lookM t.ns[i].t (placesL g.ds)).isSome=false:=by simpa using h4
     rw[h6,show (!decide (t.ns[i].k=3))=false from h3]
     simp
    simp[nodesP,h5]
   ·refine ArithOb.mk _ (next_wr (i:=i) (by omega)) ?_
    refine⟨i+1,⟨⟨by omega,next ?_⟩,by omega⟩,.refl,.cons .refl (.cons .refl (.cons .refl (.cons .refl (.cons .refl (.cons .refl (.cons .refl .nil)))))),.cons rfl (.cons rfl .nil)⟩
    have h6:(lookM t.ns[i].t (placesL g.ds)).isSome=true:=by simpa using h4
    rw[h6]
    simp
 have hge:i=t.n:=by have:¬ (i:Int) < (t.n:Int):=of_decide_eq_false h;omega
 rw[List.take_of_length_le (by omega)] at hnm
 have hno:namedOk (placesL g.ds) t.ns=true:=List.all_eq_true.2 hnm
 have hca:=called_of hno
 rw[hgn,←hln] at hca
 refine CallOb.mk M0 [] _ perm_nil (fnodes_spec ht2 hr hgm (hfl.mono hI2) hca) ?_
 rintro v I3 M3 - ⟨rfl,b,rfl,rfl⟩
 rw[List.append_nil]
 exact⟨_,_,.refl,hI2,.inr ⟨_,b,by rw[nodesP,hd1,hr,hno];rfl,rfl,rfl⟩⟩
structure MayF (g:Gr):Prop where
 n:g.ds.length=g.n
 right:∀ d∈g.ds,right d.t=true
 named:∀ d∈g.ds,namedOk (placesL g.ds) d.t.ns=true
theorem mayF_of {deb:List Int} {g:Gr} (hn:g.ds.length=g.n) (h:mayG deb g=0):MayF g:=by
 refine⟨hn,fun d hd=>?_,may_named h⟩
 have:=List.all_eq_true.1 (may_ok h) d hd
 simp only[normal,Bool.and_eq_true] at this
 exact this.2.1
def ofM (b6 gm b5 bl b1:Nat) (g:Gr) (l:List Fl):List Blk:=[⟨b6,.cells #[.map (some gm)] 119 (0,0)⟩,⟨b5,.cells #[.slice (some ⟨bl,0,none⟩) g.n g.n] 74 (0,0)⟩,flRow bl l,⟨b1,.cells #[.slice g.a g.n g.c] 24 (0,0)⟩]
theorem perm_at2 {α:Type} (a b c d:α):[a,b,c,d].Perm ([c]++[a,b,d]):=List.perm_middle (l₁:=[a,b]) (l₂:=[d])
theorem perm_at3 {α:Type} (x a b c d:α):[x,a,b,c,d].Perm ([c]++[x,a,b,d]):=List.perm_middle (l₁:=[x,a,b]) (l₂:=[d])
theorem blk_rd0 {I:GH} {M:List Blk} {b:Nat} {f:Fl} (hM:(⟨b,.cells f.cells.toArray 80 (0,0)⟩:Blk)∈M):Rd I M (⟨b,0,none⟩:Addr) 3 f.cells:=⟨rfl,_,_,_,.inr ⟨_,hM,rfl,rfl⟩,rfl,rfl⟩
theorem ble_row {l:List Fl} {i:Nat} (hi:i < l.length) {x:Fl}:Nat.ble (0+i * 3+x.cells.length) (l.flatMap Fl.cells).length=true:=by
 rw[Nat.ble_eq,fl_len,Fl.cells_len]
 omega
theorem StoreOb.to {M:List Blk} {a:Addr} {vs:List Value} {K:List Blk→Prop} (pre post:List Blk) (cs:Array Value) (T:Nat) (hM:M=pre++⟨a.block,.cells cs T (0,0)⟩::post) (hs:a.spot=none) (hb:Nat.ble (a.off+vs.length) cs.size=true) (h1:allOne vs=true)
  (cs':List Value) (he:splice cs.toList a.off vs=cs') (k:K (pre++⟨a.block,.cells cs'.toArray T (0,0)⟩::post)):StoreOb M a vs K:=
 ⟨pre,post,cs,T,hM,hs,Nat.le_of_ble_eq_true hb,h1,by rw[he];exact k⟩
set_option maxRecDepth 100000 in
set_option maxHeartbeats 8000000 in
theorem Of1_spec {I:GH} {g:Gr} (hg:g.ok I) (hm:MayF g) {b6 gm b5 bl b1:Nat} (hgm:I gm=some (mapO (placesL g.ds))) {l0:List Fl} (hl0:PreF g.ds l0) :
  Spec Tryz.prog 82 [ptr b1,ptr b6,ptr b5] I (ofM b6 gm b5 bl b1 g l0) fun v I' M'=>v=.bool (decide (roundGo (placesL g.ds) 0 g.ds l0≠l0))∧I'=I∧M'=ofM b6 gm b5 bl b1 g (roundGo (placesL g.ds) 0 g.ds l0):=by
 refine spec_of_V [] TryzEOK Tryz.func82 rfl rfl rfl ?_
 intro B h0
 have hgn:=hg.n
 have hcap:=hg.rs.cap
 have rd1:∀ {M:List Blk},(⟨b1,.cells #[.slice g.a g.n g.c] 24 (0,0)⟩:Blk)∈M→Rd I M ((⟨b1,0,none⟩:Addr).add 0) 1 [.slice g.a g.n g.c]:=fun hM=>blk_rd (cs:=[.slice g.a g.n g.c]) (k:=0) (n:=1) hM (by simp)
 have rd6:∀ {M:List Blk},(⟨b6,.cells #[.map (some gm)] 119 (0,0)⟩:Blk)∈M→Rd I M (⟨b6,0,none⟩:Addr) 1 [.map (some gm)]:=fun hM=>⟨rfl,_,_,_,.inr ⟨_,hM,rfl,rfl⟩,rfl,rfl⟩
 have rd5:∀ {M:List Blk},(⟨b5,.cells #[.slice (some ⟨bl,0,none⟩) g.n g.n] 74 (0,0)⟩:Blk)∈M→Rd I M (⟨b5,0,none⟩:Addr) 1 [.slice (some ⟨bl,0,none⟩) g.n g.n]:=fun hM=>⟨rfl,_,_,_,.inr ⟨_,hM,rfl,rfl⟩,rfl,rfl⟩
 refine LoadOb.mk _ (rd1 (by simp[ofM])) ?_
 refine LoopOb.inv (ι:=Nat×List Fl) (fun x=>{ fl:=[(0,.val (ptr b1)),(1,.val (ptr b6)),(2,.val (ptr b5)),(4,.val (.bool (decide (x.2≠l0)))),(9,.val (.slice g.a g.n g.c)),(10,.val (.int .i64 g.n)),(11,.val (.int .i64 x.1))],gi:=I,mi:=ofM b6 gm b5 bl b1 g x.2 })
  (fun x=>x.1≤g.n∧PreF g.ds x.2∧LeL l0 x.2∧roundGo (placesL g.ds) 0 g.ds l0=roundGo (placesL g.ds) x.1 (g.ds.drop x.1) x.2) (fun x=>g.n - x.1) ?_ ?_
 ·refine⟨(0,l0),⟨Nat.zero_le _,hl0,LeL.refl _,rfl⟩,.refl,.cons .refl (.cons .refl (.cons .refl (.cons ?_ (.cons .refl (.cons .refl (.cons .refl .nil)))))),.nil⟩
  exact sv_lit (by simp)
 rintro⟨i,l⟩ ⟨hi,hP,hle,hgo⟩
 simp only at hi hP hle hgo
 have hll:=hP.len
 refine CondOb.mk (fun h=>?_) (fun h=>?_)
 rotate_left
 ·have hge:i=g.n:=by have:¬ (i:Int) < (g.n:Int):=of_decide_eq_false h;omega
  rw[List.drop_eq_nil_of_le (by omega),roundGo] at hgo
  exact⟨_,_,.refl,by rw[hgo],rfl,by rw[hgo]⟩
 have hlt:i < g.n:=by have:(i:Int) < (g.n:Int):=of_decide_eq_true h;omega
 have hlt':i < g.ds.length:=by omega
 have hil:i < l.length:=by omega
 obtain⟨ad,had,hrd⟩:=hg.rs.row Df.cells_len hlt hlt'
 have hdm:=List.getElem_mem hlt'
 have hd:=hg.ds _ hdm
 have hr:=hm.right _ hdm
 have hca:=called_of (hm.named _ hdm)
 rw[show g.ds.length=l.length from hll.symm] at hca
 obtain⟨hP',hle'⟩:=hP.step hlt'
 have hgo':roundGo (placesL g.ds) 0 g.ds l0=roundGo (placesL g.ds) (i+1) (g.ds.drop (i+1)) (l.set i (bodyF (placesL g.ds) l g.ds[i])):=by
  rw[hgo,List.drop_eq_getElem_cons hlt',roundGo]
 have hbody:bodyF (placesL g.ds) l g.ds[i]=(nodesF (placesL g.ds) l g.ds[i].t.ns []).getD g.ds[i].t.root.toNat fl0:=rfl
 generalize bodyF (placesL g.ds) l g.ds[i]=f at hP' hle' hgo' hbody
 generalize g.ds[i]=d at hrd hd hr hca hbody
 have hroot:=right_root hr
 have htn:=hd.t.n
 have hnl:=nodesF_len (placesL g.ds) l d.t.ns []
 simp only[List.length_nil,Nat.zero_add] at hnl
 have hrl:d.t.root.toNat < (nodesF (placesL g.ds) l d.t.ns []).length:=by omega
 have hfe:(nodesF (placesL g.ds) l d.t.ns [])[d.t.root.toNat]=f:=by
  rw[hbody]
  simp[List.getD_eq_getElem?_getD,hrl]
 have hspec:=fnodes_spec (M0:=[flRow bl l]) (ln:=l.length) (lc:=g.n) hd.t hr hgm (flRow_at (I:=I) (List.mem_singleton.2 rfl)) hca
 rw[show l.length=g.n by omega] at hspec
 refine IdxOb.mk ad i had rfl hlt ?_
 refine LoadOb.mk _ (hrd _) ?_
 have hlf:l.getD i fl0=l[i]:=by simp[List.getD_eq_getElem?_getD,hil]
 have more:(!decide (f=l[i]))=true→decide (l.set i f≠l0)=true:=fun h=>by
  have hne:f≠l[i]:=by simpa using h
  rw[decide_eq_true_eq]
  intro e
  have e2:l.set i f=l:=by
   refine LeL.antisymm ?_ hle'
   rw[e]
   exact hle
  have h3:=set_getD l i i f hil
  rw[e2,if_pos rfl,hlf] at h3
  exact hne h3.symm
 have same:(!decide (f=l[i]))=false→l.set i f=l:=fun h=>by
  have he:f=l[i]:=by simpa using h
  rw[he]
  exact List.set_getElem_self hil
 refine CodeOb.draw TryzEOK rfl rfl rfl ?_
 refine LoadOb.mk _ (rd6 (by simp[ofM])) ?_
 refine LoadOb.mk _ (rd5 (by simp[ofM])) ?_
 refine⟨?_,?_⟩
 ·refine PCallOb.mkR [flRow bl l] [⟨b6,.cells #[.map (some gm)] 119 (0,0)⟩,⟨b5,.cells #[.slice (some ⟨bl,0,none⟩) g.n g.n] 74 (0,0)⟩,⟨b1,.cells #[.slice g.a g.n g.c] 24 (0,0)⟩] _ (perm_at2 ..) hspec (fun v I' M' h x hx=>by obtain⟨-,b,-,rfl⟩:=h;exact .tail _ hx) ?_
  rintro v I2 M2 - ⟨rfl,b,rfl,rfl⟩
  refine IdxOb.mk ⟨b,0,none⟩ d.t.root.toNat rfl (by omega) (by omega) ?_
  refine LoadOb.mk _ (flRow_rd (.head _) hrl) ?_
  rw[hfe]
  refine AllocOb.mk fun b7 hb7 hbM7=>?_
  refine StoreOb.to [] [flRow b (nodesF (placesL g.ds) l d.t.ns []),flRow bl l,⟨b6,.cells #[.map (some gm)] 119 (0,0)⟩,⟨b5,.cells #[.slice (some ⟨bl,0,none⟩) g.n g.n] 74 (0,0)⟩,⟨b1,.cells #[.slice g.a g.n g.c] 24 (0,0)⟩] _ _ rfl rfl rfl rfl f.cells rfl ?_
  refine CodeOb.draw TryzEOK rfl rfl rfl ?_
  refine LoadOb.mk f.cells (blk_rd0 (by simp)) ?_
  refine LoadOb.mk _ (rd5 (by simp)) ?_
  refine IdxOb.mk ⟨bl,0,none⟩ i rfl rfl hlt ?_
  refine LoadOb.mk _ (flRow_rd (by simp) hil) ?_
  refine BinOb.neF (p:=f) (q:=l[i]) ?_
  refine CondOb.mk (fun h=>?_) (fun h=>?_)
  ·refine LoadOb.mk _ (rd5 (by simp)) ?_
   refine LoadOb.mk f.cells (blk_rd0 (by simp)) ?_
   refine IdxOb.mk ⟨bl,0,none⟩ i rfl rfl hlt ?_
   refine StoreOb.addTo [(⟨b7,.cells f.cells.toArray 80 (0,0)⟩:Blk),flRow b (nodesF (placesL g.ds) l d.t.ns [])] [⟨b6,.cells #[.map (some gm)] 119 (0,0)⟩,⟨b5,.cells #[.slice (some ⟨bl,0,none⟩) g.n g.n] 74 (0,0)⟩,⟨b1,.cells #[.slice g.a g.n g.c] 24 (0,0)⟩] (l.flatMap Fl.cells) _ rfl (ble_row hil) rfl ((l.set i f).flatMap Fl.cells) (by rw[Nat.zero_add];exact flRow_set l i hil f) ?_
   refine ArithOb.mk _ (next_wr (i:=i) (by omega)) ?_
   refine⟨(i+1,l.set i f),⟨⟨by simp only;omega,hP',hle.trans hle',hgo'⟩,by simp only;omega⟩,.sub (M1:=[flRow bl (l.set i f),⟨b6,.cells #[.map (some gm)] 119 (0,0)⟩,⟨b5,.cells #[.slice (some ⟨bl,0,none⟩) g.n g.n] 74 (0,0)⟩,⟨b1,.cells #[.slice g.a g.n g.c] 24 (0,0)⟩]) (by exact .cons _ (.cons _ (.refl _))) (.perm (perm_at2 ..).symm .refl),.cons .refl (.cons .refl (.cons .refl (.cons (sv_lit (more h).symm) (.cons .refl (.cons .refl (.cons .refl .nil)))))),.nil⟩
  ·have he:l.set i f=l:=same h
   rw[he] at hgo'
   refine ArithOb.mk _ (next_wr (i:=i) (by omega)) ?_
   exact⟨(i+1,l),⟨⟨by simp only;omega,hP,hle,hgo'⟩,by simp only;omega⟩,.sub (M1:=[flRow bl l,⟨b6,.cells #[.map (some gm)] 119 (0,0)⟩,⟨b5,.cells #[.slice (some ⟨bl,0,none⟩) g.n g.n] 74 (0,0)⟩,⟨b1,.cells #[.slice g.a g.n g.c] 24 (0,0)⟩]) (by exact .cons _ (.cons _ (.refl _))) (.perm (perm_at2 ..).symm .refl),.cons .refl (.cons .refl (.cons .refl (.cons .refl (.cons .refl (.cons .refl (.cons .refl .nil)))))),.nil⟩
 ·refine AllocOb.mk fun b7 hb7 hbM7=>?_
  refine PCallOb.mkR [flRow bl l] [(⟨b7,.cells fl0.cells.toArray 80 (0,0)⟩:Blk),⟨b6,.cells #[.map (some gm)] 119 (0,0)⟩,⟨b5,.cells #[.slice (some ⟨bl,0,none⟩) g.n g.n] 74 (0,0)⟩,⟨b1,.cells #[.slice g.a g.n g.c] 24 (0,0)⟩] _ (perm_at3 ..) hspec (fun v I' M' h x hx=>by obtain⟨-,b,-,rfl⟩:=h;exact .tail _ hx) ?_
  rintro v I2 M2 - ⟨rfl,b,rfl,rfl⟩
  refine IdxOb.mk ⟨b,0,none⟩ d.t.root.toNat rfl (by omega) (by omega) ?_
  refine LoadOb.mk _ (flRow_rd (.head _) hrl) ?_
  rw[hfe]
  refine StoreOb.to [flRow b (nodesF (placesL g.ds) l d.t.ns []),flRow bl l] [⟨b6,.cells #[.map (some gm)] 119 (0,0)⟩,⟨b5,.cells #[.slice (some ⟨bl,0,none⟩) g.n g.n] 74 (0,0)⟩,⟨b1,.cells #[.slice g.a g.n g.c] 24 (0,0)⟩] _ _ rfl rfl rfl rfl f.cells rfl ?_
  refine CodeOb.draw TryzEOK rfl rfl rfl ?_
  refine LoadOb.mk f.cells (blk_rd0 (by simp)) ?_
  refine LoadOb.mk _ (rd5 (by simp)) ?_
  refine IdxOb.mk ⟨bl,0,none⟩ i rfl rfl hlt ?_
  refine LoadOb.mk _ (flRow_rd (by simp) hil) ?_
  refine BinOb.neF (p:=f) (q:=l[i]) ?_
  refine CondOb.mk (fun h=>?_) (fun h=>?_)
  ·refine LoadOb.mk _ (rd5 (by simp)) ?_
   refine LoadOb.mk f.cells (blk_rd0 (by simp)) ?_
   refine IdxOb.mk ⟨bl,0,none⟩ i rfl rfl hlt ?_
   refine StoreOb.addTo [flRow b (nodesF (placesL g.ds) l d.t.ns [])] [(⟨b7,.cells f.cells.toArray 80 (0,0)⟩:Blk),⟨b6,.cells #[.map (some gm)] 119 (0,0)⟩,⟨b5,.cells #[.slice (some ⟨bl,0,none⟩) g.n g.n] 74 (0,0)⟩,⟨b1,.cells #[.slice g.a g.n g.c] 24 (0,0)⟩] (l.flatMap Fl.cells) _ rfl (ble_row hil) rfl ((l.set i f).flatMap Fl.cells) (by rw[Nat.zero_add];exact flRow_set l i hil f) ?_
   refine ArithOb.mk _ (next_wr (i:=i) (by omega)) ?_
   refine⟨(i+1,l.set i f),⟨⟨by simp only;omega,hP',hle.trans hle',hgo'⟩,by simp only;omega⟩,.sub (M1:=[flRow bl (l.set i f),⟨b6,.cells #[.map (some gm)] 119 (0,0)⟩,⟨b5,.cells #[.slice (some ⟨bl,0,none⟩) g.n g.n] 74 (0,0)⟩,⟨b1,.cells #[.slice g.a g.n g.c] 24 (0,0)⟩]) (by exact .cons _ (.cons_cons _ (.cons _ (.refl _)))) (.perm (perm_at2 ..).symm .refl),.cons .refl (.cons .refl (.cons .refl (.cons (sv_lit (more h).symm) (.cons .refl (.cons .refl (.cons .refl .nil)))))),.nil⟩
  ·have he:l.set i f=l:=same h
   rw[he] at hgo'
   refine ArithOb.mk _ (next_wr (i:=i) (by omega)) ?_
   exact⟨(i+1,l),⟨⟨by simp only;omega,hP,hle,hgo'⟩,by simp only;omega⟩,.sub (M1:=[flRow bl l,⟨b6,.cells #[.map (some gm)] 119 (0,0)⟩,⟨b5,.cells #[.slice (some ⟨bl,0,none⟩) g.n g.n] 74 (0,0)⟩,⟨b1,.cells #[.slice g.a g.n g.c] 24 (0,0)⟩]) (by exact .cons _ (.cons_cons _ (.cons _ (.refl _)))) (.perm (perm_at2 ..).symm .refl),.cons .refl (.cons .refl (.cons .refl (.cons .refl (.cons .refl (.cons .refl (.cons .refl .nil)))))),.nil⟩
set_option maxHeartbeats 4000000 in
theorem FOf_spec {I:GH} {deb:List Int} (hT:Tabs I deb) {g:Gr} (hg:g.ok I):Spec Tryz.prog 43 [g.val] I [] fun v I' M'=>(∀ b o,I b=some o→I' b=some o) ∧
  ((mayG deb g≠0∧v=.tuple #[.slice none 0 0,.int .i64 (mayG deb g)]∧M'=[])∨(mayG deb g=0∧∃ b l,v=.tuple #[.slice (some ⟨b,0,none⟩) g.n g.n,.int .i64 0]∧M'=[flRow b l]∧IsFlow g.ds l)):=by
 refine spec_of_V [1,5,6] TryzEOK Tryz.func43 rfl rfl rfl ?_
 intro B h0
 have hgn:=hg.n
 have hcap:=hg.rs.cap
 refine AllocOb.mk fun b1 hb1 hbM1=>?_
 refine LoadOb.mk [.slice g.a g.n g.c] ⟨rfl,_,_,_,.inr ⟨_,.head _,rfl,rfl⟩,rfl,rfl⟩ ?_
 refine CallOb.mk [] [⟨b1,.cells #[.slice g.a g.n g.c] 24 (0,0)⟩] _ (.refl _) (May_spec hT hg) ?_
 rintro v I1 M1 - ⟨rfl,hI1,rfl⟩
 refine CondOb.mk (fun h=>?_) (fun h=>?_)
 ·have hm:mayG deb g≠0:=by simpa using h
  exact⟨_,_,.sub (List.nil_sublist _) .refl,hI1,.inl ⟨hm,rfl,rfl⟩⟩
 have hm:mayG deb g=0:=by simpa using h
 have hM:=mayF_of hgn hm
 refine LoadOb.mk _ (blk_rd (b:=b1) (cs:=[.slice g.a g.n g.c]) (k:=0) (n:=1) (T:=24) (.head _) (by simp)) ?_
 refine MakeOb.mk g.n g.n rfl rfl (Nat.le_refl _) (by show 3 * g.n≤_;omega) (by omega) ?_
 refine AllocOb.mk fun bl hbl hbMl=>?_
 have e:rowOf fl0.cells (g.n * 3)=(List.replicate g.ds.length fl0).flatMap Fl.cells:=by rw[hgn];exact rowOf_fl g.n
 refine AllocOb.mk fun b5 hb5 hbM5=>?_
 refine StoreOb.to [] _ _ _ rfl rfl rfl rfl [.slice (some ⟨bl,0,none⟩) g.n g.n] rfl ?_
 refine LoadOb.mk [.slice g.a g.n g.c] ⟨rfl,_,_,_,.inr ⟨_,.tail _ (.tail _ (.head _)),rfl,rfl⟩,rfl,rfl⟩ ?_
 refine CallOb.mk [] _ _ (.refl _) (places_spec (hg.mono hI1)) ?_
 rintro v I2 M2 - ⟨hI2,rfl,gm,rfl,hgm⟩
 refine AllocOb.mk fun b6 hb6 hbM6=>?_
 refine StoreOb.to [] _ _ _ rfl rfl rfl rfl [.map (some gm)] rfl ?_
 refine LoopOb.inv (ι:=List Fl) (fun l=>{ fl:=[(5,.val (ptr b5)),(7,.val (.func (.func 82) #[] #[ptr b1,ptr b6,ptr b5]))],gi:=I2,mi:=ofM b6 gm b5 bl b1 g l }) (PreF g.ds) offs ?_ ?_
 ·refine⟨List.replicate g.ds.length fl0,.start g.ds,?_,.cons .refl (.cons .refl .nil),.nil⟩
  simp only[ofM,flRow]
  rw[←e]
  exact .refl
 intro l hl
 refine CallOb.mk (ofM b6 gm b5 bl b1 g l) [] _ (.refl _) (Of1_spec ((hg.mono hI1).mono hI2) hM hgm hl) ?_
 rintro v I3 M3 - ⟨rfl,rfl,rfl⟩
 obtain⟨r1,r2,-⟩:=roundGo_pre g.ds [] rfl hl
 refine CondOb.mk (fun h=>?_) (fun h=>?_)
 ·exact⟨_,⟨r1,offs_lt r2 (of_decide_eq_true h)⟩,.refl,.cons .refl (.cons .refl .nil),.nil⟩
 ·have hf:roundGo (placesL g.ds) 0 g.ds l=l:=by
   have:=of_decide_eq_false h
   exact Classical.not_not.1 this
  rw[hf]
  refine LoadOb.mk [.slice (some ⟨bl,0,none⟩) g.n g.n] ⟨rfl,_,_,_,.inr ⟨_,.tail _ (.head _),rfl,rfl⟩,rfl,rfl⟩ ?_
  refine⟨I3,[flRow bl l],.sub (.cons _ (.cons _ (.cons_cons _ (List.nil_sublist _)))) .refl,fun b o h=>hI2 _ _ (hI1 _ _ h),.inr ⟨hm,bl,l,rfl,rfl,hl.done hf⟩⟩
end Go.V
