/-
  Part 5 of what the proofs of this seat share: the executor, data in memory, walks.
-/
import Derived.Test.YtellgkgedepkjaaGreatDoorK4
import Derived.Test.YtellgkgedepkjaaGreatDoorK2
import Derived.Test.YtellgkgedepkjaaGreatDoorK3
set_option linter.all false
namespace Go.V
open Go
structure Loc where
 b:Nat
 o:Nat
 c:Nat
abbrev Nm:=Nat→Option Loc
def Nm.le (D D':Nm):Prop:=∀ i a,D i=some a→D' i=some a
mutual
def VR (D:Nm):EV→Value→Prop
 | .b x,u=>u=.bool x
 | .i k n,u=>u=.int k n
 | .s l,u=>u=.string ⟨l.toArray⟩
 | .pn,u=>u=.pointer none
 | .p id off,u=>∃ a,D id=some a∧u=.pointer (some ⟨a.b,a.o+off,none⟩)
 | .g n off,u=>u=.pointer (some ⟨n,off,none⟩)
 | .sn,u=>u=.slice none 0 0
 | .sl id off n c,u=>∃ a,D id=some a∧u=.slice (some ⟨a.b,a.o+off,none⟩) n c
 | .sx id off e n,u=>∃ a,D id=some a∧e+n≤a.c∧u=.slice (some ⟨a.b,a.o+off,none⟩) n (a.c - e)
 | .gs n off k c,u=>u=.slice (some ⟨n,off,none⟩) k c
 | .so,u=>∃ a c,u=.slice (some a) 0 c
 | .mn,u=>u=.map none
 | .m id,u=>∃ a,D id=some a∧u=.map (some a.b)
 | .f g l r,u=>∃ vs ws,VRs D l vs∧VRs D r ws∧u=.func (.func g) vs.toArray ws.toArray
 | .y id,u=>∃ a,D id=some a∧u=.func (.yield a.b) #[] #[]
 | .fn,u=>u=.nilFunc
 | .ni,u=>u=.nilIface
 | .iv t v,u=>∃ x,VR D v x∧u=.iface t x
 | .t l,u=>∃ vs,VRs D l vs∧u=.tuple vs.toArray
 | .a l,u=>∃ vs,VRs D l vs∧u=.agg vs.toArray
def VRs (D:Nm):List EV→List Value→Prop
 | [],us=>us=[]
 | v::l,us=>∃ x xs,VR D v x∧VRs D l xs∧us=x::xs
end
section
variable {D D':Nm}
mutual
theorem VR.mono (h:D.le D'):∀ {v:EV} {u:Value},VR D v u→VR D' v u
 | .b _,_,hv | .i _ _,_,hv | .s _,_,hv | .pn,_,hv | .g _ _,_,hv | .sn,_,hv | .gs ..,_,hv | .so,_,hv | .mn,_,hv | .fn,_,hv | .ni,_,hv=>by simpa only[VR] using hv
 | .p ..,_,hv | .sl ..,_,hv | .m _,_,hv | .y _,_,hv=>by
  simp only[VR] at hv ⊢
  obtain⟨a,h1,h2⟩:=hv
  exact⟨a,h _ _ h1,h2⟩
 | .sx ..,_,hv=>by
  simp only[VR] at hv ⊢
  obtain⟨a,h1,h2⟩:=hv
  exact⟨a,h _ _ h1,h2⟩
 | .f _ l r,_,hv=>by
  simp only[VR] at hv ⊢
  obtain⟨vs,ws,h1,h2,h3⟩:=hv
  exact⟨vs,ws,VRs.mono h h1,VRs.mono h h2,h3⟩
 | .iv _ v,_,hv=>by
  simp only[VR] at hv ⊢
  obtain⟨x,h1,h2⟩:=hv
  exact⟨x,VR.mono h h1,h2⟩
 | .t l,_,hv=>by
  simp only[VR] at hv ⊢
  obtain⟨x,h1,h2⟩:=hv
  exact⟨x,VRs.mono h h1,h2⟩
 | .a l,_,hv=>by
  simp only[VR] at hv ⊢
  obtain⟨x,h1,h2⟩:=hv
  exact⟨x,VRs.mono h h1,h2⟩
theorem VRs.mono (h:D.le D'):∀ {l:List EV} {us:List Value},VRs D l us→VRs D' l us
 | [],_,hv=>by simpa only[VRs] using hv
 | v::l,_,hv=>by
  simp only[VRs] at hv ⊢
  obtain⟨x,xs,h1,h2,h3⟩:=hv
  exact⟨x,xs,VR.mono h h1,VRs.mono h h2,h3⟩
end
theorem VRs.nil:VRs D [] []:=by simp[VRs]
theorem VRs.cons {v:EV} {l:List EV} {x:Value} {xs:List Value} (h:VR D v x) (k:VRs D l xs):VRs D (v::l) (x::xs):=by
 simp only[VRs]
 exact⟨x,xs,h,k,rfl⟩
theorem VRs.uncons {v:EV} {l:List EV} {us:List Value} (h:VRs D (v::l) us):∃ x xs,VR D v x∧VRs D l xs∧us=x::xs:=by
 simpa only[VRs] using h
theorem VRs.unnil {us:List Value} (h:VRs D [] us):us=[]:=by simpa only[VRs] using h
theorem VRs.len:∀ {l:List EV} {us:List Value},VRs D l us→us.length=l.length
 | [],_,h=>by rw[h.unnil];rfl
 | v::l,_,h=>by
  obtain⟨x,xs,h1,h2,rfl⟩:=h.uncons
  simp[VRs.len h2]
theorem VRs.get:∀ {l:List EV} {us:List Value} {i:Nat} {v:EV},VRs D l us→l[i]?=some v→∃ x,us[i]?=some x∧VR D v x
 | [],_,i,v,h,hi=>by simp at hi
 | w::l,_,i,v,h,hi=>by
  obtain⟨x,xs,h1,h2,rfl⟩:=h.uncons
  cases i with
  | zero=>simp at hi;subst hi;exact⟨x,rfl,h1⟩
  | succ i=>simpa using VRs.get h2 (by simpa using hi)
theorem VRs.of_get:∀ {l:List EV} {us:List Value},us.length=l.length→(∀ (i:Nat) (v:EV),l[i]?=some v→∃ x,us[i]?=some x∧VR D v x)→VRs D l us
 | [],us,hl,h=>by
  have:us=[]:=List.eq_nil_of_length_eq_zero (by simpa using hl)
  subst this
  exact .nil
 | w::l,us,hl,h=>by
  cases us with
  | nil=>simp at hl
  | cons x xs=>
   obtain⟨y,hy,h1⟩:=h 0 w rfl
   simp at hy
   subst hy
   exact .cons h1 (VRs.of_get (by simpa using hl) fun i v hi=>by simpa using h (i+1) v (by simpa using hi))
theorem VRs.append:∀ {l:List EV} {us:List Value} {m:List EV} {ws:List Value},VRs D l us→VRs D m ws→VRs D (l++m) (us++ws)
 | [],_,m,ws,h,k=>by rw[h.unnil];exact k
 | w::l,_,m,ws,h,k=>by
  obtain⟨x,xs,h1,h2,rfl⟩:=h.uncons
  exact .cons h1 (VRs.append h2 k)
theorem VRs.take:∀ {l:List EV} {us:List Value} (n:Nat),VRs D l us→VRs D (l.take n) (us.take n)
 | [],_,n,h=>by rw[h.unnil];simpa using VRs.nil
 | w::l,_,n,h=>by
  obtain⟨x,xs,h1,h2,rfl⟩:=h.uncons
  cases n with
  | zero=>simpa using VRs.nil
  | succ n=>simpa using VRs.cons h1 (VRs.take n h2)
theorem VRs.drop:∀ {l:List EV} {us:List Value} (n:Nat),VRs D l us→VRs D (l.drop n) (us.drop n)
 | [],_,n,h=>by rw[h.unnil];simpa using VRs.nil
 | w::l,us,n,h=>by
  cases n with
  | zero=>simpa using h
  | succ n=>
   obtain⟨x,xs,h1,h2,rfl⟩:=h.uncons
   simpa using VRs.drop n h2
theorem VRs.rep {l:List EV} {us:List Value} (h:VRs D l us):∀ n,VRs D (repE n l) ((List.replicate n us).flatten)
 | 0=>by simpa[repE] using VRs.nil
 | n+1=>by
  rw[List.replicate_succ,List.flatten_cons]
  exact h.append (VRs.rep h n)
theorem VR.bool {x:Bool} {u:Value} (h:VR D (.b x) u):u=.bool x:=by simpa only[VR] using h
theorem VR.int {k:IntKind} {n:Int} {u:Value} (h:VR D (.i k n) u):u=.int k n:=by simpa only[VR] using h
theorem VR.str {l:List UInt8} {u:Value} (h:VR D (.s l) u):u=.string ⟨l.toArray⟩:=by simpa only[VR] using h
theorem VR.ptr {id off:Nat} {u:Value} (h:VR D (.p id off) u):∃ a,D id=some a∧u=.pointer (some ⟨a.b,a.o+off,none⟩):=by simpa only[VR] using h
theorem VR.glo {id off:Nat} {u:Value} (h:VR D (.g id off) u):u=.pointer (some ⟨id,off,none⟩):=by simpa only[VR] using h
theorem VR.sli {id off n c:Nat} {u:Value} (h:VR D (.sl id off n c) u):∃ a,D id=some a∧u=.slice (some ⟨a.b,a.o+off,none⟩) n c:=by simpa only[VR] using h
theorem VR.slx {id off e n:Nat} {u:Value} (h:VR D (.sx id off e n) u):∃ a,D id=some a∧e+n≤a.c∧u=.slice (some ⟨a.b,a.o+off,none⟩) n (a.c - e):=by simpa only[VR] using h
theorem VR.sgl {id off n c:Nat} {u:Value} (h:VR D (.gs id off n c) u):u=.slice (some ⟨id,off,none⟩) n c:=by simpa only[VR] using h
theorem VR.slo {u:Value} (h:VR D .so u):∃ a c,u=.slice (some a) 0 c:=by simpa only[VR] using h
theorem VR.sln {u:Value} (h:VR D .sn u):u=.slice none 0 0:=by simpa only[VR] using h
theorem VR.agg {l:List EV} {u:Value} (h:VR D (.a l) u):∃ vs,VRs D l vs∧u=.agg vs.toArray:=by simpa only[VR] using h
theorem VR.tup {l:List EV} {u:Value} (h:VR D (.t l) u):∃ vs,VRs D l vs∧u=.tuple vs.toArray:=by simpa only[VR] using h
theorem VR.mkAgg {l:List EV} {vs:List Value} (h:VRs D l vs):VR D (.a l) (.agg vs.toArray):=by simp only[VR];exact⟨vs,h,rfl⟩
theorem VR.mkTup {l:List EV} {vs:List Value} (h:VRs D l vs):VR D (.t l) (.tuple vs.toArray):=by simp only[VR];exact⟨vs,h,rfl⟩
theorem VR.undef:VR D (.t []) undef:=by simp only[VR];exact⟨[],.nil,rfl⟩
theorem VR.cells {v:EV} {u:Value} (h:VR D v u):VRs D v.cells u.cells.toList:=by
 cases v<;>simp only[EV.cells]
 case a l=>obtain⟨vs,h1,rfl⟩:=h.agg;simpa[Value.cells] using h1
 all_goals
  have key:∀ w:Value,(∀ cs,w≠.agg cs)→w.cells.toList=[w]:=fun w hw=>by cases w<;>first | rfl | exact(hw _ rfl).elim
  rw[key u ?_]
  ·exact .cons h .nil
  ·rintro cs rfl
   simp[VR] at h
theorem VR.one {v:EV} {u:Value} (h:VR D v u) (ho:v.one=true):u.oneCell'=true:=by
 cases v<;>simp only[EV.one,Bool.false_eq_true] at ho<;>simp only[VR] at h
 all_goals first
  |(subst h;rfl)
  |(obtain⟨_,_,rfl⟩:=h;rfl)
  |(obtain⟨_,_,_,rfl⟩:=h;rfl)
  |(obtain⟨_,_,_,_,rfl⟩:=h;rfl)
theorem VRs.one {l:List EV} {us:List Value} (h:VRs D l us) (ho:l.all EV.one=true):allOne us=true:=by
 refine List.all_eq_true.2 fun x hx=>?_
 obtain⟨i,hi⟩:=List.getElem?_of_mem hx
 have hlt:=(List.getElem?_eq_some_iff.1 hi).1
 rw[h.len] at hlt
 obtain⟨y,hy,hv⟩:=h.get (List.getElem?_eq_getElem hlt)
 rw[hi] at hy
 cases hy
 exact hv.one (List.all_eq_true.1 ho _ (List.getElem_mem hlt))
theorem VR.of1 {u:Value} {v:EV} (h:evOf1 u=some v):VR D v u:=by
 unfold evOf1 at h
 split at h<;>cases h<;>simp[VR]
theorem VRs.ofL:∀ {us:List Value} {l:List EV},evOfL us=some l→VRs D l us
 | [],l,h=>by simp only[evOfL] at h;cases h;exact .nil
 | u::us,l,h=>by
  simp only[evOfL] at h
  split at h
  ·rename_i x m h1 h2
   cases h
   exact .cons (.of1 h1) (VRs.ofL h2)
  ·cases h
theorem VR.of {u:Value} {v:EV} (h:evOf u=some v):VR D v u:=by
 unfold evOf at h
 split at h
 ·split at h
  ·rename_i l hl
   cases h
   have:=VRs.ofL (D:=D) hl
   simpa using VR.mkAgg this
  ·cases h
 ·exact .of1 h
theorem packE_ok {agg:Bool} {l:List EV} {v:EV} {vs:List Value} (h:packE agg l=some v) (hl:VRs D l vs):VR D v (pack agg vs):=by
 unfold packE at h
 cases agg with
 | true=>simp only[cond_true] at h;cases h;exact .mkAgg hl
 | false=>
  simp only[cond_false] at h
  split at h
  ·cases h
   obtain⟨x,xs,h1,h2,rfl⟩:=hl.uncons
   rw[h2.unnil]
   exact h1
  ·cases h
theorem spliceE_ok:∀ {cs:List EV} {off:Nat} {vs r:List EV} {us xs:List Value},spliceE cs off vs=some r→VRs D cs us→VRs D vs xs→VRs D r (splice us off xs)∧off+xs.length≤us.length
 | cs,0,[],r,us,xs,h,hc,hv=>by
  simp[spliceE] at h
  subst h
  rw[hv.unnil]
  exact⟨by simpa[splice] using hc,by simp⟩
 | [],0,_::_,r,us,xs,h,hc,hv=>by simp[spliceE] at h
 | [],_+1,_,r,us,xs,h,hc,hv=>by simp[spliceE] at h
 | c::cs,0,v::vs,r,us,xs,h,hc,hv=>by
  simp only[spliceE] at h
  split at h
  ·rename_i q hq
   cases h
   obtain⟨x,us,h1,h2,rfl⟩:=hc.uncons
   obtain⟨y,xs,h3,h4,rfl⟩:=hv.uncons
   obtain⟨h5,h6⟩:=spliceE_ok hq h2 h4
   refine⟨?_,by simp at h6 ⊢;omega⟩
   have e:splice (x::us) 0 (y::xs)=y::splice us 0 xs:=by simp[splice]
   rw[e]
   exact .cons h3 h5
  ·cases h
 | c::cs,n+1,vs,r,us,xs,h,hc,hv=>by
  simp only[spliceE] at h
  split at h
  ·rename_i q hq
   cases h
   obtain⟨x,us,h1,h2,rfl⟩:=hc.uncons
   obtain⟨h5,h6⟩:=spliceE_ok hq h2 hv
   refine⟨?_,by simp;omega⟩
   have e:splice (x::us) (n+1) xs=x::splice us n xs:=by
    simp only[splice,List.take_succ_cons,List.cons_append,List.cons.injEq,true_and]
    rw[show n+1+xs.length=(n+xs.length)+1 by omega,List.drop_succ_cons]
   rw[e]
   exact .cons h1 h5
  ·cases h
inductive VRp (D:Nm):List (Nat×EV)→List (Nat×Value)→Prop
 | nil:VRp D [] []
 | cons {i v u l us} (h:VR D v u) (k:VRp D l us):VRp D ((i,v)::l) ((i,u)::us)
theorem fillE_ok {place:Nat→Option (Nat×Nat)}:∀ {vs:List (Nat×EV)} {cells r:List EV} {us:List Value} {xs:List (Nat×Value)},fillE place cells vs=some r→VRs D cells us→VRp D vs xs →
  ∃ rs,fillL place us xs=some rs∧VRs D r rs
 | [],cells,r,us,_,h,hc,.nil=>by
  simp only[fillE] at h
  cases h
  exact⟨us,rfl,hc⟩
 |(i,v)::vs,cells,r,us,_,h,hc,.cons (u:=u) (us:=xs) hv hvs=>by
  simp only[fillE] at h
  split at h
  ·cases h
  ·rename_i off size hp
   cases hb:Nat.beq v.cells.length size with
   | false=>rw[hb] at h;cases h
   | true=>
    rw[hb] at h
    simp only[cond_true] at h
    split at h
    ·rename_i cs hcs
     obtain⟨h1,h2⟩:=spliceE_ok hcs hc hv.cells
     obtain⟨rs,h3,h4⟩:=fillE_ok h h1 hvs
     refine⟨rs,?_,h4⟩
     have hl:u.cells.size=v.cells.length:=by simpa using hv.cells.len
     simp only[fillL,hp,hl,hb]
     rw[show Nat.ble (off+size) us.length=true by
      rw[nat_ble,decide_eq_true_eq]
      have:=Nat.eq_of_beq_eq_true hb
      simp at h2
      omega]
     exact h3
    ·cases h
end
def SvE (D:Nm) (x:SV) (v:EV):Prop:=(∃ u,x=.val u∧VR D v u)∨∃ q,v=.b q∧x=.lit q
theorem SvE.val {D:Nm} {u:Value} {v:EV} (h:VR D v u):SvE D (.val u) v:=.inl ⟨u,rfl,h⟩
theorem SvE.mono {D D':Nm} (hD:D.le D') {x:SV} {v:EV} (h:SvE D x v):SvE D' x v:=by
 rcases h with ⟨u,rfl,h⟩ | ⟨q,rfl,rfl⟩
 ·exact .val (h.mono hD)
 ·exact .inr ⟨q,rfl,rfl⟩
def FR (D:Nm) (F:Fr) (fr:Tri EV):Prop:=∀ t v,fr.get t=some v→SvE D (F t) v
def OR (D:Nm) (F:Fr) (fr:Tri EV) (xs:List Operand):Prop:=∀ x∈xs,∀ v,rdO fr x=some v→SvE D (evr F x) v
theorem FR.op {D:Nm} {F:Fr} {fr:Tri EV} (h:FR D F fr) (xs:List Operand):OR D F fr xs:=fun x _ v hv=>by
 cases x with
 | tmp t=>exact h t v hv
 | const c=>
  have hv':evOf c=some v:=hv
  cases c with
  | bool q=>
   have:v=.b q:=by simp[evOf,evOf1] at hv';exact hv'.symm
   exact .inr ⟨q,this,rfl⟩
  | _=>exact .val (.of hv')
 | global g=>
  have:v=.g g 0:=by simpa[rdO] using hv.symm
  subst this
  exact .val (by simp[VR])
 | func f=>
  have:v=.f f [] []:=by simpa[rdO] using hv.symm
  subst this
  exact .val (by simp only[VR];exact⟨[],[],.nil,.nil,rfl⟩)
section
variable {D:Nm} {F:Fr} {fr:Tri EV} {xs:List Operand}
theorem SvE.evq {x:Operand} {v:EV} (h:SvE D (evr F x) v):∃ u,ev F x=.val u∧VR D v u:=by
 unfold ev Go.V.evq
 rcases h with ⟨u,h,hv⟩ | ⟨q,rfl,h⟩
 ·rw[h];exact⟨u,rfl,hv⟩
 ·rw[h];exact⟨.bool q,rfl,by simp[VR]⟩
theorem SvE.nb {x:SV} {v:EV} (h:SvE D x v) (hv:∀ q,v≠.b q):∃ u,x=.val u∧VR D v u:=by
 rcases h with h | ⟨q,h,_⟩
 ·exact h
 ·exact(hv q h).elim
theorem OR.ev (h:OR D F fr xs) {x:Operand} (hx:x∈xs) {v:EV} (hv:rdO fr x=some v):∃ u,ev F x=.val u∧VR D v u:=(h x hx v hv).evq
theorem OR.evs (h:OR D F fr xs):∀ {l:List Operand} {vs:List EV},(∀ x∈l,x∈xs)→rdL fr l=some vs→∃ us,evs F l=some us∧VRs D vs us
 | [],vs,_,hv=>by simp only[rdL] at hv;cases hv;exact⟨[],rfl,.nil⟩
 | x::l,vs,hl,hv=>by
  simp only[rdL] at hv
  split at hv
  ·rename_i v vs h1 h2
   cases hv
   obtain⟨u,e1,g1⟩:=h.ev (hl x (by simp)) h1
   obtain⟨us,e2,g2⟩:=OR.evs h (fun y hy=>hl y (by simp[hy])) h2
   refine⟨u::us,?_,.cons g1 g2⟩
   show evqs (evr F) (x::l)=_
   rw[evqs]
   have e1':evq (evr F) x=.val u:=e1
   have e2':evqs (evr F) l=some us:=e2
   rw[e1',e2']
  ·cases hv
theorem OR.parts (h:OR D F fr xs):∀ {l:List (Nat×Operand)} {vs:List (Nat×EV)},(∀ x∈l.map (·.2),x∈xs)→rdP fr l=some vs→∃ us,evParts F l=some us∧VRp D vs us
 | [],vs,_,hv=>by simp only[rdP] at hv;cases hv;exact⟨[],rfl,.nil⟩
 |(i,x)::l,vs,hl,hv=>by
  simp only[rdP] at hv
  split at hv
  ·rename_i v vs h1 h2
   cases hv
   obtain⟨u,e1,g1⟩:=h.ev (hl x (by simp)) h1
   obtain⟨us,e2,g2⟩:=OR.parts h (fun y hy=>hl y (by simp only[List.map_cons,List.mem_cons];exact .inr hy)) h2
   refine⟨(i,u)::us,?_,.cons g1 g2⟩
   show evqParts (evr F) ((i,x)::l)=_
   rw[evqParts]
   have e1':evq (evr F) x=.val u:=e1
   have e2':evqParts (evr F) l=some us:=e2
   rw[e1',e2']
  ·cases hv
end
inductive MpR (D:Nm):List (EV×EV)→List MapEntry→Prop
 | nil:MpR D [] []
 | cons {k v es e l} (hk:VR D k e.key) (hv:VR D v e.val) (t:MpR D es l):MpR D ((k,v)::es) (e::l)
def okC (n:Nat):Code→Bool
 | .seq x y=>okC n x && okC n y
 | .block _ c=>okC n c
 | .cond _ x y=>okC n x && okC n y
 | .loop c=>okC n c
 | .scope c=>okC n c
 | .region _ ops _=>opsOk n ops
 | .rangeFunc _ ps asg body=>okC n asg && (okC n body && ps.toList.all fun t=>Nat.blt t n)
 | _=>true
structure LpR (D:Nm) (busy:Bool) (n:Nat) (fr:Tri EV) (ps:List Nat) (asg body:Code) (L:Loop):Prop where
 st:L.state=bif busy then .busy else .ready
 pd:L.pending=none
 sz:L.tmps.size=n
 fr:∀ t v,fr.get t=some v→VR D v (L.tmps.getD t undef)
 ps:L.params.toList=ps
 asg:L.assign=asg
 body:L.body=body
 oa:okC n L.assign=true
 ob:okC n L.body=true
 op:∀ t∈L.params.toList,t < n
inductive EntR (D:Nm) (E:Env) (M:List Blk) (a:Loc):Ent→Prop
 | cells {cs:Tri EV} {T lim:Nat} (arr:Array Value) (ho:a.o=0) (hM:(⟨a.b,.cells arr T (0,0)⟩:Blk)∈M) (hl:a.o+lim≤arr.size)
   (hc:∀ i v,i < lim→cs.get i=some v→∃ x,arr[a.o+i]?=some x∧VR D v x) (hk:∀ i,E T=some i→arr.size=a.o+a.c * i.size) (hm:a.c≤maxLen):EntR D E M a (.cells cs T lim)
 | map {es:List (EV×EV)} (l:List MapEntry) (clock:Nat) (hM:(⟨a.b,.map l.toArray clock⟩:Blk)∈M) (he:MpR D es l):EntR D E M a (.map es)
 | loop {busy n fr ps asg body} (L:Loop) (hM:(⟨a.b,.loop L⟩:Blk)∈M) (hL:LpR D busy n fr ps asg body L):EntR D E M a (.loop busy n fr ps asg body)
 | done {c n fr ps asg body} (L:Loop) (hM:(⟨a.b,.loop L⟩:Blk)∈M) (hs:L.state=.done) (hp:L.pending=some c):EntR D E M a (.done c n fr ps asg body)
theorem MpR.mono {D D':Nm} (hD:D.le D') {es:List (EV×EV)} {l:List MapEntry} (h:MpR D es l):MpR D' es l:=by
 induction h with
 | nil=>exact .nil
 | cons hk hv t ih=>exact .cons (hk.mono hD) (hv.mono hD) ih
theorem EntR.mono {D D':Nm} {E:Env} {M M':List Blk} {a:Loc} (hD:D.le D') (hM:∀ x∈M,x.num=a.b→x∈M') {e:Ent} (h:EntR D E M a e):EntR D' E M' a e:=by
 cases h with
 | cells arr h0 h1 h2 h3 h4 h5=>exact .cells arr h0 (hM _ h1 rfl) h2 (fun i v hi hg=>by obtain⟨x,g1,g2⟩:=h3 i v hi hg;exact⟨x,g1,g2.mono hD⟩) h4 h5
 | map l clock h1 h2=>exact .map l clock (hM _ h1 rfl) (h2.mono hD)
 | loop L h1 h2=>exact .loop L (hM _ h1 rfl) { h2 with fr:=fun t v ht=>(h2.fr t v ht).mono hD }
 | done L h1 h2 h3=>exact .done L (hM _ h1 rfl) h2 h3
def GI (G:GT) (I:GH):Prop:=∀ g cs,G g=some cs→∃ (arr:Array Value) (T:Nat) (f:Nat×Nat),I g=some (.cells arr T f)∧∀ i v,cs.get i=some v→∃ x,arr[i]?=some x∧∀ D,VR D v x
structure MS (Y:RK) (D:Nm) (m:Me) (I:GH) (M:List Blk):Prop where
 ent:∀ id e a,m.t.get id=some e→D id=some a→EntR D Y.E M a e
 inj:∀ id id' e e' a a',m.t.get id=some e→m.t.get id'=some e'→D id=some a→D id'=some a'→a.b=a'.b→id=id'
 dom:∀ id a,D id=some a→id < m.n
 glo:GI Y.G I
section
variable {Y:RK} {D:Nm} {m:Me} {I:GH} {M:List Blk} {R:Type}
theorem loadE_ok (h:MS Y D m I M) {x:EV} {u:Value} (hx:VR D x u) {n:Nat} {K:List EV→Option R} {r:R} (hr:loadE Y.G m.t x n K=some r) :
  ∃ ad l vs,u=.pointer (some ad)∧Rd I M ad n vs∧VRs D l vs∧K l=some r:=by
 have key:∀ (arr:Array Value) (base off:Nat) (l:List EV),l.length=n→base+off+n≤arr.size→(∀ i,i < n→∀ v,l[i]?=some v→∃ x,arr[base+off+i]?=some x∧VR D v x) →
   ((arr.toList.drop (base+off)).take n).length=n∧VRs D l ((arr.toList.drop (base+off)).take n):=by
  intro arr base off l hl hsz hg
  have hlen:((arr.toList.drop (base+off)).take n).length=n:=by simp;omega
  refine⟨hlen,VRs.of_get (by rw[hlen,hl]) fun i v hi=>?_⟩
  have hin:i < n:=by rw[←hl];exact(List.getElem?_eq_some_iff.1 hi).1
  obtain⟨x,h1,h2⟩:=hg i hin v hi
  refine⟨x,?_,h2⟩
  rw[List.getElem?_take,if_pos hin,List.getElem?_drop]
  simpa using h1
 unfold loadE at hr
 split at hr
 ·rename_i id off
  split at hr
  ·rename_i cs T lim hg
   cases hb:Nat.ble (Nat.add off n) lim with
   | false=>rw[hb] at hr;cases hr
   | true=>
    rw[hb] at hr
    have hb':off+n≤lim:=Nat.le_of_ble_eq_true hb
    simp only[cond_true] at hr
    obtain⟨l,h1,h2,h3⟩:=Tri.many_ok cs n off K r hr
    obtain⟨a,ha,hu⟩:=hx.ptr
    have he:=h.ent _ _ _ hg ha
    obtain⟨arr,-,hM,hl,hc,-,-⟩:=he
    obtain⟨k1,k2⟩:=key arr a.o off l h1 (by omega) fun i hi v hv=>by
     have:=hc (off+i) v (by omega) (by rw[h2 i hi,hv])
     rw[←Nat.add_assoc] at this
     exact this
    exact⟨_,l,_,hu,⟨rfl,arr,T,(0,0),.inr ⟨_,hM,rfl,rfl⟩,rfl,k1⟩,k2,h3⟩
  ·cases hr
 ·rename_i g off
  split at hr
  ·rename_i cs hg
   obtain⟨l,h1,h2,h3⟩:=Tri.many_ok cs n off K r hr
   obtain⟨arr,T,f,hI,hc⟩:=h.glo _ _ hg
   have hu:=hx.glo
   have hall:∀ i,i < n→∀ v,l[i]?=some v→∃ x,arr[0+off+i]?=some x∧VR D v x:=fun i hi v hv=>by
    obtain⟨x,g1,g2⟩:=hc (off+i) v (by rw[h2 i hi,hv])
    exact⟨x,by simpa using g1,g2 D⟩
   by_cases hn:n=0
   ·subst hn
    have:l=[]:=List.eq_nil_of_length_eq_zero h1
    subst this
    exact⟨_,[],[],hu,⟨rfl,arr,T,f,.inl hI,by simp,rfl⟩,.nil,h3⟩
   ·have hsz:0+off+n≤arr.size:=by
     have hlt:n - 1 < l.length:=by omega
     obtain⟨x,g1,_⟩:=hall (n - 1) (by omega) l[n - 1] (List.getElem?_eq_getElem hlt)
     have:=(Array.getElem?_eq_some_iff.1 g1).1
     omega
    obtain⟨k1,k2⟩:=key arr 0 off l h1 hsz hall
    simp only[Nat.zero_add] at k1 k2
    exact⟨_,l,_,hu,⟨rfl,arr,T,f,.inl hI,rfl,k1⟩,k2,h3⟩
  ·cases hr
 ·cases hr
end
theorem eqb_eq' {k k':IntKind} (h:IntKind.eqb k k'=true):k=k':=IntKind.eqb_eq h
theorem str_eq (l m:List UInt8):decide ((⟨l.toArray⟩:ByteArray)=⟨m.toArray⟩)=decide (l=m):=by
 simp only[decide_eq_decide]
 constructor
 ·intro h;simpa using h
 ·rintro rfl;rfl
theorem bytes_beqK (a b:ByteArray):(a == b)=decide (a=b):=by
 rw[Bool.eq_iff_iff]
 simp only[decide_eq_true_eq]
 constructor
 ·intro h
  first | exact eq_of_beq h | exact ByteArray.ext (eq_of_beq (a:=a.data) (b:=b.data) h)
 ·rintro rfl
  first | exact beq_self_eq_true _ | exact beq_self_eq_true a.data
section
variable {P:Program} {E:Env} {D:Nm}
theorem partE_ok (hE:EOK P E) {t o:Nat} {l:List EV} {x:EV} (h:partE E t o l=some x) {us:List Value} (hl:VRs D l us):∃ u,VR D x u∧∀ w,(part t us.toArray o).run P w=.ok u w:=by
 unfold partE at h
 obtain⟨i,h1,h⟩:=opn_eq h
 obtain⟨h0,h⟩:=cnd_none h
 have h0':i.size≠0:=fun e=>by rw[e] at h0;cases h0
 obtain⟨r,h2,h⟩:=opn_eq h
 obtain⟨e1,e2⟩:=takeE_eq h2
 rw[dropE_eq] at e1
 have hlen:=hl.len
 subst e1
 refine⟨_,packE_ok h ((hl.drop o).take _),fun w=>?_⟩
 have:=part_run (hE _ _ h1) (cs:=us.toArray) (off:=o) (by
  rw[List.length_take,List.length_drop] at e2
  simp
  omega) w
 simpa using this
theorem eqPl_loop {F:Nat→EV→EV→Option Bool} {l m:List EV} {α β:Type} {pl:α→Nat×Nat} {g:α→β→Sem (ForInStep β)} {s0 s1:β} {w:World}:∀ (L:List α) {b:Bool},eqPl F E l m (L.map pl)=some b →
  (∀ a∈L,∀ x y c,partE E (pl a).1 (pl a).2 l=some x→partE E (pl a).1 (pl a).2 m=some y→F (pl a).1 x y=some c→(g a s0).run P w=.ok (if c then .yield s0 else .done s1) w) →
  (forIn L s0 g).run P w=.ok (if b then s0 else s1) w
 | [],b,h,_=>by
  cases h
  simp[Sem.run_pure]
 | a::L,b,h,hg=>by
  simp only[List.map_cons] at h
  unfold eqPl at h
  obtain⟨x,h1,h⟩:=opn_eq h
  obtain⟨y,h2,h⟩:=opn_eq h
  obtain⟨c,h3,h⟩:=opn_eq h
  simp only[List.forIn_cons,Sem.run_bind]
  rw[hg a (by simp) x y c h1 h2 h3]
  rw[cnd_eq] at h
  cases c with
  | true=>
   simp only[if_true,Result.andThen_ok]
   exact eqPl_loop L h fun a' ha=>hg a' (by simp[ha])
  | false=>
   cases h
   simp[Result.andThen_ok,Sem.run_pure]
theorem eqT_ok (hE:EOK P E):∀ (d:Nat) {t:Nat} {x y:EV} {b:Bool} {u v:Value},eqT P E d t x y=some b→VR D x u→VR D y v→∀ n,d≤n→∀ w,(Op.equalIn n t u v).run P w=.ok b w
 | 0,t,x,y,b,u,v,h,hx,hy,n,hn,w=>by cases h
 | d+1,t,x,y,b,u,v,h,hx,hy,0,hn,w=>by omega
 | d+1,t,x,y,b,u,v,h,hx,hy,n+1,hn,w=>by
  unfold eqT at h
  obtain⟨i,hi,h⟩:=opn_eq h
  obtain⟨de,hud,hsh⟩:=(hE _ _ hi).und
  rw[Op.equalIn]
  simp only[Sem.run_bind,run_underlying hud,Result.andThen_ok]
  split at h
  ·rename_i a a' hs _
   cases h
   have g1:de=.bool:=by cases de<;>simp_all[shOf]
   subst g1
   rw[hx.bool,hy.bool]
   rfl
  ·rename_i k' k a k2 a' hs _
   obtain⟨e1,h⟩:=cnd_some h
   cases h
   have g1:de=.int k':=by cases de<;>simp_all[shOf]
   subst g1
   rw[hx.int,hy.int]
   rw[eqb_eq' e1]
   have hb:(a == a')=eqI a a':=by
    rw[eqI_eq]
    by_cases e:a=a'
    ·subst e;simp
    ·simp[e]
   simp[hb]
  ·rename_i a a' hs _
   cases h
   have g1:de=.string:=by cases de<;>simp_all[shOf]
   subst g1
   rw[hx.str,hy.str]
   show Result.ok _ _=_
   rw[eqS_eq,←str_eq]
   congr 1
   exact bytes_beqK _ _
  ·rename_i fs l m hs _
   obtain⟨e1,h⟩:=cnd_some h
   unfold plainT at e1
   rw[hud] at e1
   cases de with
   | struct fields=>
    simp only[Bool.and_eq_true,Bool.not_eq_true',List.all_eq_true,decide_eq_true_eq] at e1
    obtain⟨e1,e2⟩:=e1
    rw[hs] at hsh
    simp only[shOf,Sh.struct.injEq] at hsh
    subst hsh
    obtain⟨us,h1,rfl⟩:=hx.agg
    obtain⟨ws,h2,rfl⟩:=hy.agg
    simp only[Sem.run_bind,run_program,Result.andThen_ok,e1,Bool.false_eq_true,if_false]
    rw[←Array.forIn_toList]
    rw[eqPl_loop (P:=P) (s1:=⟨some false,⟨⟩⟩) fields.toList h (fun f hf x y c hp1 hp2 hc=>by
     obtain⟨p,k1,k2⟩:=partE_ok hE hp1 h1
     obtain⟨q,k3,k4⟩:=partE_ok hE hp2 h2
     have hq:=eqT_ok hE d hc k1 k3 n (by omega) w
     simp only[e2 f hf,if_true,ne_eq,not_false_eq_true,Sem.run_bind,k2,k4,Result.andThen_ok,hq]
     cases c<;>simp[Sem.run_pure])]
    cases b<;>simp[Result.andThen_ok,Sem.run_pure]
   | _=>cases e1
  ·rename_i len e l m hs _
   obtain⟨ei,hei,h⟩:=opn_eq h
   have g1:de=.array len e:=by cases de<;>simp_all[shOf]
   subst g1
   obtain⟨us,h1,rfl⟩:=hx.agg
   obtain⟨ws,h2,rfl⟩:=hy.agg
   simp only[Sem.run_bind,(hE _ _ hei).run_sizeOf,Result.andThen_ok,Std.Legacy.Range.forIn_eq_forIn_range']
   have hr:List.range' 0 ([:len]:Std.Legacy.Range).size=List.range len:=by simp[Std.Legacy.Range.size,List.range_eq_range']
   rw[hr]
   rw[eqPl_loop (P:=P) (s1:=⟨some false,⟨⟩⟩) (List.range len) h (fun f hf x y c hp1 hp2 hc=>by
    obtain⟨p,k1,k2⟩:=partE_ok hE hp1 h1
    obtain⟨q,k3,k4⟩:=partE_ok hE hp2 h2
    have hq:=eqT_ok hE d hc k1 k3 n (by omega) w
    simp only[Sem.run_bind,k2,k4,Result.andThen_ok,hq]
    cases c<;>simp[Sem.run_pure])]
   cases b<;>simp[Result.andThen_ok,Sem.run_pure]
  ·cases h
end
section
variable {X:Ctx} {D:Nm}
theorem b_agg_ok (hE:EOK X.P X.E) {op:BinOp} {t:Nat} {l m:List EV} {v:EV} {x y:Operand} {us ws:List Value} {K:Value→Prop} {O:Prop} (h:b_agg X.P X.E op t l m=some v) (hl:VRs D l us) (hm:VRs D m ws) (hk:∀ u,VR D v u→K u) :
  BinOb X.P op t x y (.val (.agg us.toArray)) (.val (.agg ws.toArray)) K O:=by
 unfold b_agg at h
 obtain⟨hg,h⟩:=cnd_none h
 obtain⟨b,h1,h⟩:=opn_eq h
 have hq:=eqT_ok (D:=D) hE 8 h1 (u:=.agg us.toArray) (v:=.agg ws.toArray) (by simp only[VR];exact⟨us,hl,rfl⟩) (by simp only[VR];exact⟨ws,hm,rfl⟩) Op.maxDepth (by decide)
 split at h
 ·cases h
  refine .mk _ _ _ rfl rfl (fun w=>?_) (hk _ (by simp only[VR];rfl))
  simp only[Sem.run_bind,run_eqGuard_agg (hm:=hg),Result.andThen_ok,binOp,Op.equal,hq,Sem.run_pure]
 ·cases h
  refine .mk _ _ _ rfl rfl (fun w=>?_) (hk _ (by simp only[VR];rfl))
  simp only[Sem.run_bind,run_eqGuard_agg (hm:=hg),Result.andThen_ok,binOp,Op.equal,hq,Sem.run_pure]
 ·cases h
end
open Go Go.Proofs
def worV (x y:Int):Int:=IntKind.u64.wrap ((BitVec.ofInt 64 x ||| BitVec.ofInt 64 y).toNat:Int)
theorem worV_bv (x y:BitVec 64):worV x.toNat y.toNat=((x ||| y).toNat:Int):=by
 unfold worV
 rw[bv_ofInt,bv_ofInt,wrap_bv]
def wandV (x y:Int):Int:=IntKind.u64.wrap ((BitVec.ofInt 64 x &&& BitVec.ofInt 64 y).toNat:Int)
theorem wandV_bv (x y:BitVec 64):wandV x.toNat y.toNat=((x &&& y).toNat:Int):=by
 unfold wandV
 rw[bv_ofInt,bv_ofInt,wrap_bv]
theorem eqI_bv (x y:BitVec 64):eqI (x.toNat:Int) (y.toNat:Int)=decide (x=y):=by
 rw[eqI_eq,←bv_nat_inj,Bool.eq_iff_iff]
 simp
theorem opn_s {α R:Type} (v:α) (x:R) (f:α→R):opn (some v) x f=f v:=rfl
theorem splice_mid' (pre mid post:List Value) (k:Nat) (vs:List Value) (h:k+vs.length≤mid.length):splice (pre++(mid++post)) (pre.length+k) vs=pre++(splice mid k vs++post):=by
 unfold splice
 have h1:(pre++(mid++post)).take (pre.length+k)=pre++mid.take k:=by
  rw[List.take_append,Nat.add_sub_cancel_left,List.take_of_length_le (by omega),List.take_append_of_le_length (by omega)]
 have h2:(pre++(mid++post)).drop (pre.length+k+vs.length)=mid.drop (k+vs.length)++post:=by
  rw[Nat.add_assoc,List.drop_length_add_append,List.drop_append_of_le_length h]
 rw[h1,h2]
 simp
theorem flat_put {α:Type} (f:α→List Value) (size:Nat) (hf:∀ x,(f x).length=size) (l:List α) (i:Nat) (hi:i < l.length) (k:Nat) (vs:List Value) (hk:k+vs.length≤size) (x':α) (hx:splice (f l[i]) k vs=f x') :
  splice (l.flatMap f) (i * size+k) vs=(l.set i x').flatMap f:=by
 have e:l=l.take i++l[i]::l.drop (i+1):=by rw[←List.drop_eq_getElem_cons hi,List.take_append_drop]
 have e1:l.flatMap f=(l.take i).flatMap f++(f l[i]++(l.drop (i+1)).flatMap f):=by
  calc l.flatMap f=(l.take i++l[i]::l.drop (i+1)).flatMap f:=congrArg _ e
   _=_:=by rw[List.flatMap_append,List.flatMap_cons]
 have e2:((l.take i).flatMap f).length=i * size:=by rw[flat_len f size hf,List.length_take_of_le (by omega)]
 rw[e1,←e2,splice_mid' _ _ _ _ _ (by rw[hf];exact hk),List.set_eq_take_append_cons_drop,if_pos hi,List.flatMap_append,List.flatMap_cons,hx]
theorem take_splice' {cur:List Value} {j m:Nat} {vs:List Value} (h:j+vs.length≤m) (hm:m≤cur.length):(splice cur j vs).take m=splice (cur.take m) j vs:=by
 unfold splice
 have h1:(cur.take m).take j=cur.take j:=by rw[List.take_take,Nat.min_eq_left (by omega)]
 have h2:(cur.take m).drop (j+vs.length)=(cur.drop (j+vs.length)).take (m - (j+vs.length)):=by rw[List.drop_take]
 have h3:(cur.take j).length=j:=by rw[List.length_take];omega
 rw[h1,h2,List.append_assoc,List.append_assoc,List.take_append,h3,List.take_of_length_le (by omega),List.take_append,List.take_of_length_le (by omega:vs.length≤m - j)]
 congr 3
 omega
theorem OS.put {α:Type} (f:α→List Value) (size:Nat) (hf:∀ x,(f x).length=size) {M:List Blk} {os:OS} {l:List α} {e:Nat} (h:os.ok size (l.flatMap f)) {i:Nat} (hi:i < l.length) (k:Nat) {vs:List Value} (hk:k+vs.length≤size) (h1:allOne vs=true) (x':α) (hx:splice (f l[i]) k vs=f x')
  (pre post:List Blk) (hM:M=pre++(os.blk e++post)) {g off:Nat} (hg:os.a=some g) (hoff:off=i * size+k) {K:List Blk→Prop}
  (kk:∀ (os':OS),os'.val=os.val→os'.a=os.a→os'.n=os.n→os'.ok size ((l.set i x').flatMap f)→K (pre++(os'.blk e++post))):StoreOb M ⟨g,off,none⟩ vs K:=by
 have hl0:=h.len
 rw[flat_len f size hf] at hl0
 obtain⟨a,n,c,cur⟩:=os
 have hl:l.length * size=n * size:=hl0
 simp only at hg
 subst hg
 obtain⟨q1,q2,q3,q4⟩:=h.cap g rfl
 simp only at q1 q2 q3 q4
 have hb:n * size≤c * size:=Nat.mul_le_mul_right _ q2
 have hi2:i * size+size≤l.length * size:=by
  have:=Nat.mul_le_mul_right size (show i+1≤l.length from hi)
  rwa [Nat.add_mul,Nat.one_mul] at this
 subst hM
 subst hoff
 refine StoreOb.mk pre post cur.toArray e rfl rfl ?_ h1 ?_
 ·simp only[List.size_toArray]
  omega
 ·have:=kk ⟨some g,n,c,splice cur (i * size+k) vs⟩ rfl rfl rfl ⟨?_,(fun h=>by cases h),fun g' hg=>?_⟩
  ·simpa[OS.blk] using this
  ·rw[flat_len f size hf,List.length_set]
   exact hl
  ·cases hg
   refine⟨?_,q2,q3,?_⟩
   ·simp only[splice,List.length_append,List.length_take,List.length_drop]
    omega
   ·simp only
    rw[take_splice' (by omega) (by omega),q4,flat_put f size hf l i hi k vs hk x' hx]
theorem splice_one (l:List Value) (k:Nat) (v:Value) (h:k < l.length):splice l k [v]=l.set k v:=by
 rw[List.set_eq_take_append_cons_drop,if_pos h]
 simp[splice]
theorem OS.putI {α:Type} (f:α→List Value) (size:Nat) (hf:∀ x,(f x).length=size) {M:List Blk} {os:OS} {l:List α} {e:Nat} (h:os.ok size (l.flatMap f)) {i:Nat} (hi:i < l.length) (x':α) (h1:allOne (f x')=true)
  (pre post:List Blk) (hM:M=pre++(os.blk e++post)) {ad:Addr} (had:(os.a.map fun g=>(⟨g,0,none⟩:Addr))=some ad) {K:List Blk→Prop}
  (kk:∀ (os':OS),os'.val=os.val→os'.a=os.a→os'.n=os.n→os'.ok size ((l.set i x').flatMap f)→K (pre++(os'.blk e++post))):StoreOb M (ad.add (i * size)) (f x') K:=by
 obtain⟨g,hg,rfl⟩:∃ g,os.a=some g∧ad=⟨g,0,none⟩:=by
  cases ha:os.a with
  | none=>rw[ha] at had;cases had
  | some g=>rw[ha] at had;cases had;exact⟨g,rfl,rfl⟩
 rw[addr_add (⟨g,0,none⟩:Addr) rfl]
 refine OS.put f size hf h hi 0 (vs:=f x') (by rw[hf];omega) h1 x' ?_ pre post hM hg (by simp) kk
 unfold splice
 simp[hf]
theorem OS.putP {α:Type} (f:α→List Value) (size:Nat) (hf:∀ x,(f x).length=size) {M:List Blk} {os:OS} {l:List α} {e:Nat} (h:os.ok size (l.flatMap f)) {i:Nat} (hi:i < l.length) (k:Nat) {vs:List Value} (hk:k+vs.length≤size) (h1:allOne vs=true) (x':α) (hx:splice (f l[i]) k vs=f x')
  (pre post:List Blk) (hM:M=pre++(os.blk e++post)) {ad:Addr} (had:(os.a.map fun g=>(⟨g,0,none⟩:Addr))=some ad) {K:List Blk→Prop}
  (kk:∀ (os':OS),os'.val=os.val→os'.a=os.a→os'.n=os.n→os'.ok size ((l.set i x').flatMap f)→K (pre++(os'.blk e++post))):StoreOb M ((ad.add (i * size)).add k) vs K:=by
 obtain⟨g,hg,rfl⟩:∃ g,os.a=some g∧ad=⟨g,0,none⟩:=by
  cases ha:os.a with
  | none=>rw[ha] at had;cases had
  | some g=>rw[ha] at had;cases had;exact⟨g,rfl,rfl⟩
 rw[addr_add (⟨g,0,none⟩:Addr) rfl,addr_add _ rfl]
 exact OS.put f size hf h hi k hk h1 x' hx pre post hM hg (by simp) kk
def hasR (ws:List Int) (n:Nat):Bool:=(ws.getD (n / 64) 0).toNat.testBit (n % 64)
def endR (p:Nat→Bool):Nat→Nat→Nat
 | 0,t=>t
 | f+1,t=>bif p (t+1) then endR p f (t+1) else t
def startR (p:Nat→Bool) (i:Nat):Bool:=p i && (decide (i=0) || !p (i - 1))
def runsR (p:Nat→Bool) (n:Nat):List (UInt8×UInt8):=((List.range n).filter (startR p)).map fun i=>(UInt8.ofNat i,UInt8.ofNat (endR p (255 - i) i))
theorem shr_and (w:W64) {k:Nat} (hk:k < 64):IntKind.u64.wrap ((BitVec.ofInt 64 ((w.toNat:Int).fdiv (2 ^ (min k 64))) &&& BitVec.ofInt 64 1).toNat:Int)=bif w.getLsbD k then 1 else 0:=by
 have hn:w.toNat < 18446744073709551616:=w.isLt
 have e0:min k 64=k:=by omega
 have e1:(w.toNat:Int).fdiv (2 ^ k)=((w.toNat / 2 ^ k:Nat):Int):=by
  rw[Int.fdiv_eq_ediv_of_nonneg _ (by exact Int.le_of_lt (Int.pow_pos (by decide)))]
  simp
 rw[e0,e1]
 have e2:(BitVec.ofInt 64 ((w.toNat / 2 ^ k:Nat):Int) &&& BitVec.ofInt 64 1).toNat=w.toNat / 2 ^ k % 2:=by
  have h1:BitVec.ofInt 64 ((w.toNat / 2 ^ k:Nat):Int)=BitVec.ofNat 64 (w.toNat / 2 ^ k):=(show ∀ m:Nat,BitVec.ofInt 64 (m:Int)=BitVec.ofNat 64 m from fun m=>by simp) _
  have h2:BitVec.ofInt 64 1=BitVec.ofNat 64 1:=by decide
  rw[h1,h2,BitVec.toNat_and,BitVec.toNat_ofNat,BitVec.toNat_ofNat]
  have h3:w.toNat / 2 ^ k % 2 ^ 64=w.toNat / 2 ^ k:=Nat.mod_eq_of_lt (Nat.lt_of_le_of_lt (Nat.div_le_self _ _) hn)
  rw[h3,show 1 % 2 ^ 64=1 by decide,Nat.and_one_is_mod]
 rw[e2]
 have e3:IntKind.u64.wrap ((w.toNat / 2 ^ k % 2:Nat):Int)=((w.toNat / 2 ^ k % 2:Nat):Int):=by
  have:w.toNat / 2 ^ k % 2 < 2:=Nat.mod_lt _ (by decide)
  unfold IntKind.wrap
  simp only[IntKind.bits,IntKind.signed]
  simp
  omega
 rw[e3]
 have e4:w.getLsbD k=w.toNat.testBit k:=rfl
 rw[e4,Nat.testBit_eq_decide_div_mod_eq]
 have:w.toNat / 2 ^ k % 2 < 2:=Nat.mod_lt _ (by decide)
 by_cases h:w.toNat / 2 ^ k % 2=1
 ·rw[h]
  rfl
 ·have h0:w.toNat / 2 ^ k % 2=0:=by omega
  rw[h0]
  rfl
theorem shl_wr {k:Nat} (hk:k < 64):IntKind.u64.wrap (1 * 2 ^ (min k 64))=((bitW k).toNat:Int):=by
 have e0:min k 64=k:=by omega
 have h1:(2:Nat) ^ k < 2 ^ 64:=Nat.pow_lt_pow_right (by decide) hk
 have e:(bitW k).toNat=2 ^ k:=by
  unfold bitW
  rw[BitVec.toNat_shiftLeft]
  simp only[BitVec.toNat_ofNat]
  rw[Nat.shiftLeft_eq,show 1 % 2 ^ 64=1 by decide,Nat.one_mul,Nat.mod_eq_of_lt h1]
 rw[e0,e,Int.one_mul]
 have e2:((2:Int) ^ k)=((2 ^ k:Nat):Int):=by simp
 rw[e2]
 unfold IntKind.wrap
 simp only[IntKind.bits,IntKind.signed]
 simp
 omega
def wordV (w:W64):Value:=.int .u64 w.toNat
theorem bit_on {w:W64} {i:Nat} (hlt:i < 64) (h2:¬ IntKind.u64.wrap ((BitVec.ofInt 64 ((w.toNat:Int).fdiv (2 ^ (min i 64))) &&& BitVec.ofInt 64 1).toNat:Int)=0):w.getLsbD i=true:=by
 have hb:=shr_and w hlt
 cases hg:w.getLsbD i with
 | true=>rfl
 | false=>
  rw[hg] at hb
  exact absurd hb h2
theorem bit_off {w:W64} {i:Nat} (hlt:i < 64) (h2:IntKind.u64.wrap ((BitVec.ofInt 64 ((w.toNat:Int).fdiv (2 ^ (min i 64))) &&& BitVec.ofInt 64 1).toNat:Int)=0):w.getLsbD i=false:=by
 have hb:=shr_and w hlt
 cases hg:w.getLsbD i with
 | false=>rfl
 | true=>
  rw[hg,h2] at hb
  cases hb
theorem ne_on {a b:Int} (h:(!decide (a=b))=true):¬ a=b:=by simpa using h
theorem ne_off {a b:Int} (h:(!decide (a=b))=false):a=b:=by simpa using h
theorem wlist_spec {I:GH} {M0:List Blk} (w:W64):Spec Tryz.prog 100 [.int .u64 w.toNat] I M0 fun v I' M'=>I'=I∧∃ os:OS,os.ok 1 ((bitsOf w 64).map fun n:Nat=>Value.int .i64 n)∧v=os.val∧M'=os.blk 3++M0:=by
 refine spec_of_V [] TryzEOK Tryz.func100 rfl rfl rfl ?_
 intro B h0
 refine LoopOb.inv (ι:=Nat×OS) (fun x=>{ fl:=[(0,.val (.int .u64 w.toNat)),(3,.val x.2.val),(5,.val (.int .i64 x.1))],gi:=I,mi:=x.2.blk 3++M0 }) (fun x=>x.1≤64∧x.2.ok 1 ((bitsOf w x.1).map fun n:Nat=>Value.int .i64 n)) (fun x=>64 - x.1) ?_ ?_
 ·exact⟨(0,OS0),⟨by simp,OS0_ok 1⟩,.refl,aF3,.nil⟩
 rintro⟨i,os⟩ ⟨hi,hos⟩
 simp only at hi hos
 have hon:os.n≤64:=by
  have h1:=hos.len
  rw[List.length_map] at h1
  have:=bitsOf_len w i
  omega
 refine CondOb.mk (fun h=>?_) (fun h=>?_)
 rotate_left
 ·have hge:i=64:=by have:¬ (i:Int) < 64:=of_decide_eq_false h;omega
  rw[hge] at hos
  exact⟨_,_,.refl,rfl,os,hos,rfl,rfl⟩
 have hlt:i < 64:=by have:(i:Int) < 64:=of_decide_eq_true h;omega
 refine ShOb.mk i rfl ?_
 refine CondOb.mk (fun h2=>?_) (fun h2=>?_)
 ·have hw:=bit_on (w:=w) hlt (ne_on h2)
  refine AllocOb.mk fun b9 hb9 hbM9=>?_
  refine OtherOb.app1 TryzEOK rfl (by simp) (e:=3) rfl rfl rfl os hos rfl (cs:=[.int .i64 i]) rfl rfl rfl [] M0 rfl (by omega) (by show (os.n+1) * 8≤_;omega) ?_
  intro os2 hn2 hI2 hok2
  refine ArithOb.mk _ (next_wr (i:=i) (by omega)) ?_
  refine⟨(i+1,os2),⟨⟨hlt,?_⟩,by simp only;omega⟩,.refl,aF3,.nil⟩
  simp only
  rw[bitsOf_succ,hw,List.map_append]
  exact hok2
 ·have hw:=bit_off (w:=w) hlt (ne_off h2)
  refine ArithOb.mk _ (next_wr (i:=i) (by omega)) ?_
  refine⟨(i+1,os),⟨⟨hlt,?_⟩,by simp only;omega⟩,.refl,aF3,.nil⟩
  simp only
  rw[bitsOf_succ,hw,cond_false,List.append_nil]
  exact hos
def ewW (w:W64):EV:=.i .u64 w.toNat
theorem partE_at {E:Env} {e:Nat} {ei:TI} (he:E e=some ei) (hs:ei.size=1) (ha:ei.sh.agg=false) (P:List EV) (x:EV) (r:List EV):partE E e (P.length * ei.size) (P++x::r)=some x:=by
 unfold partE
 rw[he,opn_s,hs,Nat.mul_one,dropE_eq,List.drop_left,ha]
 rfl
theorem eqPl_words {F:Nat→EV→EV→Option Bool} {E:Env} {e:Nat} {ei:TI} (he:E e=some ei) (hs:ei.size=1) (ha:ei.sh.agg=false) (hF:∀ a b,F e (.i .u64 a) (.i .u64 b)=some (eqI a b)):∀ (l m:List W64) (P1 P2:List EV),l.length=m.length→P1.length=P2.length →
  eqPl F E (P1++l.map ewW) (P2++m.map ewW) ((List.range' P1.length l.length).map fun i=>(e,i * ei.size))=some (decide (l=m))
 | [],[],P1,P2,_,_=>rfl
 | [],_::_,_,_,h,_=>by simp at h
 | _::_,[],_,_,h,_=>by simp at h
 | a::l,b::m,P1,P2,h,hp=>by
  have ih:=eqPl_words he hs ha hF l m (P1++[ewW a]) (P2++[ewW b]) (by simpa using h) (by simpa using hp)
  rw[List.length_append,List.length_singleton,List.append_assoc,List.append_assoc,List.singleton_append,List.singleton_append] at ih
  rw[List.length_cons,List.range'_succ,List.map_cons,List.map_cons,List.map_cons,eqPl,partE_at he hs ha,opn_s,hp,partE_at he hs ha,opn_s,←hp]
  rw[show F e (ewW a) (ewW b)=some (decide (a=b)) by rw[←eqI_bv];exact hF _ _,opn_s,cnd_eq]
  by_cases e1:a=b
  ·subst e1
   simp only[decide_true,if_true]
   rw[ih]
   simp
  ·simp[e1]
def rowC (m:List W64):List Value:=(List.range 64).map fun i=>wordV (m.getD i 0)
theorem rowC_eq {m:List W64} (h:m.length=64):rowC m=m.map wordV:=by
 unfold rowC
 apply List.ext_getElem
 ·simp[h]
 ·intro i h1 h2
  have:i < m.length:=by simpa using h2
  simp[List.getD_eq_getElem?_getD,this]
theorem rowC_len (m:List W64):(rowC m).length=64:=by simp[rowC]
theorem binOb_eqM {x y:Operand} {p q:List W64} (hp:p.length=64) (hq:q.length=64) {V:Value→Prop} {other:Prop} (h:V (.bool (decide (p=q)))) :
  BinOb Tryz.prog .eql 152 x y (.val (.agg (rowC p).toArray)) (.val (.agg (rowC q).toArray)) V other:=by
 rw[rowC_eq hp,rowC_eq hq]
 have hv:∀ l:List W64,VRs (fun _=>none) (l.map ewW) (l.map wordV):=fun l=>by
  induction l with
  | nil=>exact .nil
  | cons a l ih=>exact .cons (by simp only[ewW,wordV,VR]) ih
 refine b_agg_ok (X:=⟨Tryz.prog,TryzE,[],0,0,default,fun _=>none,[],none⟩) (D:=fun _=>none) (v:=.b (decide (p=q))) TryzEOK ?_ (hv p) (hv q) (fun u hu=>by simp only[VR] at hu;rw[hu];exact h)
 show b_agg Tryz.prog TryzE .eql 152 _ _=_
 obtain⟨i1,h1,hs1⟩:∃ i,TryzE 152=some i∧i.sh=.array 64 87:=⟨_,rfl,rfl⟩
 obtain⟨i2,h2,hs2,hz2⟩:∃ i,TryzE 87=some i∧i.sh=.int .u64∧i.size=1:=⟨_,rfl,rfl,rfl⟩
 have hF:∀ a b,eqT Tryz.prog TryzE 7 87 (.i .u64 a) (.i .u64 b)=some (eqI a b):=fun a b=>by
  simp only[eqT,h2,opn_s,hs2]
  rfl
 have hk:=eqPl_words (F:=eqT Tryz.prog TryzE 7) h2 hz2 (by rw[hs2];rfl) hF p q [] [] (by omega) rfl
 unfold b_agg
 rw[eqT]
 simp only[h1,opn_s,hs1,h2]
 rw[List.nil_append,List.nil_append,List.length_nil,hp] at hk
 rw[List.range_eq_range',hk,show Tryz.prog.eqGuardType Tryz.prog.depth 152=false by kernel_rfl]
 rfl
structure Sy where
 n:Nat
 m:List W64
 w:W64
def Sy.cells (s:Sy):List Value:=.int .i64 s.n::(rowC s.m++[wordV s.w])
def Sy.val (s:Sy):Value:=.agg s.cells.toArray
def Sy.okS (s:Sy):Prop:=s.m.length=64∧s.n≤64
def mRow (b:Nat) (m:List W64):Blk:=⟨b,.cells (rowC m).toArray 152 (0,0)⟩
theorem mRow_all {I:GH} {M:List Blk} {b:Nat} {m:List W64} (hM:mRow b m∈M):Rd I M (⟨b,0,none⟩:Addr) 64 (rowC m):=
 ⟨rfl,_,_,_,.inr ⟨_,hM,rfl,rfl⟩,by simp only[List.drop_zero];exact List.take_of_length_le (by simp[rowC_len]),rowC_len m⟩
theorem mRow_rd {I:GH} {M:List Blk} {b:Nat} {m:List W64} (hM:mRow b m∈M) {j:Nat} (hj:j < 64):Rd I M ((⟨b,0,none⟩:Addr).add (j * 1)) 1 [wordV (m.getD j 0)]:=by
 rw[addr_add _ rfl]
 refine⟨rfl,_,_,_,.inr ⟨_,hM,rfl,rfl⟩,?_,rfl⟩
 simp only[Nat.zero_add,Nat.mul_one]
 rw[List.drop_eq_getElem_cons (by simpa[rowC] using hj),List.take_succ_cons,List.take_zero]
 simp[rowC]
theorem mRow_set (m:List W64) (hm:m.length=64) (j:Nat) (hj:j < 64) (w:W64):splice (rowC m) (0+j * 1) [wordV w]=rowC (m.set j w):=by
 rw[rowC_eq hm,rowC_eq (by simpa using hm),Nat.zero_add,Nat.mul_one,splice_one _ _ _ (by simp[hm];exact hj),List.map_set]
def nxM (m:List W64) (i:Nat):List W64:=(List.range i).map (fun q=>wrowGo m 0 64 (m.getD q 0))++m.drop i
theorem nxM_len {m:List W64} (hm:m.length=64) {i:Nat} (hi:i≤64):(nxM m i).length=64:=by simp[nxM,hm];omega
theorem nxM_at {m:List W64} (hm:m.length=64) {i:Nat} (hi:i < 64):(nxM m i).set i (m.getD i 0)=nxM m i:=by
 unfold nxM
 have h:i < m.length:=by omega
 rw[List.set_append_right _ _ (by simp)]
 simp only[List.length_map,List.length_range,Nat.sub_self]
 rw[List.drop_eq_getElem_cons h,List.set_cons_zero]
 simp[List.getD_eq_getElem?_getD,h]
theorem nxM_next {m:List W64} (hm:m.length=64) {i:Nat} (hi:i < 64):(nxM m i).set i (wrowGo m 0 64 (m.getD i 0))=nxM m (i+1):=by
 unfold nxM
 have h:i < m.length:=by omega
 rw[List.set_append_right _ _ (by simp)]
 simp only[List.length_map,List.length_range,Nat.sub_self]
 rw[List.drop_eq_getElem_cons h,List.set_cons_zero,List.range_succ,List.map_append,List.append_assoc]
 rfl
theorem nxM_all {m:List W64} (hm:m.length=64):nxM m 64=nextM m:=by
 unfold nxM nextM
 rw[List.drop_of_length_le (by omega),List.append_nil]
def backP (m:List W64) (k:Nat):W64:=(List.range k).foldl (fun w i=>w ||| ((m.getD i 0) &&& bitW i)) 0
theorem backP_succ (m:List W64) (k:Nat):backP m (k+1)=backP m k ||| (m.getD k 0 &&& bitW k):=by
 unfold backP
 rw[List.range_succ,List.foldl_append]
 rfl
theorem sv_u64 {a b:Int} (h:a=b):SvLe (.val (.int .u64 a)) (.val (.int .u64 b)):=by
 subst h
 exact .refl
theorem back_val (m:List W64) (k:Nat):worV (backP m k).toNat (wandV (m.getD k 0).toNat (bitW k).toNat)=((backP m (k+1)).toNat:Int):=by
 rw[wandV_bv,worV_bv,backP_succ]
theorem wrowGo_on {m:List W64} {k:Nat} {w:W64} (hk:k < 64) (h:w.getLsbD k=true):wrowGo m k (64 - k) w=wrowGo m (k+1) (64 - (k+1)) (w ||| m.getD k 0):=by
 rw[show 64 - k=(64 - (k+1))+1 by omega,wrowGo,h]
 rfl
theorem wrowGo_off {m:List W64} {k:Nat} {w:W64} (hk:k < 64) (h:w.getLsbD k=false):wrowGo m k (64 - k) w=wrowGo m (k+1) (64 - (k+1)) w:=by
 rw[show 64 - k=(64 - (k+1))+1 by omega,wrowGo,h]
 rfl
theorem set_get {m:List W64} {i:Nat} (hi:i < m.length) (w:W64):(m.set i w).getD i 0=w:=by simp[List.getD_eq_getElem?_getD,hi]
set_option maxRecDepth 100000 in
set_option maxHeartbeats 8000000 in
theorem left_spec {I:GH} {M0:List Blk} (s:Sy) (hs:s.okS):Spec Tryz.prog 101 [s.val] I M0 fun v I' M'=>I'=I∧M'=M0∧∃ b:W64,v=.int .u64 b.toNat∧∀ i,i < 64→(b.getLsbD i=true ↔ ComesM s.m i i):=by
 refine spec_of_V [1,3,4] TryzEOK Tryz.func101 rfl rfl rfl ?_
 intro B h0
 obtain⟨hs1,hs2⟩:=hs
 refine AllocOb.mk fun b1 hb1 hbM1=>?_
 refine LoadOb.mk (rowC s.m) ?_ ?_
 ·refine⟨rfl,_,_,_,.inr ⟨_,.head _,rfl,rfl⟩,?_,rowC_len _⟩
  show ((s.cells).drop 1).take 64=_
  rw[Sy.cells,List.drop_succ_cons,List.drop_zero]
  exact List.take_left' (rowC_len _)
 refine AllocOb.mk fun b3 hb3 hbM3=>?_
 refine StoreOb.to [] _ _ _ rfl rfl rfl rfl (rowC s.m) rfl ?_
 refine LoopOb.inv (ι:=List W64) (fun m=>{ fl:=[(3,.val (ptr b3))],gi:=I,mi:=mRow b3 m::M0 }) (OnM s.m) offM ?_ ?_
 ·exact⟨s.m,.start hs1,.sub (.cons_cons _ (.cons _ (.refl _))) .refl,.cons .refl (.nil),.nil⟩
 intro m hm
 have hml:=hm.len
 refine LoadOb.mk _ (mRow_all (.head _)) ?_
 refine AllocOb.mk fun b4 hb4 hbM4=>?_
 refine StoreOb.to [] _ _ _ rfl rfl rfl rfl (rowC m) rfl ?_
 refine LoopOb.inv (ι:=Nat) (fun i=>{ fl:=[(3,.val (ptr b3)),(4,.val (ptr b4)),(13,.val (.int .i64 i))],gi:=I,mi:=mRow b4 (nxM m i)::(mRow b3 m::M0) }) (fun i=>i≤64) (fun i=>64 - i) ?_ ?_
 ·refine⟨0,Nat.zero_le _,.refl,aF3,.nil⟩
 intro i hi
 refine CondOb.mk (fun h=>?_) (fun h=>?_)
 rotate_left
 ·have hge:i=64:=by have:¬ (i:Int) < 64:=of_decide_eq_false h;omega
  subst hge
  refine LoadOb.mk _ (mRow_all (.head _)) ?_
  refine LoadOb.mk _ (mRow_all (.tail _ (.head _))) ?_
  refine binOb_eqM (nxM_len hml (Nat.le_refl _)) hml ?_
  rw[nxM_all hml]
  refine CondOb.mk (fun he=>?_) (fun he=>?_)
  ·have he':nextM m=m:=of_decide_eq_true he
   refine LoadOb.mk _ (mRow_all (.tail _ (.head _))) ?_
   refine LoopOb.inv (ι:=Nat) (fun k=>{ fl:=[(7,.val (.int .u64 (backP m k).toNat)),(40,.val (.agg (rowC m).toArray)),(41,.val (.int .i64 k))],gi:=I,mi:=M0 }) (fun k=>k≤64) (fun k=>64 - k) ?_ ?_
   ·exact⟨0,Nat.zero_le _,.sub (.cons _ (.cons _ (.refl _))) .refl,aF3,.nil⟩
   intro k hk
   refine CondOb.mk (fun h=>?_) (fun h=>?_)
   rotate_left
   ·have hge:k=64:=by have:¬ (k:Int) < 64:=of_decide_eq_false h;omega
    subst hge
    exact⟨_,_,.refl,rfl,rfl,backP m 64,rfl,fun i hi=>by
     rw[show backP m 64=backW m from rfl,backW_get m hi,hm.done he' hi hi]⟩
   have hk2:k < 64:=by have:(k:Int) < 64:=of_decide_eq_true h;omega
   clear h hk
   have hc:k=0∨k=1∨k=2∨k=3∨k=4∨k=5∨k=6∨k=7∨k=8∨k=9∨k=10∨k=11∨k=12∨k=13∨k=14∨k=15∨k=16∨k=17∨k=18∨k=19∨k=20∨k=21∨k=22∨k=23∨k=24∨k=25∨k=26∨k=27∨k=28∨k=29∨k=30∨k=31∨k=32∨k=33∨k=34∨k=35∨k=36∨k=37∨k=38∨k=39∨k=40∨k=41∨k=42∨k=43∨k=44∨k=45∨k=46∨k=47∨k=48∨k=49∨k=50∨k=51∨k=52∨k=53∨k=54∨k=55∨k=56∨k=57∨k=58∨k=59∨k=60∨k=61∨k=62∨k=63:=by omega
   rcases hc with rfl | rfl | rfl | rfl | rfl | rfl | rfl | rfl | rfl | rfl | rfl | rfl | rfl | rfl | rfl | rfl | rfl | rfl | rfl | rfl | rfl | rfl | rfl | rfl | rfl | rfl | rfl | rfl | rfl | rfl | rfl | rfl | rfl | rfl | rfl | rfl | rfl | rfl | rfl | rfl | rfl | rfl | rfl | rfl | rfl | rfl | rfl | rfl | rfl | rfl | rfl | rfl | rfl | rfl | rfl | rfl | rfl | rfl | rfl | rfl | rfl | rfl | rfl | rfl
   all_goals
    refine ArrOb.mk _ rfl hk2 ?_
    refine ShOb.mk _ rfl ?_
    refine ArithOb.mk _ (shl_wr hk2) ?_
    refine ArithOb.mk _ (next_wr (by omega)) ?_
    exact⟨_,⟨hk2,by omega⟩,.refl,.cons (sv_u64 (back_val m _)) (aF2),.nil⟩
  ·have he':nextM m≠m:=of_decide_eq_false he
   refine LoadOb.mk _ (mRow_all (.head _)) ?_
   refine StoreOb.to [_] _ _ _ rfl rfl rfl rfl (rowC (nxM m 64)) rfl ?_
   refine⟨nextM m,⟨hm.next,offM_next hml he'⟩,.sub (.cons _ (.refl _)) (.eqM ?_),.cons .refl (.nil),.nil⟩
   rw[nxM_all hml]
   rfl
 have hlt:i < 64:=by have:(i:Int) < 64:=of_decide_eq_true h;omega
 have hnl:=nxM_len hml hi
 refine LoopOb.inv (ι:=Nat×W64) (fun s=>{ fl:=[(3,.val (ptr b3)),(4,.val (ptr b4)),(5,.val (.int .i64 i)),(13,.val (.int .i64 i)),(16,.val (.int .i64 s.1))],gi:=I,mi:=mRow b4 ((nxM m i).set i s.2)::(mRow b3 m::M0) }) (fun s=>s.1≤64∧wrowGo m 0 64 (m.getD i 0)=wrowGo m s.1 (64 - s.1) s.2) (fun s=>64 - s.1) ?_ ?_
 ·refine⟨(0,m.getD i 0),⟨Nat.zero_le _,rfl⟩,.eqM ?_,aF5,.nil⟩
  simp only
  rw[nxM_at hml hlt]
 rintro⟨k,w⟩ ⟨hk,hgo⟩
 simp only at hk hgo
 refine CondOb.mk (fun h=>?_) (fun h=>?_)
 rotate_left
 ·have hge:k=64:=by have:¬ (k:Int) < 64:=of_decide_eq_false h;omega
  subst hge
  have hgo':wrowGo m 0 64 (m.getD i 0)=w:=hgo
  refine ArithOb.mk _ (next_wr (i:=i) (by omega)) ?_
  refine⟨i+1,⟨hlt,by omega⟩,.eqM ?_,aF3,.nil⟩
  rw[←nxM_next hml hlt,hgo']
 have hk2:k < 64:=by have:(k:Int) < 64:=of_decide_eq_true h;omega
 have hsl:((nxM m i).set i w).length=64:=by rw[List.length_set,hnl]
 have hr4:∀ {M:List Blk},mRow b4 ((nxM m i).set i w)∈M→Rd I M ((⟨b4,0,none⟩:Addr).add (i * 1)) 1 [.int .u64 w.toNat]:=fun hM=>by
  have:=mRow_rd (I:=I) hM hlt
  rwa [set_get (by omega) w] at this
 have hr3:∀ {M:List Blk},mRow b3 m∈M→Rd I M ((⟨b3,0,none⟩:Addr).add (k * 1)) 1 [.int .u64 (m.getD k 0).toNat]:=fun hM=>mRow_rd (I:=I) hM hk2
 refine ArrOb.mk i rfl hlt ?_
 refine LoadOb.mk _ (hr4 (.head _)) ?_
 refine ShOb.mk k rfl ?_
 refine CondOb.mk (fun h2=>?_) (fun h2=>?_)
 ·have hw:=bit_on (w:=w) hk2 (ne_on h2)
  refine CodeOb.draw TryzEOK rfl rfl rfl ?_
  refine ArrOb.mk i rfl hlt ?_
  refine LoadOb.mk _ (hr4 (.head _)) ?_
  refine ArrOb.mk k rfl hk2 ?_
  refine LoadOb.mk _ (hr3 (.tail _ (.head _))) ?_
  refine ArrOb.mk i rfl hlt ?_
  refine StoreOb.addTo [] (mRow b3 m::M0) (rowC ((nxM m i).set i w)) _ rfl ?_ rfl (rowC ((nxM m i).set i (w ||| m.getD k 0))) ?_ ?_
  ·rw[Nat.ble_eq,rowC_len]
   show 0+i * 1+1≤64
   omega
  ·show splice _ _ [Value.int .u64 (worV w.toNat (m.getD k 0).toNat)]=_
   rw[worV_bv]
   have:=mRow_set ((nxM m i).set i w) hsl i hlt (w ||| m.getD k 0)
   rw[List.set_set] at this
   exact this
  refine ArithOb.mk _ (next_wr (i:=k) (by omega)) ?_
  exact⟨(k+1,w ||| m.getD k 0),⟨⟨hk2,by rw[hgo,wrowGo_on hk2 hw]⟩,by simp only;omega⟩,.refl,aF5,.nil⟩
 ·have hw:=bit_off (w:=w) hk2 (ne_off h2)
  refine ArithOb.mk _ (next_wr (i:=k) (by omega)) ?_
  exact⟨(k+1,w),⟨⟨hk2,by rw[hgo,wrowGo_off hk2 hw]⟩,by simp only;omega⟩,.refl,aF5,.nil⟩
section
variable {I:GH} {M:List Blk} {d:Nd} {x:Fl} {a:Option Addr} {n c:Nat} {ks:List Fi}
theorem IsAt.head (hk:IsAt I M a n ks) (h0:0 < n):∃ ad,a=some ad∧Rd I M (ad.add (0 * 5)) 5 (ks.headD fi0).cells:=by
 have h1:0 < ks.length:=by rw[hk.n];exact h0
 obtain⟨ad,h2,h3⟩:=hk.rd 0 h1
 refine⟨ad,h2,?_⟩
 cases ks with
 | nil=>simp at h1
 | cons k ks=>exact h3
end
theorem IsAt.sub {I:GH} {M M':List Blk} {a:Option Addr} {n:Nat} {ks:List Fi} (h:IsAt I M a n ks) (hM:∀ x∈M,x∈M'):IsAt I M' a n ks:=
 ⟨h.n,fun j hj=>by
  obtain⟨ad,h1,h2⟩:=h.rd j hj
  exact⟨ad,h1,h2.sub hM⟩⟩
def KB (t:Tr):Prop:=∀ n∈t.ns,n.kn≤3000000000000
abbrev RX (X:Ctx) (G:GT) (pr:PR):RK:=⟨X.P,X.E,G,pr⟩
section
variable {X:Ctx} {G:GT} {pr:PR} {D:Nm} {m:Me} {F:Fr} {fr:Tri EV} {C:Bx} {I:GH} {M:List Blk} {V:SV→Prop} {O:Prop}
theorem some_inj' {α:Type} {a b:α} (h:some a=some b):a=b:=by cases h;rfl
theorem b_int_ok {op:BinOp} {k k':IntKind} {a b:Int} {v:EV} {ti:Option TI} {K:Value→Prop} {O:Prop} (h:b_int op k k' a b=some v) (hk:∀ u,VR D v u→K u):V_bin op ti (.val (.int k a)) (.val (.int k' b)) K O:=by
 have mk:∀ {q:EV} {u:Value},some q=some v→VR D q u→K u:=fun e hu=>hk _ (some_inj' e ▸ hu)
 unfold b_int at h
 split at h
 ·split at h
  ·rename_i j
   refine⟨j,rfl,⟨_,rfl,mk h ?_⟩⟩
   simp only[VR]
   rw[wrapE_eq,shlI_eq,cnd_eq,minE_eq]
  ·cases h
 ·split at h
  ·rename_i j
   refine⟨j,rfl,mk h ?_⟩
   simp only[VR]
   rw[shrI_eq,cnd_eq,minE_eq]
  ·cases h
 all_goals obtain⟨hq,h⟩:=cnd_some h
 all_goals simp only[V_bin,hq,cond_true]
 ·exact⟨_,rfl,mk h (by simp only[VR];rw[wrapE_eq,addI_eq])⟩
 ·exact⟨_,rfl,mk h (by simp only[VR];rw[wrapE_eq,subI_eq])⟩
 ·exact⟨_,rfl,mk h (by simp only[VR];rw[wrapE_eq,mulI_eq])⟩
 ·obtain⟨h0,h⟩:=cnd_none h
  refine⟨fun e=>?_,_,rfl,mk h (by simp only[VR];rw[wrapE_eq,quoI_eq])⟩
  rw[eqI_eq,e] at h0;simp at h0
 ·obtain⟨h0,h⟩:=cnd_none h
  refine⟨fun e=>?_,mk h (by simp only[VR];rw[remI_eq])⟩
  rw[eqI_eq,e] at h0;simp at h0
 ·obtain⟨r,hr,h⟩:=opn_eq h;rw[bitsE_eq hr];exact mk h (by simp only[VR])
 ·obtain⟨r,hr,h⟩:=opn_eq h;rw[bitsE_eq hr];exact mk h (by simp only[VR])
 ·obtain⟨r,hr,h⟩:=opn_eq h;rw[bitsE_eq hr];exact mk h (by simp only[VR])
 ·obtain⟨r,hr,h⟩:=opn_eq h;rw[bitsE_eq hr];exact mk h (by simp only[VR])
 ·obtain⟨r,hr,h⟩:=opn_eq h
  rw[cmpE_eq] at hr
  have hv:v=.b r:=(some_inj' h).symm
  subst hv
  have hk':K (.bool r):=hk _ (by simp only[VR])
  cases op<;>first
   | contradiction
   |(rw[hr];exact hk')
theorem cnd_not (b:Bool):cnd b false true=!b:=by cases b<;>rfl
theorem b_str_ok {op:BinOp} {a b:List UInt8} {v:EV} {ti:Option TI} {P:Program} {t:Nat} {x y:Operand} {K:Value→Prop} {O:Prop} (h:b_str op a b=some v) (hk:∀ u,VR D v u→K u) :
  V_bin op ti (.val (.string ⟨a.toArray⟩)) (.val (.string ⟨b.toArray⟩)) K (BinOb P op t x y (.val (.string ⟨a.toArray⟩)) (.val (.string ⟨b.toArray⟩)) K O):=by
 unfold b_str at h
 split at h
 ·cases h
  refine hk _ ?_
  simp only[VR]
  rw[str_eq,eqS_eq]
 ·cases h
  refine hk _ ?_
  simp only[VR]
  rw[str_eq,eqS_eq,cnd_not]
 ·obtain⟨hl,h⟩:=cnd_some h
  cases h
  have hl':=Nat.le_of_ble_eq_true hl
  refine BinOb.concat (by simpa[ByteArray.size] using hl') (hk _ ?_)
  simp only[VR]
  congr 1
 ·cases h
theorem b_bool_ok {op:BinOp} {a b:Bool} {v:EV} {ti:Option TI} {K:Value→Prop} {O:Prop} (h:b_bool op ti a b=some v) (hk:∀ u,VR D v u→K u):V_bin op ti (.val (.bool a)) (.val (.bool b)) K O:=by
 unfold b_bool at h
 split at h
 ·split at h
  ·cases h;exact hk _ (by simp only[VR])
  ·cases h;exact hk _ (by simp only[VR])
  ·cases h
 ·cases h
theorem E_bin_ok (hE:EOK X.P X.E) {op:BinOp} {t:Nat} {x y v:EV} {ox oy:Operand} {u w:Value} {K:Value→Prop} {O:Prop} (h:E_bin X.P X.E op t x y=some v) (hx:VR D x u) (hy:VR D y w) (hk:∀ u,VR D v u→K u) :
  V_bin op (X.E t) (.val u) (.val w) K (BinOb X.P op t ox oy (.val u) (.val w) K O):=by
 unfold E_bin at h
 split at h
 ·rw[hx.int,hy.int];exact b_int_ok h hk
 ·rw[hx.str,hy.str];exact b_str_ok h hk
 ·rw[hx.bool,hy.bool];exact b_bool_ok h hk
 ·obtain⟨us,h1,rfl⟩:=hx.agg
  obtain⟨ws,h2,rfl⟩:=hy.agg
  exact b_agg_ok hE h h1 h2 hk
 ·cases h
variable (hE:EOK X.P X.E) (hm:MS (RX X G pr) D m I M)
theorem natE {v:EV} {n:Nat} (h:v.nat=some n):∃ k,v=.i k (.ofNat n):=by
 unfold EV.nat at h
 split at h
 ·cases h;exact⟨_,rfl⟩
 ·cases h
theorem addE_ok {x v:EV} {n:Nat} {u:Value} (h:addE x n=some v) (hx:VR D x u):∃ a,u=.pointer (some a)∧a.spot=none∧VR D v (.pointer (some (a.add n))):=by
 unfold addE at h
 split at h
 ·cases h
  obtain⟨a,ha,rfl⟩:=hx.ptr
  refine⟨_,rfl,rfl,?_⟩
  rw[addr_add _ rfl]
  simp only[VR]
  exact⟨a,ha,by simp only[Nat.add_eq,Nat.add_assoc]⟩
 ·cases h
  refine⟨_,hx.glo,rfl,?_⟩
  rw[addr_add _ rfl]
  simp only[VR]
  rfl
 ·cases h
theorem elemE_ok {x v:EV} {j sz:Nat} {u:Value} (h:elemE x j sz=some v) (hx:VR D x u):∃ a n c,u=.slice (some a) n c∧j < n∧VR D v (.pointer (some (a.add (j * sz)))):=by
 unfold elemE at h
 split at h
 ·cases hb:Nat.blt j _ with
  | false=>rw[hb] at h;cases h
  | true=>
   rw[hb] at h
   cases h
   obtain⟨a,ha,rfl⟩:=hx.sli
   refine⟨_,_,_,rfl,Nat.le_of_ble_eq_true hb,?_⟩
   rw[addr_add _ rfl]
   simp only[VR]
   exact⟨a,ha,by simp only[Nat.add_eq,Nat.mul_eq,Nat.add_assoc]⟩
 ·cases hb:Nat.blt j _ with
  | false=>rw[hb] at h;cases h
  | true=>
   rw[hb] at h
   cases h
   obtain⟨a,ha,_,rfl⟩:=hx.slx
   refine⟨_,_,_,rfl,Nat.le_of_ble_eq_true hb,?_⟩
   rw[addr_add _ rfl]
   simp only[VR]
   exact⟨a,ha,by simp only[Nat.add_eq,Nat.mul_eq,Nat.add_assoc]⟩
 ·cases hb:Nat.blt j _ with
  | false=>rw[hb] at h;cases h
  | true=>
   rw[hb] at h
   cases h
   refine⟨_,_,_,hx.sgl,Nat.le_of_ble_eq_true hb,?_⟩
   rw[addr_add _ rfl]
   simp only[VR]
   rfl
 ·cases h
theorem q_part_ok {ei:TI} {cs:List EV} {off:Nat} {v:EV} {us:List Value} (h:q_part ei cs off=some v) (hc:VRs D cs us) :
  off+ei.size≤us.length∧VR D v (pack ei.sh.agg ((us.drop off).take ei.size)):=by
 unfold q_part at h
 obtain⟨h0,h⟩:=cnd_none h
 obtain⟨l,h1,h2⟩:=opn_eq h
 have h0':ei.size≠0:=fun e=>by rw[e] at h0;cases h0
 obtain⟨rfl,hl⟩:=takeE_eq h1
 rw[dropE_eq] at h2 hl
 refine⟨?_,packE_ok h2 ((hc.drop off).take _)⟩
 have:=hc.len
 simp at hl
 omega
theorem offOf_ok {E:Env} {t i off:Nat} {fi:TI} (h:offOf E t i=some (off,fi)):∃ a b z fs ft,E t=some ⟨a,b,z,.struct fs⟩∧fs[i]?=some (ft,off)∧E ft=some fi:=by
 unfold offOf at h
 split at h
 ·rename_i a b z fs ht
  split at h
  ·rename_i ft o hf
   rw[nthE_eq] at hf
   split at h
   ·rename_i f hft
    cases h
    exact⟨_,_,_,_,ft,ht,hf,hft⟩
   ·cases h
  ·cases h
 ·cases h
theorem elOf_ok {E:Env} {t:Nat} {r:Option Nat} {ei:TI} (h:elOf E t=some (r,ei)):(∃ a b z e,E t=some ⟨a,b,z,.slice e⟩∧E e=some ei∧r=none)∨∃ a b z n e,E t=some ⟨a,b,z,.array n e⟩∧E e=some ei∧r=some n:=by
 unfold elOf at h
 split at h
 ·rename_i a b z e ht
  split at h
  ·cases h;exact .inl ⟨_,_,_,_,ht,by assumption,rfl⟩
  ·cases h
 ·rename_i a b z n e ht
  split at h
  ·cases h;exact .inr ⟨_,_,_,_,_,ht,by assumption,rfl⟩
  ·cases h
 ·cases h
theorem q_index_ok {t:Nat} {x i v:EV} {u w:Value} (h:q_index X.E t (some x) (some i)=some v) (hx:VR D x u) (hi:VR D i w) {ρ:Operand→SV} {ox oi:Operand} (hox:evq ρ ox=.val u) (hoi:evq ρ oi=.val w)
  (k:∀ x,SvE D x v→V x):V_q X (.index t ox oi) ρ C I M V O:=by
 unfold q_index at h
 split at h
 ·rename_i l i' ht h1 h2
  cases h1
  cases h2
  obtain⟨j,hj,h⟩:=opn_eq h
  obtain⟨kk,rfl⟩:=natE hj
  have h8:q_istr l j=some v:=h
  unfold q_istr at h8
  obtain⟨b,hb,h9⟩:=opn_eq h8
  cases h9
  rw[nthE_eq] at hb
  rw[hx.str] at hox
  rw[hi.int] at hoi
  have hlt:=(List.getElem?_eq_some_iff.1 hb).1
  simp only[V_q,ht,hox,hoi]
  refine⟨j,rfl,by simpa[ByteArray.size] using hlt,k _ (.val ?_)⟩
  simp only[VR]
  have:(⟨l.toArray⟩:ByteArray)[j]'(by simpa[ByteArray.size] using hlt)=b:=by
   have:=(List.getElem?_eq_some_iff.1 hb).2
   show l.toArray[j]'_=b
   simpa using this
  rw[this]
  rfl
 ·rename_i n e cs i' ht h1 h2
  cases h1
  cases h2
  obtain⟨ei,he,h⟩:=opn_eq h
  obtain⟨j,hj,h⟩:=opn_eq h
  obtain⟨kk,rfl⟩:=natE hj
  obtain⟨us,hus,rfl⟩:=hx.agg
  unfold q_iarr at h
  obtain⟨hb,h⟩:=cnd_some h
  rw[Bool.and_eq_true] at hb
  obtain⟨h3,h4⟩:=q_part_ok h hus
  rw[hi.int] at hoi
  simp only[V_q,ht,hox,hoi,he]
  have hsz:Nat.beq (n * ei.size) us.toArray.size=true:=by
   have h5:=Nat.eq_of_beq_eq_true hb.1
   rw[List.size_toArray,hus.len,←h5]
   exact beq_self' _
  rw[hsz]
  simp only[cond_true]
  exact⟨j,rfl,Nat.le_of_ble_eq_true hb.2,k _ (.val h4)⟩
 ·cases h
theorem subE_ok {x v:EV} {sz l:Nat} {h:Option Nat} {u:Value} (hs:subE x sz l h=some v) (hx:VR D x u):∃ a n c,u=.slice a n c∧l≤h.getD n∧h.getD n≤c∧(h=none→l≤n) ∧
  VR D v (.slice (if c=l then a else a.map (·.add (l * sz))) (h.getD n - l) (c - l)):=by
 unfold subE at hs
 split at hs
 ·cases hb:(Nat.beq l 0 && Nat.beq (h.getD 0) 0) with
  | false=>rw[hb] at hs;cases hs
  | true=>
   rw[hb] at hs
   cases hs
   rw[Bool.and_eq_true] at hb
   have h1:=Nat.eq_of_beq_eq_true hb.1
   have h2:=Nat.eq_of_beq_eq_true hb.2
   subst h1
   refine⟨none,0,0,hx.sln,by omega,by omega,fun _=>by omega,?_⟩
   rw[h2]
   simp[VR]
 ·rename_i id off n c
  obtain⟨a,ha,rfl⟩:=hx.sli
  simp only at hs
  cases hb:(Nat.ble l (h.getD n) && Nat.ble (h.getD n) c) with
  | false=>rw[hb] at hs;cases hs
  | true=>
   rw[hb] at hs
   simp only[cond_true] at hs
   rw[Bool.and_eq_true] at hb
   have h1:=Nat.le_of_ble_eq_true hb.1
   have h2:=Nat.le_of_ble_eq_true hb.2
   refine⟨_,n,c,rfl,h1,h2,fun e=>by subst e;exact h1,?_⟩
   rw[nat_beq] at hs
   by_cases e:c=l
   ·subst e
    simp only[decide_true,cond_true] at hs
    cases hs
    simp only[if_true,VR]
    exact⟨a,ha,by simp only[Nat.sub_eq,Nat.sub_self]⟩
   ·simp only[e,decide_false,cond_false] at hs
    cases hs
    simp only[e,if_false,VR,Option.map_some]
    refine⟨a,ha,?_⟩
    rw[addr_add _ rfl]
    simp only[Nat.add_eq,Nat.mul_eq,Nat.sub_eq,Nat.add_assoc]
 ·rename_i id off e n
  obtain⟨a,ha,hle,rfl⟩:=hx.slx
  simp only at hs
  cases hb:(Nat.ble l (h.getD n) && Nat.ble (h.getD n) n) with
  | false=>rw[hb] at hs;cases hs
  | true=>
   rw[hb] at hs
   simp only[cond_true] at hs
   rw[Bool.and_eq_true] at hb
   have h1:=Nat.le_of_ble_eq_true hb.1
   have h2:=Nat.le_of_ble_eq_true hb.2
   refine⟨_,n,a.c - e,rfl,h1,by omega,fun e=>by subst e;exact h1,?_⟩
   cases hc:(Nat.beq l 0 || Nat.blt l n) with
   | true=>
    rw[hc] at hs
    simp only[cond_true] at hs
    cases hs
    rw[Bool.or_eq_true] at hc
    simp only[VR]
    refine⟨a,ha,by simp only[Nat.add_eq,Nat.sub_eq];omega,?_⟩
    have h3:a.c - e - l=a.c - (e+l):=by omega
    by_cases h0:l=0
    ·subst h0
     simp only[Nat.zero_mul,Nat.sub_zero,Option.map_some,Nat.add_eq,Nat.mul_eq,Nat.sub_eq,Nat.add_zero]
     split
     ·rfl
     ·rw[addr_add _ rfl];simp
    ·have h4:l < n:=by
      rcases hc with hc | hc
      ·exact absurd (Nat.eq_of_beq_eq_true hc) h0
      ·exact Nat.le_of_ble_eq_true hc
     rw[if_neg (by omega)]
     simp only[Option.map_some]
     rw[addr_add _ rfl]
     simp only[Nat.add_eq,Nat.mul_eq,Nat.sub_eq,Nat.add_assoc,h3]
   | false=>
    rw[hc] at hs
    simp only[cond_false] at hs
    cases hs
    rw[Bool.or_eq_false_iff] at hc
    have h4:¬ l < n:=fun hlt=>by have:=Nat.ble_eq_true_of_le (show l.succ≤n from hlt);rw[show Nat.blt l n=Nat.ble l.succ n from rfl,this] at hc;cases hc.2
    have h5:h.getD n - l=0:=by omega
    simp only[VR,h5]
    split
    ·exact⟨_,_,rfl⟩
    ·exact⟨_,_,rfl⟩
 ·cases hs
end
section
variable {X:Ctx} {G:GT} {pr:PR} {D:Nm} {m:Me} {F:Fr} {fr:Tri EV} {C:Bx} {I:GH} {M:List Blk} {V:SV→Prop} {O:Prop}
theorem pickV_val (c:Bool) (a b:Value):pickV c (.val a) (.val b)=.val (bif c then a else b):=by
 cases a<;>cases b<;>cases c<;>rfl
theorem optN_ok {o:Option Operand} {xs:List Operand} (H:OR D F fr xs) (hx:∀ y,o=some y→y∈xs) {r:Option Nat} (h:optN (o.map (rdO fr))=some r) :
  (o.map (evq (evr F))=none∧r=none)∨∃ k n,o.map (evq (evr F))=some (.val (.int k (Int.ofNat n)))∧r=some n:=by
 cases o with
 | none=>simp[optN] at h;exact .inl ⟨rfl,h.symm⟩
 | some y=>
  simp only[Option.map_some,optN] at h
  cases hv:rdO fr y with
  | none=>rw[hv] at h;cases h
  | some v=>
   rw[hv] at h
   simp only at h
   split at h
   ·rename_i n hn
    cases h
    obtain⟨k,rfl⟩:=natE hn
    obtain⟨u,hu,hr⟩:=H.ev (hx y rfl) hv
    rw[hr.int] at hu
    exact .inr ⟨k,n,by simp only[Option.map_some];exact congrArg some hu,rfl⟩
   ·cases h
theorem partS_eq (l:List UInt8) (lo hi:Nat):(⟨(partS l lo hi).toArray⟩:ByteArray)=(⟨l.toArray⟩:ByteArray).extract lo hi:=by
 apply ByteArray.ext
 apply Array.ext'
 unfold partS
 rw[dropE_eq]
 simp[ByteArray.data_extract,List.extract_eq_take_drop]
theorem lenS_ok {v:EV} {n:Nat} {u:Value} (h:lenS v=some n) (hv:VR D v u):∃ a c,u=.slice a n c:=by
 unfold lenS at h
 split at h
 ·cases h;exact⟨_,_,hv.sln⟩
 ·cases h;obtain⟨a,c,rfl⟩:=hv.slo;exact⟨_,_,rfl⟩
 ·cases h;obtain⟨a,_,rfl⟩:=hv.sli;exact⟨_,_,rfl⟩
 ·cases h;obtain⟨a,_,_,rfl⟩:=hv.slx;exact⟨_,_,rfl⟩
 ·cases h;exact⟨_,_,hv.sgl⟩
 ·cases h
theorem q_call_ok (hE:EOK X.P X.E) {b:Builtin} {args:Array Operand} {ts:Array TypeId} {v:EV} (h:q_call X.E b ts.toList (rdL fr args.toList)=some v) (H:OR D F fr args.toList) (k:∀ x,SvE D x v→V x) :
  V_q X (.call { callee:=.builtin b,args:=args,argTypes:=ts }) (evr F) C I M V O:=by
 unfold q_call at h
 split at h
 ·
  unfold q_len at h
  split at h
  ·rename_i t w ht hl
   obtain⟨us,e1,g1⟩:=H.evs (fun _ h=>h) hl
   obtain⟨u,xs,g2,g3,rfl⟩:=g1.uncons
   have:=g3.unnil
   subst this
   have e1':evqs (evr F) args.toList=some [u]:=e1
   simp only[V_q,ht,e1']
   split at h
   ·rename_i a b z e v' hE1
    unfold nO at h
    obtain⟨n,hn,h⟩:=opn_eq h
    have h9:some (EV.i .i64 (.ofNat n))=some v:=h
    cases h9
    obtain⟨a',c,rfl⟩:=lenS_ok hn g2
    simp only[hE1]
    exact k _ (.val (by simp only[VR];rfl))
   ·rename_i a b z l hE1
    cases h
    rw[g2.str]
    simp only[hE1]
    refine k _ (.val ?_)
    simp only[VR]
    simp[ByteArray.size]
   ·rename_i a b z n e v' hE1
    cases h
    cases u<;>(simp only[hE1];exact k _ (.val (by simp only[VR];rfl)))
   ·cases h
  ·cases h
 ·unfold q_max at h
  split at h
  ·rename_i k1 a k2 b hl
   obtain⟨us,e1,g1⟩:=H.evs (fun _ h=>h) hl
   obtain⟨u,xs,g2,g3,rfl⟩:=g1.uncons
   obtain⟨w,ys,g4,g5,rfl⟩:=g3.uncons
   have:=g5.unnil
   subst this
   have e1':evqs (evr F) args.toList=some [u,w]:=e1
   rw[g2.int,g4.int] at e1'
   simp only[V_q,e1']
   cases h
   refine k _ (.val ?_)
   simp only[VR]
   rw[cnd_eq,leI_eq]
   by_cases hab:a≤b
   ·simp[hab];omega
   ·simp[hab];omega
  ·cases h
 ·unfold q_min at h
  split at h
  ·rename_i k1 a k2 b hl
   obtain⟨us,e1,g1⟩:=H.evs (fun _ h=>h) hl
   obtain⟨u,xs,g2,g3,rfl⟩:=g1.uncons
   obtain⟨w,ys,g4,g5,rfl⟩:=g3.uncons
   have:=g5.unnil
   subst this
   have e1':evqs (evr F) args.toList=some [u,w]:=e1
   rw[g2.int,g4.int] at e1'
   simp only[V_q,e1']
   cases h
   refine k _ (.val ?_)
   simp only[VR]
   rw[cnd_eq,leI_eq]
   by_cases hab:a≤b
   ·simp[hab];omega
   ·simp[hab];omega
  ·cases h
 ·unfold q_cap at h
  split at h
  ·rename_i t id off n c ht hl
   split at h
   ·rename_i a b z e hE1
    cases h
    obtain⟨us,e1,g1⟩:=H.evs (fun _ h=>h) hl
    obtain⟨u,xs,g2,g3,rfl⟩:=g1.uncons
    have:=g3.unnil
    subst this
    obtain⟨a',ha,rfl⟩:=g2.sli
    have e1':evqs (evr F) args.toList=some [_]:=e1
    simp only[V_q,ht,e1',hE1]
    exact k _ (.val (by simp only[VR];rfl))
   ·cases h
  ·cases h
 ·unfold q_data at h
  split at h
  ·rename_i hl
   cases h
   obtain⟨us,e1,g1⟩:=H.evs (fun _ h=>h) hl
   obtain⟨u,xs,g2,g3,rfl⟩:=g1.uncons
   have:=g3.unnil
   subst this
   rw[g2.sln] at e1
   have e1':evqs (evr F) args.toList=some [_]:=e1
   simp only[V_q,e1']
   exact k _ (.val (by simp only[VR]))
  ·rename_i id off n c hl
   obtain⟨h0,h⟩:=cnd_none h
   cases h
   obtain⟨us,e1,g1⟩:=H.evs (fun _ h=>h) hl
   obtain⟨u,xs,g2,g3,rfl⟩:=g1.uncons
   have:=g3.unnil
   subst this
   obtain⟨a',ha,rfl⟩:=g2.sli
   have e1':evqs (evr F) args.toList=some [_]:=e1
   simp only[V_q,e1']
   refine⟨fun e=>?_,k _ (.val ?_)⟩
   ·have:c=0:=by omega
    subst this
    cases h0
   ·simp only[VR]
    exact⟨a',ha,rfl⟩
  ·rename_i id off e n hl
   obtain⟨h0,h⟩:=cnd_none h
   cases h
   obtain⟨us,e1,g1⟩:=H.evs (fun _ h=>h) hl
   obtain⟨u,xs,g2,g3,rfl⟩:=g1.uncons
   have:=g3.unnil
   subst this
   obtain⟨a',ha,hle,rfl⟩:=g2.slx
   have e1':evqs (evr F) args.toList=some [_]:=e1
   simp only[V_q,e1']
   refine⟨fun e'=>?_,k _ (.val ?_)⟩
   ·have:n=0:=by omega
    subst this
    cases h0
   ·simp only[VR]
    exact⟨a',ha,rfl⟩
  ·cases h
 ·cases h
theorem E_q_ok (hE:EOK X.P X.E) {op:Op} {v:EV} (h:E_q X.P X.E G m.t op fr=some v) (H:OR D F fr op.operands.toList) (hm:MS (RX X G pr) D m I M) (k:∀ x,SvE D x v→V x):V_q X op (evr F) C I M V O:=by
 unfold E_q at h
 split at h
 ·
  exact k _ (H _ (by simp[Op.operands]) _ h)
 ·exact k _ (H _ (by simp[Op.operands]) _ h)
 ·
  rename_i c a b
  unfold q_pick at h
  split at h
  ·rename_i q u w h1 h2 h3
   cases h
   have hc:=H c (by simp[Op.operands]) _ h1
   have ha:=H a (by simp[Op.operands]) _ h2
   have hb:=H b (by simp[Op.operands]) _ h3
   simp only[V_q]
   rcases hc with ⟨uc,ec,hc⟩ | ⟨q',e',ec⟩
   ·rw[hc.bool] at ec
    simp only[ec]
    obtain⟨ua,ea,ga⟩:=ha.evq
    obtain⟨ub,eb,gb⟩:=hb.evq
    have ea':evq (evr F) a=.val ua:=ea
    have eb':evq (evr F) b=.val ub:=eb
    rw[ea',eb']
    refine k _ (.inl ⟨bif q then ua else ub,?_,?_⟩)
    ·exact pickV_val q ua ub
    ·cases q
     ·exact gb
     ·exact ga
   ·cases e'
    simp only[ec]
    cases q
    ·exact k _ hb
    ·exact k _ ha
  ·cases h
 ·
  rename_i uop t x
  unfold q_un at h
  split at h
  ·rename_i b h1
   cases h
   have hx:=H x (by simp[Op.operands]) _ h1
   simp only[V_q]
   rcases hx with ⟨u,e,hu⟩ | ⟨q,e1,e⟩
   ·rw[hu.bool] at e
    simp only[e]
    exact k _ (.val (by simp only[VR];rw[cnd_not]))
   ·cases e1
    simp only[e]
    exact k _ (.inr ⟨!b,by rw[cnd_not],rfl⟩)
  ·rename_i kk n h1
   cases h
   have hx:=H x (by simp[Op.operands]) _ h1
   obtain⟨u,e,hu⟩:=hx.nb (by simp)
   rw[hu.int] at e
   simp only[V_q,e]
   exact⟨_,rfl,k _ (.val (by simp only[VR];rw[wrapE_eq]))⟩
  ·cases h
 ·
  rename_i bop t x y t'
  unfold q_bin at h
  obtain⟨a,h1,h⟩:=opn_eq h
  obtain⟨b,h2,h⟩:=opn_eq h
  obtain⟨u,e1,g1⟩:=H.ev (x:=x) (by simp[Op.operands]) h1
  obtain⟨w,e2,g2⟩:=H.ev (x:=y) (by simp[Op.operands]) h2
  have e1':evq (evr F) x=.val u:=e1
  have e2':evq (evr F) y=.val w:=e2
  simp only[V_q,e1',e2']
  exact E_bin_ok hE h g1 g2 fun r hr=>k _ (.val hr)
 ·
  rename_i t x
  unfold q_load at h
  obtain⟨i,hi,h⟩:=opn_eq h
  obtain⟨a,h1,h⟩:=opn_eq h
  have hx:=H x (by simp[Op.operands]) _ h1
  have hnb:∀ q,a≠.b q:=fun q e=>by subst e;cases h
  obtain⟨u,e1,g1⟩:=hx.nb hnb
  obtain⟨ad,l,vs,rfl,hrd,hl,hp⟩:=loadE_ok hm g1 h
  simp only[V_q,hi,e1]
  exact⟨vs,hrd,k _ (.val (packE_ok hp hl))⟩
 ·
  rename_i x
  unfold q_nil at h
  split at h
  ·rename_i id off h1
   cases h
   obtain⟨u,e1,g1⟩:=(H x (by simp[Op.operands]) _ h1).nb (by simp)
   obtain⟨a,ha,rfl⟩:=g1.ptr
   simp only[V_q,e1]
   exact k _ (.val g1)
  ·rename_i id off h1
   cases h
   obtain⟨u,e1,g1⟩:=(H x (by simp[Op.operands]) _ h1).nb (by simp)
   have:=g1.glo
   subst this
   simp only[V_q,e1]
   exact k _ (.val g1)
  ·cases h
 ·
  rename_i t x i
  unfold q_faddr at h
  obtain⟨r,hr,h⟩:=opn_eq h
  obtain⟨a,h1,h⟩:=opn_eq h
  obtain⟨off,fi⟩:=r
  obtain⟨hz,h⟩:=cnd_none h
  obtain⟨sa,sb,sz,fs,ft,ht,hf,hft⟩:=offOf_ok hr
  have hx:=H x (by simp[Op.operands]) _ h1
  have hnb:∀ q,a≠.b q:=fun q e=>by subst e;cases h
  obtain⟨u,e1,g1⟩:=hx.nb hnb
  obtain⟨ad,rfl,hs,hv⟩:=addE_ok h g1
  have hz':Nat.beq fi.size 0=false:=hz
  simp only[V_q,ht,hf,hft,e1,hz',cond_false]
  exact k _ (.val hv)
 ·
  rename_i t x i
  unfold q_field at h
  split at h
  ·rename_i off fi cs h0 h1
   obtain⟨sa,sb,sz,fs,ft,ht,hf,hft⟩:=offOf_ok h0
   obtain⟨u,e1,g1⟩:=H.ev (x:=x) (by simp[Op.operands]) h1
   obtain⟨us,hus,rfl⟩:=g1.agg
   obtain⟨h2,h3⟩:=q_part_ok h hus
   have e1':evq (evr F) x=.val (.agg us.toArray):=e1
   simp only[V_q,ht,e1',hf,hft]
   rw[show Nat.ble (off+fi.size) us.toArray.size=true from Nat.ble_eq_true_of_le (by simpa using h2)]
   exact k _ (.val h3)
  ·cases h
 ·
  rename_i t x i
  unfold q_iaddr at h
  obtain⟨r,hr,h⟩:=opn_eq h
  obtain⟨a,h1,h⟩:=opn_eq h
  obtain⟨b,h2,h⟩:=opn_eq h
  obtain⟨j,hj,h⟩:=opn_eq h
  obtain⟨kk,rfl⟩:=natE hj
  obtain⟨u,e2,g2⟩:=H.ev (x:=i) (by simp[Op.operands]) h2
  rw[g2.int] at e2
  have e2':evq (evr F) i=.val (.int kk (.ofNat j)):=e2
  obtain⟨rn,ei⟩:=r
  rcases elOf_ok hr with ⟨sa,sb,sz,e,ht,he,rfl⟩ | ⟨sa,sb,sz,n,e,ht,he,rfl⟩
  ·have h':elemE a j ei.size=some v:=h
   obtain⟨w,e1,g1⟩:=H.ev (x:=x) (by simp[Op.operands]) h1
   obtain⟨ad,n,c,rfl,hlt,hv⟩:=elemE_ok h' g1
   have e1':evq (evr F) x=.val (.slice (some ad) n c):=e1
   simp only[V_q,ht,e2',he,e1']
   exact⟨ad,j,rfl,rfl,hlt,k _ (.val hv)⟩
  ·have h':cnd (Nat.blt j n) (addE a (Nat.mul j ei.size)) none=some v:=h
   obtain⟨hb,h'⟩:=cnd_some h'
   have hx:=H x (by simp[Op.operands]) _ h1
   have hnb:∀ q,a≠.b q:=fun q e=>by subst e;cases h'
   obtain⟨w,e1,g1⟩:=hx.nb hnb
   obtain⟨ad,rfl,hs,hv⟩:=addE_ok h' g1
   simp only[V_q,ht,e2',he,e1]
   exact⟨j,rfl,Nat.le_of_ble_eq_true hb,k _ (.val hv)⟩
 ·
  rename_i t x i
  cases h1:rdO fr x with
  | none=>rw[h1] at h;unfold q_index at h;split at h<;>first | cases h | (rename_i e _;cases e)
  | some a=>
   cases h2:rdO fr i with
   | none=>rw[h2] at h;unfold q_index at h;split at h<;>first | cases h | (rename_i e;cases e)
   | some b=>
    rw[h1,h2] at h
    obtain⟨u,e1,g1⟩:=H.ev (x:=x) (by simp[Op.operands]) h1
    obtain⟨w,e2,g2⟩:=H.ev (x:=i) (by simp[Op.operands]) h2
    exact q_index_ok h g1 g2 e1 e2 k
 ·
  rename_i t parts
  unfold q_build at h
  split at h
  ·rename_i i vs ht hp
   obtain⟨z,hz,h⟩:=opn_eq h
   have hz':=VRs.ofL (D:=D) hz
   obtain⟨us,e1,g1⟩:=H.parts (l:=parts.toList) (by intro y hy;simpa[Op.operands] using hy) hp
   have e1':evqParts (evr F) parts.toList=some us:=e1
   try simp only at h
   split at h
   ·rename_i fs hsh
    obtain⟨hpl,h⟩:=cnd_some h
    unfold aO at h
    obtain⟨cs,h3,h4⟩:=opn_eq h
    have h9:some (EV.a cs)=some v:=h4
    cases h9
    obtain⟨rs,h5,h6⟩:=fillE_ok h3 hz' g1
    simp only[V_q,ht,e1',hsh,hpl,cond_true,h5]
    exact k _ (.val (.mkAgg h6))
   ·rename_i n e hsh
    obtain⟨ei,he,h⟩:=opn_eq h
    have h':aO (fillE (fun j=>some (j * ei.size,ei.size)) z vs)=some v:=h
    unfold aO at h'
    obtain⟨cs,h3,h4⟩:=opn_eq h'
    have h9:some (EV.a cs)=some v:=h4
    cases h9
    obtain⟨rs,h5,h6⟩:=fillE_ok h3 hz' g1
    simp only[V_q,ht,e1',hsh,he,h5]
    exact k _ (.val (.mkAgg h6))
   ·cases h
  ·cases h
 ·
  rename_i f first captured
  unfold q_fun at h
  split at h
  ·rename_i g fs cs h1 h2
   cases h
   obtain⟨us,e1,g1⟩:=H.evs (l:=first.toList) (by intro y hy;simp[Op.operands];exact .inl (by simpa using hy)) h1
   obtain⟨ws,e2,g2⟩:=H.evs (l:=captured.toList) (by intro y hy;simp[Op.operands];exact .inr (by simpa using hy)) h2
   have e1':evqs (evr F) first.toList=some us:=e1
   have e2':evqs (evr F) captured.toList=some ws:=e2
   simp only[V_q,e1',e2']
   exact k _ (.val (by simp only[VR];exact⟨us,ws,g1,g2,rfl⟩))
  ·cases h
 ·
  rename_i t x lo hi
  cases h1:rdO fr x with
  | none=>rw[h1] at h;unfold q_slice at h;split at h<;>first | cases h | (rename_i e _ _;cases e)
  | some a=>
   rw[h1] at h
   cases h2:optN (lo.map (rdO fr)) with
   | none=>rw[h2] at h;unfold q_slice at h;split at h<;>first | cases h | (rename_i e _;cases e)
   | some l=>
    rw[h2] at h
    cases h3:optN (hi.map (rdO fr)) with
    | none=>rw[h3] at h;unfold q_slice at h;split at h<;>first | cases h | (rename_i e;cases e)
    | some hh=>
     rw[h3] at h
     obtain⟨u,e1,g1⟩:=H.ev (x:=x) (by simp[Op.operands]) h1
     have e1':evq (evr F) x=.val u:=e1
     have hlo:=optN_ok H (fun y hy=>by subst hy;simp[Op.operands]) h2
     have hhi:=optN_ok H (fun y hy=>by subst hy;simp[Op.operands]) h3
     unfold q_slice at h
     split at h
     ·rename_i sa sb sz e x' lo' hi' ht e3 e4 e5
      cases e3
      cases e4
      cases e5
      obtain⟨ei,he,h⟩:=opn_eq h
      have h':q_cut ei a l hh=some v:=h
      unfold q_cut at h'
      split at h'
      ·have el:lo.map (evq (evr F))=none:=by
        rcases hlo with ⟨el,_⟩ | ⟨_,_,_,el⟩
        ·exact el
        ·cases el
       have eh:hi.map (evq (evr F))=none:=by
        rcases hhi with ⟨eh,_⟩ | ⟨_,_,_,eh⟩
        ·exact eh
        ·cases eh
       have hsl:∃ q n c,u=.slice q n c∧VR D v u:=by
        split at h'
        ·cases h';exact⟨_,_,_,g1.sln,g1⟩
        ·cases h';obtain⟨q,_,rfl⟩:=g1.sli;exact⟨_,_,_,rfl,g1⟩
        ·cases h';obtain⟨q,_,_,rfl⟩:=g1.slx;exact⟨_,_,_,rfl,g1⟩
        ·cases h';obtain⟨q,c,rfl⟩:=g1.slo;exact⟨_,_,_,rfl,g1⟩
        ·cases h'
       obtain⟨q,n,c,rfl,hv⟩:=hsl
       simp only[V_q,ht,e1',he,el,eh]
       exact k _ (.val hv)
      ·obtain⟨q,n,c,rfl,c1,c2,c3,hv⟩:=subE_ok h' g1
       simp only[V_q,ht,e1',he]
       rcases hlo with ⟨el,rfl⟩ | ⟨kl,nl,el,rfl⟩<;>rcases hhi with ⟨eh,rfl⟩ | ⟨kh,nh,eh,rfl⟩<;>simp only[el,eh]
       ·rename_i hne
        exact(hne rfl rfl).elim
       ·simp only[Option.getD_none,Option.getD_some] at c1 c2 hv
        refine⟨0,nh,rfl,rfl,Nat.zero_le _,c2,k _ (.val ?_)⟩
        simp only[Nat.zero_mul,Nat.sub_zero] at hv
        have e0:(if c=0 then q else q.map fun x=>x.add 0)=q:=by
         split
         ·rfl
         ·cases q with
          | none=>rfl
          | some q=>simp[Addr.add]
        rw[e0] at hv
        exact hv
       ·simp only[Option.getD_none,Option.getD_some] at c1 c2 hv
        exact⟨nl,n,rfl,rfl,c1,Nat.le_refl _,k _ (.val hv)⟩
       ·simp only[Option.getD_none,Option.getD_some] at c1 c2 hv
        exact⟨nl,nh,rfl,rfl,c1,c2,k _ (.val hv)⟩
     ·rename_i sa sb sz str lo' hi' ht e3 e4 e5
      cases e3
      cases e4
      cases e5
      rw[g1.str] at e1'
      have h':q_scut str l hh=some v:=h
      unfold q_scut at h'
      split at h'
      ·have el:lo.map (evq (evr F))=none:=by
        rcases hlo with ⟨el,_⟩ | ⟨_,_,_,el⟩
        ·exact el
        ·cases el
       have eh:hi.map (evq (evr F))=none:=by
        rcases hhi with ⟨eh,_⟩ | ⟨_,_,_,eh⟩
        ·exact eh
        ·cases eh
       cases h'
       simp only[V_q,ht,e1',el,eh]
       exact k _ (.val (by simp only[VR]))
      ·obtain⟨hb,h'⟩:=cnd_some h'
       cases h'
       rw[Bool.and_eq_true] at hb
       have b1:=Nat.le_of_ble_eq_true hb.1
       have b2:=Nat.le_of_ble_eq_true hb.2
       have hsz:(⟨str.toArray⟩:ByteArray).size=str.length:=by simp[ByteArray.size]
       simp only[V_q,ht,e1']
       rcases hlo with ⟨el,rfl⟩ | ⟨kl,nl,el,rfl⟩<;>rcases hhi with ⟨eh,rfl⟩ | ⟨kh,nh,eh,rfl⟩<;>simp only[el,eh]
       ·rename_i hne
        exact(hne rfl rfl).elim
       ·simp only[Option.getD_none,Option.getD_some] at b1 b2
        exact⟨0,nh,rfl,rfl,Nat.zero_le _,by rw[hsz];exact b2,k _ (.val (by simp only[VR,Option.getD_none,Option.getD_some,partS_eq]))⟩
       ·simp only[Option.getD_none,Option.getD_some] at b1 b2
        exact⟨nl,str.length,rfl,by rw[hsz];rfl,b1,by rw[hsz];exact Nat.le_refl _,k _ (.val (by simp only[VR,Option.getD_none,Option.getD_some,partS_eq,hsz]))⟩
       ·simp only[Option.getD_none,Option.getD_some] at b1 b2
        exact⟨nl,nh,rfl,rfl,b1,by rw[hsz];exact b2,k _ (.val (by simp only[VR,Option.getD_none,Option.getD_some,partS_eq]))⟩
     ·cases h
 ·
  rename_i x i
  unfold q_ext at h
  split at h
  ·rename_i vs h1
   obtain⟨u,e1,g1⟩:=H.ev (x:=x) (by simp[Op.operands]) h1
   obtain⟨us,hus,rfl⟩:=g1.tup
   rw[nthE_eq] at h
   obtain⟨w,hw,hv⟩:=hus.get h
   have e1':evq (evr F) x=.val (.tuple us.toArray):=e1
   simp only[V_q,e1',hw]
   exact k _ (.val hv)
  ·cases h
 ·
  rename_i s d x
  unfold q_conv at h
  split at h
  ·rename_i kk k1 n hs hd h1
   cases h
   obtain⟨u,e1,g1⟩:=H.ev (x:=x) (by simp[Op.operands]) h1
   rw[g1.int] at e1
   have e1':evq (evr F) x=.val (.int k1 n):=e1
   simp only[V_q,hs,hd,e1']
   exact⟨_,rfl,k _ (.val (by simp only[VR];rw[wrapE_eq]))⟩
  ·cases h
 ·
  rename_i b args ts
  exact q_call_ok hE h (by simpa[Op.operands,Call.operands] using H) k
 ·cases h
end
def Nm.set (D:Nm) (id:Nat) (a:Loc):Nm:=fun i=>if i=id then some a else D i
theorem Nm.set_self (D:Nm) (id:Nat) (a:Loc):(D.set id a) id=some a:=by simp[Nm.set]
theorem Nm.le_refl (D:Nm):D.le D:=fun _ _ h=>h
theorem Nm.le_trans {D D' D'':Nm} (h:D.le D') (k:D'.le D''):D.le D'':=fun i a e=>k _ _ (h _ _ e)
theorem Nm.le_set {D:Nm} {id:Nat} (a:Loc) (h:D id=none):D.le (D.set id a):=fun i b hb=>by
 unfold Nm.set
 split
 ·rename_i e;subst e;rw[h] at hb;cases hb
 ·exact hb
def Nm.ext (D D':Nm) (n:Nat):Prop:=∀ i,i < n→D' i=D i
theorem Nm.ext_refl {D:Nm} {n:Nat}:D.ext D n:=fun _ _=>rfl
theorem Nm.ext_set {D:Nm} {n:Nat} {a:Loc}:D.ext (D.set n a) n:=fun i hi=>by
 unfold Nm.set
 rw[if_neg (by omega)]
section
variable {Y:RK} {D D':Nm} {m:Me} {I I':GH} {M M':List Blk} {R:Type}
theorem GI.mono {G:GT} (h:GI G I) (hI:∀ b o,I b=some o→I' b=some o):GI G I':=fun g cs hg=>by
 obtain⟨arr,T,f,h1,h2⟩:=h g cs hg
 exact⟨arr,T,f,hI _ _ h1,h2⟩
theorem MS.le (h:MS Y D m I M) (hD:D.ext D' m.n):D.le D':=fun i a ha=>by rw[hD i (h.dom _ _ ha)];exact ha
theorem MS.step (h:MS Y D m I M) {t':Tri Ent} {n' j:Nat} {e0:Ent} {a:Loc} (ht:∀ id e,t'.get id=some e→(id=j∧e0=e)∨(id≠j∧m.t.get id=some e)) (hj:D' j=some a) (hle:D.le D') (hD:∀ i,i≠j→D' i=D i)
  (hdom:∀ id a,D' id=some a→id < n') (hI:∀ b o,I b=some o→I' b=some o) (keep:∀ id e a',id≠j→m.t.get id=some e→D id=some a'→∀ x∈M,x.num=a'.b→x∈M')
  (he:EntR D' Y.E M' a e0) (hinj:∀ id e a',id≠j→m.t.get id=some e→D id=some a'→a'.b≠a.b):MS Y D' ⟨t',n'⟩ I' M' where
 ent id e a1 hg h1:=by
  rcases ht id e hg with ⟨e1,e2⟩ | ⟨hne,hg⟩
  ·subst e1
   subst e2
   rw[hj] at h1
   cases h1
   exact he
  ·rw[hD id hne] at h1
   exact(h.ent id e a1 hg h1).mono hle fun x hx hn=>keep id e a1 hne hg h1 x hx hn
 inj id id' e e' a1 a2 hg hg' h1 h2 hb:=by
  rcases ht id e hg with ⟨e1,e2⟩ | ⟨hne,hg⟩
  ·rcases ht id' e' hg' with ⟨e3,e4⟩ | ⟨hne',hg'⟩
   ·rw[e1,e3]
   ·rw[hD id' hne'] at h2
    subst e1
    rw[hj] at h1
    cases h1
    exact(hinj id' e' a2 hne' hg' h2 hb.symm).elim
  ·rw[hD id hne] at h1
   rcases ht id' e' hg' with ⟨e3,e4⟩ | ⟨hne',hg'⟩
   ·subst e3
    rw[hj] at h2
    cases h2
    exact(hinj id e a1 hne hg h1 hb).elim
   ·rw[hD id' hne'] at h2
    exact h.inj id id' e e' a1 a2 hg hg' h1 h2 hb
 dom:=hdom
 glo:=h.glo.mono hI
theorem MS.fresh (h:MS Y D m I M):D m.n=none:=by
 cases hD:D m.n with
 | none=>rfl
 | some a=>exact absurd (h.dom _ _ hD) (Nat.lt_irrefl _)
theorem MS.blk (h:MS Y D m I M) {id:Nat} {e:Ent} {a:Loc} (hg:m.t.get id=some e) (ha:D id=some a):∃ x∈M,x.num=a.b:=by
 cases h.ent id e a hg ha with
 | cells arr h0 h1=>exact⟨_,h1,rfl⟩
 | map l c h1=>exact⟨_,h1,rfl⟩
 | loop L h1=>exact⟨_,h1,rfl⟩
 | done L h1=>exact⟨_,h1,rfl⟩
theorem MS.new (h:MS Y D m I M) {t':Tri Ent} {e0:Ent} {a:Loc} {o:Obj} (ht:∀ id e,t'.get id=some e→(id=m.n∧some e0=some e)∨(id≠m.n∧m.t.get id=some e)) (hf:∀ x∈M,x.num≠a.b)
  (he:EntR (D.set m.n a) Y.E (⟨a.b,o⟩::M) a e0):MS Y (D.set m.n a) ⟨t',m.n+1⟩ I (⟨a.b,o⟩::M):=
 h.step (fun id e hg=>(ht id e hg).imp (fun h=>⟨h.1,some_inj' h.2⟩) fun h=>h) (D.set_self _ _) (Nm.le_set a h.fresh) (fun i hi=>by unfold Nm.set;rw[if_neg hi])
  (fun id b hb=>by
   unfold Nm.set at hb
   split at hb
   ·omega
   ·have:=h.dom _ _ hb;omega)
  (fun _ _ h=>h) (fun _ _ _ _ _ _ x hx _=>List.mem_cons_of_mem _ hx) he
  (fun id e a' _ hg ha' hb=>by
   obtain⟨x,hx,hn⟩:=h.blk hg ha'
   exact hf x hx (hn.trans hb))
theorem EntR.new {l:List EV} {vs cur:List Value} {T c:Nat} {b:Nat} {cs:Tri EV} (hcs:∀ j x,cs.get j=some x→(0≤j∧l[j - 0]?=some x)∨((j < 0∨0+l.length≤j)∧(Tri.nil:Tri EV).get j=some x)) (hl:VRs D l vs)
  (hk:∀ i,Y.E T=some i→(vs++cur).length=c * i.size) (hc:c≤maxLen):EntR D Y.E (⟨b,.cells (vs++cur).toArray T (0,0)⟩::M) ⟨b,0,c⟩ (.cells cs T l.length):=by
 refine .cells (vs++cur).toArray rfl (by simp) (by simp[hl.len]) (fun i v hi hg=>?_) (fun i hi=>by simpa using hk i hi) hc
 rcases hcs i v hg with ⟨_,h1⟩ | ⟨_,h1⟩
 ·obtain⟨x,h2,h3⟩:=hl.get (i:=i) (by simpa using h1)
  have hlt:=(List.getElem?_eq_some_iff.1 h2).1
  exact⟨x,by simp only[Nat.zero_add,List.getElem?_toArray];rw[List.getElem?_append_left hlt];exact h2,h3⟩
 ·cases h1
theorem newE_ok {e:Ent} {K:Nat→Me→Option R} {r:R} (h:newE m e K=some r):∃ t',(∀ id e',t'.get id=some e'→(id=m.n∧some e=some e')∨(id≠m.n∧m.t.get id=some e'))∧K m.n ⟨t',m.n+1⟩=some r:=by
 unfold newE at h
 rw[forceN_eq] at h
 obtain⟨t',h1,h2⟩:=Tri.set_ok (some e) m.t m.n
 rw[h1] at h
 exact⟨t',h2,h⟩
theorem newC_ok {l:List EV} {T:Nat} {K:Nat→Me→Option R} {r:R} (h:newC m l T K=some r):∃ m',K m.n m'=some r∧m'.n=m.n+1 ∧
  ∀ {D:Nm} {I:GH} {M:List Blk} {vs:List Value} (cur:List Value) {b c:Nat},MS Y D m I M→(∀ x∈M,x.num≠b)→VRs D l vs→(∀ i,Y.E T=some i→(vs++cur).length=c * i.size)→c≤maxLen →
   MS Y (D.set m.n ⟨b,0,c⟩) m' I (⟨b,.cells (vs++cur).toArray T (0,0)⟩::M):=by
 unfold newC at h
 obtain⟨cs,h1,h2⟩:=Tri.puts_ok l (.nil:Tri EV) 0
 rw[h1] at h
 obtain⟨t',h3,h4⟩:=newE_ok h
 refine⟨_,h4,rfl,fun {D I M vs} cur {b c} hm hf hl hk hc=>?_⟩
 exact hm.new (a:=⟨b,0,c⟩) h3 hf (.new h2 (hl.mono (Nm.le_set _ hm.fresh)) hk hc)
end
theorem rowOf_add (z:List Value) (n:Nat):rowOf z (z.length+n)=rowOf z z.length++rowOf z n:=by
 unfold rowOf
 rw[List.range_add,List.map_append,List.map_map]
 congr 1
 apply List.map_congr_left
 intro i _
 simp[Nat.add_mod_left]
theorem rowOf_oneK (z:List Value):rowOf z z.length=z:=by
 unfold rowOf
 apply List.ext_getElem
 ·simp
 ·intro i h1 h2
  simp only[List.getElem_map,List.getElem_range,Nat.mod_eq_of_lt h2]
  simp[h2]
theorem rowOf_rep (z:List Value):∀ n,rowOf z (n * z.length)=(List.replicate n z).flatten
 | 0=>by simp[rowOf]
 | n+1=>by
  rw[Nat.succ_mul,Nat.add_comm,rowOf_add,rowOf_oneK,rowOf_rep z n,List.replicate_succ,List.flatten_cons]
theorem fillL_len (place:Nat→Option (Nat×Nat)):∀ (vs:List (Nat×Value)) (cs r:List Value),fillL place cs vs=some r→r.length=cs.length
 | [],cs,r,h=>by simp only[fillL] at h;cases h;rfl
 |(i,v)::vs,cs,r,h=>by
  simp only[fillL] at h
  split at h
  ·cases h
  ·rename_i off size hp
   cases hb:(Nat.beq v.cells.size size && Nat.ble (off+size) cs.length) with
   | false=>rw[hb] at h;cases h
   | true=>
    rw[hb] at h
    simp only[cond_true] at h
    rw[fillL_len place vs _ _ h]
    rw[Bool.and_eq_true] at hb
    have h1:=Nat.eq_of_beq_eq_true hb.1
    have h2:=Nat.le_of_ble_eq_true hb.2
    simp[splice]
    omega
def PF (dst:Option Nat) (u:Value) (F F':Fr):Prop:=(∀ d,dst=some d→F' d=.val u)∧∀ (D:Nm) t v,dst≠some t→SvE D (F t) v→SvE D (F' t) v
theorem PF.put (dst:Option Nat) (u:Value) (F:Fr):PF dst u F (put dst (.val u) F):=by
 constructor
 ·rintro d rfl
  simp[Go.V.put,upd]
 ·intro D t v hne h
  cases dst with
  | none=>exact h
  | some d=>
   have:t≠d:=fun e=>hne (by rw[e])
   simp only[Go.V.put,upd,beq_ne this,cond_false]
   exact h
theorem PF.clr (d:Nat) (u:Value) (F:Fr):PF (some d) u F (upd (clr F d) d (.val u)):=by
 constructor
 ·rintro _ ⟨⟩
  simp[upd]
 ·intro D t v hne h
  have:t≠d:=fun e=>hne (by rw[e])
  simp only[upd,beq_ne this,cond_false]
  unfold Go.V.clr
  rcases h with ⟨u',e,h⟩ | ⟨q,e,h⟩
  ·rw[e];exact .inl ⟨u',rfl,h⟩
  ·rw[h];exact .inr ⟨q,e,rfl⟩
section
variable {X:Ctx} {G:GT} {pr:PR} {D:Nm} {m:Me} {F:Fr} {fr:Tri EV} {C:Bx} {I:GH} {M:List Blk} {K:KS} {o:Oper}
theorem E_a_ok (hE:EOK X.P X.E) (hesc:∀ d,d < X.n→X.esc.contains d=true) (hd:∀ d,o.dst=some d→d < X.n) {l:List EV} {T c:Nat} {mk:Nat→EV} (h:E_a X.E o fr=some (l,T,c,mk)) (hdst:o.dst.isSome=true) (H:OR D F fr o.op.operands.toList)
  (k:∀ b vs u F' C',I b=none→(∀ x∈M,x.num≠b)→VRs D l vs→(∀ i,X.E T=some i→vs.length=c * i.size)→c≤maxLen→(∀ (D':Nm) id,D' id=some ⟨b,0,c⟩→VR D' (mk id) u)→PF o.dst u F F' →
   K F' C' I (⟨b,.cells vs.toArray T (0,0)⟩::M)):V_op X o F C I M K:=by
 obtain⟨dst,op,ty,pos,after,guard⟩:=o
 cases dst with
 | none=>cases hdst
 | some d=>
  have hed:X.esc.contains d=true:=hesc d (hd d rfl)
  have ptr0:∀ (b c:Nat) (D':Nm) id,D' id=some ⟨b,0,c⟩→VR D' (.p id 0) (.pointer (some ⟨b,0,none⟩)):=fun b c D' id hid=>by
   simp only[VR]
   exact⟨_,hid,rfl⟩
  unfold E_a at h
  simp only at h H
  split at h
  ·rename_i t x
   unfold a_box at h
   obtain⟨i,hi,h⟩:=opn_eq h
   obtain⟨v,hv,h⟩:=opn_eq h
   obtain⟨hb,h⟩:=cnd_some h
   cases h
   obtain⟨u,e1,g1⟩:=H.ev (x:=x) (by simp[Op.operands]) hv
   have hc:=g1.cells
   simp only[V_op,e1,hed,cond_true]
   refine⟨fun b h1 h2=>?_⟩
   have:=k b u.cells.toList (.pointer (some ⟨b,0,none⟩)) _ (updB C d none) h1 h2 hc (fun i' hi'=>?_) (by decide) (ptr0 b 1) (.clr d _ F)
   ·simpa using this
   ·rw[hi] at hi'
    cases hi'
    rw[hc.len,Nat.one_mul]
    exact Nat.eq_of_beq_eq_true hb
  ·rename_i t
   unfold a_alloc at h
   obtain⟨i,hi,h⟩:=opn_eq h
   obtain⟨z,hz,h⟩:=opn_eq h
   cases h
   simp only[V_op,hi,hed,cond_true]
   refine⟨fun b h1 h2=>?_⟩
   exact k b i.zero (.pointer (some ⟨b,0,none⟩)) _ (updB C d none) h1 h2 (.ofL hz) (fun i' hi'=>by
    rw[hi] at hi'
    cases hi'
    rw[(hE _ _ hi).len,Nat.one_mul]) (by decide) (ptr0 b 1) (.clr d _ F)
  ·rename_i t len parts
   unfold a_row at h
   split at h
   ·rename_i sa sb sz e vs ht hp
    obtain⟨ei,he,h⟩:=opn_eq h
    obtain⟨z,hz,h⟩:=opn_eq h
    obtain⟨us,e1,g1⟩:=H.parts (l:=parts.toList) (by intro y hy;simpa[Op.operands] using hy) hp
    simp only[V_op,ht,e1,he]
    have hzl:=(hE _ _ he).len
    cases hb:(Nat.ble (len * ei.size) 16777216 && Nat.blt 0 (len * ei.size)) with
    | true=>
     have hb':(Nat.ble (Nat.mul len ei.size) 16777216 && Nat.blt 0 (Nat.mul len ei.size))=true:=hb
     rw[cnd_eq,hb'] at h
     simp only[cond_true] at h ⊢
     obtain⟨cs,h3,h4⟩:=opn_eq h
     have h9:some (cs,e,len,fun id=>EV.sl id 0 len len)=some (l,T,c,mk):=h4
     cases h9
     have hrep:VRs D (repE c z) (rowOf ei.zero (c * ei.size)):=by
      rw[←hzl,rowOf_rep]
      exact(VRs.ofL hz).rep c
     obtain⟨rs,h5,h6⟩:=fillE_ok h3 hrep g1
     rw[h5]
     refine⟨fun b h1 h2=>?_⟩
     have hlen:rs.length=c * ei.size:=by
      rw[fillL_len _ _ _ _ h5]
      simp[rowOf]
     rw[Bool.and_eq_true] at hb
     have hb1:=Nat.le_of_ble_eq_true hb.1
     have hb2:0 < c * ei.size:=Nat.le_of_ble_eq_true hb.2
     exact k b rs (.slice (some ⟨b,0,none⟩) c c) _ C h1 h2 h6 (fun i' hi'=>by rw[he] at hi';cases hi';exact hlen)
      (by
       have h7:0 < ei.size:=Nat.pos_of_mul_pos_left hb2
       have:c≤c * ei.size:=Nat.le_mul_of_pos_right _ h7
       simp only[maxLen]
       omega)
      (fun D' id hid=>by simp only[VR];exact⟨_,hid,rfl⟩) (.put _ _ F)
    | false=>
     have hb':(Nat.ble (Nat.mul len ei.size) 16777216 && Nat.blt 0 (Nat.mul len ei.size))=false:=hb
     rw[cnd_eq,hb'] at h
     simp only[cond_false] at h ⊢
     obtain⟨hc,h⟩:=cnd_some h
     cases h
     rw[Bool.and_eq_true] at hc
     have h3:=Nat.eq_of_beq_eq_true hc.1
     subst h3
     have h4:vs=[]:=by simpa using hc.2
     subst h4
     cases g1
     simp only
     refine⟨fun b h1 h2=>?_⟩
     exact k b [] (.slice (some ⟨b,0,none⟩) 0 0) _ C h1 h2 .nil (fun i' hi'=>by simp) (by decide) (fun D' id hid=>by simp only[VR];exact⟨_,hid,rfl⟩) (.put _ _ F)
   ·cases h
  ·rename_i t l' c'
   unfold a_make at h
   split at h
   ·rename_i sa sb sz e lv cv ht h1 h2
    obtain⟨ei,he,h⟩:=opn_eq h
    obtain⟨n,hn,h⟩:=opn_eq h
    obtain⟨q,hq,h⟩:=opn_eq h
    obtain⟨z,hz,h⟩:=opn_eq h
    obtain⟨hb,h⟩:=cnd_some h
    cases h
    obtain⟨k1,rfl⟩:=natE hn
    obtain⟨k2,rfl⟩:=natE hq
    obtain⟨u1,e1,g1⟩:=H.ev (x:=l') (by simp[Op.operands]) h1
    obtain⟨u2,e2,g2⟩:=H.ev (x:=c') (by simp[Op.operands]) h2
    rw[g1.int] at e1
    rw[g2.int] at e2
    simp only[Bool.and_eq_true] at hb
    simp only[V_op,ht,e1,e2,he]
    refine⟨n,c,rfl,rfl,Nat.le_of_ble_eq_true hb.1,Nat.le_of_ble_eq_true hb.2.1,Nat.le_of_ble_eq_true hb.2.2,⟨fun b h3 h4=>?_⟩⟩
    have hzl:=(hE _ _ he).len
    have hrep:VRs D (repE c z) (rowOf ei.zero (c * ei.size)):=by
     rw[←hzl,rowOf_rep]
     exact(VRs.ofL hz).rep c
    exact k b _ (.slice (some ⟨b,0,none⟩) n c) _ C h3 h4 hrep (fun i' hi'=>by rw[he] at hi';cases hi';simp[rowOf]) (Nat.le_of_ble_eq_true hb.2.2) (fun D' id hid=>by simp only[VR];exact⟨_,hid,rfl⟩) (.put _ _ F)
   ·cases h
  ·cases h
end
theorem splice_get {cs vs:List Value} {off i:Nat} (h:off+vs.length≤cs.length):(splice cs off vs)[i]?=if off≤i∧i < off+vs.length then vs[i - off]? else cs[i]?:=by
 unfold splice
 by_cases h1:i < off
 ·rw[if_neg (by omega),List.getElem?_append_left (by simp;omega),List.getElem?_append_left (by simp;omega),List.getElem?_take,if_pos h1]
 ·by_cases h2:i < off+vs.length
  ·rw[if_pos ⟨by omega,h2⟩,List.getElem?_append_left (by simp;omega),List.getElem?_append_right (by simp;omega)]
   simp
   congr 1
   omega
  ·rw[if_neg (by omega),List.getElem?_append_right (by simp;omega),List.getElem?_drop]
   congr 1
   simp
   omega
theorem splice_len {cs vs:List Value} {off:Nat} (h:off+vs.length≤cs.length):(splice cs off vs).length=cs.length:=by
 simp[splice];omega
section
variable {Y:RK} {D:Nm} {m:Me} {I:GH} {M:List Blk} {R:Type}
theorem storeE_ok {x:EV} {l:List EV} {K:Me→Option R} {r:R} (h:storeE m x l K=some r):∃ m',K m'=some r∧m'.n=m.n∧(∀ id,m'.t.get id≠none→m.t.get id≠none∨True) ∧
  ∀ {D:Nm} {I:GH} {M:List Blk} {u:Value} {vs:List Value},MS Y D m I M→VR D x u→VRs D l vs →
   ∃ (g off:Nat) (pre post:List Blk) (arr:Array Value) (T:Nat),u=.pointer (some ⟨g,off,none⟩)∧M=pre++⟨g,.cells arr T (0,0)⟩::post∧off+vs.length≤arr.size∧allOne vs=true ∧
    (∃ id e a,m.t.get id=some e∧D id=some a∧a.b=g) ∧
    MS Y D m' I (pre++⟨g,.cells (splice arr.toList off vs).toArray T (0,0)⟩::post):=by
 unfold storeE at h
 split at h
 ·rename_i id off
  split at h
  ·rename_i cs T lim hg
   cases hb:(Nat.ble (Nat.add off l.length) lim && l.all EV.one) with
   | false=>rw[hb] at h;cases h
   | true=>
    rw[hb] at h
    simp only[cond_true] at h
    rw[Bool.and_eq_true] at hb
    have hlim:off+l.length≤lim:=Nat.le_of_ble_eq_true hb.1
    obtain⟨cs',h1,h2⟩:=Tri.puts_ok l cs off
    rw[h1] at h
    obtain⟨t',h3,h4⟩:=Tri.set_ok (some (Ent.cells cs' T lim)) m.t id
    rw[h3] at h
    refine⟨_,h,rfl,fun _ _=>.inr trivial,fun {D I M u vs} hm hx hl=>?_⟩
    obtain⟨a,ha,rfl⟩:=hx.ptr
    have he:=hm.ent _ _ _ hg ha
    obtain⟨arr,ho,hM,hsz,hc,hk,hmx⟩:=he
    have hlen:=hl.len
    obtain⟨pre,post,hsp⟩:=List.append_of_mem hM
    have hfit:off+vs.length≤arr.size:=by omega
    refine⟨a.b,off,pre,post,arr,T,by rw[ho,Nat.zero_add],hsp,hfit,hl.one hb.2,⟨id,_,a,hg,ha,rfl⟩,?_⟩
    have hnew:∀ x∈M,x.num≠a.b→x∈pre++⟨a.b,.cells (splice arr.toList off vs).toArray T (0,0)⟩::post:=fun x hx hn=>by
     rw[hsp] at hx
     rcases List.mem_append.1 hx with hx | hx
     ·exact List.mem_append.2 (.inl hx)
     ·rcases List.mem_cons.1 hx with rfl | hx
      ·exact(hn rfl).elim
      ·exact List.mem_append.2 (.inr (List.mem_cons_of_mem _ hx))
    refine hm.step (fun i e hi=>(h4 i e hi).imp (fun q=>⟨q.1,some_inj' q.2⟩) fun q=>q) ha (Nm.le_refl D) (fun _ _=>rfl) hm.dom (fun _ _ h=>h) (fun i e a' hne hi hai x hx hn=>hnew x hx ?_) ?_ ?_
    ·rw[hn]
     exact fun hb=>hne (hm.inj _ _ _ _ _ _ hi hg hai ha hb)
    ·have hls:(splice arr.toList off vs).length=arr.size:=by rw[splice_len (by simpa using hfit)];simp
     refine .cells (splice arr.toList off vs).toArray ho (by simp) (by simp[hls];exact hsz) (fun i v hi hgi=>?_) (fun i hi=>by simp[hls];exact hk i hi) hmx
     rw[ho,Nat.zero_add]
     simp only[List.getElem?_toArray]
     rw[splice_get (by simpa using hfit)]
     rcases h2 i v hgi with ⟨g1,g2⟩ | ⟨g1,g2⟩
     ·have hlt:=(List.getElem?_eq_some_iff.1 g2).1
      rw[if_pos ⟨g1,by omega⟩]
      exact hl.get g2
     ·rw[if_neg (by omega)]
      have:=hc i v hi g2
      rw[ho,Nat.zero_add] at this
      simpa using this
    ·intro i e a' hne hi hai hb
     exact hne (hm.inj _ _ _ _ _ _ hi hg hai ha hb)
  ·cases h
 ·cases h
theorem bytesE_ok:∀ {l:List EV} {bs:List UInt8} {vs:List Value},bytesE l=some bs→VRs D l vs→vs=bs.map (fun b=>.int .u8 b.toNat)
 | [],bs,vs,h,hl=>by simp only[bytesE] at h;cases h;exact hl.unnil
 | v::l,bs,vs,h,hl=>by
  unfold bytesE at h
  split at h
  ·rename_i e;cases e
  ·rename_i n l' e
   cases e
   cases hb:Nat.ble n 255 with
   | false=>rw[hb] at h;cases h
   | true=>
    rw[hb] at h
    simp only[cond_true] at h
    split at h
    ·rename_i r hr
     cases h
     obtain⟨x,xs,h1,h2,rfl⟩:=hl.uncons
     have hn:=Nat.le_of_ble_eq_true hb
     rw[bytesE_ok hr h2,h1.int]
     simp only[List.map_cons,List.cons.injEq,and_true,Value.int.injEq,true_and]
     rw[UInt8.toNat_ofNat_of_lt' (show n < 256 by omega)]
     rfl
    ·cases h
  ·cases h
inductive KeyT:TypeDesc→EV→Prop
 | int {k n}:KeyT (.int k) (.i k n)
 | str {l}:KeyT .string (.s l)
theorem keyT_of {E:Env} {P:Program} (hE:EOK P E) {k:Nat} {y:EV} (h:keyE (E k) y=true):∃ d,P.underlying k=some d∧KeyT d y:=by
 unfold keyE at h
 split at h
 ·rename_i kk k' n hk
  have:=IntKind.eqb_eq h
  subst this
  obtain⟨d,hu,hd⟩:=(hE _ _ hk).und
  refine⟨d,hu,?_⟩
  have:d=.int kk:=by cases d<;>simp_all[shOf]
  subst this
  exact .int
 ·rename_i l hk
  obtain⟨d,hu,hd⟩:=(hE _ _ hk).und
  refine⟨d,hu,?_⟩
  have:d=.string:=by cases d<;>simp_all[shOf]
  subst this
  exact .str
 ·cases h
theorem KeyT.isKey {d:TypeDesc} {y:EV} {u:Value} (h:KeyT d y) (hy:VR D y u):MapKept.IsKey d u:=by
 cases h with
 | int=>rw[hy.int];rfl
 | str=>rw[hy.str];trivial
theorem bbeq (a b:ByteArray):(a == b)=decide (a=b):=by
 rw[Bool.eq_iff_iff,MapKept.bytes_beq]
 simp
theorem eq1_ok {d:TypeDesc} {y x:EV} {u w:Value} {r:Bool} (h:KeyT d y) (hy:VR D y u) (hx:VR D x w) (he:eq1E y x=some r):Instr.sameNow d u w=some r:=by
 cases h with
 | @int k n=>
  rw[hy.int]
  unfold eq1E at he
  split at he
  ·rename_i e;cases e
  ·rename_i k1 a k2 b e
   cases e
   obtain⟨h1,h2⟩:=cnd_some he
   have:=IntKind.eqb_eq h1
   subst this
   cases h2
   rw[hx.int]
   simp only[Instr.sameNow,if_true,eqI_eq]
   congr 1
  ·rename_i e;cases e
  ·cases he
 | @str l=>
  rw[hy.str]
  unfold eq1E at he
  split at he
  ·rename_i e;cases e
  ·rename_i e;cases e
  ·rename_i a b e
   cases e
   cases he
   rw[hx.str]
   simp only[Instr.sameNow]
   rw[bbeq,str_eq,eqS_eq]
  ·cases he
theorem lookE_ok {d:TypeDesc} {y:EV} {u:Value} (h:KeyT d y) (hy:VR D y u):∀ {es:List (EV×EV)} {l:List MapEntry} {r:Option EV} (i:Nat),MpR D es l→lookE y es=some r →
  match r with
  | none=>Instr.findNow d u l i=some none
  | some v=>∃ j w,Instr.findNow d u l i=some (some (j,w))∧VR D v w
 | [],_,r,i,.nil,hl=>by simp only[lookE] at hl;cases hl;rfl
 |(x,v)::es,_,r,i,.cons (e:=e) (l:=l) hk hv t,hl=>by
  simp only[lookE] at hl
  split at hl
  ·rename_i he
   cases hl
   refine⟨i,e.val,?_,hv⟩
   simp only[Instr.findNow,eq1_ok h hy hk he]
  ·rename_i he
   have ih:=lookE_ok h hy (i+1) t hl
   simp only[Instr.findNow,eq1_ok h hy hk he]
   exact ih
  ·cases hl
theorem updE_ok {d:TypeDesc} {y v:EV} {u w:Value} (h:KeyT d y) (hy:VR D y u) (hv:VR D v w):∀ {es es':List (EV×EV)} {l:List MapEntry} (i:Nat),MpR D es l→updE y v es=some es' →
  (Instr.findNow d u l i=some none∧∀ b,MpR D es' (l++[{ key:=u,val:=w,born:=b }])) ∨
  ∃ j e,Instr.findNow d u l i=some (some (i+j,e.val))∧l[j]?=some e∧Instr.sameNow d u e.key=some true∧MpR D es' (l.modify j fun e=>{ e with key:=u,val:=w })
 | [],es',_,i,.nil,hl=>by
  simp only[updE] at hl
  cases hl
  exact .inl ⟨rfl,fun b=>.cons hy hv .nil⟩
 |(x,v')::es,es',_,i,.cons (e:=e) (l:=l) hk hv' t,hl=>by
  simp only[updE] at hl
  split at hl
  ·rename_i he
   cases hl
   refine .inr ⟨0,e,?_,rfl,eq1_ok h hy hk he,?_⟩
   ·simp only[Instr.findNow,eq1_ok h hy hk he,Nat.add_zero]
   ·simp only[List.modify_zero_cons]
    exact .cons hy hv t
  ·rename_i he
   split at hl
   ·rename_i r hr
    cases hl
    rcases updE_ok h hy hv (i+1) t hr with ⟨h1,h2⟩ | ⟨j,e',h1,h2,h3,h4⟩
    ·refine .inl ⟨?_,fun b=>.cons hk hv' (h2 b)⟩
     simp only[Instr.findNow,eq1_ok h hy hk he]
     exact h1
    ·refine .inr ⟨j+1,e',?_,by simpa using h2,h3,?_⟩
     ·simp only[Instr.findNow,eq1_ok h hy hk he]
      rw[h1]
      congr 3
      omega
     ·simp only[List.modify_succ_cons]
      exact .cons hk hv' h4
   ·cases hl
  ·cases hl
end
section
variable {P:Program} {w:World}
theorem lookup_gen {t k e:Nat} (ht:P.underlying t=some (.map k e)) {d:TypeDesc} (hk:P.underlying k=some d) {u:Value} (hkey:MapKept.IsKey d u) {g:Nat} {l:List MapEntry} {clock:Nat} (hg:w.heap[g]?=some (.map l.toArray clock))
  {q:Option (Nat×Value)} (hf:Instr.findNow d u l 0=some q) {inf:TypeInfo} {z:Value} (hi:P.info? e=some inf) (hz:inf.zero=some z) (ok:Bool) :
  (Instr.lookup t (.map (some g)) u ok).run P w=.ok (bif ok then .tuple #[(q.map (·.2)).getD z,.bool q.isSome] else (q.map (·.2)).getD z) w:=by
 have hc:(Instr.checkKey l.toArray.isEmpty 10000 k u).run P w=.ok () w:=MapKept.run_checkKey hk hkey _ 9999
 have hfk:(Instr.findKey k u l).run P w=.ok q w:=MapKept.run_findKey hk hf
 have hzr:(zeroValue e).run P w=.ok z w:=by simp[zeroValue,typeInfo,hi,hz]
 unfold Instr.lookup
 simp only[Sem.run_bind,run_underlying ht,Result.andThen_ok,MapKept.run_getObj_map hg,Sem.run_pure,hc,hfk]
 cases q with
 | none=>cases ok<;>simp[hzr]
 | some p=>cases ok<;>simp
theorem upd_new {t k e:Nat} (ht:P.underlying t=some (.map k e)) {d:TypeDesc} (hk:P.underlying k=some d) {u v:Value} (hkey:MapKept.IsKey d u) {g:Nat} {l:List MapEntry} {clock:Nat} (hg:w.heap[g]?=some (.map l.toArray clock))
  (hf:Instr.findNow d u l 0=some none):(Instr.mapUpdate t (.map (some g)) u v).run P w=.ok () { w with heap:=w.heap.setIfInBounds g (.map (l++[({ key:=u,val:=v,born:=clock }:MapEntry)]).toArray (clock+1)) }:=by
 have hc:(Instr.checkKey false 10000 k u).run P w=.ok () w:=MapKept.run_checkKey hk hkey _ 9999
 have hfk:(Instr.findKey k u l).run P w=.ok none w:=MapKept.run_findKey hk hf
 unfold Instr.mapUpdate
 simp only[Sem.run_bind,run_underlying ht,Result.andThen_ok,MapKept.run_getObj_map hg,hc,hfk,MapKept.run_setObj_map _ hg]
 congr 3
 simp
theorem upd_old {t k e:Nat} (ht:P.underlying t=some (.map k e)) {d:TypeDesc} (hk:P.underlying k=some d) {u v:Value} (hkey:MapKept.IsKey d u) {g:Nat} {l:List MapEntry} {clock:Nat} (hg:w.heap[g]?=some (.map l.toArray clock))
  {j:Nat} {e':MapEntry} (hf:Instr.findNow d u l 0=some (some (j,e'.val))) (hj:l[j]?=some e') (hs:e'.key=u) :
  (Instr.mapUpdate t (.map (some g)) u v).run P w=.ok () { w with heap:=w.heap.setIfInBounds g (.map (l.modify j fun e=>{ e with key:=u,val:=v }).toArray clock) }:=by
 have hc:(Instr.checkKey false 10000 k u).run P w=.ok () w:=MapKept.run_checkKey hk hkey _ 9999
 have hfk:(Instr.findKey k u l).run P w=.ok (some (j,e'.val)) w:=MapKept.run_findKey hk hf
 have hst:(Instr.keyThatStays u u).run P w=.ok u w:=MapKept.run_keyThatStays hkey
 unfold Instr.mapUpdate
 simp only[Sem.run_bind,run_underlying ht,Result.andThen_ok,MapKept.run_getObj_map hg,hc,hfk]
 simp only[List.getElem?_toArray,hj,Option.map_some,Option.getD_some,hs,hst,Result.andThen_ok,MapKept.run_setObj_map _ hg]
 congr 3
 show Obj.map _ _=Obj.map _ _
 congr 1
 apply Array.ext'
 simp
end
section
variable {X:Ctx} {G:GT} {pr:PR} {D:Nm} {m m':Me} {F:Fr} {fr:Tri EV} {C:Bx} {I:GH} {M:List Blk} {K:KS} {o:Oper} {v:EV}
def NextK (X:Ctx) (G:GT) (pr:PR) (D:Nm) (m:Me) (I:GH) (M:List Blk) (v:EV) (m':Me) (dst:Option Nat) (F:Fr) (C:Bx) (K:KS):Prop:=
 ∀ D' u M',D.ext D' m.n→VR D' v u→MS (RX X G pr) D' m' I M'→K (put dst (.val u) F) C I M'
theorem x_store_ok {t:Nat} {x y:Operand} (ho:o.op=.store t x y) (h:opn o.dst (x_store (X.E t) m (rdO fr x) (rdO fr y)) (fun _=>none)=some (v,m')) (H:OR D F fr o.op.operands.toList) (hm:MS (RX X G pr) D m I M)
  (k:NextK X G pr D m I M v m' o.dst F C K):V_op X o F C I M K:=by
 obtain⟨dst,op,ty,pos,after,guard⟩:=o
 simp only at ho
 subst ho
 cases dst with
 | some d=>cases h
 | none=>
  have h1:x_store (X.E t) m (rdO fr x) (rdO fr y)=some (v,m'):=h
  unfold x_store at h1
  obtain⟨i,hi,h1⟩:=opn_eq h1
  obtain⟨a,hx,h1⟩:=opn_eq h1
  obtain⟨b,hy,h1⟩:=opn_eq h1
  obtain⟨hb,h1⟩:=cnd_some h1
  obtain⟨m2,h2,-,-,h3⟩:=storeE_ok (Y:=RX X G pr) h1
  cases h2
  simp only at H
  have hxo:=H x (by simp[Op.operands]) _ hx
  have hnb:∀ q,a≠.b q:=fun q e=>by subst e;cases h1
  obtain⟨u,e1,g1⟩:=hxo.nb hnb
  obtain⟨w,e2,g2⟩:=H.ev (x:=y) (by simp[Op.operands]) hy
  obtain⟨g,off,pre,post,arr,T,rfl,hM,hfit,hone,⟨id,e,al,hid,hal,hg⟩,hms⟩:=h3 hm g1 g2.cells
  simp only[V_op,hi,e2,e1]
  have hsz:Nat.beq w.cells.size i.size=true:=by
   have:=g2.cells.len
   rw[Array.length_toList] at this
   rw[this]
   exact hb
  rw[hsz]
  simp only[cond_true]
  refine⟨pre,post,arr,T,hM,rfl,hfit,hone,?_⟩
  exact k D (.tuple #[]) _ Nm.ext_refl (by simp only[VR];exact⟨[],.nil,rfl⟩) hms
theorem other_val (hd:∀ d,o.dst=some d→d < X.n) (hnd:∀ c,o.op≠.defer c)
  (h:∀ (β:Nat→Nat) (a:Act) (w:World),RelB X β a w F C I M→∃ u w' I' M',(execOp a.eval o).run X.P w=.ok (.value u) w'∧RelB X β a w' F C I' M'∧K (put o.dst (.val u) F) C I' M'):OtherOb X o F C I M K:=by
 refine⟨fun a w Q ⟨β,hR⟩=>?_⟩
 obtain⟨u,w',I',M',h1,h2,h3⟩:=h β a w hR
 exact wpIn_val hnd h1 ⟨_,_,_,_,⟨β,h2.put (x:=.val u) hd rfl⟩,h3⟩
theorem other_skip (hd:o.dst=none) (hnd:∀ c,o.op≠.defer c)
  (h:∀ (β:Nat→Nat) (a:Act) (w:World),RelB X β a w F C I M→∃ w' I' M',(execOp a.eval o).run X.P w=.ok .skip w'∧RelB X β a w' F C I' M'∧K F C I' M'):OtherOb X o F C I M K:=by
 refine⟨fun a w Q ⟨β,hR⟩=>?_⟩
 obtain⟨w',I',M',h1,h2,h3⟩:=h β a w hR
 refine wpIn_skip' hnd h1 ⟨_,_,_,_,⟨β,?_⟩,h3⟩
 rw[hd]
 exact h2
theorem x_map_ok (hE:EOK X.P X.E) (hd:∀ d,o.dst=some d→d < X.n) {t:Nat} {r:Option Operand} (ho:o.op=.makeMap t r) (h:x_map (X.E t) m=some (v,m')) (hr:∀ x,r=some x→∃ k n,ev F x=.val (.int k n)) (hm:MS (RX X G pr) D m I M)
  (k:NextK X G pr D m I M v m' o.dst F C K):OtherOb X o F C I M K:=by
 unfold x_map at h
 split at h
 ·rename_i sa sb sz kk e ht
  obtain⟨d,hud,hdd⟩:=(hE _ _ ht).und
  have h1:d=.map kk e:=by cases d<;>simp_all[shOf]
  subst h1
  obtain⟨t',h2,h3⟩:=newE_ok h
  cases h3
  refine other_val hd (by rw[ho];simp) fun β a w hR=>?_
  refine⟨.map (some w.heap.size),w.alloc (.map #[] 0),I,⟨w.heap.size,.map #[] 0⟩::M,?_,hR.alloc_blk _,?_⟩
  ·unfold execOp
   cases r with
   | none=>simp[ho,Instr.makeMap]
   | some x=>
    obtain⟨k1,n1,hx⟩:=hr x rfl
    have er:=eval_of_ev hR.fr hx
    simp[ho,er,Instr.makeMap,run_underlying hud,asInt,asIntOf_int]
  ·have hf:∀ x∈M,x.num≠w.heap.size:=hR.holds.freshM
   refine k _ _ _ Nm.ext_set (by simp only[VR];exact⟨_,Nm.set_self _ _ ⟨w.heap.size,0,0⟩,rfl⟩) (hm.new (a:=⟨w.heap.size,0,0⟩) h2 hf ?_)
   exact .map [] 0 (by simp) .nil
 ·cases h
theorem EntR.mapE {D:Nm} {E:Env} {M:List Blk} {a:Loc} {es:List (EV×EV)} (h:EntR D E M a (.map es)):∃ l clock,(⟨a.b,.map l.toArray clock⟩:Blk)∈M∧MpR D es l:=by
 cases h with
 | map l clock h1 h2=>exact⟨l,clock,h1,h2⟩
theorem VR.map' {id:Nat} {u:Value} (h:VR D (.m id) u):∃ a,D id=some a∧u=.map (some a.b):=by simpa only[VR] using h
theorem x_look_ok (hE:EOK X.P X.E) (hd:∀ d,o.dst=some d→d < X.n) {t:Nat} {x y:Operand} {ok:Bool} (ho:o.op=.lookup t x y ok) (h:x_look X.P X.E t m (rdO fr x) (rdO fr y) ok=some (v,m')) (H:OR D F fr o.op.operands.toList)
  (hm:MS (RX X G pr) D m I M) (k:NextK X G pr D m I M v m' o.dst F C K):OtherOb X o F C I M K:=by
 unfold x_look at h
 split at h
 ·rename_i sa sb sz kk e id yv ht h1 h2
  obtain⟨hkey,h⟩:=cnd_some h
  split at h
  ·rename_i es hg
   obtain⟨r,hr,h⟩:=opn_eq h
   obtain⟨inf,hi,h⟩:=opn_eq h
   obtain⟨z,hz,h⟩:=opn_eq h
   obtain⟨zv,hzv,h⟩:=opn_eq h
   cases h
   obtain⟨d,hud,hdd⟩:=(hE _ _ ht).und
   have hd':d=.map kk e:=by cases d<;>simp_all[shOf]
   subst hd'
   obtain⟨dk,huk,hkt⟩:=keyT_of hE hkey
   rw[ho] at H
   obtain⟨u1,e1,g1⟩:=H.ev (x:=x) (by simp[Op.operands]) h1
   obtain⟨u2,e2,g2⟩:=H.ev (x:=y) (by simp[Op.operands]) h2
   obtain⟨a,ha,rfl⟩:=g1.map'
   have he:=hm.ent _ _ _ hg ha
   obtain⟨l,clock,hM,hmp⟩:=he.mapE
   have hlk:=lookE_ok hkt g2 0 hmp hr
   have hzr:VR D zv z:=.of hzv
   have fin:∀ {q:Option (Nat×Value)},Instr.findNow dk u2 l 0=some q→(r=none∧q=none∨∃ rv j w,r=some rv∧q=some (j,w)∧VR D rv w)→OtherOb X o F C I M K:=fun {q} hf hq=>by
    refine other_val hd (by rw[ho];simp) fun β ac w hR=>?_
    have hrun:=lookup_gen (P:=X.P) (w:=w) hud huk (hkt.isKey g2) (hR.holds.m _ hM) hf hi hz ok
    have ex:=eval_of_ev hR.fr e1
    have ey:=eval_of_ev hR.fr e2
    refine⟨bif ok then .tuple #[(q.map (·.2)).getD z,.bool q.isSome] else (q.map (·.2)).getD z,w,I,M,?_,hR,k D _ M Nm.ext_refl ?_ hm⟩
    ·unfold execOp
     simp only[ho,ex,ey,Sem.run_bind,hrun,Result.andThen_ok,Sem.run_pure]
    ·unfold lookR
     rcases hq with ⟨rfl,rfl⟩ | ⟨rv,j,w',rfl,rfl,hv⟩
     ·cases ok
      ·exact hzr
      ·exact .mkTup (.cons hzr (.cons (by simp only[VR];rfl) .nil))
     ·cases ok
      ·exact hv
      ·exact .mkTup (.cons hv (.cons (by simp only[VR];rfl) .nil))
   cases r with
   | none=>exact fin hlk (.inl ⟨rfl,rfl⟩)
   | some rv=>
    obtain⟨j,w,hf,hv⟩:=hlk
    exact fin hf (.inr ⟨rv,j,w,rfl,rfl,hv⟩)
  ·cases h
 ·cases h
theorem x_upd_ok (hE:EOK X.P X.E) {t:Nat} {x y z:Operand} (ho:o.op=.mapUpdate t x y z∨o.op=.insert t x y z) (h:opn o.dst (x_upd X.E t m (rdO fr x) (rdO fr y) (rdO fr z)) (fun _=>none)=some (v,m')) (H:OR D F fr o.op.operands.toList)
  (hm:MS (RX X G pr) D m I M) (k:NextK X G pr D m I M v m' o.dst F C K):OtherOb X o F C I M K:=by
 cases hdst:o.dst with
 | some d=>rw[hdst] at h;cases h
 | none=>
  rw[hdst] at h k
  have h0:x_upd X.E t m (rdO fr x) (rdO fr y) (rdO fr z)=some (v,m'):=h
  have hops:∀ q,q=x∨q=y∨q=z→q∈o.op.operands.toList:=fun q hq=>by
   rcases ho with ho | ho<;>rw[ho]<;>simp[Op.operands]<;>exact hq
  unfold x_upd at h0
  split at h0
  ·rename_i sa sb sz kk e id yv zv ht h1 h2 h3
   obtain⟨hkey,h0⟩:=cnd_some h0
   split at h0
   ·rename_i es hg
    obtain⟨es',hes,h0⟩:=opn_eq h0
    obtain⟨t',h4,h5⟩:=Tri.set_ok (some (Ent.map es')) m.t id
    have h0':(m.t.setK (some (Ent.map es')) id fun t=>some (EV.t [],(⟨t,m.n⟩:Me)))=some (v,m'):=h0
    rw[h4] at h0'
    cases h0'
    obtain⟨d,hud,hdd⟩:=(hE _ _ ht).und
    have hd':d=.map kk e:=by cases d<;>simp_all[shOf]
    subst hd'
    obtain⟨dk,huk,hkt⟩:=keyT_of hE hkey
    obtain⟨u1,e1,g1⟩:=H.ev (x:=x) (hops x (.inl rfl)) h1
    obtain⟨u2,e2,g2⟩:=H.ev (x:=y) (hops y (.inr (.inl rfl))) h2
    obtain⟨u3,e3,g3⟩:=H.ev (x:=z) (hops z (.inr (.inr rfl))) h3
    obtain⟨a,ha,rfl⟩:=g1.map'
    have he:=hm.ent _ _ _ hg ha
    obtain⟨l,clock,hM,hmp⟩:=he.mapE
    have fin:∀ (l':List MapEntry) (clock':Nat),MpR D es' l'→(∀ w:World,w.heap[a.b]?=some (.map l.toArray clock)→(Instr.mapUpdate t (.map (some a.b)) u2 u3).run X.P w=.ok () { w with heap:=w.heap.setIfInBounds a.b (.map l'.toArray clock') }) →
      OtherOb X o F C I M K:=fun l' clock' hl' hrun=>by
     obtain⟨pre,post,hsp⟩:=List.append_of_mem hM
     have hperm:M.Perm (⟨a.b,.map l.toArray clock⟩::(pre++post)):=by rw[hsp];exact List.perm_middle
     refine other_skip hdst (by rcases ho with ho | ho<;>rw[ho]<;>simp) fun β ac w hR0=>?_
     have hR:RelB X β ac w F C I (⟨a.b,.map l.toArray clock⟩::(pre++post)):=hR0.wk (.perm hperm .refl)
     have hgw:=hR0.holds.m _ hM
     have ex:=eval_of_ev hR.fr e1
     have ey:=eval_of_ev hR.fr e2
     have ez:=eval_of_ev hR.fr e3
     have hset:=MapKept.heap_set (o':=Obj.map l'.toArray clock') hgw
     refine⟨_,I,⟨a.b,.map l'.toArray clock'⟩::(pre++post),?_,hR.swap (w':={ w with heap:=w.heap.setIfInBounds a.b (.map l'.toArray clock') }) (by simp) hset.1 hset.2 ⟨rfl,rfl⟩,?_⟩
     ·unfold execOp
      rcases ho with ho | ho<;>simp only[ho,ex,ey,ez,Sem.run_bind,hrun w hgw,Result.andThen_ok,Sem.run_pure]
     ·have hkeep:∀ q∈M,q.num≠a.b→q∈(⟨a.b,.map l'.toArray clock'⟩:Blk)::(pre++post):=fun q hq hn=>by
       rcases List.mem_cons.1 (hperm.mem_iff.1 hq) with rfl | hq
       ·exact(hn rfl).elim
       ·exact List.mem_cons_of_mem _ hq
      refine k D (.tuple #[]) _ Nm.ext_refl (by simp only[VR];exact⟨[],.nil,rfl⟩) ?_
      refine hm.step (fun i e hi=>(h5 i e hi).imp (fun q=>⟨q.1,some_inj' q.2⟩) fun q=>q) ha (Nm.le_refl D) (fun _ _=>rfl) hm.dom (fun _ _ h=>h) (fun i e a' hne hi hai q hq hn=>hkeep q hq ?_) (.map l' clock' (by simp) hl') ?_
      ·rw[hn]
       exact fun hb=>hne (hm.inj _ _ _ _ _ _ hi hg hai ha hb)
      ·exact fun i e a' hne hi hai hb=>hne (hm.inj _ _ _ _ _ _ hi hg hai ha hb)
    rcases updE_ok hkt g2 g3 0 hmp hes with ⟨hf,hnew⟩ | ⟨j,e',hf,hj,hs,hmod⟩
    ·exact fin _ (clock+1) (hnew clock) fun w hgw=>upd_new hud huk (hkt.isKey g2) hgw hf
    ·rw[Nat.zero_add] at hf
     have hke:e'.key=u2:=by
      cases hkt with
      | int=>
       have:=g2.int
       subst this
       cases hk:e'.key<;>rw[hk] at hs<;>simp[Instr.sameNow] at hs
       obtain⟨rfl,h⟩:=hs
       rw[h]
      | str=>
       have:=g2.str
       subst this
       cases hk:e'.key<;>rw[hk] at hs<;>simp[Instr.sameNow,bbeq] at hs
       rw[hs]
     exact fin _ clock hmod fun w hgw=>upd_old hud huk (hkt.isKey g2) hgw hf hj hke
   ·cases h0
  ·cases h0
end
section
variable {X:Ctx} {G:GT} {pr:PR} {D:Nm} {m m':Me} {F:Fr} {fr:Tri EV} {C:Bx} {I:GH} {M:List Blk} {K:KS} {o:Oper} {v:EV}
theorem x_str_ok (hE:EOK X.P X.E) (hd:∀ d,o.dst=some d→d < X.n) {s d e:Nat} {x:Operand} (ho:o.op=.convert s d x) {a1 b1 a2 b2:Nat} {z1 z2:List Value} (hs:X.E s=some ⟨a1,b1,z1,.slice e⟩) (hd':X.E d=some ⟨a2,b2,z2,.string⟩) (hb:byteT (X.E e)=true)
  {id off n:Nat} (h:x_str G m id off n=some (v,m')) (hx:∃ a c,D id=some a∧ev F x=.val (.slice (some ⟨a.b,a.o+off,none⟩) n c)) (hm:MS (RX X G pr) D m I M)
  (k:NextK X G pr D m I M v m' o.dst F C K):OtherOb X o F C I M K:=by
 unfold x_str at h
 obtain⟨a,c,ha,ex⟩:=hx
 obtain⟨ad,l,vs,e1,hrd,hl,h⟩:=loadE_ok (u:=.pointer (some ⟨a.b,a.o+off,none⟩)) hm (by simp only[VR];exact⟨a,ha,rfl⟩) h
 cases e1
 obtain⟨bs,hbs,h⟩:=opn_eq h
 cases h
 have hvs:=bytesE_ok hbs hl
 have hlen:bs.length=n:=by
  have:=hrd.2
  obtain⟨_,_,_,_,_,h2⟩:=this
  rw[←h2,hvs]
  simp
 subst hvs
 obtain⟨ei,he,hes⟩:∃ ei,X.E e=some ei∧ei.sh=.int .u8:=by
  unfold byteT at hb
  split at hb
  ·rename_i h;exact⟨_,h,rfl⟩
  ·cases hb
 refine OtherOb.bytesS hE ho hd hs rfl he hes hd' rfl ex hlen hrd ?_
 exact k D _ M Nm.ext_refl (by simp only[VR]) hm
theorem x_conv_ok (hE:EOK X.P X.E) (hd:∀ d,o.dst=some d→d < X.n) {s d:Nat} {x:Operand} (ho:o.op=.convert s d x) (h:x_conv (RX X G pr) m s d (rdO fr x)=some (v,m')) (H:OR D F fr o.op.operands.toList) (hm:MS (RX X G pr) D m I M)
  (k:NextK X G pr D m I M v m' o.dst F C K):OtherOb X o F C I M K:=by
 unfold x_conv at h
 rw[ho] at H
 split at h
 ·rename_i h1 h2 h3
  obtain⟨hb,h⟩:=cnd_some h
  obtain⟨u,e1,g1⟩:=H.ev (x:=x) (by simp[Op.operands]) h3
  obtain⟨a,ha,rfl⟩:=g1.sli
  exact x_str_ok hE hd ho h1 h2 hb h ⟨a,_,ha,e1⟩ hm k
 ·rename_i h1 h2 h3
  obtain⟨hb,h⟩:=cnd_some h
  obtain⟨u,e1,g1⟩:=H.ev (x:=x) (by simp[Op.operands]) h3
  obtain⟨a,ha,_,rfl⟩:=g1.slx
  exact x_str_ok hE hd ho h1 h2 hb h ⟨a,_,ha,e1⟩ hm k
 ·rename_i h1 h2 h3
  obtain⟨hb,h⟩:=cnd_some h
  obtain⟨u,e1,g1⟩:=H.ev (x:=x) (by simp[Op.operands]) h3
  cases h
  simp only[VR] at g1
  subst g1
  obtain⟨ei,he,hes⟩:∃ ei,X.E _=some ei∧ei.sh=.int .u8:=by
   unfold byteT at hb
   split at hb
   ·rename_i h;exact⟨_,h,rfl⟩
   ·cases hb
  refine OtherOb.bytesN hE ho hd h1 rfl he hes h2 rfl e1 ?_
  exact k D _ M Nm.ext_refl (by simp only[VR]) hm
 ·cases h
theorem text_ok (q:List UInt8):VRs D (q.map fun b=>EV.i .u8 (.ofNat b.toNat)) (byteVals ⟨q.toArray⟩):=by
 unfold byteVals
 simp only
 induction q with
 | nil=>exact .nil
 | cons b q ih=>exact .cons (by simp only[VR];rfl) ih
theorem rdL_two {l:List Operand} {a b:EV} (h:rdL fr l=some [a,b]):∃ x y,l=[x,y]∧rdO fr x=some a∧rdO fr y=some b:=by
 match l,h with
 | [],h=>simp[rdL] at h
 | [x],h=>
  simp only[rdL] at h
  split at h
  ·rename_i e1 e2;cases e2;cases h
  ·cases h
 | [x,y],h=>
  simp only[rdL] at h
  split at h
  ·rename_i e1 e2
   split at e2
   ·rename_i e3 e4;cases e4;cases e2;cases h;exact⟨x,y,rfl,e1,e3⟩
   ·cases e2
  ·cases h
 | x::y::z::l,h=>
  simp only[rdL] at h
  split at h
  ·rename_i e1 e2
   split at e2
   ·rename_i e3 e4
    split at e4
    ·cases e4;cases e2;cases h
    ·cases e4
   ·cases e2
  ·cases h
theorem MS.sub {M':List Blk} (h:MS (RX X G pr) D m I M) (hs:∀ x∈M,x∈M'):MS (RX X G pr) D m I M':=
 ⟨fun id e a hi ha=>(h.ent id e a hi ha).mono (Nm.le_refl D) (fun x hx _=>hs x hx),h.inj,h.dom,h.glo⟩
theorem x_copy_ok (hE:EOK X.P X.E) (hd:∀ d,o.dst=some d→d < X.n) {args:Array Operand} {ts:Array Nat} (ho:o.op=.call { callee:=.builtin .copy,args:=args,argTypes:=ts }) (h:x_copy (RX X G pr) m ts.toList (rdL fr args.toList)=some (v,m'))
  (H:OR D F fr args.toList) (hm:MS (RX X G pr) D m I M) (k:NextK X G pr D m I M v m' o.dst F C K):OtherOb X o F C I M K:=by
 unfold x_copy at h
 split at h
 ·rename_i t u id off n c q ht hl
  split at h
  ·rename_i sa sb sz e hE1
   obtain⟨ei,he,h⟩:=opn_eq h
   obtain⟨hb,h⟩:=cnd_some h
   rw[Bool.and_eq_true] at hb
   obtain⟨m2,h2,-,-,h3⟩:=storeE_ok (Y:=RX X G pr) h
   cases h2
   obtain⟨x,y,hargs,hx1,hy1⟩:=rdL_two hl
   obtain⟨u1,hx,g2⟩:=H.ev (x:=x) (by rw[hargs];simp) hx1
   obtain⟨u2,hy,g4⟩:=H.ev (x:=y) (by rw[hargs];simp) hy1
   obtain⟨a,ha,rfl⟩:=g2.sli
   have hstr:=g4.str
   subst hstr
   obtain⟨g,off',pre,post,arr,T,e3,hM,hfit,hone,⟨id',e',al,hid,hal,hg⟩,hms⟩:=h3 hm (u:=.pointer (some ⟨a.b,a.o+off,none⟩)) (by simp only[VR];exact⟨a,ha,rfl⟩) (text_ok q)
   cases e3
   have hperm:M.Perm (⟨a.b,.cells arr T (0,0)⟩::(pre++post)):=by rw[hM];exact List.perm_middle
   have hargs':args=#[x,y]:=by apply Array.ext';simpa using hargs
   have hts':ts=#[t,u]:=by apply Array.ext';simpa using ht
   have hsz:(⟨q.toArray⟩:ByteArray).size=q.length:=by simp[ByteArray.size]
   have hbl:(byteVals ⟨q.toArray⟩).length=q.length:=by simp[byteVals]
   refine OtherOb.copyS hE (by rw[ho,hargs',hts']) hd hE1 rfl he (Nat.eq_of_beq_eq_true hb.1) hx hy (by rw[hsz];exact Nat.le_of_ble_eq_true hb.2) (by rw[hsz,←hbl];exact hfit) hperm ?_
   rw[hsz]
   have hpm2:(pre++(⟨a.b,.cells (splice arr.toList (a.o+off) (byteVals ⟨q.toArray⟩)).toArray T (0,0)⟩:Blk)::post).Perm (⟨a.b,.cells (splice arr.toList (a.o+off) (byteVals ⟨q.toArray⟩)).toArray T (0,0)⟩::(pre++post)):=List.perm_middle
   exact k D (.int .i64 q.length) _ Nm.ext_refl (by simp only[VR];rfl) (hms.sub fun x hx=>hpm2.mem_iff.1 hx)
  ·cases h
 ·cases h
end
section
variable {P:Program} {w:World}
theorem app_in (t u ty e:Nat) (i:TypeInfo) (ht:P.underlying t=some (.slice e)) {du:TypeDesc} (hu:P.underlying u=some du) (hdu:∀ k,du≠.int k) (hi:P.info? e=some i)
  {g off n c T:Nat} {arr:Array Value} (hg:w.heap[g]?=some (.cells arr T (0,0))) {x:Value} {m:Nat} {news:List Value} (h1:∀ v∈news,v.oneCell'=true)
  (hlen:∀ w',(Builtin.lenOf x).run P w'=.ok m w') (hnew:(Builtin.firstCells i.size m x).run P w=.ok news.toArray w) (hroom:n+m≤c) (hfit:off+n * i.size+news.length≤arr.size) :
  (Builtin.append_ #[t,u] ty #[.slice (some ⟨g,off,none⟩) n c,x]).run P w=.ok (.slice (some ⟨g,off,none⟩) (n+m) c) (w.setRow g (splice arr.toList (off+n * i.size) news).toArray):=by
 have hdu':(match du with | .int _=>true | _=>false)=false:=by cases du<;>first | rfl | exact(hdu _ rfl).elim
 have hst:=run_storeCells_at P g (off+n * i.size) T news 0 arr w hg (by simpa using hfit) h1
 simp only[Nat.add_zero] at hst
 have hadd:(Addr.add ⟨g,off,none⟩ (n * i.size))=⟨g,off+n * i.size,none⟩:=addr_add _ rfl _
 simp[Builtin.append_,run_underlying ht,run_underlying hu,sizeOf,typeInfo,hi,hlen,hroom,hnew,hadd,hst,splice]
theorem app_new (t u ty e:Nat) (i:TypeInfo) (z:Value) (ht:P.underlying t=some (.slice e)) {du:TypeDesc} (hu:P.underlying u=some du) (hdu:∀ k,du≠.int k) (hi:P.info? e=some i) (hz:i.zero=some z) (hzs:z.cells.size=i.size)
  {base:Option Addr} {n c:Nat} {xs:List Value} (hold:(Builtin.firstCells i.size n (.slice base n c)).run P w.drew=.ok xs.toArray w.drew) (hxs:xs.length=n * i.size) {x:Value} {m:Nat} {news:List Value} (hl:news.length=m * i.size)
  (hlen:∀ w',(Builtin.lenOf x).run P w'=.ok m w') (hnew:(Builtin.firstCells i.size m x).run P w.drew=.ok news.toArray w.drew) (hroom:c < n+m) (b1:n+m≤maxLen) (b2:(n+m) * i.bytes≤140737488355328) :
  ∃ cap cur,(Builtin.append_ #[t,u] ty #[.slice base n c,x]).run P w=.ok (.slice (some ⟨w.heap.size,0,none⟩) (n+m) cap) (w.drew.alloc (.cells (xs++news++cur).toArray e (0,0)))∧n+m≤cap∧cap≤maxLen∧(xs++news++cur).length=cap * i.size:=by
 have hdu':(match du with | .int _=>true | _=>false)=false:=by cases du<;>first | rfl | exact(hdu _ rfl).elim
 have hn:¬ (n+m≤c):=by omega
 have hb1:n+m≤9223372036854775807:=by simp only[maxLen] at b1;exact b1
 have h63':¬ (9223372036854775807 < ((n:Int)+(m:Int))):=by omega
 have h48':¬ (281474976710656 < Builtin.nextslicecap (n+m) c * i.bytes):=by have:=growslice_fits (by omega:c < n+m) b2;omega
 have hge:=grownCap_ge w (n+m) c e
 have hcm:grownCap w (n+m) c e≤maxLen:=grownCap_le_maxLen w (n+m) c e b1
 refine⟨grownCap w (n+m) c e,(Builtin.zeroCells z.cells (grownCap w (n+m) c e - (n+m))).toList,?_,hge,hcm,?_⟩
 ·simp[Builtin.append_,run_underlying ht,run_underlying hu,sizeOf,typeInfo,zeroValue,hi,hz,hlen,hn,h63',h48',Question.forced,hnew,hold,newRow,grownCap]
  congr 2
  apply Array.ext'
  simp
 ·rw[List.length_append,List.length_append,hxs,hl,Array.length_toList,size_zeroCells,hzs,←Nat.add_mul,←Nat.add_mul]
  congr 1
  omega
end
section
variable {X:Ctx} {G:GT} {pr:PR} {D:Nm} {m m':Me} {F:Fr} {fr:Tri EV} {C:Bx} {I:GH} {M:List Blk} {K:KS} {o:Oper} {v:EV}
theorem Rd.cells' {ad:Addr} {n:Nat} {vs:List Value} (h:Rd I M ad n vs) {w:World} (hH:Holds I M w) (j:Nat) (v:Value) (hj:vs[j]?=some v):w.cell? (ad.add j)=some v:=by
 obtain⟨hsp,cs,T,fr,hkn,hv,hl⟩:=h
 rw[addr_add _ hsp,cell_of_block (hkn.heap hH)]
 rw[←hv,List.getElem?_take] at hj
 split at hj
 ·rw[List.getElem?_drop] at hj
  simpa using hj
 ·cases hj
theorem news_ok {x:EV} {u:Value} {ut:Option TI} {ei:TI} {k:Nat} {R:Type} {K:List EV→Option R} {r:R} (h:newsE G m.t x ei.size K=some r) (hs:srcE ut ei x=true) (hx:VR D x u) (hm:MS (RX X G pr) D m I M) (hk:lenE x=some k) (h0:k≠0) :
  ∃ l vs,K l=some r∧VRs D l vs∧(∀ w',(Builtin.lenOf u).run X.P w'=.ok k w')∧(∀ w,Holds I M w→(Builtin.firstCells ei.size k u).run X.P w=.ok vs.toArray w)∧vs.length=k * ei.size ∧
   ((∃ a b z e,ut=some ⟨a,b,z,.slice e⟩)∨∃ a b z,ut=some ⟨a,b,z,.string⟩):=by
 have hty:(∃ a b z e,ut=some ⟨a,b,z,.slice e⟩)∨∃ a b z,ut=some ⟨a,b,z,.string⟩:=by
  unfold srcE at hs
  split at hs<;>first | exact .inl ⟨_,_,_,_,rfl⟩ | exact .inr ⟨_,_,_,rfl⟩ | cases hs
 cases x<;>simp only[newsE] at h<;>first | cases h | skip
 case sn=>simp[lenE,lenS] at hk;exact(h0 hk.symm).elim
 case so=>simp[lenE,lenS] at hk;exact(h0 hk.symm).elim
 case sl id off n c=>
  simp only[lenE,lenS,Option.some.injEq] at hk
  subst hk
  obtain⟨a,ha,rfl⟩:=hx.sli
  obtain⟨ad,l,vs,e1,hrd,hl,h⟩:=loadE_ok (u:=.pointer (some ⟨a.b,a.o+off,none⟩)) hm (by simp only[VR];exact⟨a,ha,rfl⟩) h
  cases e1
  have hrd':=hrd
  obtain⟨_,_,_,_,_,_,hlen⟩:=hrd'
  exact⟨l,vs,h,hl,fun _=>rfl,fun w hw=>run_firstCells_some (P:=X.P) w ei.size n _ n c vs hlen (fun j v hj=>hrd.cells' hw j v hj),hlen,hty⟩
 case sx id off e n=>
  simp only[lenE,lenS,Option.some.injEq] at hk
  subst hk
  obtain⟨a,ha,_,rfl⟩:=hx.slx
  obtain⟨ad,l,vs,e1,hrd,hl,h⟩:=loadE_ok (u:=.pointer (some ⟨a.b,a.o+off,none⟩)) hm (by simp only[VR];exact⟨a,ha,rfl⟩) h
  cases e1
  have hrd':=hrd
  obtain⟨_,_,_,_,_,_,hlen⟩:=hrd'
  exact⟨l,vs,h,hl,fun _=>rfl,fun w hw=>run_firstCells_some (P:=X.P) w ei.size n _ n _ vs hlen (fun j v hj=>hrd.cells' hw j v hj),hlen,hty⟩
 case s q=>
  simp only[lenE,Option.some.injEq] at hk
  subst hk
  have hsz1:ei.size=1:=by
   unfold srcE at hs
   split at hs<;>first | exact Nat.eq_of_beq_eq_true hs | (rename_i e;cases e) | cases hs
  have:=hx.str
  subst this
  have hq:(⟨q.toArray⟩:ByteArray).size=q.length:=by simp[ByteArray.size]
  refine⟨_,byteVals ⟨q.toArray⟩,h,text_ok q,fun w=>?_,fun w hw=>?_,by simp[byteVals,hsz1],hty⟩
  ·show Result.ok _ _=_
   rw[hq]
  ·have:=Lib.run_firstCells_string w ei.size (P:=X.P) ⟨q.toArray⟩
   rw[hq] at this
   exact this
theorem app_ob (hE:EOK X.P X.E) (hd:∀ d,o.dst=some d→d < X.n) {s x:Operand} {t u:Nat} (ho:o.op=.call { callee:=.builtin .append,args:=#[s,x],argTypes:=#[t,u] })
  {e:Nat} {a1 b1:Nat} {z1:List Value} {tu ei:TI} (ht:X.E t=some ⟨a1,b1,z1,.slice e⟩) (hu:X.E u=some tu) (hus:∀ k,tu.sh≠.int k) (he:X.E e=some ei)
  {base:Option Addr} {n c k:Nat} {xu:Value} (hs:ev F s=.val (.slice base n c)) (hx:ev F x=.val xu) {xs news:List Value} (hxs:xs.length=n * ei.size) (hnl:news.length=k * ei.size) (h1:allOne news=true)
  (hlen:∀ w',(Builtin.lenOf xu).run X.P w'=.ok k w') (hnew:∀ w,Holds I M w→(Builtin.firstCells ei.size k xu).run X.P w=.ok news.toArray w)
  (hold:∀ w,Holds I M w→(Builtin.firstCells ei.size n (.slice base n c)).run X.P w=.ok xs.toArray w) (b1:n+k≤maxLen) (b2:(n+k) * ei.bytes≤140737488355328)
  (kin:n+k≤c→∃ g off T arr pre post,base=some ⟨g,off,none⟩∧M=pre++⟨g,.cells arr T (0,0)⟩::post∧off+n * ei.size+news.length≤arr.size ∧
   K (put o.dst (.val (.slice base (n+k) c)) F) C I (pre++⟨g,.cells (splice arr.toList (off+n * ei.size) news).toArray T (0,0)⟩::post))
  (knew:c < n+k→∀ b cap cur,I b=none→(∀ y∈M,y.num≠b)→n+k≤cap→cap≤maxLen→(xs++news++cur).length=cap * ei.size →
   K (put o.dst (.val (.slice (some ⟨b,0,none⟩) (n+k) cap)) F) C I (⟨b,.cells (xs++news++cur).toArray e (0,0)⟩::M)):OtherOb X o F C I M K:=by
 refine⟨fun a w Q ⟨β,hR⟩=>?_⟩
 obtain⟨inf,z,hi,hi1,hi2,hi3,hi4⟩:=(hE _ _ he).inf
 obtain⟨d,hud,hdd⟩:=(hE _ _ hu).und
 obtain⟨dt,htd,hdt⟩:=(hE _ _ ht).und
 have hdt':dt=.slice e:=by cases dt<;>simp_all[shOf]
 subst hdt'
 have hzs:z.cells.size=inf.size:=by
  rw[hi1,←(hE _ _ he).len,←hi4]
  simp
 have es:=eval_of_ev hR.fr hs
 have ex:=eval_of_ev hR.fr hx
 have hdu:∀ k,d≠.int k:=fun k e'=>hus k (by rw[←hdd,e'];rfl)
 rw[←hi1] at hxs hnl hold hnew
 by_cases hroom:n+k≤c
 ·obtain⟨g,off,T,arr,pre,post,rfl,hM,hfit,hk⟩:=kin hroom
  rw[←hi1] at hfit hk
  have hg:w.heap[g]?=some (.cells arr T (0,0)):=hR.holds.m ⟨g,.cells arr T (0,0)⟩ (by rw[hM];simp)
  have hrun:=app_in (P:=X.P) (w:=w) t u o.type e inf htd hud hdu hi hg (allOne_spec h1) hlen (hnew w hR.holds) hroom hfit
  refine wpIn_val (by rw[ho];simp) ?_ ⟨_,_,_,_,⟨β,RelB.put (x:=.val (.slice (some ⟨g,off,none⟩) (n+k) c)) (hR.store_blk hM) hd rfl⟩,hk⟩
  unfold execOp
  simp only[ho,resolve,invoke,builtin,Sem.run_bind,Sem.run_pure,Result.andThen_ok,List.map_toArray,List.map_cons,List.map_nil,es,ex,hrun]
 ·have hH:Holds I M w.drew:=hR.holds.heap rfl
  obtain⟨cap,cur,hrun,h2,h3,h4⟩:=app_new (P:=X.P) (w:=w) t u o.type e inf z htd hud hdu hi hi3 hzs (hold w.drew hH) hxs hnl hlen (hnew w.drew hH) (by omega) b1 (by rw[hi2];exact b2)
  have hR2:RelB X β a w.drew F C I M:=hR.world rfl
  rw[hi1] at h4
  refine wpIn_val (by rw[ho];simp) ?_ ⟨_,_,_,_,⟨β,RelB.put (x:=.val (.slice (some ⟨w.heap.size,0,none⟩) (n+k) cap)) (hR2.alloc_blk (.cells (xs++news++cur).toArray e (0,0))) hd rfl⟩,knew (by omega) w.heap.size cap cur hR.holds.freshI hR.holds.freshM h2 h3 h4⟩
  unfold execOp
  simp only[ho,resolve,invoke,builtin,Sem.run_bind,Sem.run_pure,Result.andThen_ok,List.map_toArray,List.map_cons,List.map_nil,es,ex,hrun]
theorem src_ty {u:Nat} {ei:TI} {x:EV} (h:srcE (X.E u) ei x=true):∃ tu,X.E u=some tu∧∀ k,tu.sh≠.int k:=by
 unfold srcE at h
 split at h<;>first | (cases h;done) | (rename_i e;exact⟨_,e,by simp⟩) | (rename_i e _;exact⟨_,e,by simp⟩) | (rename_i e _ _;exact⟨_,e,by simp⟩)
theorem capE_ok {s:EV} {u:Value} (h:capE s=true) (hs:VR D s u):∃ a n c,u=.slice a n c∧n≤c:=by
 cases s<;>simp only[capE,Bool.false_eq_true] at h
 case sn=>exact⟨_,_,_,hs.sln,Nat.le_refl _⟩
 case so=>obtain⟨a,c,rfl⟩:=hs.slo;exact⟨_,_,_,rfl,Nat.zero_le _⟩
 case sl=>obtain⟨a,_,rfl⟩:=hs.sli;exact⟨_,_,_,rfl,Nat.le_of_ble_eq_true h⟩
 case sx=>obtain⟨a,_,hle,rfl⟩:=hs.slx;exact⟨_,_,_,rfl,by omega⟩
theorem zero_src {x:EV} {u:Value} {ut:Option TI} {ei:TI} (hs:srcE ut ei x=true) (hx:VR D x u) (hk:lenE x=some 0):(∃ b c,u=.slice b 0 c)∨u=.string .empty:=by
 cases x<;>simp[lenE,lenS] at hk
 case sn=>exact .inl ⟨_,_,hx.sln⟩
 case so=>obtain⟨a,c,rfl⟩:=hx.slo;exact .inl ⟨_,_,rfl⟩
 case sl=>subst hk;obtain⟨a,_,rfl⟩:=hx.sli;exact .inl ⟨_,_,rfl⟩
 case sx=>subst hk;obtain⟨a,_,_,rfl⟩:=hx.slx;exact .inl ⟨_,_,rfl⟩
 case gs=>subst hk;exact .inl ⟨_,_,hx.sgl⟩
 case s=>subst hk;exact .inr hx.str
noncomputable abbrev appK (X:Ctx) (G:GT) (m:Me) (s x:EV) (ei:TI) (kn e:Nat):List EV→Option (EV×Me):=fun l=>opn (some kn) none fun k=>cnd (Nat.beq k 0) (cnd (capE s) (some (s,m)) none) (cnd (l.all EV.one) (appE G m s l k ei.size ei.bytes e) none)
theorem app_zero (hE:EOK X.P X.E) (hd:∀ d,o.dst=some d→d < X.n) {os ox:Operand} {t u:Nat} (ho:o.op=.call { callee:=.builtin .append,args:=#[os,ox],argTypes:=#[t,u] })
  {e a1 b1:Nat} {z1:List Value} {ei:TI} (ht:X.E t=some ⟨a1,b1,z1,.slice e⟩) {s x:EV} (hsrc:srcE (X.E u) ei x=true) (he:X.E e=some ei) (hk:lenE x=some 0) {us ux:Value}
  (es:ev F os=.val us) (gs:VR D s us) (ex:ev F ox=.val ux) (gx:VR D x ux) (h:newsE G m.t x ei.size (appK X G m s x ei 0 e)=some (v,m'))
  (hm:MS (RX X G pr) D m I M) (k:NextK X G pr D m I M v m' o.dst F C K):OtherOb X o F C I M K:=by
 have h2:∃ l,appK X G m s x ei 0 e l=some (v,m'):=by
  cases x<;>simp only[newsE] at h<;>first | cases h | exact⟨_,h⟩ | skip
  case sl=>obtain⟨a,ha,rfl⟩:=gx.sli;obtain⟨_,l,_,_,_,_,h⟩:=loadE_ok (u:=.pointer (some ⟨a.b,a.o+_,none⟩)) hm (by simp only[VR];exact⟨a,ha,rfl⟩) h;exact⟨l,h⟩
  case sx=>obtain⟨a,ha,_,rfl⟩:=gx.slx;obtain⟨_,l,_,_,_,_,h⟩:=loadE_ok (u:=.pointer (some ⟨a.b,a.o+_,none⟩)) hm (by simp only[VR];exact⟨a,ha,rfl⟩) h;exact⟨l,h⟩
 obtain⟨l,h2⟩:=h2
 have h3:cnd (capE s) (some (s,m)) none=some (v,m'):=h2
 obtain⟨hc,h3⟩:=cnd_some h3
 cases h3
 obtain⟨a,n,c,rfl,hnc⟩:=capE_ok hc gs
 obtain⟨tu,hu,hus⟩:=src_ty hsrc
 exact OtherOb.append0 hE ho hd ht rfl hu hus he es hnc ex (zero_src hsrc gx hk) (k D _ M Nm.ext_refl gs hm)
theorem app_sl (hE:EOK X.P X.E) (hd:∀ d,o.dst=some d→d < X.n) {os ox:Operand} {t u:Nat} (ho:o.op=.call { callee:=.builtin .append,args:=#[os,ox],argTypes:=#[t,u] })
  {e a1 b1:Nat} {z1:List Value} {tu ei:TI} (ht:X.E t=some ⟨a1,b1,z1,.slice e⟩) (hu:X.E u=some tu) (hus:∀ k,tu.sh≠.int k) (he:X.E e=some ei) {us ux:Value} {id off n c kn:Nat}
  (es:ev F os=.val us) (gs:VR D (.sl id off n c) us) (ex:ev F ox=.val ux) {l:List EV} {vs:List Value} (h:app_l G m id off n c l kn ei.size e=some (v,m')) (hb1:n+kn≤maxLen) (hb2:(n+kn) * ei.bytes≤140737488355328)
  (hl:VRs D l vs) (hvl:vs.length=kn * ei.size) (h1:allOne vs=true) (hlen:∀ w',(Builtin.lenOf ux).run X.P w'=.ok kn w') (hnew:∀ w,Holds I M w→(Builtin.firstCells ei.size kn ux).run X.P w=.ok vs.toArray w)
  (hm:MS (RX X G pr) D m I M) (k:NextK X G pr D m I M v m' o.dst F C K):OtherOb X o F C I M K:=by
 have hTe:∀ {q:List Value} {c:Nat},q.length=c * ei.size→∀ i,(RX X G pr).E e=some i→q.length=c * i.size:=fun hq i hi=>by
  have:X.E e=some i:=hi
  rw[he] at this
  cases this
  exact hq
 obtain⟨a,ha,rfl⟩:=gs.sli
 unfold app_l at h
 by_cases hr:n+kn≤c
 ·have hb:Nat.ble (Nat.add n kn) c=true:=Nat.ble_eq_true_of_le hr
  rw[hb] at h
  have h':storeE m (.p id (Nat.add off (Nat.mul n ei.size))) l (fun m=>some (EV.sl id off (Nat.add n kn) c,m))=some (v,m'):=h
  obtain⟨m2,h2,-,-,h3⟩:=storeE_ok (Y:=RX X G pr) h'
  cases h2
  obtain⟨g,off',pre,post,arr,T,e1,hM,hfit,hone,⟨id',e',al,hid,hal,hg⟩,hms⟩:=h3 hm (u:=.pointer (some ⟨a.b,a.o+(off+n * ei.size),none⟩)) (by simp only[VR];exact⟨a,ha,rfl⟩) hl
  cases e1
  refine⟨fun ac w Q ⟨β,hR⟩=>?_⟩
  obtain⟨inf,z,hi,hi1,hi2,hi3,hi4⟩:=(hE _ _ he).inf
  obtain⟨d,hud,hdd⟩:=(hE _ _ hu).und
  obtain⟨dt,htd,hdt⟩:=(hE _ _ ht).und
  have hdt':dt=.slice e:=by cases dt<;>simp_all[shOf]
  subst hdt'
  have hg:w.heap[a.b]?=some (.cells arr T (0,0)):=hR.holds.m ⟨a.b,.cells arr T (0,0)⟩ (by rw[hM];simp)
  have es':=eval_of_ev hR.fr es
  have ex':=eval_of_ev hR.fr ex
  rw[←hi1] at hnew
  have hrun:=app_in (P:=X.P) (w:=w) t u o.type e inf htd hud (fun k e'=>hus k (by rw[←hdd,e'];rfl)) hi hg (allOne_spec h1) hlen (hnew w hR.holds) hr (off:=a.o+off) (by rw[hi1];omega)
  rw[hi1,Nat.add_assoc] at hrun
  have hR2:=hR.store_blk (cs':=(splice arr.toList (a.o+(off+n * ei.size)) vs).toArray) hM
  refine wpIn_val (by rw[ho];simp) ?_ ⟨_,_,_,_,⟨β,RelB.put (x:=.val (.slice (some ⟨a.b,a.o+off,none⟩) (n+kn) c)) hR2 hd rfl⟩,?_⟩
  ·unfold execOp
   simp only[ho,resolve,invoke,builtin,Sem.run_bind,Sem.run_pure,Result.andThen_ok,List.map_toArray,List.map_cons,List.map_nil,es',ex',hrun]
  ·exact k D _ _ Nm.ext_refl (by simp only[VR];exact⟨a,ha,rfl⟩) hms
 ·have hb:Nat.ble (Nat.add n kn) c=false:=by
   cases hb:Nat.ble (Nat.add n kn) c with
   | false=>rfl
   | true=>exact absurd (Nat.le_of_ble_eq_true hb) hr
  rw[hb] at h
  have h':loadE G m.t (.p id off) (Nat.mul n ei.size) (fun old=>newC m (old++l) e fun id m=>some (EV.sx id 0 0 (Nat.add n kn),m))=some (v,m'):=h
  obtain⟨ad,old,xs,e1,hrd,hlo,h2⟩:=loadE_ok (u:=.pointer (some ⟨a.b,a.o+off,none⟩)) hm (by simp only[VR];exact⟨a,ha,rfl⟩) h'
  cases e1
  obtain⟨m2,h6,hn,h7⟩:=newC_ok (Y:=RX X G pr) h2
  cases h6
  have hrd':=hrd
  obtain⟨_,_,_,_,_,_,hxl⟩:=hrd'
  refine app_ob hE hd ho ht hu hus he es ex hxl hvl h1 hlen hnew (fun w hw=>run_firstCells_some (P:=X.P) w ei.size n _ n c xs hxl (fun j v hj=>hrd.cells' hw j v hj)) hb1 hb2 (fun hr'=>(hr hr').elim) fun _ b cap cur hI hf hc1 hc2 hlen2=>?_
  refine k _ _ _ Nm.ext_set ?_ (h7 cur hm hf (hlo.append hl) (hTe hlen2) hc2)
  simp only[VR]
  exact⟨_,Nm.set_self _ _ _,by simpa using hc1,by simp⟩
theorem app_sx (hE:EOK X.P X.E) (hd:∀ d,o.dst=some d→d < X.n) {os ox:Operand} {t u:Nat} (ho:o.op=.call { callee:=.builtin .append,args:=#[os,ox],argTypes:=#[t,u] })
  {e a1 b1:Nat} {z1:List Value} {tu ei:TI} (ht:X.E t=some ⟨a1,b1,z1,.slice e⟩) (hu:X.E u=some tu) (hus:∀ k,tu.sh≠.int k) (he:X.E e=some ei) {us ux:Value} {id n lim kn:Nat} {cs:Tri EV}
  (es:ev F os=.val us) (gs:VR D (.sx id 0 0 n) us) (ex:ev F ox=.val ux) (hg:m.t.get id=some (.cells cs e lim)) {l:List EV} {vs:List Value} (h:app_x m id n cs lim l kn ei.size e=some (v,m')) (hb1:n+kn≤maxLen) (hb2:(n+kn) * ei.bytes≤140737488355328)
  (hl:VRs D l vs) (hvl:vs.length=kn * ei.size) (h1:allOne vs=true) (hlen:∀ w',(Builtin.lenOf ux).run X.P w'=.ok kn w') (hnew:∀ w,Holds I M w→(Builtin.firstCells ei.size kn ux).run X.P w=.ok vs.toArray w)
  (hm:MS (RX X G pr) D m I M) (k:NextK X G pr D m I M v m' o.dst F C K):OtherOb X o F C I M K:=by
 obtain⟨a,ha,hle,rfl⟩:=gs.slx
 have hent:=hm.ent _ _ _ hg ha
 obtain⟨arr,ho0,hM,hsz,hc,hk,hmx⟩:=hent
 unfold app_x at h
 obtain⟨hlim,h⟩:=cnd_some h
 have hlim':n * ei.size≤lim:=Nat.le_of_ble_eq_true hlim
 obtain⟨t1,h2,h3⟩:=Tri.set_ok (none:Option Ent) m.t id
 rw[h2] at h
 obtain⟨cs',h4,h5⟩:=Tri.puts_ok l cs (Nat.mul n ei.size)
 have h':Tri.putsK l cs (Nat.mul n ei.size) (fun cs=>newE (⟨t1,m.n⟩:Me) (.cells cs e (Nat.mul (Nat.add n kn) ei.size)) fun id m=>some (EV.sx id 0 0 (Nat.add n kn),m))=some (v,m'):=h
 rw[h4] at h'
 obtain⟨t2,h6,h7⟩:=newE_ok h'
 cases h7
 have hsub:∀ i en,t1.get i=some en→i≠id∧m.t.get i=some en:=fun i en hi=>by
  rcases h3 i en hi with ⟨_,h8⟩ | h8
  ·cases h8
  ·exact h8
 have hgive:MS (RX X G pr) D ⟨t1,m.n⟩ I M:=⟨fun i en b hi=>hm.ent i en b (hsub i en hi).2,fun i i' en en' b b' hi hi'=>hm.inj i i' en en' b b' (hsub i en hi).2 (hsub i' en' hi').2,hm.dom,hm.glo⟩
 have hasz:arr.size=a.c * ei.size:=by
  have:=hk ei he
  rw[ho0,Nat.zero_add] at this
  exact this
 have hlb:=hl.len
 have hxs:((arr.toList.take (n * ei.size)).length=n * ei.size):=by
  rw[List.length_take,Array.length_toList]
  omega
 have hcell:∀ j,j < n * ei.size→∀ v,cs.get j=some v→∃ x,(arr.toList.take (n * ei.size))[j]?=some x∧VR D v x:=fun j hj v hv=>by
  obtain⟨x,g1,g2⟩:=hc j v (by omega) hv
  rw[ho0,Nat.zero_add] at g1
  exact⟨x,by rw[List.getElem?_take,if_pos hj];simpa using g1,g2⟩
 have hnewent:∀ (D':Nm) (M':List Blk) (b cp:Nat) (rest:List Value),D.le D'→(⟨b,.cells (arr.toList.take (n * ei.size)++vs++rest).toArray e (0,0)⟩:Blk)∈M'→(arr.toList.take (n * ei.size)++vs++rest).length=cp * ei.size→cp≤maxLen →
   EntR D' X.E M' ⟨b,0,cp⟩ (.cells cs' e (Nat.mul (Nat.add n kn) ei.size)):=by
  intro D' M' b cp rest hD hM' hlen' hcp
  have hmul:(n+kn) * ei.size=n * ei.size+kn * ei.size:=Nat.add_mul _ _ _
  refine .cells _ rfl hM' ?_ (fun i v hi hgi=>?_) (fun i hi=>?_) hcp
  ·show 0+(n+kn) * ei.size≤_
   rw[List.size_toArray,List.length_append,List.length_append,hxs,hvl]
   omega
  ·have hi':i < n * ei.size+kn * ei.size:=by
    have:i < (n+kn) * ei.size:=hi
    omega
   simp only[Nat.zero_add,List.getElem?_toArray]
   rcases h5 i v hgi with ⟨g1,g2⟩ | ⟨g1,g2⟩
   ·have g1':n * ei.size≤i:=g1
    obtain⟨x,g3,g4⟩:=hl.get (i:=i - n * ei.size) g2
    refine⟨x,?_,g4.mono hD⟩
    rw[List.append_assoc,List.getElem?_append_right (by omega),hxs,List.getElem?_append_left (by omega)]
    exact g3
   ·have g1':i < n * ei.size:=by
     rcases g1 with g1 | g1
     ·exact g1
     ·have:n * ei.size+l.length≤i:=g1
      omega
    obtain⟨x,g3,g4⟩:=hcell i g1' v g2
    refine⟨x,?_,g4.mono hD⟩
    rw[List.append_assoc,List.getElem?_append_left (by omega)]
    exact g3
  ·rw[he] at hi
   cases hi
   simpa using hlen'
 refine app_ob hE hd ho ht hu hus he es ex hxs hvl h1 hlen hnew (fun w hw=>?_) hb1 hb2 (fun hr=>?_) fun _ b cap cur hI hf hc1 hc2 hlen2=>?_
 ·refine run_firstCells_some (P:=X.P) w ei.size n _ n _ _ hxs fun j v hj=>?_
  rw[addr_add _ rfl,cell_of_block (hw.m _ hM)]
  rw[List.getElem?_take] at hj
  split at hj
  ·rw[ho0];simpa using hj
  ·cases hj
 ·
  obtain⟨pre,post,hsp⟩:=List.append_of_mem hM
  rw[Nat.sub_zero] at hr
  have hfit:a.o+0+n * ei.size+vs.length≤arr.size:=by
   have h9:=Nat.mul_le_mul_right ei.size hr
   rw[Nat.add_mul] at h9
   rw[ho0,hasz,hvl]
   omega
  refine⟨a.b,a.o+0,e,arr,pre,post,rfl,hsp,hfit,?_⟩
  have hsplice:splice arr.toList (a.o+0+n * ei.size) vs=arr.toList.take (n * ei.size)++vs++arr.toList.drop (n * ei.size+vs.length):=by
   rw[ho0]
   simp only[splice,Nat.zero_add]
  rw[hsplice]
  have hkeep:∀ q∈M,q.num≠a.b→q∈pre++(⟨a.b,.cells (arr.toList.take (n * ei.size)++vs++arr.toList.drop (n * ei.size+vs.length)).toArray e (0,0)⟩:Blk)::post:=fun q hq hn=>by
   rw[hsp] at hq
   rcases List.mem_append.1 hq with hq | hq
   ·exact List.mem_append.2 (.inl hq)
   ·rcases List.mem_cons.1 hq with rfl | hq
    ·exact(hn rfl).elim
    ·exact List.mem_append.2 (.inr (List.mem_cons_of_mem _ hq))
  have hother:∀ i en b,t1.get i=some en→D i=some b→b.b≠a.b:=fun i en b hi hb hbb=>(hsub i en hi).1 (hm.inj _ _ _ _ _ _ (hsub i en hi).2 hg hb ha hbb)
  refine k _ _ _ Nm.ext_set ?_ (hgive.step (m:=⟨t1,m.n⟩) (j:=m.n) (fun i en hi=>(h6 i en hi).imp (fun q=>⟨q.1,some_inj' q.2⟩) fun q=>q) (D.set_self _ ⟨a.b,0,a.c⟩) (Nm.le_set _ hm.fresh) (fun i hi=>by unfold Nm.set;rw[if_neg hi]) (fun i b hb=>?_) (fun _ _ h=>h)
   (fun i en b hne hi hb q hq hn=>hkeep q hq (by rw[hn];exact hother i en b hi hb)) (hnewent _ _ _ _ (arr.toList.drop (n * ei.size+vs.length)) (Nm.le_set _ hm.fresh) (by simp) ?_ hmx) fun i en b hne hi hb=>hother i en b hi hb)
  ·simp only[VR]
   exact⟨_,Nm.set_self _ _ _,by simpa using hr,by rw[ho0];rfl⟩
  ·unfold Nm.set at hb
   split at hb
   ·show i < m.n+1;omega
   ·have:=hm.dom _ _ hb;show i < m.n+1;omega
  ·rw[←hsplice,splice_len (by simpa using hfit)]
   simpa using hasz
 ·
  refine k _ _ _ Nm.ext_set ?_ (hgive.new (m:=⟨t1,m.n⟩) (a:=⟨b,0,cap⟩) h6 hf (hnewent _ _ _ _ _ (Nm.le_set _ hm.fresh) (by simp) hlen2 hc2))
  simp only[VR]
  exact⟨_,Nm.set_self _ _ _,by simpa using hc1,by simp⟩
theorem app_some (hE:EOK X.P X.E) (hd:∀ d,o.dst=some d→d < X.n) {os ox:Operand} {t u:Nat} (ho:o.op=.call { callee:=.builtin .append,args:=#[os,ox],argTypes:=#[t,u] })
  {e a1 b1:Nat} {z1:List Value} {ei:TI} (ht:X.E t=some ⟨a1,b1,z1,.slice e⟩) {s x:EV} (hsrc:srcE (X.E u) ei x=true) (he:X.E e=some ei) {kn:Nat} (hk:lenE x=some kn) (h0:kn≠0) {us ux:Value}
  (es:ev F os=.val us) (gs:VR D s us) (ex:ev F ox=.val ux) (gx:VR D x ux) (h:newsE G m.t x ei.size (appK X G m s x ei kn e)=some (v,m'))
  (hm:MS (RX X G pr) D m I M) (k:NextK X G pr D m I M v m' o.dst F C K):OtherOb X o F C I M K:=by
 obtain⟨l,vs,h2,hl,hlen,hnew,hvl,_⟩:=news_ok (ut:=X.E u) h hsrc gx hm hk h0
 have h3:cnd (Nat.beq kn 0) (cnd (capE s) (some (s,m)) none) (cnd (l.all EV.one) (appE G m s l kn ei.size ei.bytes e) none)=some (v,m'):=h2
 rw[beq_ne h0] at h3
 have h4:cnd (l.all EV.one) (appE G m s l kn ei.size ei.bytes e) none=some (v,m'):=h3
 obtain⟨hone,h4⟩:=cnd_some h4
 have h1:=hl.one hone
 obtain⟨tu,hu,hus⟩:=src_ty hsrc
 have hTe:∀ {q:List Value} {c:Nat},q.length=c * ei.size→∀ i,(RX X G pr).E e=some i→q.length=c * i.size:=fun hq i hi=>by
  have:X.E e=some i:=hi
  rw[he] at this
  cases this
  exact hq
 cases s<;>simp only[appE] at h4<;>first | cases h4 | skip
 case sn=>
  obtain⟨hb,h5⟩:=cnd_some h4
  rw[Bool.and_eq_true] at hb
  obtain⟨m2,h6,hn,h7⟩:=newC_ok (Y:=RX X G pr) h5
  cases h6
  have hsn:=gs.sln
  subst hsn
  have hb1:0+kn≤maxLen:=by rw[Nat.zero_add];exact Nat.le_of_ble_eq_true hb.2
  have hb2:(0+kn) * ei.bytes≤140737488355328:=by rw[Nat.zero_add];exact Nat.le_of_ble_eq_true hb.1
  refine app_ob hE hd ho ht hu hus he (n:=0) (c:=0) (xs:=[]) es ex (by simp) hvl h1 hlen hnew (fun w _=>by simp[run_firstCells_none]) hb1 hb2 (fun hr=>by omega) fun _ b cap cur hI hf hc1 hc2 hlen2=>?_
  refine k _ _ _ Nm.ext_set ?_ (h7 cur hm hf hl (hTe hlen2) hc2)
  simp only[VR]
  exact⟨_,Nm.set_self _ _ _,by simpa using hc1,by simp⟩
 case sl=>
  obtain⟨hb,h5⟩:=cnd_some h4
  rw[Bool.and_eq_true] at hb
  exact app_sl hE hd ho ht hu hus he es gs ex h5 (Nat.le_of_ble_eq_true hb.2) (Nat.le_of_ble_eq_true hb.1) hl hvl h1 hlen hnew hm k
 case sx=>
  split at h4
  ·rename_i hg
   obtain⟨hb,h5⟩:=cnd_some h4
   simp only[Bool.and_eq_true] at hb
   obtain⟨⟨c1,c2⟩,c3,c4,c5⟩:=hb
   have d1:=Nat.eq_of_beq_eq_true c1
   have d2:=Nat.eq_of_beq_eq_true c2
   have d3:=Nat.eq_of_beq_eq_true c3
   subst d1
   subst d2
   subst d3
   exact app_sx hE hd ho ht hu hus he es gs ex hg h5 (Nat.le_of_ble_eq_true c5) (Nat.le_of_ble_eq_true c4) hl hvl h1 hlen hnew hm k
  ·cases h4
theorem x_app_ok (hE:EOK X.P X.E) (hd:∀ d,o.dst=some d→d < X.n) {args:Array Operand} {ts:Array Nat} (ho:o.op=.call { callee:=.builtin .append,args:=args,argTypes:=ts }) (h:x_app (RX X G pr) m ts.toList (rdL fr args.toList)=some (v,m'))
  (H:OR D F fr args.toList) (hm:MS (RX X G pr) D m I M) (k:NextK X G pr D m I M v m' o.dst F C K):OtherOb X o F C I M K:=by
 unfold x_app at h
 split at h
 ·rename_i t u s x ht hl
  split at h
  ·rename_i sa sb sz e hE1
   obtain⟨ei,he,h⟩:=opn_eq h
   obtain⟨hsrc,h⟩:=cnd_some h
   obtain⟨os,ox,hargs,hs1,hx1⟩:=rdL_two hl
   obtain⟨us,es,gs⟩:=H.ev (x:=os) (by rw[hargs];simp) hs1
   obtain⟨ux,ex,gx⟩:=H.ev (x:=ox) (by rw[hargs];simp) hx1
   have hargs':args=#[os,ox]:=by apply Array.ext';simpa using hargs
   have hts':ts=#[t,u]:=by apply Array.ext';simpa using ht
   have ho':o.op=.call { callee:=.builtin .append,args:=#[os,ox],argTypes:=#[t,u] }:=by rw[ho,hargs',hts']
   cases hk:lenE x with
   | none=>
    exfalso
    unfold srcE at hsrc
    split at hsrc<;>first | (cases hsrc;done) | (simp[lenE,lenS] at hk;done)
   | some kn=>
    rw[hk] at h
    by_cases h0:kn=0
    ·subst h0
     exact app_zero hE hd ho' hE1 hsrc he hk es gs ex gx h hm k
    ·exact app_some hE hd ho' hE1 hsrc he hk h0 es gs ex gx h hm k
  ·cases h
 ·cases h
end
section
variable {X:Ctx} {G:GT} {pr:PR} {D:Nm} {m m':Me} {F:Fr} {fr:Tri EV} {C:Bx} {I:GH} {M:List Blk} {K:KS} {o:Oper} {v:EV}
theorem x_ustr_ok (hE:EOK X.P X.E) (hd:∀ d,o.dst=some d→d < X.n) {args:Array Operand} {ts:Array Nat} (ho:o.op=.call { callee:=.builtin .unsafeString,args:=args,argTypes:=ts }) (h:x_ustr (RX X G pr) m ts.toList (rdL fr args.toList)=some (v,m'))
  (H:OR D F fr args.toList) (hm:MS (RX X G pr) D m I M) (k:NextK X G pr D m I M v m' o.dst F C K):OtherOb X o F C I M K:=by
 unfold x_ustr at h
 split at h
 ·rename_i pt it ht hl
  cases h
  obtain⟨op,on,hargs,h1,h2⟩:=rdL_two hl
  obtain⟨u1,e1,g1⟩:=H.ev (x:=op) (by rw[hargs];simp) h1
  obtain⟨u2,e2,g2⟩:=H.ev (x:=on) (by rw[hargs];simp) h2
  have hargs':args=#[op,on]:=by apply Array.ext';simpa using hargs
  have hts':ts=#[pt,it]:=by apply Array.ext';simpa using ht
  have g1':u1=.pointer none:=by simpa only[VR] using g1
  subst g1'
  rw[g2.int] at e2
  refine OtherOb.ustring0 (by rw[ho,hargs',hts']) hd e1 e2 (k D _ M Nm.ext_refl ?_ hm)
  simp only[VR]
  rfl
 ·rename_i pt it id n ht hl
  split at h
  ·rename_i sa sb sz e cs T lim hpt hg
   obtain⟨ei,he,h7⟩:=opn_eq h
   obtain⟨hb,h8⟩:=cnd_some h7
   simp only[Bool.and_eq_true] at hb
   obtain⟨op,on,hargs,h1,h2⟩:=rdL_two hl
   obtain⟨u1,e1,g1⟩:=H.ev (x:=op) (by rw[hargs];simp) h1
   obtain⟨u2,e2,g2⟩:=H.ev (x:=on) (by rw[hargs];simp) h2
   have hargs':args=#[op,on]:=by apply Array.ext';simpa using hargs
   have hts':ts=#[pt,it]:=by apply Array.ext';simpa using ht
   rw[g2.int] at e2
   obtain⟨a,ha,rfl⟩:=g1.ptr
   have hent:=hm.ent _ _ _ hg ha
   obtain⟨arr,ho0,hM,hsz,hc,hk,hmx⟩:=hent
   have hTe:=Nat.eq_of_beq_eq_true hb.2.1
   subst hTe
   unfold loadE at h8
   simp only[hg] at h8
   cases hbl0:Nat.ble (Nat.add 0 n) lim with
   | false=>rw[hbl0] at h8;cases h8
   | true=>
   rw[hbl0] at h8
   simp only[cond_true] at h8
   have hnl:0+n≤lim:=Nat.le_of_ble_eq_true hbl0
   obtain⟨l,c1,c2,h9⟩:=Tri.many_ok cs n 0 _ _ h8
   obtain⟨bs,hbs,h10⟩:=opn_eq h9
   obtain⟨h63,h11⟩:=cnd_some h10
   obtain⟨t1,h4,h5⟩:=Tri.set_ok (none:Option Ent) m.t id
   rw[h4] at h11
   cases h11
   have htl:(arr.toList.take n).length=n:=by rw[List.length_take,Array.length_toList];omega
   have hlv:VRs D l (arr.toList.take n):=VRs.of_get (by rw[htl,c1]) fun i v hi=>by
    have hin:i < n:=by rw[←c1];exact(List.getElem?_eq_some_iff.1 hi).1
    obtain⟨x,g3,g4⟩:=hc i v (by omega) (by have:=c2 i hin;rw[Nat.zero_add] at this;rw[this,hi])
    rw[ho0,Nat.zero_add] at g3
    exact⟨x,by rw[List.getElem?_take,if_pos hin];simpa using g3,g4⟩
   have hvs:=bytesE_ok hbs hlv
   have hbl:bs.length=n:=by
    have:=congrArg List.length hvs
    rw[htl] at this
    simpa using this.symm
   obtain⟨pre,post,hsp⟩:=List.append_of_mem hM
   have hperm:M.Perm (⟨a.b,.cells arr T (0,0)⟩::(pre++post)):=by rw[hsp];exact List.perm_middle
   have hcs:arr.toList.take bs.length=bs.map fun b=>Value.int .u8 b.toNat:=by rw[hbl];exact hvs
   have h0:bs≠[]:=fun e'=>by
    subst e'
    have:0 < n:=Nat.le_of_ble_eq_true hb.2.2
    simp at hbl
    omega
   have e1':ev F op=.val (.pointer (some ⟨a.b,0,none⟩)):=by rw[e1,ho0]
   have e2':ev F on=.val (.int .i64 bs.length):=by rw[e2,hbl];rfl
   refine OtherOb.ustring hE (by rw[ho,hargs',hts']) hd hpt rfl he (Nat.eq_of_beq_eq_true hb.1) e1' e2' h0 (by rw[hbl];exact Nat.le_of_ble_eq_true h63) hperm hcs ?_
   have hsub:∀ i en,t1.get i=some en→i≠id∧m.t.get i=some en:=fun i en hi=>by
    rcases h5 i en hi with ⟨_,h8⟩ | h8
    ·cases h8
    ·exact h8
   refine k D _ _ Nm.ext_refl (by simp only[VR]) ⟨fun i en b hi hb1=>?_,fun i i' en en' b b' hi hi'=>hm.inj i i' en en' b b' (hsub i en hi).2 (hsub i' en' hi').2,hm.dom,hm.glo⟩
   refine(hm.ent i en b (hsub i en hi).2 hb1).mono (Nm.le_refl D) fun q hq hn=>?_
   rcases List.mem_cons.1 (hperm.mem_iff.1 hq) with rfl | hq
   ·exact((hsub i en hi).1 (hm.inj _ _ _ _ _ _ (hsub i en hi).2 hg hb1 ha hn.symm)).elim
   ·exact hq
  ·cases h
 ·cases h
def isOther:Op→Bool
 | .makeMap .. | .lookup .. | .mapUpdate .. | .insert ..=>true
 | .call { callee:=.builtin .append,.. }=>true
 | .call { callee:=.builtin .copy,.. }=>true
 | .call { callee:=.builtin .unsafeString,.. }=>true
 | _=>false
theorem other_op {op:Op} (ho:o.op=op) (h:isOther op=true) (k:OtherOb X o F C I M K):V_op X o F C I M K:=by
 obtain⟨dst,op',ty,pos,after,guard⟩:=o
 simp only at ho
 subst ho
 unfold isOther at h
 split at h<;>first | exact k | cases h
theorem E_x_ok (hE:EOK X.P X.E) (hd:∀ d,o.dst=some d→d < X.n) (h:E_x (RX X G pr) m o fr=some (v,m')) (H:OR D F fr o.op.operands.toList) (hm:MS (RX X G pr) D m I M) (k:NextK X G pr D m I M v m' o.dst F C K):V_op X o F C I M K:=by
 unfold E_x at h
 split at h
 ·rename_i t x y ho
  exact x_store_ok ho h H hm k
 ·rename_i t ho
  exact other_op ho rfl (x_map_ok hE hd ho h (by simp) hm k)
 ·rename_i t x ho
  split at h
  ·rename_i kk n hx
   refine other_op ho rfl (x_map_ok hE hd ho h (fun y hy=>?_) hm k)
   cases hy
   obtain⟨u,e1,g1⟩:=H.ev (x:=x) (by rw[ho];simp[Op.operands]) hx
   rw[g1.int] at e1
   exact⟨_,_,e1⟩
  ·cases h
 ·rename_i t x y ok ho
  exact other_op ho rfl (x_look_ok hE hd ho h H hm k)
 ·rename_i t x y z ho
  exact other_op ho rfl (x_upd_ok hE (.inl ho) h H hm k)
 ·rename_i t x y z ho
  exact other_op ho rfl (x_upd_ok hE (.inr ho) h H hm k)
 ·rename_i s d x ho
  have hob:=x_conv_ok hE hd ho h H hm k
  obtain⟨dst,op',ty,pos,after,guard⟩:=o
  simp only at ho
  subst ho
  have hd2:∃ a b z,X.E d=some ⟨a,b,z,.string⟩:=by
   unfold x_conv at h
   split at h
   ·exact⟨_,_,_,by assumption⟩
   ·exact⟨_,_,_,by assumption⟩
   ·exact⟨_,_,_,by assumption⟩
   ·cases h
  obtain⟨a,b,z,hd2⟩:=hd2
  simp only[V_op,V_q,hd2]
  split
  ·rename_i e _
   cases e
  ·exact hob
 ·rename_i b args ts ho
  have H':OR D F fr args.toList:=by rw[ho] at H;simpa[Op.operands,Call.operands] using H
  unfold x_bi at h
  split at h
  ·exact other_op ho rfl (x_app_ok hE hd ho h H' hm k)
  ·exact other_op ho rfl (x_copy_ok hE hd ho h H' hm k)
  ·exact other_op ho rfl (x_ustr_ok hE hd ho h H' hm k)
  ·cases h
 ·cases h
end
def CallOK (Y:RK) (call:EV→List EV→Me→Option (EV×Me)):Prop:=∀ f l m v m',call f l m=some (v,m')→∀ (D:Nm) (I:GH) (M:List Blk) (u:Value) (us:List Value),VR D f u→VRs D l us→MS Y D m I M →
 (∃ g fs cs,u=.func (.func g) fs cs∧Spec Y.P g (fs.toList++us++cs.toList) I M fun r I' M'=>∃ D',D.ext D' m.n∧VR D' v r∧MS Y D' m' I' M') ∨
 ∃ q,u=.func (.yield q) #[] #[]∧SpecY Y.P q us I M fun r I' M'=>∃ D',D.ext D' m.n∧VR D' v r∧MS Y D' m' I' M'
def PFv (dst:Option Nat) (v:EV) (D:Nm) (F F':Fr):Prop:=(∀ d,dst=some d→SvE D (F' d) v)∧∀ (D:Nm) t v',dst≠some t→SvE D (F t) v'→SvE D (F' t) v'
theorem PFv.put {dst:Option Nat} {v:EV} {D:Nm} {x:SV} (F:Fr) (h:SvE D x v):PFv dst v D F (put dst x F):=by
 constructor
 ·rintro d rfl
  simpa[Go.V.put,upd] using h
 ·intro D t v' hne h
  cases dst with
  | none=>exact h
  | some d=>
   have:t≠d:=fun e=>hne (by rw[e])
   simp only[Go.V.put,upd,beq_ne this,cond_false]
   exact h
theorem PF.v {dst:Option Nat} {u:Value} {F F':Fr} (h:PF dst u F F') {D:Nm} {v:EV} (hv:VR D v u):PFv dst v D F F':=⟨fun d hd=>by rw[h.1 d hd];exact .val hv,h.2⟩
section
variable {X:Ctx} {G:GT} {pr:PR} {D:Nm} {m m':Me} {F:Fr} {fr:Tri EV} {C:Bx} {I:GH} {M:List Blk} {K:KS} {o:Oper} {v:EV}
def CoreOK (X:Ctx) (G:GT) (pr:PR) (o:Oper) (fr:Tri EV) (m:Me) (v:EV) (m':Me):Prop:=m.n≤m'.n∧∀ (D:Nm) (F:Fr) (C:Bx) (I:GH) (M:List Blk) (K:KS),OR D F fr o.op.operands.toList→MS (RX X G pr) D m I M →
 (∀ D' F' C' I' M',D.ext D' m.n→PFv o.dst v D' F F'→MS (RX X G pr) D' m' I' M'→K F' C' I' M')→V_op X o F C I M K
theorem V_op_q {op:Op} (ho:o.op=op) (hk:kindE X.E op=0) (h:V_q X op (evr F) C I M (fun x=>K (put o.dst x F) C I M) (OtherOb X o F C I M K)):V_op X o F C I M K:=by
 obtain⟨dst,op',ty,pos,after,guard⟩:=o
 simp only at ho
 subst ho
 cases op' with
 | call c=>
  obtain⟨callee,args,ts⟩:=c
  cases callee with
  | value f=>simp[kindE] at hk
  | invoke r n=>exact h
  | builtin b=>exact h
 | alloc t=>simp[kindE] at hk
 | box t x=>simp[kindE] at hk
 | store t x y=>simp[kindE] at hk
 | buildSlice t l ps=>simp[kindE] at hk
 | makeSlice t l c=>simp[kindE] at hk
 | _=>exact h
theorem putE_ok {R:Type} {dst:Option Nat} {K:Tri EV→Option R} {r:R} (h:putE dst fr v K=some r):∃ fr',K fr'=some r∧(dst=none→fr'=fr)∧∀ d,dst=some d→∀ t w,fr'.get t=some w→(t=d∧w=v)∨(t≠d∧fr.get t=some w):=by
 unfold putE at h
 cases dst with
 | none=>exact⟨fr,h,fun _=>rfl,fun d hd=>by cases hd⟩
 | some d=>
  have h':(forceV v fun v=>fr.setK (some v) d K)=some r:=h
  rw[forceV_eq] at h'
  obtain⟨fr',h1,h2⟩:=Tri.set_ok (some v) fr d
  rw[h1] at h'
  refine⟨fr',h',(fun e=>by cases e),fun d' hd t w hw=>?_⟩
  cases hd
  rcases h2 t w hw with ⟨e1,e2⟩ | ⟨e1,e2⟩
  ·exact .inl ⟨e1,(some_inj' e2).symm⟩
  ·exact .inr ⟨e1,e2⟩
theorem E_op_ok {R:Type} (hE:EOK X.P X.E) (hesc:∀ d,d < X.n→X.esc.contains d=true) (hd:∀ d,o.dst=some d→d < X.n) {call:EV→List EV→Me→Option (EV×Me)} (hcall:CallOK (RX X G pr) call) {K:Tri EV→Me→Option R} {r:R}
  (h:E_op (RX X G pr) call o fr m K=some r):∃ v m' fr',CoreOK X G pr o fr m v m'∧(putE o.dst fr v fun fr=>K fr m')=some r∧K fr' m'=some r∧(o.dst=none→fr'=fr)∧∀ d,o.dst=some d→∀ t w,fr'.get t=some w→(t=d∧w=v)∨(t≠d∧fr.get t=some w):=by
 have fin:∀ {v:EV} {m':Me},CoreOK X G pr o fr m v m'→(putE o.dst fr v fun fr=>K fr m')=some r→∃ v m' fr',CoreOK X G pr o fr m v m'∧(putE o.dst fr v fun fr=>K fr m')=some r∧K fr' m'=some r∧(o.dst=none→fr'=fr)∧∀ d,o.dst=some d→∀ t w,fr'.get t=some w→(t=d∧w=v)∨(t≠d∧fr.get t=some w):=fun {v m'} hc hp=>by
  obtain⟨fr',h1,h2,h3⟩:=putE_ok hp
  exact⟨v,m',fr',hc,hp,h1,h2,h3⟩
 unfold E_op at h
 split at h
 ·
  rename_i f args ts ho
  unfold op_call at h
  obtain⟨fv,hf,h⟩:=opn_eq h
  obtain⟨l,hl,h⟩:=opn_eq h
  obtain⟨⟨v,m'⟩,hc,h⟩:=opn_eq h
  obtain⟨hn,h⟩:=cnd_some h
  refine fin ⟨Nat.le_of_ble_eq_true hn,fun D F C I M K hO hm hk=>?_⟩ h
  rw[ho] at hO
  obtain⟨u,e1,g1⟩:=hO.ev (x:=f) (by simp[Op.operands,Call.operands]) hf
  obtain⟨us,e2,g2⟩:=hO.evs (l:=args.toList) (by intro y hy;simp[Op.operands,Call.operands];exact .inr (by simpa using hy)) hl
  obtain⟨dst,op',ty,pos,after,guard⟩:=o
  simp only at ho
  subst ho
  rcases hcall _ _ _ _ _ hc D I M u us g1 g2 hm with ⟨g,fs,cs,rfl,hs⟩ | ⟨q,rfl,hs⟩
  ·simp only[V_op,e1,e2]
   exact CallOb.whole _ hs fun r I' M' hI hx=>by
    obtain⟨D',h1,h2,h3⟩:=hx
    exact hk D' _ C I' M' h1 (.put F (.val h2)) h3
  ·simp only[V_op,e1,e2]
   refine OtherOb.yield rfl hd e1 e2 ⟨M,[],_,by simp,hs,fun r I' M' hI hx=>?_⟩
   obtain⟨D',h1,h2,h3⟩:=hx
   rw[List.append_nil]
   exact hk D' _ C I' M' h1 (.put F (.val h2)) h3
 ·rename_i op hno
  unfold op_k at h
  split at h
  ·rename_i hk0
   unfold op_v at h
   obtain⟨v,hv,h⟩:=opn_eq h
   refine fin ⟨Nat.le_refl _,fun D F C I M K hO hm hk=>?_⟩ h
   exact V_op_q rfl hk0 (E_q_ok hE hv hO hm fun x hx=>hk D _ C I M Nm.ext_refl (.put F hx) hm)
  ·unfold op_a at h
   obtain⟨d,hdd,h⟩:=opn_eq h
   obtain⟨⟨l,T,c,mk⟩,ha,h⟩:=opn_eq h
   obtain⟨m2,h2,hn,h3⟩:=newC_ok (Y:=RX X G pr) h
   refine fin (v:=mk m.n) (m':=m2) ⟨by omega,fun D F C I M K hO hm hk=>?_⟩ (by rw[hdd];exact h2)
   refine E_a_ok hE hesc hd ha (by rw[hdd];rfl) hO fun b vs u F' C' hI hf hvs hlen hc hu hpf=>?_
   have h4:=h3 (vs:=vs) [] (b:=b) (c:=c) hm hf hvs (by simpa using hlen) hc
   rw[List.append_nil] at h4
   exact hk _ F' C' I _ Nm.ext_set (hpf.v (hu _ _ (Nm.set_self _ _ _))) h4
  ·unfold op_x at h
   obtain⟨⟨v,m'⟩,hx,h⟩:=opn_eq h
   obtain⟨hn,h⟩:=cnd_some h
   refine fin ⟨Nat.le_of_ble_eq_true hn,fun D F C I M K hO hm hk=>?_⟩ h
   exact E_x_ok hE hd hx hO hm fun D' u M' h1 h2 h3=>hk D' _ C I M' h1 (.put F (.val h2)) h3
end
def St (X:Ctx) (G:GT) (pr:PR) (D0:Nm) (n0:Nat) (fr:Tri EV) (m:Me) (a:Act) (w:World):Prop:=
 ∃ D F C I M,Rel X a w F C I M∧FR D F fr∧MS (RX X G pr) D m I M∧D0.ext D n0∧n0≤m.n
section
variable {X:Ctx} {G:GT} {pr:PR} {D0:Nm} {n0:Nat} {m m':Me} {fr fr':Tri EV} {a:Act} {w:World}
theorem Nm.ext_trans {D D' D'':Nm} {n n':Nat} (h:D.ext D' n) (h':D'.ext D'' n') (hn:n≤n'):D.ext D'' n:=fun i hi=>by rw[h' i (by omega),h i hi]
theorem wantE_ok {ops:Array Oper} {o:Oper} {b:Bool} {D:Nm} {F:Fr} {β:Nat→Nat} (h:wantE ops.toList o fr=some b) (hF:∀ t,SVok β (F t) (a.tmps.getD t undef)) (hfr:FR D F fr):Region.wanted o (yielded ops a.tmps)=b:=by
 unfold wantE at h
 split at h
 ·rename_i hg
  cases h
  simp[Region.wanted,hg]
 ·rename_i j c hg
  split at h
  ·cases h
  ·rename_i d hj
   have hj':(ops[j]?).bind (·.dst)=some d:=by
    rw[nthE_eq] at hj
    simpa using hj
   have hy:=yielded_of hj' a.tmps
   split at h
   ·rename_i q hq
    cases h
    have hs:=hfr _ _ hq
    have hv:a.tmps.getD d undef=.bool q:=by
     have h1:=hF d
     rcases hs with ⟨u,e,hu⟩ | ⟨q',e',e⟩
     ·rw[e] at h1
      rw[h1,hu.bool]
     ·cases e'
      rw[e] at h1
      exact h1
    simp[Region.wanted,hg,hy,getD_bool hv]
   ·rename_i l hq
    cases h
    have hs:=hfr _ _ hq
    obtain⟨u,e,hu⟩:=hs.nb (by simp)
    obtain⟨vs,_,rfl⟩:=hu.tup
    have h1:=hF d
    rw[e] at h1
    have hnone:yielded ops a.tmps j=none:=by
     rw[hy]
     cases hg':a.tmps[d]? with
     | none=>rfl
     | some v=>
      simp only[SVok,Array.getD_eq_getD_getElem?,hg',Option.getD_some] at h1
      subst h1
      rfl
    simp[Region.wanted,hg,hnone]
   ·cases h
theorem skip_ok {R:Type} {o:Oper} {K:Tri EV→Option R} {r:R} (h:E_skip o fr K=some r):∃ fr',K fr'=some r∧(o.dst=none→fr'=fr)∧∀ d,o.dst=some d→∀ t w,fr'.get t=some w→(t=d∧w=.t [])∨(t≠d∧fr.get t=some w):=by
 unfold E_skip at h
 cases hd:o.dst with
 | none=>rw[hd] at h;exact⟨fr,h,fun _=>rfl,fun d e=>by cases e⟩
 | some d=>
  rw[hd] at h
  obtain⟨fr',h1,h2⟩:=Tri.set_ok (some (EV.t [])) fr d
  simp only[h1] at h
  refine⟨fr',h,(fun e=>by cases e),fun d' hd' t w hw=>?_⟩
  cases hd'
  rcases h2 t w hw with ⟨e1,e2⟩ | ⟨e1,e2⟩
  ·exact .inl ⟨e1,(some_inj' e2).symm⟩
  ·exact .inr ⟨e1,e2⟩
theorem FR.step {D D':Nm} {F F':Fr} {dst:Option Nat} {v:EV} (h:FR D F fr) (hle:D.le D') (hp:PFv dst v D' F F') (h1:dst=none→fr'=fr) (h2:∀ d,dst=some d→∀ t w,fr'.get t=some w→(t=d∧w=v)∨(t≠d∧fr.get t=some w)):FR D' F' fr':=fun t u ht=>by
 cases hd:dst with
 | none=>
  rw[h1 hd] at ht
  exact hp.2 D' t u (by rw[hd];simp) ((h t u ht).mono hle)
 | some d=>
  rcases h2 d hd t u ht with ⟨rfl,rfl⟩ | ⟨hne,hg⟩
  ·exact hp.1 _ hd
  ·exact hp.2 D' t u (by rw[hd];intro e;cases e;exact hne rfl) ((h t u hg).mono hle)
theorem E_ops_ok (hE:EOK X.P X.E) (hesc:∀ d,d < X.n→X.esc.contains d=true) {call:EV→List EV→Me→Option (EV×Me)} (hcall:CallOK (RX X G pr) call) (ops:Array Oper) (Q:Exit→Act→World→Prop)
  (hQ:∀ a w,St X G pr D0 n0 fr' m' a w→Q .normal a w):∀ (l:List Oper) (k:Nat),(∀ j,l[j]?=ops[k+j]?)→(∀ o∈l,∀ d,o.dst=some d→d < X.n)→∀ {fr m a w},E_ops (RX X G pr) call ops.toList l fr m=some (fr',m') →
   St X G pr D0 n0 fr m a w→wpOpsIn (fen X) 0 X.P ops Q (List.range' k l.length) a w
 | [],k,_,_,fr,m,a,w,h,hs=>by
  have h':some (fr,m)=some (fr',m'):=h
  cases h'
  exact hQ _ _ hs
 | o::rest,k,hl,hd,fr,m,a,w,h,hs=>by
  have h0:ops[k]?=some o:=by simpa using (hl 0).symm
  have hl':∀ j,rest[j]?=ops[k+1+j]?:=fun j=>by have:=hl (j+1);simpa[Nat.add_assoc,Nat.add_comm 1 j] using this
  have hd':∀ o∈rest,∀ d,o.dst=some d→d < X.n:=fun o ho=>hd o (by simp[ho])
  have hd0:=hd o (by simp)
  have h':opn (wantE ops.toList o fr) none (fun w=>cnd w (E_op (RX X G pr) call o fr m fun fr m=>E_ops (RX X G pr) call ops.toList rest fr m) (E_skip o fr fun fr=>E_ops (RX X G pr) call ops.toList rest fr m))=some (fr',m'):=h
  obtain⟨b,hb,h'⟩:=opn_eq h'
  obtain⟨D,F,C,I,M,⟨β,hR⟩,hF,hm,hx,hn⟩:=hs
  have hw:=wantE_ok hb hR.fr hF
  simp only[List.length_cons,List.range'_succ,wpOpsIn,h0]
  rw[hw]
  cases b with
  | true=>
   have h2:E_op (RX X G pr) call o fr m (fun fr m=>E_ops (RX X G pr) call ops.toList rest fr m)=some (fr',m'):=h'
   obtain⟨v,m1,fr1,⟨hmn,hcore⟩,-,h3,g1,g2⟩:=E_op_ok hE hesc hd0 hcall h2
   simp only[if_true]
   refine Oper.wpIn_mono (fun a' w'=>?_) (V_op_sound hE hd0 ⟨β,hR⟩ (hcore D F C I M (fun F' C' I' M'=>∃ D',D.ext D' m.n∧FR D' F' fr1∧MS (RX X G pr) D' m1 I' M') (hF.op _) hm
    fun D' F' C' I' M' e1 e2 e3=>⟨D',e1,hF.step (hm.le e1) e2 g1 g2,e3⟩))
   rintro⟨F',C',I',M',hr',D',e1,e2,e3⟩
   exact E_ops_ok hE hesc hcall ops Q hQ rest (k+1) hl' hd' h3 ⟨D',F',C',I',M',hr',e2,e3,Nm.ext_trans hx e1 hn,Nat.le_trans hn hmn⟩
  | false=>
   have h2:E_skip o fr (fun fr=>E_ops (RX X G pr) call ops.toList rest fr m)=some (fr',m'):=h'
   obtain⟨fr1,h3,g1,g2⟩:=skip_ok h2
   simp only[Bool.false_eq_true,if_false]
   refine⟨fun _ _=>trivial,E_ops_ok hE hesc hcall ops Q hQ rest (k+1) hl' hd' h3 ⟨D,put o.dst (.val undef) F,C,I,M,⟨β,hR.put (x:=.val undef) hd0 rfl⟩,hF.step (Nm.le_refl D) (.put F (.val .undef)) g1 g2,hm,hx,hn⟩⟩
end
theorem any_inv {X:Ctx} {ops:List Oper} {Q:Exit→Act→World→Prop} (hlt:∀ j e,Dep ops j e→e < j) (J:(Nat→Prop)→Act→World→Prop)
  (step:∀ (L:Nat→Prop) a w q o,J L a w→Closed ops L→(∀ i,L i→i < ops.length)→ops[q]?=some o→¬ L q→(∀ e,Dep ops q e→L e) →
   (Region.wanted o (yielded ops.toArray a.tmps)=true→o.wpIn (fen X) 0 X.P a w (J fun j=>L j∨j=q) Q)∧(Region.wanted o (yielded ops.toArray a.tmps)=false→J (fun j=>L j∨j=q) (a.put o.dst undef) w))
  (fin:∀ a w,J (fun i=>i < ops.length) a w→Q .normal a w):∀ (fuel:Nat) (listed:Array Bool) (a:Act) (w:World),listed.size=ops.length→todo ops listed≤fuel→Closed ops (fun i=>listed.getD i false=true) →
   J (fun i=>listed.getD i false=true) a w→wpAnyIn (fen X) 0 X.P .any ops.toArray Q fuel listed a w:=by
 have lim:∀ (listed:Array Bool) (i:Nat),listed.getD i false=true→i < listed.size:=fun listed i h=>by
  refine Classical.byContradiction fun hn=>?_
  simp[Array.getD,hn] at h
 have full:∀ (listed:Array Bool) a w,listed.size=ops.length→Region.ready .any ops.toArray listed=[]→J (fun i=>listed.getD i false=true) a w→Q .normal a w:=fun listed a w hsz hnil hJ=>by
  have all:∀ i,i < ops.length→listed.getD i false=true:=fun i=>by
   induction i using Nat.strongRecOn with
   | ind i ih=>
    intro hi
    refine Classical.byContradiction fun hn=>?_
    have ho:ops[i]?=some ops[i]:=List.getElem?_eq_getElem hi
    have:i∈Region.ready .any ops.toArray listed:=(mem_ready hsz).2 ⟨_,ho,hn,fun e he=>by
     have h1:=hlt i e he
     exact ih e h1 (by omega)⟩
    rw[hnil] at this
    cases this
  have e:(fun i=>listed.getD i false=true)=fun i=>i < ops.length:=by
   funext i
   simp only[eq_iff_iff]
   exact⟨fun h=>by have:=lim listed i h;omega,all i⟩
  rw[e] at hJ
  exact fin a w hJ
 intro fuel
 induction fuel with
 | zero=>
  intro listed a w hsz hf hcl hJ
  have hnil:Region.ready .any ops.toArray listed=[]:=by
   cases hr:Region.ready .any ops.toArray listed with
   | nil=>rfl
   | cons i l=>
    obtain⟨o,ho,hn,_⟩:=(mem_ready hsz).1 (by rw[hr];simp:i∈Region.ready .any ops.toArray listed)
    have:=todo_set (List.getElem?_eq_some_iff.1 ho).1 hsz hn
    omega
  exact⟨hnil,full listed a w hsz hnil hJ⟩
 | succ fuel ih=>
  intro listed a w hsz hf hcl hJ
  refine⟨fun hnil=>full listed a w hsz hnil hJ,fun q hq=>?_⟩
  obtain⟨o,ho,hn,hd⟩:=(mem_ready hsz).1 hq
  have hlt':=(List.getElem?_eq_some_iff.1 ho).1
  have hset:=listed_set (listed:=listed) (i:=q) (by omega)
  have next:∀ a' w',J (fun j=>listed.getD j false=true∨j=q) a' w'→wpAnyIn (fen X) 0 X.P .any ops.toArray Q fuel (listed.setIfInBounds q true) a' w':=fun a' w' h=>by
   refine ih _ a' w' (by simpa using hsz) ?_ ?_ (by rw[hset];exact h)
   ·have:=todo_set hlt' hsz hn
    omega
   ·rw[hset]
    rintro j e (hj | rfl) he
    ·exact .inl (hcl j e hj he)
    ·exact .inl (hd e he)
  obtain⟨s1,s2⟩:=step _ a w q o hJ hcl (fun i hi=>by have:=lim listed i hi;omega) ho hn hd
  have hidx:ops.toArray[q]?=some o:=by simpa using ho
  unfold wpOpIn
  simp only[hidx]
  cases hw:Region.wanted o (yielded ops.toArray a.tmps) with
  | true=>
   simp only[if_true]
   exact Oper.wpIn_mono next (s1 hw)
  | false=>
   simp only[Bool.false_eq_true,if_false]
   exact⟨fun _ _=>trivial,next _ _ (s2 hw)⟩
theorem atAll_ok {S:List Me} {lo hi j:Nat} {p:Me→Bool} {m:Me} (h:atAll S lo hi p=true) (h1:lo≤j) (h2:j≤hi) (hj:S[j]?=some m):p m=true:=by
 unfold atAll at h
 refine List.all_eq_true.1 h m ?_
 refine List.mem_of_getElem? (i:=j - lo) ?_
 rw[List.getElem?_take,if_pos (by omega),List.getElem?_drop,show lo+(j - lo)=j by omega]
 exact hj
theorem filter_le {α:Type} {p:α→Bool} {j:Nat}:∀ {l:List α},(∀ q e,l[q]?=some e→p e=true→q < j)→(l.filter p).length≤j:=by
 intro l h
 have e1:l.filter p=(l.take j).filter p:=by
  conv=>lhs;rw[←List.take_append_drop j l]
  rw[List.filter_append]
  have:(l.drop j).filter p=[]:=by
   rw[List.filter_eq_nil_iff]
   intro a ha hp
   obtain⟨q,hq⟩:=List.getElem?_of_mem ha
   rw[List.getElem?_drop] at hq
   have:=h _ _ hq hp
   omega
  rw[this,List.append_nil]
 rw[e1]
 refine Nat.le_trans (List.length_filter_le _ _) ?_
 simp
 omega
theorem le_filter {α:Type} {p:α→Bool} {j:Nat} {l:List α} (hj:j≤l.length) (h:∀ q e,q < j→l[q]?=some e→p e=true):j≤(l.filter p).length:=by
 have e1:(l.take j).filter p=l.take j:=by
  rw[List.filter_eq_self]
  intro a ha
  obtain⟨q,hq⟩:=List.getElem?_of_mem ha
  rw[List.getElem?_take] at hq
  split at hq
  ·exact h q a (by assumption) hq
  ·cases hq
 have e2:l.filter p=(l.take j).filter p++(l.drop j).filter p:=by
  conv=>lhs;rw[←List.take_append_drop j l]
  rw[List.filter_append]
 rw[e2,e1,List.length_append,List.length_take]
 omega
mutual
theorem sameE_ok {D:Nm}:∀ {x y:EV} {u:Value},sameE x y=true→VR D x u→VR D y u
 | x,y,u,h,hx=>by
  cases x<;>cases y<;>simp only[sameE,Bool.false_eq_true,Bool.and_eq_true] at h
  case b.b=>
   have:=eq_of_beq h
   subst this;exact hx
  case i.i=>
   obtain⟨h1,h2⟩:=h
   have:=IntKind.eqb_eq h1
   subst this
   rw[eqI_eq,decide_eq_true_eq] at h2
   subst h2;exact hx
  case s.s=>
   rw[eqS_eq,decide_eq_true_eq] at h
   subst h;exact hx
  case pn.pn=>exact hx
  case p.p=>
   obtain⟨h1,h2⟩:=h
   have:=Nat.eq_of_beq_eq_true h1;subst this
   have:=Nat.eq_of_beq_eq_true h2;subst this;exact hx
  case g.g=>
   obtain⟨h1,h2⟩:=h
   have:=Nat.eq_of_beq_eq_true h1;subst this
   have:=Nat.eq_of_beq_eq_true h2;subst this;exact hx
  case sn.sn=>exact hx
  case sl.sl=>
   obtain⟨h1,h2,h3,h4⟩:=h
   have:=Nat.eq_of_beq_eq_true h1;subst this
   have:=Nat.eq_of_beq_eq_true h2;subst this
   have:=Nat.eq_of_beq_eq_true h3;subst this
   have:=Nat.eq_of_beq_eq_true h4;subst this;exact hx
  case sx.sx=>
   obtain⟨h1,h2,h3,h4⟩:=h
   have:=Nat.eq_of_beq_eq_true h1;subst this
   have:=Nat.eq_of_beq_eq_true h2;subst this
   have:=Nat.eq_of_beq_eq_true h3;subst this
   have:=Nat.eq_of_beq_eq_true h4;subst this;exact hx
  case gs.gs=>
   obtain⟨h1,h2,h3,h4⟩:=h
   have:=Nat.eq_of_beq_eq_true h1;subst this
   have:=Nat.eq_of_beq_eq_true h2;subst this
   have:=Nat.eq_of_beq_eq_true h3;subst this
   have:=Nat.eq_of_beq_eq_true h4;subst this;exact hx
  case mn.mn=>exact hx
  case m.m=>have:=Nat.eq_of_beq_eq_true h;subst this;exact hx
  case f.f=>
   obtain⟨h1,h2,h3⟩:=h
   have:=Nat.eq_of_beq_eq_true h1;subst this
   simp only[VR] at hx ⊢
   obtain⟨vs,ws,g1,g2,g3⟩:=hx
   exact⟨vs,ws,sameLE_ok h2 g1,sameLE_ok h3 g2,g3⟩
  case y.y=>have:=Nat.eq_of_beq_eq_true h;subst this;exact hx
  case fn.fn=>exact hx
  case ni.ni=>exact hx
  case t.t=>
   simp only[VR] at hx ⊢
   obtain⟨vs,g1,g2⟩:=hx
   exact⟨vs,sameLE_ok h g1,g2⟩
  case a.a=>
   simp only[VR] at hx ⊢
   obtain⟨vs,g1,g2⟩:=hx
   exact⟨vs,sameLE_ok h g1,g2⟩
theorem sameLE_ok {D:Nm}:∀ {x y:List EV} {us:List Value},sameLE x y=true→VRs D x us→VRs D y us
 | [],[],us,h,hx=>hx
 | [],_::_,us,h,hx=>by simp[sameLE] at h
 | _::_,[],us,h,hx=>by simp[sameLE] at h
 | x::l,y::m,us,h,hx=>by
  simp only[sameLE,Bool.and_eq_true] at h
  obtain⟨u,us,g1,g2,rfl⟩:=hx.uncons
  exact .cons (sameE_ok h.1 g1) (sameLE_ok h.2 g2)
end
def PutR (dst:Option Nat) (fr:Tri EV) (v:EV) (fr':Tri EV):Prop:=(dst=none→fr'=fr)∧∀ d,dst=some d→∀ t w,fr'.get t=some w→(t=d∧w=v)∨(t≠d∧fr.get t=some w)
def NewR (m m':Me) (l:List EV) (T:Nat):Prop:=m'.n=m.n+1∧(∀ id e,m'.t.get id=some e→id=m.n∨m.t.get id=some e)
def Grow (m m':Me):Prop:=m.n≤m'.n∧∀ id e,id < m.n→m'.t.get id=some e→m.t.get id=some e
theorem Grow.refl (m:Me):Grow m m:=⟨Nat.le_refl _,fun _ _ _ h=>h⟩
theorem Grow.trans {a b c:Me} (h:Grow a b) (k:Grow b c):Grow a c:=⟨Nat.le_trans h.1 k.1,fun id e hi he=>h.2 id e hi (k.2 id e (Nat.lt_of_lt_of_le hi h.1) he)⟩
theorem NewR.grow {m m':Me} {l:List EV} {T:Nat} (h:NewR m m' l T):Grow m m':=⟨by rw[h.1];omega,fun id e hi he=>by
 rcases h.2 id e he with h1 | h1
 ·omega
 ·exact h1⟩
theorem newC_raw {m:Me} {l:List EV} {T:Nat} {R:Type} {K:Nat→Me→Option R} {r:R} (h:newC m l T K=some r):∃ m',K m.n m'=some r∧NewR m m' l T:=by
 unfold newC at h
 obtain⟨cs,h1,h2⟩:=Tri.puts_ok l (.nil:Tri EV) 0
 rw[h1] at h
 obtain⟨t',h3,h4⟩:=newE_ok h
 exact⟨_,h4,rfl,fun id e hi=>(h3 id e hi).imp (fun q=>q.1) fun q=>q.2⟩
theorem MS.grow {Y:RK} {D:Nm} {m m':Me} {I:GH} {M:List Blk} (h:MS Y D m I M) (hg:Grow m m'):MS Y D m' I M where
 ent id e a h1 h2:=h.ent id e a (hg.2 id e (h.dom _ _ h2) h1) h2
 inj id id' e e' a a' h1 h1' h2 h2' hb:=h.inj id id' e e' a a' (hg.2 id e (h.dom _ _ h2) h1) (hg.2 id' e' (h.dom _ _ h2') h1') h2 h2' hb
 dom id a h2:=Nat.lt_of_lt_of_le (h.dom _ _ h2) hg.1
 glo:=h.glo
inductive Trc (X:Ctx) (G:GT) (pr:PR) (ops:List Oper):List (Nat×Nat)→Tri EV→Me→List (Nat×EV)→Tri EV→Me→List Me→List Hold→Prop
 | nil {fr m}:Trc X G pr ops [] fr m [] fr m [m] []
 | q {i o rest fr m v fr' vs frE mE S A} (ho:ops[i]?=some o) (hk:kindE X.E o.op=0) (hw:wantE ops o fr=some true) (hv:E_q X.P X.E G m.t o.op fr=some v) (hp:PutR o.dst fr v fr') (t:Trc X G pr ops rest fr' m vs frE mE S A) :
   Trc X G pr ops ((i,0)::rest) fr m ((i,v)::vs) frE mE S (bif isLoad o.op then .load i o fr v::A else A)
 | a {i o d rest fr m m' l T c mk fr' vs frE mE S A} (ho:ops[i]?=some o) (hk:kindE X.E o.op=1) (hw:wantE ops o fr=some true) (hd:o.dst=some d) (hv:E_a X.E o fr=some (l,T,c,mk)) (hn:NewR m m' l T) (hp:PutR o.dst fr (mk m.n) fr') (t:Trc X G pr ops rest fr' m' vs frE mE S A) :
   Trc X G pr ops ((i,1)::rest) fr m ((i,mk m.n)::vs) frE mE S (.made i m.n l T::A)
 | e {i o rest fr m m' v fr' vs frE mE S A} (ho:ops[i]?=some o) (hk:kindE X.E o.op=2) (hw:wantE ops o fr=some true) (hc:CoreOK X G pr o fr m v m') (hp:PutR o.dst fr v fr') (t:Trc X G pr ops rest fr' m' vs frE mE S A) :
   Trc X G pr ops ((i,2)::rest) fr m ((i,v)::vs) frE mE (m::S) A
 | skip {i k o rest fr m fr' vs frE mE S A} (ho:ops[i]?=some o) (hk:kindE X.E o.op=k) (hw:wantE ops o fr=some false) (hp:PutR o.dst fr (.t []) fr') (t:Trc X G pr ops rest fr' m vs frE mE S A) :
   Trc X G pr ops ((i,k)::rest) fr m ((i,.t [])::vs) frE mE (bif Nat.beq k 2 then m::S else S) A
section
variable {X:Ctx} {G:GT} {pr:PR} {ops:List Oper}
theorem draw_tr (hE:EOK X.P X.E) (hesc:∀ d,d < X.n→X.esc.contains d=true) (hdn:∀ o∈ops,∀ d,o.dst=some d→d < X.n) {call:EV→List EV→Me→Option (EV×Me)} (hcall:CallOK (RX X G pr) call):∀ (row:List (Nat×Nat)) {fr:Tri EV} {m:Me} {S0:List Me} {A0:List Hold} {frE:Tri EV} {mE:Me} {S':List Me} {A':List Hold},
  E_draw (RX X G pr) call ops row fr m S0 A0=some (frE,mE,S',A')→∃ vs S A,Trc X G pr ops row fr m vs frE mE S A∧S'=S.reverse++S0∧(∀ h∈A,h∈A')∧∀ h∈A0,h∈A'
 | [],fr,m,S0,A0,frE,mE,S',A',h=>by
  simp only[E_draw,Option.some.injEq,Prod.mk.injEq] at h
  obtain⟨rfl,rfl,rfl,rfl⟩:=h
  exact⟨[],[m],[],.nil,by simp,by simp,fun _ h=>h⟩
 |(i,k)::rest,fr,m,S0,A0,frE,mE,S',A',h=>by
  simp only[E_draw] at h
  obtain⟨o,ho,h⟩:=opn_eq h
  obtain⟨w,hw,h⟩:=opn_eq h
  obtain⟨hk,h⟩:=cnd_some h
  rw[nthE_eq] at ho
  have hk':kindE X.E o.op=k:=Nat.eq_of_beq_eq_true hk
  have hd0:=hdn o (List.mem_of_getElem? ho)
  cases w with
  | false=>
   have h2:E_skip o fr (fun fr=>E_draw (RX X G pr) call ops rest fr m (cnd (Nat.beq k 2) (m::S0) S0) A0)=some (frE,mE,S',A'):=h
   obtain⟨fr1,h3,g1,g2⟩:=skip_ok h2
   obtain⟨vs,S,A,ht,hS,hA,hA0⟩:=draw_tr hE hesc hdn hcall rest h3
   refine⟨_,_,_,.skip ho hk' hw ⟨g1,g2⟩ ht,?_,hA,hA0⟩
   rw[hS]
   cases Nat.beq k 2<;>simp[cnd]
  | true=>
   have h1:cnd (Nat.beq k 0) (opn (E_q X.P X.E G m.t o.op fr) none fun v=>putE o.dst fr v fun fr'=>E_draw (RX X G pr) call ops rest fr' m S0 (cnd (isLoad o.op) (.load i o fr v::A0) A0))
     (cnd (Nat.beq k 1) (opn o.dst none fun d=>opn (E_a X.E o fr) none fun r=>newC m r.1 r.2.1 fun id m=>putE (some d) fr (r.2.2.2 id) fun fr=>E_draw (RX X G pr) call ops rest fr m S0 (.made i id r.1 r.2.1::A0))
     (E_op (RX X G pr) call o fr m fun fr m'=>E_draw (RX X G pr) call ops rest fr m' (m::S0) A0))=some (frE,mE,S',A'):=h
   by_cases k0:k=0
   ·subst k0
    have h2:(opn (E_q X.P X.E G m.t o.op fr) none fun v=>putE o.dst fr v fun fr'=>E_draw (RX X G pr) call ops rest fr' m S0 (cnd (isLoad o.op) (.load i o fr v::A0) A0))=some (frE,mE,S',A'):=h1
    obtain⟨v,hv,h2⟩:=opn_eq h2
    obtain⟨fr1,h3,g1,g2⟩:=putE_ok h2
    obtain⟨vs,S,A,ht,hS,hA,hA0⟩:=draw_tr hE hesc hdn hcall rest h3
    refine⟨_,_,_,.q ho hk' hw hv ⟨g1,g2⟩ ht,hS,fun y hy=>?_,fun y hy=>hA0 y ?_⟩
    ·cases hl:isLoad o.op with
     | false=>rw[hl] at hy;exact hA y hy
     | true=>
      rw[hl] at hy
      rcases List.mem_cons.1 hy with rfl | hy
      ·refine hA0 _ ?_
       rw[hl]
       simp[cnd]
      ·exact hA y hy
    ·cases isLoad o.op with
     | false=>exact hy
     | true=>exact List.mem_cons_of_mem _ hy
   rw[beq_ne k0] at h1
   by_cases k1:k=1
   ·subst k1
    have h2:(opn o.dst none fun d=>opn (E_a X.E o fr) none fun r=>newC m r.1 r.2.1 fun id m=>putE (some d) fr (r.2.2.2 id) fun fr=>E_draw (RX X G pr) call ops rest fr m S0 (.made i id r.1 r.2.1::A0))=some (frE,mE,S',A'):=h1
    obtain⟨d,hd,h2⟩:=opn_eq h2
    obtain⟨⟨l,T,c,mk⟩,ha,h2⟩:=opn_eq h2
    obtain⟨m2,h3,hn⟩:=newC_raw h2
    have h3':putE o.dst fr (mk m.n) (fun fr=>E_draw (RX X G pr) call ops rest fr m2 S0 (.made i m.n l T::A0))=some (frE,mE,S',A'):=by rw[hd];exact h3
    obtain⟨fr1,h4,g1,g2⟩:=putE_ok h3'
    obtain⟨vs,S,A,ht,hS,hA,hA0⟩:=draw_tr hE hesc hdn hcall rest h4
    refine⟨_,_,_,.a ho hk' hw hd ha hn ⟨g1,g2⟩ ht,hS,fun y hy=>?_,fun y hy=>hA0 y (List.mem_cons_of_mem _ hy)⟩
    rcases List.mem_cons.1 hy with rfl | hy
    ·exact hA0 _ (by simp)
    ·exact hA y hy
   ·rw[beq_ne k1] at h1
    have h2:E_op (RX X G pr) call o fr m (fun fr m'=>E_draw (RX X G pr) call ops rest fr m' (m::S0) A0)=some (frE,mE,S',A'):=h1
    obtain⟨v,m1,fr1,hcore,-,h3,g1,g2⟩:=E_op_ok hE hesc hd0 hcall h2
    obtain⟨vs,S,A,ht,hS,hA,hA0⟩:=draw_tr hE hesc hdn hcall rest h3
    have hk2:k=2:=by
     have:kindE X.E o.op≤2:=by
      unfold kindE
      split<;>first | omega | (split<;>first | omega | (split<;>omega))
     rw[hk'] at this
     omega
    subst hk2
    exact⟨_,_,_,.e ho hk' hw hcore ⟨g1,g2⟩ ht,by rw[hS];simp,hA,hA0⟩
theorem Trc.head {row:List (Nat×Nat)} {fr frE:Tri EV} {m mE:Me} {vs:List (Nat×EV)} {S:List Me} {A:List Hold} (h:Trc X G pr ops row fr m vs frE mE S A):∃ m2 S',S=m2::S'∧Grow m m2:=by
 induction h with
 | nil=>exact⟨_,_,rfl,.refl _⟩
 | q _ _ _ _ _ _ ih=>exact ih
 | a _ _ _ _ _ hn _ _ ih=>
  obtain⟨m2,S',h1,h2⟩:=ih
  exact⟨m2,S',h1,hn.grow.trans h2⟩
 | e _ _ _ _ _ _ _=>exact⟨_,_,rfl,.refl _⟩
 | @skip i k o rest fr m fr' vs frE mE S A _ _ _ _ _ ih=>
  cases hk:Nat.beq k 2 with
  | true=>exact⟨_,_,rfl,.refl _⟩
  | false=>simpa using ih
theorem Trc.made_ge {row:List (Nat×Nat)} {fr frE:Tri EV} {m mE:Me} {vs:List (Nat×EV)} {S:List Me} {A:List Hold} (h:Trc X G pr ops row fr m vs frE mE S A):m.n≤mE.n∧∀ i c l T,.made i c l T∈A→m.n≤c∧i∈row.map (·.1):=by
 induction h with
 | nil=>exact⟨Nat.le_refl _,fun _ _ _ _ h=>by cases h⟩
 | @q i o rest fr m v fr' vs frE mE S A _ _ _ _ _ _ ih=>
  refine⟨ih.1,fun i' c l T hm=>?_⟩
  have hm':.made i' c l T∈A:=by
   cases hl:isLoad o.op with
   | false=>rw[hl] at hm;exact hm
   | true=>
    rw[hl] at hm
    rcases List.mem_cons.1 hm with e | hm
    ·cases e
    ·exact hm
  exact⟨(ih.2 i' c l T hm').1,List.mem_cons_of_mem _ (ih.2 i' c l T hm').2⟩
 | a _ _ _ _ _ hn _ _ ih=>
  refine⟨Nat.le_trans hn.grow.1 ih.1,fun i' c l T hm=>?_⟩
  rcases List.mem_cons.1 hm with e | hm
  ·cases e
   exact⟨Nat.le_refl _,by simp⟩
  ·exact⟨Nat.le_trans hn.grow.1 (ih.2 i' c l T hm).1,List.mem_cons_of_mem _ (ih.2 i' c l T hm).2⟩
 | e _ _ _ hc _ _ ih=>exact⟨Nat.le_trans hc.1 ih.1,fun i' c l T hm=>⟨Nat.le_trans hc.1 (ih.2 i' c l T hm).1,List.mem_cons_of_mem _ (ih.2 i' c l T hm).2⟩⟩
 | skip _ _ _ _ _ ih=>exact⟨ih.1,fun i' c l T hm=>⟨(ih.2 i' c l T hm).1,List.mem_cons_of_mem _ (ih.2 i' c l T hm).2⟩⟩
theorem Trc.split:∀ (pre:List (Nat×Nat)) {rest:List (Nat×Nat)} {fr frE:Tri EV} {m mE:Me} {vs:List (Nat×EV)} {S:List Me} {A:List Hold},Trc X G pr ops (pre++rest) fr m vs frE mE S A →
  ∃ vs1 vs2 fr1 m1 S1 S2 A2,vs=vs1++vs2∧vs1.map (·.1)=pre.map (·.1)∧S=S1++S2∧S1.length=(pre.filter fun r=>Nat.beq r.2 2).length∧Trc X G pr ops rest fr1 m1 vs2 frE mE S2 A2∧(∀ h∈A2,h∈A)∧m.n≤m1.n ∧
   (∀ t w,fr1.get t=some w→(∃ i,(i,w)∈vs1∧dstAt ops i=some t)∨((∀ i∈pre.map (·.1),dstAt ops i≠some t)∧fr.get t=some w)) ∧
   (∀ i c l T,.made i c l T∈A→.made i c l T∈A2∨c < m1.n)
 | [],rest,fr,frE,m,mE,vs,S,A,h=>⟨[],vs,fr,m,[],S,A,rfl,rfl,rfl,rfl,h,fun _ h=>h,Nat.le_refl _,fun t w hw=>.inr ⟨by simp,hw⟩,fun _ _ _ _ h=>.inl h⟩
 |(i,k)::pre,rest,fr,frE,m,mE,vs,S,A,h=>by
  have fin:∀ {o:Oper} {fr':Tri EV} {m':Me} {v:EV} {vs':List (Nat×EV)} {S' S:List Me} {A' A:List Hold},ops[i]?=some o→PutR o.dst fr v fr'→m.n≤m'.n→Trc X G pr ops (pre++rest) fr' m' vs' frE mE S' A' →
    (S=if Nat.beq k 2 then m::S' else S')→(∀ h∈A',h∈A)→(∀ i c l T,.made i c l T∈A→.made i c l T∈A'∨c < m'.n) →
    ∃ vs1 vs2 fr1 m1 S1 S2 A2,(i,v)::vs'=vs1++vs2∧vs1.map (·.1)=((i,k)::pre).map (·.1)∧S=S1++S2∧S1.length=(((i,k)::pre).filter fun r=>Nat.beq r.2 2).length∧Trc X G pr ops rest fr1 m1 vs2 frE mE S2 A2∧(∀ h∈A2,h∈A)∧m.n≤m1.n ∧
     (∀ t w,fr1.get t=some w→(∃ i,(i,w)∈vs1∧dstAt ops i=some t)∨((∀ i'∈((i,k)::pre).map (·.1),dstAt ops i'≠some t)∧fr.get t=some w)) ∧
     (∀ i c l T,.made i c l T∈A→.made i c l T∈A2∨c < m1.n):=by
   intro o fr' m' v vs' S' S A' A ho hp hmn ht hS hA hA2
   obtain⟨vs1,vs2,fr1,m1,S1,S2,A2,e1,e2,e3,e4,e5,e6,e7,e8,e9⟩:=Trc.split pre ht
   refine⟨(i,v)::vs1,vs2,fr1,m1,(if Nat.beq k 2 then m::S1 else S1),S2,A2,by rw[e1];rfl,by simp[e2],?_,?_,e5,fun h hh=>hA h (e6 h hh),Nat.le_trans hmn e7,fun t w hw=>?_,fun i c l T hm=>?_⟩
   ·rw[hS,e3]
    split<;>simp
   ·simp only[List.filter_cons]
    split<;>simp[e4]
   ·rcases e8 t w hw with ⟨i',h1,h2⟩ | ⟨h1,h2⟩
    ·exact .inl ⟨i',List.mem_cons_of_mem _ h1,h2⟩
    ·have hdi:dstAt ops i=o.dst:=by simp[dstAt,ho]
     cases hd:o.dst with
     | none=>
      rw[hp.1 hd] at h2
      refine .inr ⟨fun i' hi'=>?_,h2⟩
      rcases List.mem_cons.1 hi' with e | hi'
      ·rw[show i'=i from e,hdi,hd];simp
      ·exact h1 i' hi'
     | some d=>
      rcases hp.2 d hd t w h2 with ⟨rfl,rfl⟩ | ⟨hne,h3⟩
      ·exact .inl ⟨i,by simp,by rw[hdi,hd]⟩
      ·refine .inr ⟨fun i' hi'=>?_,h3⟩
       rcases List.mem_cons.1 hi' with e | hi'
       ·rw[show i'=i from e,hdi,hd]
        exact fun e=>hne (by cases e;rfl)
       ·exact h1 i' hi'
   ·rcases hA2 i c l T hm with h1 | h1
    ·exact e9 i c l T h1
    ·exact .inr (Nat.lt_of_lt_of_le h1 e7)
  cases h with
  | q ho hk hw hv hp t=>
   rename_i o v fr' vs' A'
   refine fin ho hp (Nat.le_refl _) t (by simp) (fun h hh=>?_) fun i c l T hm=>?_
   ·cases isLoad o.op with
    | false=>exact hh
    | true=>exact List.mem_cons_of_mem _ hh
   ·cases hl:isLoad o.op with
    | false=>rw[hl] at hm;exact .inl hm
    | true=>
     rw[hl] at hm
     rcases List.mem_cons.1 hm with e | hm
     ·cases e
     ·exact .inl hm
  | a ho hk hw hd hv hn hp t=>
   refine fin ho hp hn.grow.1 t (by simp) (fun h hh=>List.mem_cons_of_mem _ hh) fun i c l T hm=>?_
   rcases List.mem_cons.1 hm with e | hm
   ·cases e
    exact .inr (by rw[hn.1];omega)
   ·exact .inl hm
  | e ho hk hw hc hp t=>exact fin ho hp hc.1 t (by simp) (fun _ h=>h) fun _ _ _ _ h=>.inl h
  | skip ho hk hw hp t=>exact fin ho hp (Nat.le_refl _) t (by cases Nat.beq k 2<;>rfl) (fun _ h=>h) fun _ _ _ _ h=>.inl h
end
section
variable {ops:List Oper}
theorem dOk_dep {i k:Nat} {o:Oper} (ho:ops[i]?=some o) (h:dOk o k=true):∀ e,Dep ops i e→k.testBit e=true:=by
 rintro e ⟨o',ed,ho',hed,hb,rfl⟩
 rw[ho] at ho'
 cases ho'
 have:=List.all_eq_true.1 h ed (by simpa using hed)
 rw[hb] at this
 simpa using this
theorem perm_split:∀ {row:List (Nat×Nat)} {k:Nat},permOk ops row k=true→∀ (pre:List (Nat×Nat)) (i c:Nat) (post:List (Nat×Nat)),row=pre++(i,c)::post →
  (∃ o,ops[i]?=some o)∧k.testBit i=false∧i ∉ pre.map (·.1)∧∀ e,Dep ops i e→k.testBit e=true∨e∈pre.map (·.1)
 | [],k,h,pre,i,c,post,e=>by simp at e
 |(i0,c0)::row,k,h,pre,i,c,post,e=>by
  simp only[permOk,Bool.and_eq_true,Bool.not_eq_true'] at h
  obtain⟨h1,h2⟩:=h
  split at h2
  ·rename_i o ho
   rw[Bool.and_eq_true] at h2
   cases pre with
   | nil=>
    simp only[List.nil_append,List.cons.injEq,Prod.mk.injEq] at e
    obtain⟨⟨rfl,rfl⟩,rfl⟩:=e
    exact⟨⟨o,ho⟩,h1,by simp,fun e he=>.inl (dOk_dep ho h2.1 e he)⟩
   | cons p pre=>
    simp only[List.cons_append,List.cons.injEq] at e
    obtain⟨e1,e2⟩:=e
    obtain⟨g1,g2,g3,g4⟩:=perm_split h2.2 pre i c post e2
    have hb:∀ x,(k ||| 2 ^ i0).testBit x=(k.testBit x || decide (x=i0)):=fun x=>by
     rw[Nat.testBit_or,Nat.testBit_two_pow]
     congr 1
     exact decide_eq_decide.2 eq_comm
    rw[hb,Bool.or_eq_false_iff] at g2
    refine⟨g1,g2.1,?_,fun e he=>?_⟩
    ·rw[←e1]
     simp only[List.map_cons,List.mem_cons,not_or]
     exact⟨by simpa using g2.2,g3⟩
    ·rcases g4 e he with h | h
     ·rw[hb,Bool.or_eq_true] at h
      rcases h with h | h
      ·exact .inl h
      ·exact .inr (by rw[←e1];simp at h;simp[h])
     ·exact .inr (by rw[List.map_cons];exact List.mem_cons_of_mem _ h)
  ·cases h2
theorem perm_all:∀ {row:List (Nat×Nat)} {k:Nat},permOk ops row k=true→∀ i,i < ops.length→k.testBit i=true∨i∈row.map (·.1)
 | [],k,h,i,hi=>by
  simp only[permOk] at h
  have:=Nat.eq_of_beq_eq_true h
  subst this
  left
  rw[Nat.testBit_two_pow_sub_one]
  simpa using hi
 |(i0,c0)::row,k,h,i,hi=>by
  simp only[permOk,Bool.and_eq_true,Bool.not_eq_true'] at h
  obtain⟨h1,h2⟩:=h
  split at h2
  ·rw[Bool.and_eq_true] at h2
   rcases perm_all h2.2 i hi with h | h
   ·rw[Nat.testBit_or,Nat.testBit_two_pow,Bool.or_eq_true] at h
    rcases h with h | h
    ·exact .inl h
    ·have:i0=i:=by simpa using h
     exact .inr (by simp[this])
   ·exact .inr (by rw[List.map_cons];exact List.mem_cons_of_mem _ h)
  ·cases h2
theorem perm_nodup {row:List (Nat×Nat)} (h:permOk ops row 0=true):(row.map (·.1)).Nodup:=by
 have key:∀ {row:List (Nat×Nat)} {k:Nat},permOk ops row k=true→(row.map (·.1)).Nodup:=by
  intro row
  induction row with
  | nil=>intro k _;exact List.nodup_nil
  | cons r row ih=>
   intro k h
   obtain⟨i0,c0⟩:=r
   have h':=h
   simp only[permOk,Bool.and_eq_true,Bool.not_eq_true'] at h
   obtain⟨h1,h2⟩:=h
   split at h2
   ·rw[Bool.and_eq_true] at h2
    rw[List.map_cons,List.nodup_cons]
    refine⟨fun hm=>?_,ih h2.2⟩
    obtain⟨⟨x,c⟩,hx,hxe⟩:=List.mem_map.1 hm
    obtain⟨pre,post,e⟩:=List.append_of_mem hx
    have hxe':x=i0:=hxe
    subst hxe'
    have:=(perm_split h' ((x,c0)::pre) x c post (by rw[e];rfl)).2.2.1
    exact this (by simp)
   ·cases h2
 exact key h
theorem key_one {α β:Type}:∀ {l:List (α×β)},(l.map (·.1)).Nodup→∀ {k:α} {a b:β},(k,a)∈l→(k,b)∈l→a=b
 | [],_,k,a,b,h,_=>by cases h
 |(k0,c)::l,hn,k,a,b,h,h'=>by
  rw[List.map_cons,List.nodup_cons] at hn
  rcases List.mem_cons.1 h with e | h
  ·cases e
   rcases List.mem_cons.1 h' with e' | h'
   ·cases e';rfl
   ·exact(hn.1 (List.mem_map.2 ⟨_,h',rfl⟩)).elim
  ·rcases List.mem_cons.1 h' with e' | h'
   ·cases e'
    exact(hn.1 (List.mem_map.2 ⟨_,h,rfl⟩)).elim
   ·exact key_one hn.2 h h'
end
section
variable {X:Ctx} {G:GT} {pr:PR} {D0:Nm} {n0:Nat} {a:Act} {w:World}
theorem wantE_ok' {ops:List Oper} {o:Oper} {b:Bool} {D:Nm} {F:Fr} {β:Nat→Nat} {fr:Tri EV} (h:wantE ops o fr=some b) (hF:∀ t,SVok β (F t) (a.tmps.getD t undef)) (H:∀ t∈looks ops o,∀ v,fr.get t=some v→SvE D (F t) v) :
  Region.wanted o (yielded ops.toArray a.tmps)=b:=by
 unfold wantE at h
 split at h
 ·rename_i hg
  cases h
  simp[Region.wanted,hg]
 ·rename_i j c hg
  split at h
  ·cases h
  ·rename_i d hj
   have hj':(ops[j]?).bind (·.dst)=some d:=by
    rw[nthE_eq] at hj
    simpa using hj
   have hjA:(ops.toArray[j]?).bind (·.dst)=some d:=by simpa using hj'
   have hy:=yielded_of hjA a.tmps
   have hlk:d∈looks ops o:=guard_looks hg hj'
   split at h
   ·rename_i q hq
    cases h
    have hs:=H _ hlk _ hq
    have hv:a.tmps.getD d undef=.bool q:=by
     have h1:=hF d
     rcases hs with ⟨u,e,hu⟩ | ⟨q',e',e⟩
     ·rw[e] at h1
      rw[h1,hu.bool]
     ·cases e'
      rw[e] at h1
      exact h1
    simp[Region.wanted,hg,hy,getD_bool hv]
   ·rename_i l hq
    cases h
    have hs:=H _ hlk _ hq
    obtain⟨u,e,hu⟩:=hs.nb (by simp)
    obtain⟨vs,_,rfl⟩:=hu.tup
    have h1:=hF d
    rw[e] at h1
    have hnone:yielded ops.toArray a.tmps j=none:=by
     rw[hy]
     cases hg':a.tmps[d]? with
     | none=>rfl
     | some v=>
      simp only[SVok,Array.getD_eq_getD_getElem?,hg',Option.getD_some] at h1
      subst h1
      rfl
    simp[Region.wanted,hg,hnone]
   ·cases h
theorem OR_looks {ops:List Oper} {o:Oper} {D:Nm} {F:Fr} {fr:Tri EV} (H:∀ t∈looks ops o,∀ v,fr.get t=some v→SvE D (F t) v):OR D F fr o.op.operands.toList:=fun x hx v hv=>by
 cases x with
 | tmp t=>exact H t (operand_looks (by simpa using hx)) v hv
 | const c=>exact(show FR D F .nil from fun t v h=>by cases h).op [.const c] (.const c) (by simp) v hv
 | global g=>exact(show FR D F .nil from fun t v h=>by cases h).op [.global g] (.global g) (by simp) v hv
 | func f=>exact(show FR D F .nil from fun t v h=>by cases h).op [.func f] (.func f) (by simp) v hv
theorem E_q_mem {m m2:Tri Ent} {op:Op} {fr:Tri EV} (h:isLoad op=false):E_q X.P X.E G m op fr=E_q X.P X.E G m2 op fr:=by
 cases op with
 | load=>simp[isLoad] at h
 | slice t x lo hi mx=>cases mx<;>rfl
 | call c=>
  obtain⟨callee,args,ts⟩:=c
  cases callee<;>rfl
 | _=>rfl
def DJ (X:Ctx) (G:GT) (pr:PR) (D0:Nm) (n0:Nat) (ops:List Oper) (es:List Nat) (fr:Tri EV) (vs:List (Nat×EV)) (S:List Me) (A:List Hold) (L:Nat→Prop) (a:Act) (w:World):Prop:=
 ∃ D F C I M j Sm,Rel X a w F C I M∧(∀ q e,es[q]?=some e→(L e ↔ q < j))∧j≤es.length∧S[j]?=some Sm∧MS (RX X G pr) D Sm I M∧(∀ i v t,L i→(i,v)∈vs→dstAt ops i=some t→SvE D (F t) v) ∧
  (∀ t v,(∀ i,L i→dstAt ops i≠some t)→fr.get t=some v→SvE D (F t) v)∧(∀ i c l T,Hold.made i c l T∈A→¬ L i→D c=none)∧D0.ext D n0
theorem DJ.fr {ops:List Oper} (hD:DC ops) {L:Nat→Prop} {q:Nat} {o:Oper} (hq:ops[q]?=some o) (hqL:¬ L q) {vs:List (Nat×EV)} (hvn:(vs.map (·.1)).Nodup) {v:EV} (hv:(q,v)∈vs) {D D':Nm} {F F':Fr} {fr:Tri EV} (hle:D.le D') (hp:PFv o.dst v D' F F')
  (hA:∀ i v t,L i→(i,v)∈vs→dstAt ops i=some t→SvE D (F t) v) (hB:∀ t v,(∀ i,L i→dstAt ops i≠some t)→fr.get t=some v→SvE D (F t) v) :
  (∀ i v t,(L i∨i=q)→(i,v)∈vs→dstAt ops i=some t→SvE D' (F' t) v)∧(∀ t v,(∀ i,(L i∨i=q)→dstAt ops i≠some t)→fr.get t=some v→SvE D' (F' t) v):=by
 have hdq:dstAt ops q=o.dst:=by simp[dstAt,hq]
 constructor
 ·rintro i u t (hi | rfl) hm hd
  ·have hne:o.dst≠some t:=fun e=>by
    obtain⟨oi,hoi,hdi⟩:=dstAt_some hd
    exact hD.dd i q oi o t (fun e'=>hqL (e' ▸ hi)) hoi hq hdi e
   exact hp.2 D' t u hne ((hA i u t hi hm hd).mono hle)
  ·rw[key_one hvn hm hv]
   rw[hdq] at hd
   exact hp.1 t hd
 ·intro t u hno hg
  have hne:o.dst≠some t:=fun e=>hno q (.inr rfl) (by rw[hdq,e])
  exact hp.2 D' t u hne ((hB t u (fun i hi=>hno i (.inl hi)) hg).mono hle)
end
end Go.V
