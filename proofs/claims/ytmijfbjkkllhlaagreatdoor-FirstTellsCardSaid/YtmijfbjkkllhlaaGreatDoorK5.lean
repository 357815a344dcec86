/-
  Part 5 of what the proofs of this seat share: the executor, data in memory, walks.
-/
import Derived.Test.YtmijfbjkkllhlaaGreatDoorK4
import Derived.Test.YtmijfbjkkllhlaaGreatDoorK2
import Derived.Test.YtmijfbjkkllhlaaGreatDoorK3
set_option linter.unusedVariables false
set_option linter.unusedSimpArgs false
set_option linter.unusedSectionVars false
namespace Go.V
open Go
def PutR (dst:Option Nat) (fr:Tri EV) (v:EV) (fr':Tri EV):Prop:=(dst=none→fr'=fr)∧∀ d,dst=some d→∀ t w,fr'.get t=some w→(t=d∧w=v)∨(t≠d∧fr.get t=some w)
def NewR (m m':Me) (l:List EV) (T:Nat):Prop:=m'.n=m.n+1∧(∀ id e,m'.t.get id=some e→id=m.n∨m.t.get id=some e)
def Grow (m m':Me):Prop:=m.n≤m'.n∧∀ id e,id < m.n→m'.t.get id=some e→m.t.get id=some e
theorem Grow.refl (m:Me):Grow m m:=⟨Nat.le_refl _,fun _ _ _ h=>h⟩
theorem Grow.trans {a b c:Me} (h:Grow a b) (k:Grow b c):Grow a c:=⟨Nat.le_trans h.1 k.1,fun id e hi he=>h.2 id e hi (k.2 id e (Nat.lt_of_lt_of_le hi h.1) he)⟩
theorem NewR.grow {m m':Me} {l:List EV} {T:Nat} (h:NewR m m' l T):Grow m m':=⟨by rw[h.1];omega,fun id e hi he=>by
 rcases h.2 id e he with h1 | h1
 ·omega
 ·exact h1⟩
theorem newC_raw {m:Me} {l:List EV} {T:Nat} {R:Type} {K:Nat→Me→Option R} {r:R} (h:newC m l T K=some r):∃ m',K m.n m'=some r∧NewR m m' l T:=by
 unfold newC at h
 obtain⟨cs,h1,h2⟩:=Tri.puts_ok l (.nil:Tri EV) 0
 rw[h1] at h
 obtain⟨t',h3,h4⟩:=newE_ok h
 exact⟨_,h4,rfl,fun id e hi=>(h3 id e hi).imp (fun q=>q.1) fun q=>q.2⟩
theorem MS.grow {Y:RK} {D:Nm} {m m':Me} {I:GH} {M:List Blk} (h:MS Y D m I M) (hg:Grow m m'):MS Y D m' I M where
 ent id e a h1 h2:=h.ent id e a (hg.2 id e (h.dom _ _ h2) h1) h2
 inj id id' e e' a a' h1 h1' h2 h2' hb:=h.inj id id' e e' a a' (hg.2 id e (h.dom _ _ h2) h1) (hg.2 id' e' (h.dom _ _ h2') h1') h2 h2' hb
 dom id a h2:=Nat.lt_of_lt_of_le (h.dom _ _ h2) hg.1
 glo:=h.glo
inductive Trc (X:Ctx) (G:GT) (pr:PR) (ops:List Oper):List (Nat×Nat)→Tri EV→Me→List (Nat×EV)→Tri EV→Me→List Me→List Hold→Prop
 | nil {fr m}:Trc X G pr ops [] fr m [] fr m [m] []
 | q {i o rest fr m v fr' vs frE mE S A} (ho:ops[i]?=some o) (hk:kindE X.E o.op=0) (hw:wantE ops o fr=some true) (hv:E_q X.P X.E G m.t o.op fr=some v) (hp:PutR o.dst fr v fr') (t:Trc X G pr ops rest fr' m vs frE mE S A) :
   Trc X G pr ops ((i,0)::rest) fr m ((i,v)::vs) frE mE S (bif isLoad o.op then .load i o fr v::A else A)
 | a {i o d rest fr m m' l T c mk fr' vs frE mE S A} (ho:ops[i]?=some o) (hk:kindE X.E o.op=1) (hw:wantE ops o fr=some true) (hd:o.dst=some d) (hv:E_a X.E o fr=some (l,T,c,mk)) (hn:NewR m m' l T) (hp:PutR o.dst fr (mk m.n) fr') (t:Trc X G pr ops rest fr' m' vs frE mE S A) :
   Trc X G pr ops ((i,1)::rest) fr m ((i,mk m.n)::vs) frE mE S (.made i m.n l T::A)
 | e {i o rest fr m m' v fr' vs frE mE S A} (ho:ops[i]?=some o) (hk:kindE X.E o.op=2) (hw:wantE ops o fr=some true) (hc:CoreOK X G pr o fr m v m') (hp:PutR o.dst fr v fr') (t:Trc X G pr ops rest fr' m' vs frE mE S A) :
   Trc X G pr ops ((i,2)::rest) fr m ((i,v)::vs) frE mE (m::S) A
 | skip {i k o rest fr m fr' vs frE mE S A} (ho:ops[i]?=some o) (hk:kindE X.E o.op=k) (hw:wantE ops o fr=some false) (hp:PutR o.dst fr (.t []) fr') (t:Trc X G pr ops rest fr' m vs frE mE S A) :
   Trc X G pr ops ((i,k)::rest) fr m ((i,.t [])::vs) frE mE (bif Nat.beq k 2 then m::S else S) A
section
variable {X:Ctx} {G:GT} {pr:PR} {ops:List Oper}
theorem draw_tr (hE:EOK X.P X.E) (hesc:∀ d,d < X.n→X.esc.contains d=true) (hdn:∀ o∈ops,∀ d,o.dst=some d→d < X.n) {call:EV→List EV→Me→Option (EV×Me)} (hcall:CallOK (RX X G pr) call):∀ (row:List (Nat×Nat)) {fr:Tri EV} {m:Me} {S0:List Me} {A0:List Hold} {frE:Tri EV} {mE:Me} {S':List Me} {A':List Hold},
  E_draw (RX X G pr) call ops row fr m S0 A0=some (frE,mE,S',A')→∃ vs S A,Trc X G pr ops row fr m vs frE mE S A∧S'=S.reverse++S0∧(∀ h∈A,h∈A')∧∀ h∈A0,h∈A'
 | [],fr,m,S0,A0,frE,mE,S',A',h=>by
  simp only[E_draw,Option.some.injEq,Prod.mk.injEq] at h
  obtain⟨rfl,rfl,rfl,rfl⟩:=h
  exact⟨[],[m],[],.nil,by simp,by simp,fun _ h=>h⟩
 |(i,k)::rest,fr,m,S0,A0,frE,mE,S',A',h=>by
  simp only[E_draw] at h
  obtain⟨o,ho,h⟩:=opn_eq h
  obtain⟨w,hw,h⟩:=opn_eq h
  obtain⟨hk,h⟩:=cnd_some h
  rw[nthE_eq] at ho
  have hk':kindE X.E o.op=k:=Nat.eq_of_beq_eq_true hk
  have hd0:=hdn o (List.mem_of_getElem? ho)
  cases w with
  | false=>
   have h2:E_skip o fr (fun fr=>E_draw (RX X G pr) call ops rest fr m (cnd (Nat.beq k 2) (m::S0) S0) A0)=some (frE,mE,S',A'):=h
   obtain⟨fr1,h3,g1,g2⟩:=skip_ok h2
   obtain⟨vs,S,A,ht,hS,hA,hA0⟩:=draw_tr hE hesc hdn hcall rest h3
   refine⟨_,_,_,.skip ho hk' hw ⟨g1,g2⟩ ht,?_,hA,hA0⟩
   rw[hS]
   cases Nat.beq k 2<;>simp[cnd]
  | true=>
   have h1:cnd (Nat.beq k 0) (opn (E_q X.P X.E G m.t o.op fr) none fun v=>putE o.dst fr v fun fr'=>E_draw (RX X G pr) call ops rest fr' m S0 (cnd (isLoad o.op) (.load i o fr v::A0) A0))
     (cnd (Nat.beq k 1) (opn o.dst none fun d=>opn (E_a X.E o fr) none fun r=>newC m r.1 r.2.1 fun id m=>putE (some d) fr (r.2.2.2 id) fun fr=>E_draw (RX X G pr) call ops rest fr m S0 (.made i id r.1 r.2.1::A0))
     (E_op (RX X G pr) call o fr m fun fr m'=>E_draw (RX X G pr) call ops rest fr m' (m::S0) A0))=some (frE,mE,S',A'):=h
   by_cases k0:k=0
   ·subst k0
    have h2:(opn (E_q X.P X.E G m.t o.op fr) none fun v=>putE o.dst fr v fun fr'=>E_draw (RX X G pr) call ops rest fr' m S0 (cnd (isLoad o.op) (.load i o fr v::A0) A0))=some (frE,mE,S',A'):=h1
    obtain⟨v,hv,h2⟩:=opn_eq h2
    obtain⟨fr1,h3,g1,g2⟩:=putE_ok h2
    obtain⟨vs,S,A,ht,hS,hA,hA0⟩:=draw_tr hE hesc hdn hcall rest h3
    refine⟨_,_,_,.q ho hk' hw hv ⟨g1,g2⟩ ht,hS,fun y hy=>?_,fun y hy=>hA0 y ?_⟩
    ·cases hl:isLoad o.op with
     | false=>rw[hl] at hy;exact hA y hy
     | true=>
      rw[hl] at hy
      rcases List.mem_cons.1 hy with rfl | hy
      ·refine hA0 _ ?_
       rw[hl]
       simp[cnd]
      ·exact hA y hy
    ·cases isLoad o.op with
     | false=>exact hy
     | true=>exact List.mem_cons_of_mem _ hy
   rw[beq_ne k0] at h1
   by_cases k1:k=1
   ·subst k1
    have h2:(opn o.dst none fun d=>opn (E_a X.E o fr) none fun r=>newC m r.1 r.2.1 fun id m=>putE (some d) fr (r.2.2.2 id) fun fr=>E_draw (RX X G pr) call ops rest fr m S0 (.made i id r.1 r.2.1::A0))=some (frE,mE,S',A'):=h1
    obtain⟨d,hd,h2⟩:=opn_eq h2
    obtain⟨⟨l,T,c,mk⟩,ha,h2⟩:=opn_eq h2
    obtain⟨m2,h3,hn⟩:=newC_raw h2
    have h3':putE o.dst fr (mk m.n) (fun fr=>E_draw (RX X G pr) call ops rest fr m2 S0 (.made i m.n l T::A0))=some (frE,mE,S',A'):=by rw[hd];exact h3
    obtain⟨fr1,h4,g1,g2⟩:=putE_ok h3'
    obtain⟨vs,S,A,ht,hS,hA,hA0⟩:=draw_tr hE hesc hdn hcall rest h4
    refine⟨_,_,_,.a ho hk' hw hd ha hn ⟨g1,g2⟩ ht,hS,fun y hy=>?_,fun y hy=>hA0 y (List.mem_cons_of_mem _ hy)⟩
    rcases List.mem_cons.1 hy with rfl | hy
    ·exact hA0 _ (by simp)
    ·exact hA y hy
   ·rw[beq_ne k1] at h1
    have h2:E_op (RX X G pr) call o fr m (fun fr m'=>E_draw (RX X G pr) call ops rest fr m' (m::S0) A0)=some (frE,mE,S',A'):=h1
    obtain⟨v,m1,fr1,hcore,-,h3,g1,g2⟩:=E_op_ok hE hesc hd0 hcall h2
    obtain⟨vs,S,A,ht,hS,hA,hA0⟩:=draw_tr hE hesc hdn hcall rest h3
    have hk2:k=2:=by
     have:kindE X.E o.op≤2:=by
      unfold kindE
      split<;>first | omega | (split<;>first | omega | (split<;>omega))
     rw[hk'] at this
     omega
    subst hk2
    exact⟨_,_,_,.e ho hk' hw hcore ⟨g1,g2⟩ ht,by rw[hS];simp,hA,hA0⟩
theorem Trc.head {row:List (Nat×Nat)} {fr frE:Tri EV} {m mE:Me} {vs:List (Nat×EV)} {S:List Me} {A:List Hold} (h:Trc X G pr ops row fr m vs frE mE S A):∃ m2 S',S=m2::S'∧Grow m m2:=by
 induction h with
 | nil=>exact⟨_,_,rfl,.refl _⟩
 | q _ _ _ _ _ _ ih=>exact ih
 | a _ _ _ _ _ hn _ _ ih=>
  obtain⟨m2,S',h1,h2⟩:=ih
  exact⟨m2,S',h1,hn.grow.trans h2⟩
 | e _ _ _ _ _ _ _=>exact⟨_,_,rfl,.refl _⟩
 | @skip i k o rest fr m fr' vs frE mE S A _ _ _ _ _ ih=>
  cases hk:Nat.beq k 2 with
  | true=>exact⟨_,_,rfl,.refl _⟩
  | false=>simpa using ih
theorem Trc.made_ge {row:List (Nat×Nat)} {fr frE:Tri EV} {m mE:Me} {vs:List (Nat×EV)} {S:List Me} {A:List Hold} (h:Trc X G pr ops row fr m vs frE mE S A):m.n≤mE.n∧∀ i c l T,.made i c l T∈A→m.n≤c∧i∈row.map (·.1):=by
 induction h with
 | nil=>exact⟨Nat.le_refl _,fun _ _ _ _ h=>by cases h⟩
 | @q i o rest fr m v fr' vs frE mE S A _ _ _ _ _ _ ih=>
  refine⟨ih.1,fun i' c l T hm=>?_⟩
  have hm':.made i' c l T∈A:=by
   cases hl:isLoad o.op with
   | false=>rw[hl] at hm;exact hm
   | true=>
    rw[hl] at hm
    rcases List.mem_cons.1 hm with e | hm
    ·cases e
    ·exact hm
  exact⟨(ih.2 i' c l T hm').1,List.mem_cons_of_mem _ (ih.2 i' c l T hm').2⟩
 | a _ _ _ _ _ hn _ _ ih=>
  refine⟨Nat.le_trans hn.grow.1 ih.1,fun i' c l T hm=>?_⟩
  rcases List.mem_cons.1 hm with e | hm
  ·cases e
   exact⟨Nat.le_refl _,by simp⟩
  ·exact⟨Nat.le_trans hn.grow.1 (ih.2 i' c l T hm).1,List.mem_cons_of_mem _ (ih.2 i' c l T hm).2⟩
 | e _ _ _ hc _ _ ih=>exact⟨Nat.le_trans hc.1 ih.1,fun i' c l T hm=>⟨Nat.le_trans hc.1 (ih.2 i' c l T hm).1,List.mem_cons_of_mem _ (ih.2 i' c l T hm).2⟩⟩
 | skip _ _ _ _ _ ih=>exact⟨ih.1,fun i' c l T hm=>⟨(ih.2 i' c l T hm).1,List.mem_cons_of_mem _ (ih.2 i' c l T hm).2⟩⟩
theorem Trc.split:∀ (pre:List (Nat×Nat)) {rest:List (Nat×Nat)} {fr frE:Tri EV} {m mE:Me} {vs:List (Nat×EV)} {S:List Me} {A:List Hold},Trc X G pr ops (pre++rest) fr m vs frE mE S A →
  ∃ vs1 vs2 fr1 m1 S1 S2 A2,vs=vs1++vs2∧vs1.map (·.1)=pre.map (·.1)∧S=S1++S2∧S1.length=(pre.filter fun r=>Nat.beq r.2 2).length∧Trc X G pr ops rest fr1 m1 vs2 frE mE S2 A2∧(∀ h∈A2,h∈A)∧m.n≤m1.n ∧
   (∀ t w,fr1.get t=some w→(∃ i,(i,w)∈vs1∧dstAt ops i=some t)∨((∀ i∈pre.map (·.1),dstAt ops i≠some t)∧fr.get t=some w)) ∧
   (∀ i c l T,.made i c l T∈A→.made i c l T∈A2∨c < m1.n)
 | [],rest,fr,frE,m,mE,vs,S,A,h=>⟨[],vs,fr,m,[],S,A,rfl,rfl,rfl,rfl,h,fun _ h=>h,Nat.le_refl _,fun t w hw=>.inr ⟨by simp,hw⟩,fun _ _ _ _ h=>.inl h⟩
 |(i,k)::pre,rest,fr,frE,m,mE,vs,S,A,h=>by
  have fin:∀ {o:Oper} {fr':Tri EV} {m':Me} {v:EV} {vs':List (Nat×EV)} {S' S:List Me} {A' A:List Hold},ops[i]?=some o→PutR o.dst fr v fr'→m.n≤m'.n→Trc X G pr ops (pre++rest) fr' m' vs' frE mE S' A' →
    (S=if Nat.beq k 2 then m::S' else S')→(∀ h∈A',h∈A)→(∀ i c l T,.made i c l T∈A→.made i c l T∈A'∨c < m'.n) →
    ∃ vs1 vs2 fr1 m1 S1 S2 A2,(i,v)::vs'=vs1++vs2∧vs1.map (·.1)=((i,k)::pre).map (·.1)∧S=S1++S2∧S1.length=(((i,k)::pre).filter fun r=>Nat.beq r.2 2).length∧Trc X G pr ops rest fr1 m1 vs2 frE mE S2 A2∧(∀ h∈A2,h∈A)∧m.n≤m1.n ∧
     (∀ t w,fr1.get t=some w→(∃ i,(i,w)∈vs1∧dstAt ops i=some t)∨((∀ i'∈((i,k)::pre).map (·.1),dstAt ops i'≠some t)∧fr.get t=some w)) ∧
     (∀ i c l T,.made i c l T∈A→.made i c l T∈A2∨c < m1.n):=by
   intro o fr' m' v vs' S' S A' A ho hp hmn ht hS hA hA2
   obtain⟨vs1,vs2,fr1,m1,S1,S2,A2,e1,e2,e3,e4,e5,e6,e7,e8,e9⟩:=Trc.split pre ht
   refine⟨(i,v)::vs1,vs2,fr1,m1,(if Nat.beq k 2 then m::S1 else S1),S2,A2,by rw[e1];rfl,by simp[e2],?_,?_,e5,fun h hh=>hA h (e6 h hh),Nat.le_trans hmn e7,fun t w hw=>?_,fun i c l T hm=>?_⟩
   ·rw[hS,e3]
    split<;>simp
   ·simp only[List.filter_cons]
    split<;>simp[e4]
   ·rcases e8 t w hw with ⟨i',h1,h2⟩ | ⟨h1,h2⟩
    ·exact .inl ⟨i',List.mem_cons_of_mem _ h1,h2⟩
    ·have hdi:dstAt ops i=o.dst:=by simp[dstAt,ho]
     cases hd:o.dst with
     | none=>
      rw[hp.1 hd] at h2
      refine .inr ⟨fun i' hi'=>?_,h2⟩
      rcases List.mem_cons.1 hi' with e | hi'
      ·rw[show i'=i from e,hdi,hd];simp
      ·exact h1 i' hi'
     | some d=>
      rcases hp.2 d hd t w h2 with ⟨rfl,rfl⟩ | ⟨hne,h3⟩
      ·exact .inl ⟨i,by simp,by rw[hdi,hd]⟩
      ·refine .inr ⟨fun i' hi'=>?_,h3⟩
       rcases List.mem_cons.1 hi' with e | hi'
       ·rw[show i'=i from e,hdi,hd]
        exact fun e=>hne (by cases e;rfl)
       ·exact h1 i' hi'
   ·rcases hA2 i c l T hm with h1 | h1
    ·exact e9 i c l T h1
    ·exact .inr (Nat.lt_of_lt_of_le h1 e7)
  cases h with
  | q ho hk hw hv hp t=>
   rename_i o v fr' vs' A'
   refine fin ho hp (Nat.le_refl _) t (by simp) (fun h hh=>?_) fun i c l T hm=>?_
   ·cases isLoad o.op with
    | false=>exact hh
    | true=>exact List.mem_cons_of_mem _ hh
   ·cases hl:isLoad o.op with
    | false=>rw[hl] at hm;exact .inl hm
    | true=>
     rw[hl] at hm
     rcases List.mem_cons.1 hm with e | hm
     ·cases e
     ·exact .inl hm
  | a ho hk hw hd hv hn hp t=>
   refine fin ho hp hn.grow.1 t (by simp) (fun h hh=>List.mem_cons_of_mem _ hh) fun i c l T hm=>?_
   rcases List.mem_cons.1 hm with e | hm
   ·cases e
    exact .inr (by rw[hn.1];omega)
   ·exact .inl hm
  | e ho hk hw hc hp t=>exact fin ho hp hc.1 t (by simp) (fun _ h=>h) fun _ _ _ _ h=>.inl h
  | skip ho hk hw hp t=>exact fin ho hp (Nat.le_refl _) t (by cases Nat.beq k 2<;>rfl) (fun _ h=>h) fun _ _ _ _ h=>.inl h
end
end Go.V
namespace Go.V
open Go
section
variable {ops:List Oper}
theorem dOk_dep {i k:Nat} {o:Oper} (ho:ops[i]?=some o) (h:dOk o k=true):∀ e,Dep ops i e→k.testBit e=true:=by
 rintro e ⟨o',ed,ho',hed,hb,rfl⟩
 rw[ho] at ho'
 cases ho'
 have:=List.all_eq_true.1 h ed (by simpa using hed)
 rw[hb] at this
 simpa using this
theorem perm_split:∀ {row:List (Nat×Nat)} {k:Nat},permOk ops row k=true→∀ (pre:List (Nat×Nat)) (i c:Nat) (post:List (Nat×Nat)),row=pre++(i,c)::post →
  (∃ o,ops[i]?=some o)∧k.testBit i=false∧i ∉ pre.map (·.1)∧∀ e,Dep ops i e→k.testBit e=true∨e∈pre.map (·.1)
 | [],k,h,pre,i,c,post,e=>by simp at e
 |(i0,c0)::row,k,h,pre,i,c,post,e=>by
  simp only[permOk,Bool.and_eq_true,Bool.not_eq_true'] at h
  obtain⟨h1,h2⟩:=h
  split at h2
  ·rename_i o ho
   rw[Bool.and_eq_true] at h2
   cases pre with
   | nil=>
    simp only[List.nil_append,List.cons.injEq,Prod.mk.injEq] at e
    obtain⟨⟨rfl,rfl⟩,rfl⟩:=e
    exact⟨⟨o,ho⟩,h1,by simp,fun e he=>.inl (dOk_dep ho h2.1 e he)⟩
   | cons p pre=>
    simp only[List.cons_append,List.cons.injEq] at e
    obtain⟨e1,e2⟩:=e
    obtain⟨g1,g2,g3,g4⟩:=perm_split h2.2 pre i c post e2
    have hb:∀ x,(k ||| 2 ^ i0).testBit x=(k.testBit x || decide (x=i0)):=fun x=>by
     rw[Nat.testBit_or,Nat.testBit_two_pow]
     congr 1
     exact decide_eq_decide.2 eq_comm
    rw[hb,Bool.or_eq_false_iff] at g2
    refine⟨g1,g2.1,?_,fun e he=>?_⟩
    ·rw[←e1]
     simp only[List.map_cons,List.mem_cons,not_or]
     exact⟨by simpa using g2.2,g3⟩
    ·rcases g4 e he with h | h
     ·rw[hb,Bool.or_eq_true] at h
      rcases h with h | h
      ·exact .inl h
      ·exact .inr (by rw[←e1];simp at h;simp[h])
     ·exact .inr (by rw[List.map_cons];exact List.mem_cons_of_mem _ h)
  ·cases h2
theorem perm_all:∀ {row:List (Nat×Nat)} {k:Nat},permOk ops row k=true→∀ i,i < ops.length→k.testBit i=true∨i∈row.map (·.1)
 | [],k,h,i,hi=>by
  simp only[permOk] at h
  have:=Nat.eq_of_beq_eq_true h
  subst this
  left
  rw[Nat.testBit_two_pow_sub_one]
  simpa using hi
 |(i0,c0)::row,k,h,i,hi=>by
  simp only[permOk,Bool.and_eq_true,Bool.not_eq_true'] at h
  obtain⟨h1,h2⟩:=h
  split at h2
  ·rw[Bool.and_eq_true] at h2
   rcases perm_all h2.2 i hi with h | h
   ·rw[Nat.testBit_or,Nat.testBit_two_pow,Bool.or_eq_true] at h
    rcases h with h | h
    ·exact .inl h
    ·have:i0=i:=by simpa using h
     exact .inr (by simp[this])
   ·exact .inr (by rw[List.map_cons];exact List.mem_cons_of_mem _ h)
  ·cases h2
theorem perm_nodup {row:List (Nat×Nat)} (h:permOk ops row 0=true):(row.map (·.1)).Nodup:=by
 have key:∀ {row:List (Nat×Nat)} {k:Nat},permOk ops row k=true→(row.map (·.1)).Nodup:=by
  intro row
  induction row with
  | nil=>intro k _;exact List.nodup_nil
  | cons r row ih=>
   intro k h
   obtain⟨i0,c0⟩:=r
   have h':=h
   simp only[permOk,Bool.and_eq_true,Bool.not_eq_true'] at h
   obtain⟨h1,h2⟩:=h
   split at h2
   ·rw[Bool.and_eq_true] at h2
    rw[List.map_cons,List.nodup_cons]
    refine⟨fun hm=>?_,ih h2.2⟩
    obtain⟨⟨x,c⟩,hx,hxe⟩:=List.mem_map.1 hm
    obtain⟨pre,post,e⟩:=List.append_of_mem hx
    have hxe':x=i0:=hxe
    subst hxe'
    have:=(perm_split h' ((x,c0)::pre) x c post (by rw[e];rfl)).2.2.1
    exact this (by simp)
   ·cases h2
 exact key h
theorem key_one {α β:Type}:∀ {l:List (α×β)},(l.map (·.1)).Nodup→∀ {k:α} {a b:β},(k,a)∈l→(k,b)∈l→a=b
 | [],_,k,a,b,h,_=>by cases h
 |(k0,c)::l,hn,k,a,b,h,h'=>by
  rw[List.map_cons,List.nodup_cons] at hn
  rcases List.mem_cons.1 h with e | h
  ·cases e
   rcases List.mem_cons.1 h' with e' | h'
   ·cases e';rfl
   ·exact(hn.1 (List.mem_map.2 ⟨_,h',rfl⟩)).elim
  ·rcases List.mem_cons.1 h' with e' | h'
   ·cases e'
    exact(hn.1 (List.mem_map.2 ⟨_,h,rfl⟩)).elim
   ·exact key_one hn.2 h h'
end
section
variable {X:Ctx} {G:GT} {pr:PR} {D0:Nm} {n0:Nat} {a:Act} {w:World}
theorem wantE_ok' {ops:List Oper} {o:Oper} {b:Bool} {D:Nm} {F:Fr} {β:Nat→Nat} {fr:Tri EV} (h:wantE ops o fr=some b) (hF:∀ t,SVok β (F t) (a.tmps.getD t undef)) (H:∀ t∈looks ops o,∀ v,fr.get t=some v→SvE D (F t) v) :
  Region.wanted o (yielded ops.toArray a.tmps)=b:=by
 unfold wantE at h
 split at h
 ·rename_i hg
  cases h
  simp[Region.wanted,hg]
 ·rename_i j c hg
  split at h
  ·cases h
  ·rename_i d hj
   have hj':(ops[j]?).bind (·.dst)=some d:=by
    rw[nthE_eq] at hj
    simpa using hj
   have hjA:(ops.toArray[j]?).bind (·.dst)=some d:=by simpa using hj'
   have hy:=yielded_of hjA a.tmps
   have hlk:d∈looks ops o:=guard_looks hg hj'
   split at h
   ·rename_i q hq
    cases h
    have hs:=H _ hlk _ hq
    have hv:a.tmps.getD d undef=.bool q:=by
     have h1:=hF d
     rcases hs with ⟨u,e,hu⟩ | ⟨q',e',e⟩
     ·rw[e] at h1
      rw[h1,hu.bool]
     ·cases e'
      rw[e] at h1
      exact h1
    simp[Region.wanted,hg,hy,getD_bool hv]
   ·rename_i l hq
    cases h
    have hs:=H _ hlk _ hq
    obtain⟨u,e,hu⟩:=hs.nb (by simp)
    obtain⟨vs,_,rfl⟩:=hu.tup
    have h1:=hF d
    rw[e] at h1
    have hnone:yielded ops.toArray a.tmps j=none:=by
     rw[hy]
     cases hg':a.tmps[d]? with
     | none=>rfl
     | some v=>
      simp only[SVok,Array.getD_eq_getD_getElem?,hg',Option.getD_some] at h1
      subst h1
      rfl
    simp[Region.wanted,hg,hnone]
   ·cases h
theorem OR_looks {ops:List Oper} {o:Oper} {D:Nm} {F:Fr} {fr:Tri EV} (H:∀ t∈looks ops o,∀ v,fr.get t=some v→SvE D (F t) v):OR D F fr o.op.operands.toList:=fun x hx v hv=>by
 cases x with
 | tmp t=>exact H t (operand_looks (by simpa using hx)) v hv
 | const c=>exact(show FR D F .nil from fun t v h=>by cases h).op [.const c] (.const c) (by simp) v hv
 | global g=>exact(show FR D F .nil from fun t v h=>by cases h).op [.global g] (.global g) (by simp) v hv
 | func f=>exact(show FR D F .nil from fun t v h=>by cases h).op [.func f] (.func f) (by simp) v hv
theorem E_q_mem {m m2:Tri Ent} {op:Op} {fr:Tri EV} (h:isLoad op=false):E_q X.P X.E G m op fr=E_q X.P X.E G m2 op fr:=by
 cases op with
 | load=>simp[isLoad] at h
 | slice t x lo hi mx=>cases mx<;>rfl
 | call c=>
  obtain⟨callee,args,ts⟩:=c
  cases callee<;>rfl
 | _=>rfl
def DJ (X:Ctx) (G:GT) (pr:PR) (D0:Nm) (n0:Nat) (ops:List Oper) (es:List Nat) (fr:Tri EV) (vs:List (Nat×EV)) (S:List Me) (A:List Hold) (L:Nat→Prop) (a:Act) (w:World):Prop:=
 ∃ D F C I M j Sm,Rel X a w F C I M∧(∀ q e,es[q]?=some e→(L e ↔ q < j))∧j≤es.length∧S[j]?=some Sm∧MS (RX X G pr) D Sm I M∧(∀ i v t,L i→(i,v)∈vs→dstAt ops i=some t→SvE D (F t) v) ∧
  (∀ t v,(∀ i,L i→dstAt ops i≠some t)→fr.get t=some v→SvE D (F t) v)∧(∀ i c l T,Hold.made i c l T∈A→¬ L i→D c=none)∧D0.ext D n0
theorem DJ.fr {ops:List Oper} (hD:DC ops) {L:Nat→Prop} {q:Nat} {o:Oper} (hq:ops[q]?=some o) (hqL:¬ L q) {vs:List (Nat×EV)} (hvn:(vs.map (·.1)).Nodup) {v:EV} (hv:(q,v)∈vs) {D D':Nm} {F F':Fr} {fr:Tri EV} (hle:D.le D') (hp:PFv o.dst v D' F F')
  (hA:∀ i v t,L i→(i,v)∈vs→dstAt ops i=some t→SvE D (F t) v) (hB:∀ t v,(∀ i,L i→dstAt ops i≠some t)→fr.get t=some v→SvE D (F t) v) :
  (∀ i v t,(L i∨i=q)→(i,v)∈vs→dstAt ops i=some t→SvE D' (F' t) v)∧(∀ t v,(∀ i,(L i∨i=q)→dstAt ops i≠some t)→fr.get t=some v→SvE D' (F' t) v):=by
 have hdq:dstAt ops q=o.dst:=by simp[dstAt,hq]
 constructor
 ·rintro i u t (hi | rfl) hm hd
  ·have hne:o.dst≠some t:=fun e=>by
    obtain⟨oi,hoi,hdi⟩:=dstAt_some hd
    exact hD.dd i q oi o t (fun e'=>hqL (e' ▸ hi)) hoi hq hdi e
   exact hp.2 D' t u hne ((hA i u t hi hm hd).mono hle)
  ·rw[key_one hvn hm hv]
   rw[hdq] at hd
   exact hp.1 t hd
 ·intro t u hno hg
  have hne:o.dst≠some t:=fun e=>hno q (.inr rfl) (by rw[hdq,e])
  exact hp.2 D' t u hne ((hB t u (fun i hi=>hno i (.inl hi)) hg).mono hle)
end
end Go.V
namespace Go.V
open Go
section
variable {X:Ctx} {G:GT} {pr:PR} {D0:Nm} {n0:Nat} {a:Act} {w:World}
theorem chain_ok {bef:List Nat}:∀ {es:List Nat},chainOk bef es=true→∀ (p q:Nat) (x y:Nat),p < q→es[p]?=some x→es[q]?=some y→(bef.getD y 0).testBit x=true
 | [],_,p,q,x,y,_,hx,_=>by simp at hx
 | e::es,h,p,q,x,y,hpq,hx,hy=>by
  simp only[chainOk,Bool.and_eq_true] at h
  cases q with
  | zero=>omega
  | succ q=>
   have hy':es[q]?=some y:=by simpa using hy
   cases p with
   | zero=>
    simp at hx
    subst hx
    exact List.all_eq_true.1 h.1 y (List.mem_of_getElem? hy')
   | succ p=>exact chain_ok h.2 p q x y (by omega) (by simpa using hx) hy'
theorem effs_mem {E:Env} {ops:List Oper} {e:Nat}:e∈effsL E ops ↔ e < ops.length∧kindAtK E ops e=2:=by
 unfold effsL
 rw[List.mem_filter,List.mem_range]
 constructor
 ·rintro⟨h1,h2⟩;exact⟨h1,Nat.eq_of_beq_eq_true h2⟩
 ·rintro⟨h1,h2⟩;exact⟨h1,by rw[h2];rfl⟩
theorem kindAt_of {E:Env} {ops:List Oper} {i:Nat} {o:Oper} (h:ops[i]?=some o):kindAtK E ops i=kindE E o.op:=by
 unfold kindAtK
 rw[nthE_eq,h]
 rfl
theorem SvE.same {D:Nm} {x:SV} {u v:EV} (h:SvE D x u) (hs:sameE u v=true):SvE D x v:=by
 rcases h with ⟨y,rfl,h⟩ | ⟨q,rfl,rfl⟩
 ·exact .val (sameE_ok hs h)
 ·have:v=.b q:=by
   cases v<;>simp only[sameE,Bool.false_eq_true] at hs
   rw[eq_of_beq hs]
  exact .inr ⟨q,this,rfl⟩
theorem E_drawn_ok (hE:EOK X.P X.E) (hesc:∀ d,d < X.n→X.esc.contains d=true) {call:EV→List EV→Me→Option (EV×Me)} (hcall:CallOK (RX X G pr) call) {id:Nat} {AA:Array Oper} (hmx:X.P.follows .mixedOrders=true) (hn:opsOk X.n AA=true)
  {fr frE:Tri EV} {m mE:Me} (h:E_drawn (RX X G pr) call AA.toList fr m=some (frE,mE)) {Q:Exit→Act→World→Prop} (hQ:∀ a w,St X G pr D0 n0 frE mE a w→Q .normal a w) (hs:St X G pr D0 n0 fr m a w) :
  (Code.region id AA true).wpIn (fen X) 0 X.P Q a w:=by
 refine wpIn_region_any hmx ?_
 generalize hops:AA.toList=ops at h
 have hAA:AA=ops.toArray:=by apply Array.ext';simpa using hops
 subst hAA
 have hdn:∀ o∈ops,∀ d,o.dst=some d→d < X.n:=by simpa using opsOk_spec hn
 unfold E_drawn at h
 obtain⟨hrc,h⟩:=cnd_some h
 unfold rowChk at hrc
 simp only[Bool.and_eq_true] at hrc
 obtain⟨hchk,hperm,hchain,hrow⟩:=hrc
 have hD:DC ops:=dc_of_chk hchk
 have hrow':((rowL X.E ops).filter fun r=>Nat.beq r.2 2).map (·.1)=effsL X.E ops:=by simpa using hrow
 clear hrow
 generalize hes:effsL X.E ops=es at *
 have hesm:∀ e,e∈es ↔ e < ops.length∧kindAtK X.E ops e=2:=fun e=>by rw[←hes];exact effs_mem
 generalize hrw:rowL X.E ops=row at *
 cases hdr:E_draw (RX X G pr) call ops row fr m [] [] with
 | none=>rw[hdr] at h;cases h
 | some res=>
 obtain⟨frE',mE',S',A'⟩:=res
 rw[hdr] at h
 have h':cnd (A'.all (holdE (RX X G pr) es (befL ops) S'.reverse)) (some (frE',mE')) none=some (frE,mE):=h
 clear h
 obtain⟨hhold,h'⟩:=cnd_some h'
 cases h'
 obtain⟨vs,S,A,htr,hS',hA',-⟩:=draw_tr hE hesc hdn hcall row hdr
 rw[List.append_nil] at hS'
 subst hS'
 rw[List.reverse_reverse] at hhold
 have hholdA:∀ y∈A,holdE (RX X G pr) es (befL ops) S y=true:=fun y hy=>List.all_eq_true.1 hhold y (hA' y hy)
 have hrn:(row.map (·.1)).Nodup:=perm_nodup hperm
 obtain⟨vsW,vsR,frW,mW,SW,SR,AR,w1,w2,w3,w4,w5,w6,w7,w8,w9⟩:=Trc.split row (rest:=[]) (by rw[List.append_nil];exact htr)
 have hlenE:(row.filter fun r=>Nat.beq r.2 2).length=es.length:=by rw[←hrow',List.length_map]
 cases w5
 rw[List.append_nil] at w1
 subst w1
 have hvn:(vs.map (·.1)).Nodup:=by rw[w2];exact hrn
 have hmade:=htr.made_ge
 have preClosed:∀ (pre:List (Nat×Nat)) (rest:List (Nat×Nat)),row=pre++rest→Closed ops (fun i=>i∈pre.map (·.1)):=fun pre rest hpr j e hj he=>by
  obtain⟨⟨x,c⟩,hx,hxe⟩:=List.mem_map.1 hj
  have hxe':x=j:=hxe
  subst hxe'
  obtain⟨p1,p2,e1⟩:=List.append_of_mem hx
  rcases(perm_split hperm p1 x c (p2++rest) (by rw[hpr,e1];simp)).2.2.2 e he with h | h
  ·simp at h
  ·show e∈pre.map (·.1)
   rw[e1,List.map_append]
   exact List.mem_append.2 (.inl h)
 let J:=DJ X G pr D0 n0 ops es fr vs S A
 have key:=any_inv (X:=X) (ops:=ops) (Q:=Q) hD.lt J ?step ?fin ops.length (Array.replicate ops.length false) a { w with drawn:=w.drawn+1 } (by simp) (by unfold todo;exact Nat.le_trans (List.length_filter_le _ _) (by simp)) ?cl ?start
 case cl=>
  intro j e hj
  exfalso
  by_cases hi:j < ops.length<;>simp[Array.getD_eq_getD_getElem?,hi] at hj
 case start=>
  obtain⟨D,F,C,I,M,⟨β,hR⟩,hF,hms,hx,hn0⟩:=hs
  obtain⟨m2,S2,hS2,hg⟩:=htr.head
  have hL:∀ i,¬ (Array.replicate ops.length false).getD i false=true:=fun i=>by
   by_cases hi:i < ops.length<;>simp[Array.getD_eq_getD_getElem?,hi]
  refine⟨D,F,C,I,M,0,m2,⟨β,hR.world rfl⟩,fun q e _=>⟨fun h=>(hL e h).elim,fun h=>by omega⟩,Nat.zero_le _,by rw[hS2];rfl,hms.grow hg,fun i v t hi=>(hL i hi).elim,fun t v _ hg=>hF t v hg,fun i c l T hmd _=>?_,hx⟩
  have:=(hmade.2 i c l T hmd).1
  cases hDc:D c with
  | none=>rfl
  | some b=>have:=hms.dom _ _ hDc;omega
 case fin=>
  rintro a w ⟨D,F,C,I,M,j,Sm,hR,hes',hj,hSj,hms,hA1,hB1,hN,hx⟩
  have hjl:j=es.length:=by
   refine Nat.le_antisymm hj ?_
   by_cases h0:es.length=0
   ·omega
   ·have hlt:es.length - 1 < es.length:=by omega
    have h1:=(hes' (es.length - 1) es[es.length - 1] (List.getElem?_eq_getElem hlt)).1 ((hesm _).1 (List.getElem_mem hlt)).1
    omega
  have hSmE:Sm=mE:=by
   rw[hjl,w3,List.getElem?_append_right (by omega),w4,hlenE] at hSj
   simpa using hSj.symm
  subst hSmE
  refine hQ a w ⟨D,F,C,I,M,hR,fun t v hg=>?_,hms,hx,?_⟩
  ·rcases w8 t v hg with ⟨i,h1,h2⟩ | ⟨h1,h2⟩
   ·obtain⟨oi,hoi,_⟩:=dstAt_some h2
    exact hA1 i v t (List.getElem?_eq_some_iff.1 hoi).1 h1 h2
   ·refine hB1 t v (fun i hi=>?_) h2
    rcases perm_all hperm i hi with h3 | h3
    ·simp at h3
    ·exact h1 i h3
  ·obtain⟨D',F',C',I',M',_,_,_,_,hn0⟩:=hs
   exact Nat.le_trans hn0 w7
 case step=>
  rintro L a w q o ⟨D,F,C,I,M,j,Sm,⟨β,hR⟩,hes',hj,hSj,hms,hA1,hB1,hN,hx⟩ hcl hLl hq hqL hdeps
  have hql:q < ops.length:=(List.getElem?_eq_some_iff.1 hq).1
  have hdo:=hdn o (List.mem_of_getElem? hq)
  obtain⟨⟨q',k⟩,hqr,hqe⟩:=List.mem_map.1 ((perm_all hperm q hql).resolve_left (by simp))
  have hqe':q'=q:=hqe
  subst hqe'
  obtain⟨pre,post,hsp⟩:=List.append_of_mem hqr
  obtain⟨-,-,hqpre,hdpre⟩:=perm_split hperm pre q' k post hsp
  have hdpre':∀ e,Dep ops q' e→e∈pre.map (·.1):=fun e he=>(hdpre e he).resolve_left (by simp)
  have hpc:=preClosed pre ((q',k)::post) hsp
  have htr':=htr
  rw[hsp] at htr'
  obtain⟨vs1,vs2,fr1,m1,S1,S2,A2,e1,e2,e3,e4,e5,e6,e7,e8,e9⟩:=Trc.split pre htr'
  have hmade2:=e5.made_ge
  have H:∀ t∈looks ops o,∀ v,fr1.get t=some v→SvE D (F t) v:=fun t ht v hv=>by
   rcases e8 t v hv with ⟨i,h1,h2⟩ | ⟨h1,h2⟩
   ·obtain⟨oi,hoi,hdi⟩:=dstAt_some h2
    have hipre:i∈pre.map (·.1):=by rw[←e2];exact List.mem_map.2 ⟨_,h1,rfl⟩
    have hne:i≠q':=fun e=>hqpre (e ▸ hipre)
    rcases hD.ord i q' oi o t hne hoi hq hdi ht with hb | hb
    ·exact hA1 i v t (hb.mem hcl hdeps) (by rw[e1];exact List.mem_append.2 (.inl h1)) h2
    ·exact(hqpre (hb.mem hpc fun e he=>hpc i e hipre he)).elim
   ·refine hB1 t v (fun i hi hdt=>?_) h2
    obtain⟨oi,hoi,hdi⟩:=dstAt_some hdt
    have hne:i≠q':=fun e=>hqL (e ▸ hi)
    rcases hD.ord i q' oi o t hne hoi hq hdi ht with hb | hb
    ·exact h1 i (hb.mem hpc hdpre') hdt
    ·exact hqL (hb.mem hcl fun e he=>hcl i e hi he)
  have hO:OR D F fr1 o.op.operands.toList:=OR_looks H
  have hlo:loL es (befL ops) q'≤j:=filter_le fun p e hp hb=>by
   exact(hes' p e hp).1 ((bef_of_bit hb).mem hcl hdeps)
  have hhi:j≤hiL es (befL ops) q':=le_filter hj fun p e hp hpe=>by
   cases hb:((befL ops).getD e 0).testBit q' with
   | false=>rfl
   | true=>
    have hLe:L e:=(hes' p e hpe).2 hp
    exact(hqL ((bef_of_bit hb).mem hcl fun d hd=>hcl e d hLe hd)).elim
  have esKeep:kindE X.E o.op≠2→∀ p e,es[p]?=some e→((L e∨e=q') ↔ p < j):=fun hk p e hp=>by
   have hne:e≠q':=fun he=>hk (by
    have:=((hesm e).1 (List.mem_of_getElem? hp)).2
    rw[he,kindAt_of hq] at this
    exact this)
   exact⟨fun hh=>(hes' p e hp).1 (hh.resolve_right hne),fun hh=>.inl ((hes' p e hp).2 hh)⟩
  have esNext:kindE X.E o.op=2→es[j]?=some q'∧j+1≤es.length∧∀ p e,es[p]?=some e→((L e∨e=q') ↔ p < j+1):=fun hk=>by
   have hqe:q'∈es:=(hesm q').2 ⟨hql,by rw[kindAt_of hq];exact hk⟩
   obtain⟨p0,hp0⟩:=List.getElem?_of_mem hqe
   have hp0l:=(List.getElem?_eq_some_iff.1 hp0).1
   have h1:¬ p0 < j:=fun hh=>hqL ((hes' p0 q' hp0).2 hh)
   have h2:¬ j < p0:=fun hh=>by
    have hjl:j < es.length:=by omega
    have hbit:=chain_ok hchain j p0 es[j] q' hh (List.getElem?_eq_getElem hjl) hp0
    have:=(hes' j es[j] (List.getElem?_eq_getElem hjl)).1 ((bef_of_bit hbit).mem hcl hdeps)
    omega
   have h3:p0=j:=by omega
   subst h3
   refine⟨hp0,by omega,fun p e hp=>⟨fun hh=>?_,fun hh=>?_⟩⟩
   ·rcases hh with hh | rfl
    ·have:=(hes' p e hp).1 hh;omega
    ·refine Classical.byContradiction fun hn=>?_
     have hbit:=chain_ok hchain p0 p e e (by omega) hp0 hp
     exact hqL ((bef_of_bit hbit).mem hcl hdeps)
   ·by_cases hpj:p < p0
    ·exact .inl ((hes' p e hp).2 hpj)
    ·have:p=p0:=by omega
     subst this
     rw[hp0] at hp
     exact .inr (some_inj' hp).symm
  have plain:∀ {v:EV} {F':Fr} {C':Bx} {a':Act} {w':World},(q',v)∈vs→kindE X.E o.op≠2→(∀ l T c,Hold.made q' c l T ∉ A∨True)→Rel X a' w' F' C' I M→PFv o.dst v D F F'→J (fun j=>L j∨j=q') a' w':=fun {v F' C' a' w'} hv hk _ hR' hp=>by
   obtain⟨f1,f2⟩:=DJ.fr hD hq hqL hvn hv (Nm.le_refl D) hp hA1 hB1
   exact⟨D,F',C',I,M,j,Sm,hR',esKeep hk,hj,hSj,hms,f1,f2,fun i c l T hm hno=>hN i c l T hm fun hi=>hno (.inl hi),hx⟩
  have hvsq:∀ {v:EV} {rest:List (Nat×EV)},vs2=(q',v)::rest→(q',v)∈vs:=fun {v rest} he=>by rw[e1,he];exact List.mem_append.2 (.inr (by simp))
  have hn0m:n0≤m1.n:=by
   obtain⟨D',F',C',I',M',_,_,_,_,hn0⟩:=hs
   exact Nat.le_trans hn0 e7
  have esAt:∀ {k:Nat},k=2→row=pre++(q',k)::post→kindE X.E o.op=2→S1.length=j:=fun {k} hk2 hrow2 hk=>by
   obtain⟨hej,hjl,_⟩:=esNext hk
   have hse:es=(pre.filter fun r=>Nat.beq r.2 2).map (·.1)++q'::((post.filter fun r=>Nat.beq r.2 2).map (·.1)):=by
    rw[←hrow',hrow2,List.filter_append,List.map_append,List.filter_cons]
    subst hk2
    simp
   have hnd:es.Nodup:=by rw[←hes];exact List.nodup_range.sublist List.filter_sublist
   have h1:es[S1.length]?=some q':=by
    rw[hse,List.getElem?_append_right (by rw[List.length_map,e4];exact Nat.le_refl _),List.length_map,e4,Nat.sub_self]
    rfl
   have hl1:=(List.getElem?_eq_some_iff.1 h1).1
   exact(List.getElem?_inj hl1 hnd).1 (by rw[h1,hej])
  cases e5 with
  | @q i o' rest fr0 m0 v fr' vs' frE0 mE0 S0 A0 ho hk hwt hv hp t=>
   have hoo:o'=o:=some_inj' (ho.symm.trans hq)
   subst hoo
   have hw:=wantE_ok' hwt hR.fr H
   refine⟨fun _=>?_,fun hf=>by rw[hw] at hf;cases hf⟩
   obtain⟨u,hu,huv⟩:∃ u,E_q X.P X.E G Sm.t o'.op fr1=some u∧∀ x,SvE D x u→SvE D x v:=by
    cases hl:isLoad o'.op with
    | false=>exact⟨v,by rw[E_q_mem hl (m2:=m1.t)];exact hv,fun _ h=>h⟩
    | true=>
     have hmem:Hold.load q' o' fr1 v∈A:=e6 _ (by rw[hl];simp)
     have h1:=hholdA _ hmem
     have h2:=atAll_ok (show atAll S (loL es (befL ops) q') (hiL es (befL ops) q') (stillE (RX X G pr) o' fr1 v)=true from h1) hlo hhi hSj
     unfold stillE at h2
     split at h2
     ·rename_i u hu
      exact⟨u,hu,fun x hx=>hx.same h2⟩
     ·cases h2
   refine Oper.wpIn_mono (fun a' w'=>?_) (V_op_sound hE hdo ⟨β,hR⟩ (V_op_q (K:=fun F' C' I' M'=>I'=I∧M'=M∧PFv o'.dst v D F F') rfl hk (E_q_ok hE hu hO hms fun x hx=>⟨rfl,rfl,.put F (huv x hx)⟩)))
   rintro⟨F',C',I',M',hr',rfl,rfl,hpf⟩
   exact plain (hvsq rfl) (by rw[hk];decide) (fun _ _ _=>.inr trivial) hr' hpf
  | @a i o' d rest fr0 m0 m' l T c mk fr' vs' frE0 mE0 S0 A0 ho hk hwt hd hv hnr hp t=>
   have hoo:o'=o:=some_inj' (ho.symm.trans hq)
   subst hoo
   have hw:=wantE_ok' hwt hR.fr H
   refine⟨fun _=>?_,fun hf=>by rw[hw] at hf;cases hf⟩
   have hmem:Hold.made q' m1.n l T∈A:=e6 _ (by simp)
   have h1:=hholdA _ hmem
   have h2:=atAll_ok (show atAll S (loL es (befL ops) q') (hiL es (befL ops) q') (madeE m1.n l T)=true from h1) hlo hhi hSj
   unfold madeE at h2
   rw[Bool.and_eq_true] at h2
   obtain⟨hcn,h2⟩:=h2
   have hcn':m1.n < Sm.n:=Nat.le_of_ble_eq_true hcn
   split at h2
   ·rename_i cs T' lim hent
    simp only[Bool.and_eq_true] at h2
    obtain⟨hT,hlim,h2⟩:=h2
    have hT':=Nat.eq_of_beq_eq_true hT
    subst hT'
    have hlim':=Nat.eq_of_beq_eq_true hlim
    subst hlim'
    split at h2
    ·rename_i l' hl'
     obtain⟨l2,c1,c2,c3⟩:=Tri.many_ok cs l.length 0 _ _ hl'
     have hl2:l2=l':=some_inj' c3
     subst hl2
     have hDc:D m1.n=none:=hN q' m1.n l T' hmem hqL
     refine Oper.wpIn_mono (fun a' w'=>?_) (V_op_sound hE hdo ⟨β,hR⟩ (E_a_ok (K:=fun F' C' I' M'=>∃ b us u,I'=I∧M'=⟨b,.cells us.toArray T' (0,0)⟩::M∧I b=none∧(∀ x∈M,x.num≠b)∧VRs D l us∧(∀ i,X.E T'=some i→us.length=c * i.size)∧c≤maxLen ∧
      (∀ (D':Nm) id,D' id=some ⟨b,0,c⟩→VR D' (mk id) u)∧PF o'.dst u F F') hE hesc hdo hv (by rw[hd];rfl) hO fun b us u F' C' g1 g2 g3 g4 g5 g6 g7=>⟨b,us,u,rfl,rfl,g1,g2,g3,g4,g5,g6,g7⟩))
     rintro⟨F',C',I',M',hr',b,us,u,rfl,rfl,g1,g2,g3,g4,g5,g6,g7⟩
     have hle:D.le (D.set m1.n ⟨b,0,c⟩):=Nm.le_set _ hDc
     have hpv:PFv o'.dst (mk m1.n) (D.set m1.n ⟨b,0,c⟩) F F':=g7.v (g6 _ _ (Nm.set_self _ _ _))
     obtain⟨f1,f2⟩:=DJ.fr hD hq hqL hvn (hvsq rfl) hle hpv hA1 hB1
     have hg3:=sameLE_ok h2 g3
     have hset:∀ id,id≠m1.n→(D.set m1.n ⟨b,0,c⟩) id=D id:=fun id hid=>by unfold Nm.set;rw[if_neg hid]
     have hother:∀ id e b',Sm.t.get id=some e→D id=some b'→b'.b≠b:=fun id e b' hi hb' hbb=>by
      obtain⟨x,hx1,hx2⟩:=hms.blk hi hb'
      exact g2 x hx1 (hx2.trans hbb)
     refine⟨D.set m1.n ⟨b,0,c⟩,F',C',I',_,j,Sm,hr',esKeep (by rw[hk];decide),hj,hSj,?_,f1,f2,?_,fun i hi=>?_⟩
     ·refine⟨fun id e b' hi hb'=>?_,fun id id' e e' b1 b2 hi hi' h1 h2 hbb=>?_,fun id b' hb'=>?_,hms.glo⟩
      ·by_cases hid:id=m1.n
       ·subst hid
        rw[Nm.set_self] at hb'
        cases hb'
        rw[hent] at hi
        cases hi
        refine .cells us.toArray rfl (by simp) (by simp[g3.len]) (fun i v hi hv=>?_) (fun i hi=>by simpa using g4 i hi) g5
        have hv':l2[i]?=some v:=by
         have:=c2 i hi
         rw[Nat.zero_add,hv] at this
         exact this.symm
        obtain⟨x,hx1,hx2⟩:=hg3.get hv'
        exact⟨x,by simpa using hx1,hx2.mono hle⟩
       ·rw[hset id hid] at hb'
        exact(hms.ent id e b' hi hb').mono hle fun x hx _=>List.mem_cons_of_mem _ hx
      ·by_cases hid:id=m1.n
       ·by_cases hid':id'=m1.n
        ·rw[hid,hid']
        ·rw[hset id' hid'] at h2
         rw[hid,Nm.set_self] at h1
         cases h1
         exact(hother id' e' b2 hi' h2 hbb.symm).elim
       ·rw[hset id hid] at h1
        by_cases hid':id'=m1.n
        ·rw[hid',Nm.set_self] at h2
         cases h2
         exact(hother id e b1 hi h1 hbb).elim
        ·rw[hset id' hid'] at h2
         exact hms.inj id id' e e' b1 b2 hi hi' h1 h2 hbb
      ·by_cases hid:id=m1.n
       ·rw[hid];exact hcn'
       ·rw[hset id hid] at hb'
        exact hms.dom _ _ hb'
     ·intro i c' l' T2 hmd hno
      have hcc:c'≠m1.n:=fun e=>by
       rcases e9 i c' l' T2 hmd with h | h
       ·rcases List.mem_cons.1 h with h | h
        ·cases h
         exact hno (.inr rfl)
        ·have:=(t.made_ge.2 i c' l' T2 h).1
         have:=hnr.1
         omega
       ·omega
      rw[hset c' hcc]
      exact hN i c' l' T2 hmd fun hi=>hno (.inl hi)
     ·rw[hset i (by omega)]
      exact hx i hi
    ·cases h2
   ·cases h2
  | @e i o' rest fr0 m0 m' v fr' vs' frE0 mE0 S0 A0 ho hk hwt hcore hp t=>
   have hoo:o'=o:=some_inj' (ho.symm.trans hq)
   subst hoo
   have hw:=wantE_ok' hwt hR.fr H
   refine⟨fun _=>?_,fun hf=>by rw[hw] at hf;cases hf⟩
   obtain⟨hej,hjl,hes2⟩:=esNext hk
   have hS1:=esAt rfl hsp hk
   have hSm:Sm=m1:=by
    rw[e3,List.getElem?_append_right (by omega),hS1,Nat.sub_self] at hSj
    simpa using hSj.symm
   subst hSm
   obtain⟨m2,S3,hS3,hgrow⟩:=t.head
   refine Oper.wpIn_mono (fun a' w'=>?_) (V_op_sound hE hdo ⟨β,hR⟩ (hcore.2 D F C I M (fun F' C' I' M'=>∃ D',D.ext D' Sm.n∧PFv o'.dst v D' F F'∧MS (RX X G pr) D' m' I' M') hO hms fun D' F' C' I' M' g1 g2 g3=>⟨D',g1,g2,g3⟩))
   rintro⟨F',C',I',M',hr',D',g1,g2,g3⟩
   have hle:=hms.le g1
   obtain⟨f1,f2⟩:=DJ.fr hD hq hqL hvn (hvsq rfl) hle g2 hA1 hB1
   refine⟨D',F',C',I',M',j+1,m2,hr',hes2,hjl,?_,g3.grow hgrow,f1,f2,fun i c l T hmd hno=>?_,Nm.ext_trans hx g1 hn0m⟩
   ·rw[e3,List.getElem?_append_right (by omega),hS1,show j+1 - j=0+1 by omega,List.getElem?_cons_succ,hS3]
    rfl
   ·rcases e9 i c l T hmd with h | h
    ·have:=(t.made_ge.2 i c l T h).1
     cases hDc:D' c with
     | none=>rfl
     | some b=>have:=g3.dom _ _ hDc;omega
    ·rw[g1 c h]
     exact hN i c l T hmd fun hi=>hno (.inl hi)
  | @skip i k' o' rest fr0 m0 fr' vs' frE0 mE0 S0 A0 ho hk hwt hp t=>
   have hoo:o'=o:=some_inj' (ho.symm.trans hq)
   subst hoo
   have hw:=wantE_ok' hwt hR.fr H
   refine⟨fun hf=>(by rw[hw] at hf;cases hf),fun _=>?_⟩
   have hR':Rel X (a.put o'.dst undef) w (put o'.dst (.val undef) F) C I M:=⟨β,hR.put (x:=.val undef) hdo rfl⟩
   have hpv:PFv o'.dst (.t []) D F (put o'.dst (.val undef) F):=.put F (.val .undef)
   by_cases hk2:k=2
   ·subst hk2
    obtain⟨hej,hjl,hes2⟩:=esNext hk
    have hS1:=esAt rfl hsp hk
    have hSm:Sm=m1:=by
     rw[e3,List.getElem?_append_right (by omega),hS1,Nat.sub_self] at hSj
     simpa using hSj.symm
    subst hSm
    obtain⟨m2,S3,hS3,hgrow⟩:=t.head
    obtain⟨f1,f2⟩:=DJ.fr hD hq hqL hvn (hvsq rfl) (Nm.le_refl D) hpv hA1 hB1
    refine⟨D,_,C,I,M,j+1,m2,hR',hes2,hjl,?_,hms.grow hgrow,f1,f2,fun i c l T hmd hno=>hN i c l T hmd fun hi=>hno (.inl hi),hx⟩
    rw[e3,List.getElem?_append_right (by omega),hS1,show j+1 - j=0+1 by omega]
    show (Sm::S0)[0+1]?=some m2
    rw[List.getElem?_cons_succ,hS3]
    rfl
   ·exact plain (hvsq rfl) (by rw[hk];exact hk2) (fun _ _ _=>.inr trivial) hR' hpv
 simpa using key
end
end Go.V
namespace Go.V
open Go
theorem okC_code {n:Nat}:∀ {c:Code},okC n c=true→codeOk n c=true
 | .seq x y,h=>by simp only[okC,codeOk,Bool.and_eq_true] at h ⊢;exact⟨okC_code h.1,okC_code h.2⟩
 | .block _ c,h=>by simp only[okC,codeOk] at h ⊢;exact okC_code h
 | .cond _ x y,h=>by simp only[okC,codeOk,Bool.and_eq_true] at h ⊢;exact⟨okC_code h.1,okC_code h.2⟩
 | .loop c,h=>by simp only[okC,codeOk] at h ⊢;exact okC_code h
 | .region _ ops _,h=>h
 | .scope c,h=>rfl
 | .rangeFunc ..,h=>rfl
 | .skip,h | .exit _,h | .label _,h | .goto _,h | .ret,h | .refuse _,h=>rfl
theorem okC_label {n:Nat}:∀ {c:Code} {l:Nat} {r:Code},okC n c=true→findLabel c l=some r→okC n r=true
 | .seq x y,l,r,h,hl=>by
  simp only[okC,Bool.and_eq_true] at h
  simp only[findLabel] at hl
  split at hl
  ·rename_i rest hr
   cases hl
   simp only[okC,Bool.and_eq_true]
   exact⟨okC_label h.1 hr,h.2⟩
  ·exact okC_label h.2 hl
 | .label l',l,r,h,hl=>by
  simp only[findLabel] at hl
  split at hl
  ·cases hl;rfl
  ·cases hl
 | .skip,_,_,_,hl | .exit _,_,_,_,hl | .goto _,_,_,_,hl | .ret,_,_,_,hl | .refuse _,_,_,_,hl | .block _ _,_,_,_,hl | .cond _ _ _,_,_,_,hl | .loop _,_,_,_,hl | .scope _,_,_,_,hl | .region _ _ _,_,_,_,hl | .rangeFunc _ _ _ _,_,_,_,hl=>by simp[findLabel] at hl
def FunsOK (P:Program):Prop:=∀ (g:Nat) (fn:Func) (c:Code),P.funcs[g]?=some fn→fn.body=some c→okC fn.ntmps c=true∧(fn.name == "runtime.NumGoroutine")=false
def funsChk (P:Program):Bool:=P.funcs.toList.all fun fn=>match fn.body with
 | some c=>okC fn.ntmps c && !(fn.name == "runtime.NumGoroutine")
 | none=>true
theorem funsOK_of {P:Program} (h:funsChk P=true):FunsOK P:=fun g fn c hf hb=>by
 have h1:=List.all_eq_true.1 h fn (by rw[←Array.mem_def];exact Array.mem_of_getElem? hf)
 simp only[hb,Bool.and_eq_true,Bool.not_eq_true'] at h1
 exact h1
def PrimOK (Y:RK):Prop:=∀ g vs m v m',Y.pr g vs m=some (v,m')→∀ (D:Nm) (I:GH) (M:List Blk) (us:List Value),VRs D vs us→MS Y D m I M→Spec Y.P g us I M fun r I' M'=>∃ D',D.ext D' m.n∧VR D' v r∧MS Y D' m' I' M'
def toExit:Ex→Exit
 | .normal=>.normal
 | .exit id=>.exit id
 | .goto l=>.goto l
 | .ret=>.ret
def RkX (Y:RK) (n B:Nat) (h0:World) (I0:GH) (foot:List Nat) (ro:Option Nat):Ctx:=⟨Y.P,Y.E,List.range n,n,B,h0,I0,foot,ro⟩
theorem RkX.esc {Y:RK} {n B:Nat} {h0:World} {I0:GH} {foot:List Nat} {ro:Option Nat}:∀ d,d < (RkX Y n B h0 I0 foot ro).n→(RkX Y n B h0 I0 foot ro).esc.contains d=true:=fun d hd=>by
 have hd':d < n:=hd
 show (List.range n).contains d=true
 simpa using hd'
def CodeOK (Y:RK) (f:Nat):Prop:=∀ top n c fr m ex fr' m',E_code Y f top n c fr m=some (ex,fr',m')→okC n c=true→∀ B h0 I0 foot ro D0 n0 a w,(top=true→ro=none)→St (RkX Y n B h0 I0 foot ro) Y.G Y.pr D0 n0 fr m a w →
 c.wpIn (fen (RkX Y n B h0 I0 foot ro)) 0 Y.P (fun e a w=>e=toExit ex∧St (RkX Y n B h0 I0 foot ro) Y.G Y.pr D0 n0 fr' m' a w) a w
theorem bare_get {α:Type}:∀ (n k:Nat),(Tri.bare n:Tri α).get k=none
 | 0,k=>rfl
 | n+1,k=>by
  rw[Tri.bare,Tri.get_node]
  cases Nat.beq k 0 with
  | true=>rfl
  | false=>
   cases Nat.beq (k % 2) 1 with
   | true=>exact bare_get n _
   | false=>exact bare_get n _
section
variable {X:Ctx} {G:GT} {pr:PR} {D:Nm} {m:Me} {F:Fr} {fr:Tri EV} {C:Bx} {I:GH} {M:List Blk}
theorem resE_ok (hF:FR D F fr) (hm:MS (RX X G pr) D m I M):∀ {rs:List ResultVar} {vs:List EV} {K:List Value→Prop},resE (RX X G pr) fr m.t rs=some vs→(∀ us,VRs D vs us→K us)→resV X F C I M rs K
 | [],vs,K,h,hk=>by
  simp only[resE] at h
  cases h
  exact hk [] .nil
 | .tmp t::l,vs,K,h,hk=>by
  simp only[resE] at h
  split at h
  ·rename_i v vs' h1 h2
   cases h
   obtain⟨u,e1,g1⟩:=(show SvE D (evr F (.tmp t)) v from hF t v h1).evq
   unfold resV
   rw[e1]
   exact resE_ok hF hm h2 fun us hus=>hk _ (.cons g1 hus)
  ·cases h
 | .cell t ty::l,vs,K,h,hk=>by
  simp only[resE] at h
  split at h
  ·rename_i x i vs' h1 h2 h3
   split at h
   ·rename_i v hv
    cases h
    have hnb:∀ q,x≠.b q:=fun q e=>by subst e;cases hv
    obtain⟨u,e1,g1⟩:=SvE.nb (hF t x h1:SvE D (evr F (.tmp t)) x) hnb
    obtain⟨ad,l',us',rfl,hrd,hl,hp⟩:=loadE_ok hm g1 hv
    have h2':X.E ty=some i:=h2
    have e1':evr F (.tmp t)=.val (.pointer (some ad)):=e1
    unfold resV
    rw[e1',h2']
    exact⟨us',hrd,resE_ok hF hm h3 fun us hus=>hk _ (.cons (packE_ok hp hl) hus)⟩
   ·cases h
  ·cases h
end
theorem call_fn {Y:RK} (hE:EOK Y.P Y.E) (hF:FunsOK Y.P) (hpr:PrimOK Y) {f:Nat} (hc:CodeOK Y f) {g:Nat} {args:List EV} {m:Me} {v:EV} {fn:Func} {c:Code} {us:List Value} {D:Nm} {I:GH} {M:List Blk} (hf:Y.P.funcs[g]?=some fn) (hb:fn.body=some c)
  (hle:args.length≤fn.ntmps) {fr fr':Tri EV} (hfr:∀ t w,fr.get t=some w→args[t]?=some w) {ex:Ex} {m1:Me} (hex:ex=.normal∨ex=.ret) (h:E_code Y f true fn.ntmps c fr m=some (ex,fr',m1)) {vs:List EV} (hr:resE Y fr' m1.t fn.results.toList=some vs)
  (hv:v=resOf vs) (hu:VRs D args us) (hm:MS Y D m I M):SpecE Y.P g us I M fun r I' M'=>∃ D',D.ext D' m.n∧VR D' v r∧MS Y D' m1 I' M':=by
 obtain⟨hok,hnm⟩:=hF g fn c hf hb
 refine specE_of_W (List.range fn.ntmps) hE hf hb hnm ?_ fun B h0 a w hR=>?_
 ·rw[Bool.and_eq_true]
  exact⟨okC_code hok,Nat.ble_eq_true_of_le (by rw[hu.len];exact hle)⟩
 ·have hfr0:FR D (frOf us) fr:=fun t w hw=>by
   obtain⟨x,h1,h2⟩:=hu.get (hfr t w hw)
   refine .inl ⟨x,?_,h2⟩
   simp only[frOf,h1]
  have hst:St (RkX Y fn.ntmps B h0 I (M.map (·.num)) none) Y.G Y.pr D m.n fr m a w:=⟨D,_,_,I,M,hR,hfr0,hm,Nm.ext_refl,Nat.le_refl _⟩
  refine wpIn_mono (hc _ _ _ _ _ _ _ _ h hok B h0 I (M.map (·.num)) none D m.n a w (fun _=>rfl) hst) ?_
  rintro e a' w' ⟨rfl,D',F',C',I',M',hR',hF',hm',hx,hn⟩
  have hres:∀ ex',ex'=.normal∨ex'=.ret→retK (RkX Y fn.ntmps B h0 I (M.map (·.num)) none) fn.results.toList (fun r I' M'=>∃ D',D.ext D' m.n∧VR D' v r∧MS Y D' m1 I' M') ex' F' C' I' M':=fun ex' he=>by
   have hdone:=resE_ok (X:=RkX Y fn.ntmps B h0 I (M.map (·.num)) none) (G:=Y.G) (pr:=Y.pr) (C:=C') hF' hm' hr (K:=fun vs=>match vs with
    | [v']=>RetOb (M.map (·.num)) I' M' ((fun r I' M'=>∃ D',D.ext D' m.n∧VR D' v r∧MS Y D' m1 I' M') v')
    | vs=>RetOb (M.map (·.num)) I' M' ((fun r I' M'=>∃ D',D.ext D' m.n∧VR D' v r∧MS Y D' m1 I' M') (.tuple vs.toArray))) fun us' hus=>by
     clear hr
     match vs,us',hus,hv with
     | [],us',hus,hv=>
      rw[hus.unnil]
      refine⟨I',M',.refl,D',hx,?_,hm'⟩
      rw[hv]
      exact .mkTup .nil
     | [v1],us',hus,hv=>
      obtain⟨x,xs,h1,h2,rfl⟩:=hus.uncons
      rw[h2.unnil]
      refine⟨I',M',.refl,D',hx,?_,hm'⟩
      rw[hv]
      exact h1
     | v1::v2::vs,us',hus,hv=>
      obtain⟨x,xs,h1,h2,rfl⟩:=hus.uncons
      obtain⟨y,ys,h3,h4,rfl⟩:=h2.uncons
      refine⟨I',M',.refl,D',hx,?_,hm'⟩
      rw[hv]
      exact .mkTup hus
   rcases he with rfl | rfl<;>exact hdone
  rcases hex with rfl | rfl
  ·exact⟨F',C',I',M',hR',hres _ (.inl rfl)⟩
  ·exact⟨F',C',I',M',hR',hres _ (.inr rfl)⟩
end Go.V
namespace Go.V
open Go
theorem Spec.weakK {P:Program} {f:Nat} {args:List Value} {I:GH} {M:List Blk} {p q:Value→GH→List Blk→Prop} (h:Spec P f args I M p) (hk:∀ v I' M',p v I' M'→q v I' M'):Spec P f args I M q:=by
 rcases h with ⟨h1,h2⟩ | h
 ·refine .inl ⟨h1,fun w hw=>?_⟩
  refine(h2 w hw).mono ?_
  rintro e w' ⟨v,I',M',e1,e2,e3,e4⟩
  exact⟨v,I',M',e1,hk _ _ _ e2,e3,e4⟩
 ·refine .inr fun w hw=>?_
  obtain⟨v,w',I',M',e1,e2,e3,e4⟩:=h w hw
  exact⟨v,w',I',M',e1,hk _ _ _ e2,e3,e4⟩
section
variable {Y:RK} {D:Nm} {m m':Me} {I:GH} {M:List Blk}
theorem callB_ok (hE:EOK Y.P Y.E) (hF:FunsOK Y.P) (hpr:PrimOK Y) {f:Nat} (hc:CodeOK Y f) {g:Nat} {args:List EV} {v:EV} {us:List Value} (h:callB Y (E_code Y f) g args m=some (v,m')) (hu:VRs D args us) (hm:MS Y D m I M) :
  SpecE Y.P g us I M fun r I' M'=>∃ D',D.ext D' m.n∧VR D' v r∧MS Y D' m' I' M':=by
 unfold callB at h
 obtain⟨fn,hf,h1⟩:=opn_eq h
 obtain⟨c,hb,h2⟩:=opn_eq h1
 obtain⟨hle,h3⟩:=cnd_some h2
 obtain⟨fr,g1,g2⟩:=Tri.puts_ok args (Tri.bare 12) 0
 rw[g1] at h3
 have hfr:∀ t w,fr.get t=some w→args[t]?=some w:=fun t w hw=>by
  rcases g2 t w hw with ⟨_,h⟩ | ⟨_,h⟩
  ·simpa using h
  ·rw[bare_get] at h;cases h
 unfold callRk at h3
 split at h3
 ·rename_i fr' m1 hx
  unfold retE at h3
  obtain⟨vs,hr,h4⟩:=opn_eq h3
  cases h4
  exact call_fn hE hF hpr hc hf hb (Nat.le_of_ble_eq_true hle) hfr (.inl rfl) hx hr rfl hu hm
 ·rename_i fr' m1 hx
  unfold retE at h3
  obtain⟨vs,hr,h4⟩:=opn_eq h3
  cases h4
  exact call_fn hE hF hpr hc hf hb (Nat.le_of_ble_eq_true hle) hfr (.inr rfl) hx hr rfl hu hm
 ·cases h3
theorem callF_ok (hE:EOK Y.P Y.E) (hF:FunsOK Y.P) (hpr:PrimOK Y) {f:Nat} (hc:CodeOK Y f) {g:Nat} {args:List EV} {v:EV} {us:List Value} (h:callF Y (E_code Y f) g args m=some (v,m')) (hu:VRs D args us) (hm:MS Y D m I M) :
  Spec Y.P g us I M fun r I' M'=>∃ D',D.ext D' m.n∧VR D' v r∧MS Y D' m' I' M':=by
 unfold callF at h
 cases hp:Y.pr g args m with
 | none=>rw[hp] at h;exact .inl (callB_ok hE hF hpr hc h hu hm)
 | some p=>
  rw[hp] at h
  have h':some p=some (v,m'):=h
  cases h'
  exact hpr g args m v m' hp D I M us hu hm
theorem RelB.kept {X:Ctx} {β:Nat→Nat} {a:Act} {w W:World} {F:Fr} {C:Bx} {I0 I':GH} {M0 M':List Blk} (h:RelB X β a w F C I' M') (h1:X.h0=W) (h2:X.B=W.heap.size) (h3:X.I0=I0) (h4:X.foot=M0.map (·.num)):Kept I0 M0 W I' M' w where
 le:=by rw[←h3];exact h.le0
 newI b o hb:=by
  rcases h.new0 b o hb with h5 | h5
  ·exact .inl (by rw[←h3];exact h5)
  ·exact .inr (by rw[←h2];exact h5)
 newM x hx:=by
  rcases h.own x hx with h5 | h5
  ·rw[h4] at h5
   obtain⟨y,hy,e⟩:=List.mem_map.1 h5
   exact .inl ⟨y,hy,e⟩
  ·exact .inr (by rw[←h2];exact h5)
 old b hb hn:=by
  rw[←h1]
  refine h.old b (by rw[h2];exact hb) fun hm=>?_
  rw[h4] at hm
  obtain⟨y,hy,e⟩:=List.mem_map.1 hm
  exact hn y hy e
 out:=by rw[←h1];exact h.out
 sz:=by rw[←h2];exact h.sz
theorem putAllE_ok {R:Type}:∀ {ps:List Nat} {args:List EV} {fr0:Tri EV} {K:Tri EV→Option R} {r:R} {us:List Value} {tmps:Array Value},putAllE ps args fr0 K=some r→VRs D args us→(∀ t∈ps,t < tmps.size)→(∀ t v,fr0.get t=some v→VR D v (tmps.getD t undef)) →
  ∃ fr1,K fr1=some r∧us.length=ps.length∧((ps.zip us).foldl (fun (tmps:Array Value) (p:Nat×Value)=>tmps.setIfInBounds p.1 p.2) tmps).size=tmps.size ∧
   ∀ t v,fr1.get t=some v→VR D v (((ps.zip us).foldl (fun (tmps:Array Value) (p:Nat×Value)=>tmps.setIfInBounds p.1 p.2) tmps).getD t undef)
 | [],[],fr0,K,r,us,tmps,h,hu,hp,h0=>by
  have:=hu.unnil
  subst this
  exact⟨fr0,h,rfl,rfl,h0⟩
 | [],_::_,fr0,K,r,us,tmps,h,hu,hp,h0=>by simp[putAllE] at h
 | _::_,[],fr0,K,r,us,tmps,h,hu,hp,h0=>by simp[putAllE] at h
 | t0::ps,v0::args,fr0,K,r,us,tmps,h,hu,hp,h0=>by
  obtain⟨x,xs,g1,g2,rfl⟩:=hu.uncons
  simp only[putAllE] at h
  obtain⟨fr1,h1,h2⟩:=Tri.set_ok (some v0) fr0 t0
  rw[h1] at h
  have hlt:=hp t0 (by simp)
  obtain⟨fr2,h3,h4,h5,h6⟩:=putAllE_ok (tmps:=tmps.setIfInBounds t0 x) h g2 (fun t ht=>by simpa using hp t (by simp[ht])) fun t v ht=>by
   rw[Array.getD_eq_getD_getElem?,Array.getElem?_setIfInBounds]
   rcases h2 t v ht with ⟨rfl,e⟩ | ⟨hne,hg⟩
   ·have:=(some_inj' e)
    subst this
    simp only[if_true,hlt]
    exact g1
   ·rw[if_neg (Ne.symm hne),←Array.getD_eq_getD_getElem?]
    exact h0 t v hg
  exact⟨fr2,h3,by simp[h4],by simpa using h5,h6⟩
theorem EntR.loopE {E:Env} {a:Loc} {b:Bool} {n:Nat} {fr:Tri EV} {ps:List Nat} {asg body:Code} (h:EntR D E M a (.loop b n fr ps asg body)):∃ L,(⟨a.b,.loop L⟩:Blk)∈M∧LpR D b n fr ps asg body L:=by
 cases h with
 | loop L h1 h2=>exact⟨L,h1,h2⟩
theorem EntR.doneE {E:Env} {a:Loc} {c:Code} {n:Nat} {fr:Tri EV} {ps:List Nat} {asg body:Code} (h:EntR D E M a (.done c n fr ps asg body)):∃ L,(⟨a.b,.loop L⟩:Blk)∈M∧L.state=.done∧L.pending=some c:=by
 cases h with
 | done L h1 h2 h3=>exact⟨L,h1,h2,h3⟩
theorem MS.swap (h:MS Y D m I M) {t':Tri Ent} {l:Nat} {e0 e1:Ent} {al:Loc} {o o':Obj} {Mr:List Blk} (hg:m.t.get l=some e0) (ha:D l=some al) (hM:M.Perm (⟨al.b,o⟩::Mr)) (ht:∀ id e,t'.get id=some e→(id=l∧some e1=some e)∨(id≠l∧m.t.get id=some e))
  (he:EntR D Y.E (⟨al.b,o'⟩::Mr) al e1):MS Y D ⟨t',m.n⟩ I (⟨al.b,o'⟩::Mr):=by
 refine h.step (fun id e hi=>(ht id e hi).imp (fun q=>⟨q.1,some_inj' q.2⟩) fun q=>q) ha (Nm.le_refl D) (fun _ _=>rfl) h.dom (fun _ _ h=>h) (fun id e a' hne hi hai x hx hn=>?_) he fun id e a' hne hi hai hb=>hne (h.inj _ _ _ _ _ _ hi hg hai ha hb)
 rcases List.mem_cons.1 (hM.mem_iff.1 hx) with rfl | hx
 ·exact(hne (h.inj _ _ _ _ _ _ hi hg hai ha hn.symm)).elim
 ·exact List.mem_cons_of_mem _ hx
end
end Go.V
namespace Go.V
open Go
section
variable {Y:RK} {D:Nm} {m m':Me} {I:GH} {M:List Blk}
theorem callY_ok {f:Nat} (hc:CodeOK Y f) {l:Nat} {args:List EV} {v:EV} {us:List Value} {al:Loc} (h:callY (E_code Y f) l args m=some (v,m')) (hl:D l=some al) (hu:VRs D args us) (hm:MS Y D m I M) :
  SpecY Y.P al.b us I M fun r I' M'=>∃ D',D.ext D' m.n∧VR D' v r∧MS Y D' m' I' M':=by
 unfold callY at h
 split at h
 ·rename_i n fr0 ps asg body hg
  obtain⟨L,hM,hL⟩:=(hm.ent _ _ _ hg hl).loopE
  intro W hW
  have hrec:W.heap[al.b]?=some (.loop L):=hW.m _ hM
  have hst:L.state=.ready:=hL.st
  have hops:∀ t∈ps,t < L.tmps.size:=fun t ht=>by rw[hL.sz];exact hL.op t (by rw[hL.ps];exact ht)
  obtain⟨fr1,h1,hlen,hsz,hfr1⟩:=putAllE_ok (tmps:=L.tmps) h hu hops hL.fr
  have hps:L.params.size=ps.length:=by rw[←hL.ps];simp
  refine⟨_,_,_,_,run_yield hrec (by rw[hps];simpa using hlen),?_⟩
  have htm:(L.params.zip us.toArray).foldl (fun tmps (x:Nat×Value)=>match x with | (t,a)=>tmps.setIfInBounds t a) L.tmps=(ps.zip us).foldl (fun (tmps:Array Value) (p:Nat×Value)=>tmps.setIfInBounds p.1 p.2) L.tmps:=by
   rw[←Array.foldl_toList,←hL.ps]
   simp
  rw[htm]
  generalize hT:(ps.zip us).foldl (fun (tmps:Array Value) (p:Nat×Value)=>tmps.setIfInBounds p.1 p.2) L.tmps=T at hfr1 hsz
  rw[hL.asg,hL.body]
  have hoa:okC n asg=true:=by rw[←hL.asg];exact hL.oa
  have hob:okC n body=true:=by rw[←hL.body];exact hL.ob
  refine roundIn_of_wpIn (F:=Fence.wide) (n:=0) trivial ?_
  let X1:Ctx:=RkX Y n W.heap.size W I (M.map (·.num)) (some al.b)
  have hrel:RelB X1 (fun _=>0) { tmps:=T,defers:=[] } W (fun t=>.val (T.getD t undef)) (fun _=>none) I M:={
   size:=hsz.trans hL.sz
   defers:=⟨[],rfl,List.nodup_nil,fun r hr=>by cases hr⟩
   holds:=hW
   fr:=fun t=>rfl
   bx:=fun s cs hs=>by cases hs
   inj:=fun s s' h1=>by simp at h1
   le0:=fun b o hb=>hb
   new0:=fun b o hb=>.inl hb
   own:=fun x hx=>.inl (List.mem_map.2 ⟨x,hx,rfl⟩)
   old:=fun b hb hf=>rfl
   out:=.refl _
   sz:=Nat.le_refl _ }
  unfold begR at h1
  split at h1
  ·rename_i fr2 m2 hasg
   have hs1:St X1 Y.G Y.pr D m.n fr1 m { tmps:=T,defers:=[] } W:=⟨D,_,_,I,M,⟨_,hrel⟩,fun t v hv=>.val (hfr1 t v hv),hm,Nm.ext_refl,Nat.le_refl _⟩
   refine wpIn_mono (hc _ _ _ _ _ _ _ _ hasg hoa _ _ _ _ _ D m.n _ _ (fun e=>by cases e) hs1) ?_
   rintro e a1 w1 ⟨rfl,D2,F2,C2,I2,M2,⟨β2,hR2⟩,hF2,hm2,hx2,hn2⟩
   have hl2:D2 l=some al:=by rw[hx2 l (hm.dom _ _ hl)];exact hl
   have h2:begQ (E_code Y f) l n body (m2.t.get l) fr2 m2=some (v,m'):=h1
   unfold begQ at h2
   split at h2
   ·rename_i n' fr0' ps' asg' body' hg2
    obtain⟨L2,hM2,hL2⟩:=(hm2.ent _ _ _ hg2 hl2).loopE
    obtain⟨pre,post,hsp⟩:=List.append_of_mem hM2
    have hperm:M2.Perm (⟨al.b,.loop L2⟩::(pre++post)):=by rw[hsp];exact List.perm_middle
    have hh1:w1.heap[al.b]?=some (.loop L2):=hR2.holds.m _ hM2
    have hlt1:=(Array.getElem?_eq_some_iff.1 hh1).1
    refine⟨_,run_beginRound hh1 hL2.st,?_⟩
    obtain⟨t3,h3,h4⟩:=Tri.set_ok (some (Ent.loop true n' fr0' ps' asg' body')) m2.t l
    rw[h3] at h2
    have hR3:RelB X1 β2 a1 (w1.putObj al.b (.loop { L2 with state:=.busy })) F2 C2 I2 (⟨al.b,.loop { L2 with state:=.busy }⟩::(pre++post)):=
     (hR2.wk (.perm hperm .refl)).swap (by simp) (World.putObj_heap_same hlt1) (fun b hb=>World.putObj_heap_other hb) (putObj_same _ _ _)
    have hm3:MS Y D2 ⟨t3,m2.n⟩ I2 (⟨al.b,.loop { L2 with state:=.busy }⟩::(pre++post)):=hm2.swap hg2 hl2 hperm h4 (.loop { L2 with state:=.busy } (by simp) ⟨rfl,hL2.pd,hL2.sz,hL2.fr,hL2.ps,hL2.asg,hL2.body,hL2.oa,hL2.ob,hL2.op⟩)
    unfold endRk at h2
    obtain⟨⟨ex,fr4,m4⟩,hbody,h5⟩:=opn_eq h2
    have hs3:St X1 Y.G Y.pr D m.n fr2 ⟨t3,m2.n⟩ a1 (w1.putObj al.b (.loop { L2 with state:=.busy })):=⟨D2,F2,C2,I2,_,⟨β2,hR3⟩,hF2,hm3,hx2,hn2⟩
    refine wpIn_mono (hc _ _ _ _ _ _ _ _ hbody hob _ _ _ _ _ D m.n _ _ (fun e=>by cases e) hs3) ?_
    rintro e a4 w4 ⟨rfl,D4,F4,C4,I4,M4,⟨β4,hR4⟩,hF4,hm4,hx4,hn4⟩
    have hl4:D4 l=some al:=by rw[hx4 l (hm.dom _ _ hl)];exact hl
    have h6:endQ l (m4.t.get l) (codeOf ex) m4=some (v,m'):=h5
    unfold endQ at h6
    split at h6
    ·rename_i n4 fr04 ps4 asg4 body4 hg4
     obtain⟨L4,hM4,hL4⟩:=(hm4.ent _ _ _ hg4 hl4).loopE
     obtain⟨pre4,post4,hsp4⟩:=List.append_of_mem hM4
     have hperm4:M4.Perm (⟨al.b,.loop L4⟩::(pre4++post4)):=by rw[hsp4];exact List.perm_middle
     have hh4:w4.heap[al.b]?=some (.loop L4):=hR4.holds.m _ hM4
     have hlt4:=(Array.getElem?_eq_some_iff.1 hh4).1
     obtain⟨t5,h7,h8⟩:=Tri.set_ok (some (opn (codeOf ex) (Ent.loop false n4 fr04 ps4 asg4 body4) fun c=>Ent.done c n4 fr04 ps4 asg4 body4)) m4.t l
     rw[h7] at h6
     cases h6
     have fin:∀ jump,codeOf ex=jump→∃ v' w',(Instr.endRound al.b jump).run Y.P w4=.ok v' w'∧∃ r I' M',Ending.returned v'=.returned r∧(∃ D',D.ext D' m.n∧VR D' (.b (codeOf ex).isNone) r∧MS Y D' ⟨t5,m4.n⟩ I' M')∧Holds I' M' w'∧Kept I M W I' M' w':=by
      rintro jump hj
      let L5:Loop:={ L4 with state:=if jump.isNone then .ready else .done,pending:=jump }
      have hR5:RelB X1 β4 a4 (w4.putObj al.b (.loop L5)) F4 C4 I4 (⟨al.b,.loop L5⟩::(pre4++post4)):=
       (hR4.wk (.perm hperm4 .refl)).swap (by simp) (World.putObj_heap_same hlt4) (fun b hb=>World.putObj_heap_other hb) (putObj_same _ _ _)
      refine⟨_,_,run_endRound jump hh4,_,I4,_,rfl,⟨D4,hx4,?_,hm4.swap hg4 hl4 hperm4 h8 ?_⟩,hR5.holds,hR5.kept rfl rfl rfl rfl⟩
      ·rw[hj]
       simp[VR]
      ·rw[hj]
       cases jump with
       | none=>exact .loop L5 (by simp) ⟨rfl,rfl,hL4.sz,hL4.fr,hL4.ps,hL4.asg,hL4.body,hL4.oa,hL4.ob,hL4.op⟩
       | some c=>exact .done L5 (by simp) rfl rfl
     cases ex with
     | normal=>exact fin none rfl
     | exit id=>exact fin _ rfl
     | goto t=>exact fin _ rfl
     | ret=>exact fin _ rfl
    ·cases h6
   ·cases h2
  ·cases h1
 ·cases h
end
end Go.V
namespace Go.V
open Go
section
variable {Y:RK}
theorem call_ok (hE:EOK Y.P Y.E) (hF:FunsOK Y.P) (hpr:PrimOK Y) {f:Nat} (hc:CodeOK Y f):CallOK Y (E_call Y (E_code Y f)):=fun fv l m v m' h D I M u us hfv hus hm=>by
 unfold E_call at h
 split at h
 ·rename_i g fs cs
  simp only[VR] at hfv
  obtain⟨vs,ws,h1,h2,rfl⟩:=hfv
  refine .inl ⟨g,_,_,rfl,?_⟩
  have:=callF_ok hE hF hpr hc h (h1.append (hus.append h2)) hm
  simpa using this
 ·rename_i q
  simp only[VR] at hfv
  obtain⟨al,h1,rfl⟩:=hfv
  exact .inr ⟨al.b,rfl,callY_ok hc h h1 hus hm⟩
 ·cases h
theorem St.world {X:Ctx} {G:GT} {pr:PR} {D0:Nm} {n0:Nat} {fr:Tri EV} {m:Me} {a:Act} {w:World} (h:St X G pr D0 n0 fr m a w):∃ D F β,(∀ t,SVok β (F t) (a.tmps.getD t undef))∧FR D F fr:=by
 obtain⟨D,F,C,I,M,⟨β,hR⟩,hF,_⟩:=h
 exact⟨D,F,β,hR.fr,hF⟩
theorem St.eval {X:Ctx} {G:GT} {pr:PR} {D0:Nm} {n0:Nat} {fr:Tri EV} {m:Me} {a:Act} {w:World} (h:St X G pr D0 n0 fr m a w) {x:Operand} {b:Bool} (hx:rdO fr x=some (.b b)):a.eval x=.bool b:=by
 obtain⟨D,F,β,h1,h2⟩:=h.world
 obtain⟨u,e1,g1⟩:=(h2.op [x]).ev (x:=x) (by simp) hx
 rw[eval_of_ev h1 e1,g1.bool]
theorem SvE.ok {D:Nm} {β:Nat→Nat} {x:SV} {v:EV} {u:Value} (h:SvE D x v) (hx:SVok β x u):VR D v u:=by
 rcases h with ⟨y,rfl,h⟩ | ⟨q,rfl,rfl⟩
 ·have:u=y:=hx
  subst this
  exact h
 ·have:u=.bool q:=hx
  subst this
  simp[VR]
theorem range_ok (hE:EOK Y.P Y.E) (hF:FunsOK Y.P) (hpr:PrimOK Y) {f:Nat} (hc:CodeOK Y f) {top:Bool} {n:Nat} {x:Operand} {ps:Array Tmp} {asg body:Code} {fr fr':Tri EV} {m m':Me} {ex:Ex} (h:c_range Y (E_code Y f) top n (rdO fr x) ps.toList asg body fr m=some (ex,fr',m'))
  (hok:okC n (.rangeFunc x ps asg body)=true) {B:Nat} {h0:World} {I0:GH} {foot:List Nat} {ro:Option Nat} {D0:Nm} {n0:Nat} {a:Act} {w:World} (hro:top=true→ro=none) (hs:St (RkX Y n B h0 I0 foot ro) Y.G Y.pr D0 n0 fr m a w) :
  (Code.rangeFunc x ps asg body).wpIn (fen (RkX Y n B h0 I0 foot ro)) 0 Y.P (fun e a w=>e=toExit ex∧St (RkX Y n B h0 I0 foot ro) Y.G Y.pr D0 n0 fr' m' a w) a w:=by
 unfold c_range at h
 split at h
 ·rename_i g cap hx
  have hro':=hro rfl
  subst hro'
  obtain⟨D,F,C,I,M,⟨β,hR⟩,hFR,hm,hx0,hn0⟩:=hs
  obtain⟨u,e1,g1⟩:=(hFR.op [x]).ev (x:=x) (by simp) hx
  simp only[VR] at g1
  obtain⟨vs,ws,h1,h2,rfl⟩:=g1
  have hvs:=h1.unnil
  subst hvs
  simp only[okC,Bool.and_eq_true] at hok
  obtain⟨t1,h3,h4⟩:=newE_ok h
  refine wpIn_rangeFunc fun fn _=>?_
  let rc:Loop:={ state:=.ready,pending:=none,fn:=fn,tmps:=a.tmps,params:=ps,assign:=asg,body:=body,defers:=w.heap.size }
  let l:=w.heap.size+1
  let w2:World:=(w.alloc (.deferred (some []))).alloc (.loop rc)
  have hRm:=hR.alloc_mark.alloc_blk (.loop rc)
  have hl:(w.alloc (.deferred (some []))).heap.size=l:=by simp[l]
  rw[hl] at hRm
  have hfrl:∀ q∈M,q.num≠l:=fun q hq e=>by
   have:=hR.holds.lt hq
   omega
  have hms1:MS Y (D.set m.n ⟨l,0,0⟩) ⟨t1,m.n+1⟩ I (⟨l,.loop rc⟩::M):=hm.new (a:=⟨l,0,0⟩) h3 hfrl (.loop rc (by simp) ⟨rfl,rfl,hR.size,fun t v ht=>((hFR t v ht).ok (hR.fr t)).mono (Nm.le_set _ hm.fresh),rfl,rfl,rfl,hok.1,hok.2.1,
   fun t ht=>Nat.le_of_ble_eq_true (List.all_eq_true.1 hok.2.2 t ht)⟩)
  unfold c_left at h4
  obtain⟨⟨v,m2⟩,hcall,h5⟩:=opn_eq h4
  have hle1:=Nm.le_set (D:=D) ⟨l,0,0⟩ hm.fresh
  have hargs:VRs (D.set m.n ⟨l,0,0⟩) (.y m.n::cap) (.func (.yield l) #[] #[]::ws):=.cons (by simp only[VR];exact⟨_,Nm.set_self _ _ _,rfl⟩) (h2.mono hle1)
  obtain⟨hent,hcalls⟩:=callB_ok hE hF hpr hc hcall hargs hms1
  have hcw:=hcalls w2 hRm.holds
  have e2:=eval_of_ev hR.fr e1
  refine⟨l,[markOf w.heap.size],w2,{ target:=.fn (.func g) ws.toArray,args:=#[.func (.yield l) #[] #[]] },w2,g,(.func (.yield l) #[] #[]::ws).toArray,w2,?_,?_,fun _ _=>trivial,?_,(fun h=>by cases h),?_⟩
  ·show (Instr.enterLoop fn a.tmps ps asg body none).run Y.P w=_
   exact run_enterLoop_outer fn a.tmps ps asg body
  ·show (Deferred.ofValue (a.eval x) (#[Operand.const (.func (.yield l) #[] #[])].map a.eval)).run Y.P w2=_
   rw[e2]
   simp[Deferred.ofValue,Act.eval]
  ·simp only[invoke]
   rw[show #[Value.func (.yield l) #[] #[]]++ws.toArray=(.func (.yield l) #[] #[]::ws).toArray from by apply Array.ext';simp]
   exact hent _ _
  ·refine(calls_fen (X:=RkX Y n B h0 I0 foot none) hcw _).mono ?_
   rintro e w3 ⟨r,I3,M3,rfl,⟨D3,hx3,hv3,hm3⟩,hH3,hK3⟩
   have hr3:=hRm.after (Mr:=[]) (by simp) hH3 hK3
   rw[List.append_nil] at hr3
   have hl3:D3 m.n=some ⟨l,0,0⟩:=by rw[hx3 m.n (Nat.lt_succ_self _)];exact Nm.set_self _ _ _
   have hle3:=hms1.le hx3
   have hFR3:FR D3 F fr:=fun t v ht=>(hFR t v ht).mono (Nm.le_trans hle1 hle3)
   have hext:D0.ext D3 n0:=fun i hi=>by
    have hi1:i < m.n+1:=by
     have:i < m.n:=by omega
     omega
    rw[hx3 i hi1]
    show (if i=m.n then _ else D i)=D0 i
    rw[if_neg (by omega)]
    exact hx0 i hi
   have fin:∀ (L:Loop) (t4:Tri Ent) (j:Option Code),(⟨l,.loop L⟩:Blk)∈M3→L.state≠.busy→L.pending=j→(∃ e0,m2.t.get m.n=some e0)→(∀ id e,t4.get id=some e→(id=m.n∧(none:Option Ent)=some e)∨(id≠m.n∧m2.t.get id=some e))→n0≤m2.n →
     ∃ w4,(Instr.endLoop l).run Y.P w3=.ok j w4∧St (RkX Y n B h0 I0 foot none) Y.G Y.pr D0 n0 fr ⟨t4,m2.n⟩ { a with defers:=[markOf w.heap.size]++a.defers } w4:=by
    rintro L t4 j hL hb hp ⟨e0,he0⟩ ht4 hn4
    have hh3:w3.heap[l]?=some (.loop L):=hH3.m _ hL
    obtain⟨pre,post,hsp⟩:=List.append_of_mem hL
    have hperm:M3.Perm (⟨l,.loop L⟩::(pre++post)):=by rw[hsp];exact List.perm_middle
    have hsub:∀ i en,t4.get i=some en→i≠m.n∧m2.t.get i=some en:=fun i en hi=>by
     rcases ht4 i en hi with ⟨_,h8⟩ | h8
     ·cases h8
     ·exact h8
    have hR4:=(hr3.wk (.perm hperm .refl)).dropM (o':=.loop { L with state:=.exhausted })
    refine⟨_,(by rw[←hp];exact run_endLoop hh3 hb),D3,F,C,I3,pre++post,⟨β,hR4⟩,hFR3,⟨fun i en b hi hb'=>?_,fun i i' en en' b b' hi hi'=>hm3.inj i i' en en' b b' (hsub i en hi).2 (hsub i' en' hi').2,hm3.dom,hm3.glo⟩,hext,hn4⟩
    refine(hm3.ent i en b (hsub i en hi).2 hb').mono (Nm.le_refl D3) fun q hq hn=>?_
    rcases List.mem_cons.1 (hperm.mem_iff.1 hq) with rfl | hq
    ·exact((hsub i en hi).1 (hm3.inj _ _ _ _ _ _ (hsub i en hi).2 he0 hb' hl3 hn.symm)).elim
    ·exact hq
   have hn2:∀ {e0:Ent},m2.t.get m.n=some e0→n0≤m2.n:=fun _=>by
    have:=hm3.dom _ _ hl3
    omega
   have h6:(match m2.t.get m.n with
    | some (.loop false ..)=>m2.t.setK none m.n fun t=>some (Ex.normal,fr,(⟨t,m2.n⟩:Me))
    | some (.done c ..)=>opn (exOf c) none fun ex=>m2.t.setK none m.n fun t=>some (ex,fr,⟨t,m2.n⟩)
    | _=>none)=some (ex,fr',m'):=h5
   split at h6
   ·rename_i n3 fr3 ps3 asg3 body3 hg3
    obtain⟨L,hL,hLp⟩:=(hm3.ent _ _ _ hg3 hl3).loopE
    obtain⟨t4,h7,h8⟩:=Tri.set_ok (none:Option Ent) m2.t m.n
    rw[h7] at h6
    cases h6
    obtain⟨w4,h9,h10⟩:=fin L t4 none hL (by rw[hLp.st];simp) hLp.pd ⟨_,hg3⟩ h8 (hn2 hg3)
    exact⟨none,w4,h9,rfl,h10⟩
   ·rename_i c n3 fr3 ps3 asg3 body3 hg3
    obtain⟨L,hL,hst,hpd⟩:=(hm3.ent _ _ _ hg3 hl3).doneE
    obtain⟨ex',hex,h6⟩:=opn_eq h6
    obtain⟨t4,h7,h8⟩:=Tri.set_ok (none:Option Ent) m2.t m.n
    rw[h7] at h6
    cases h6
    obtain⟨w4,h9,h10⟩:=fin L t4 (some c) hL (by rw[hst];simp) hpd ⟨_,hg3⟩ h8 (hn2 hg3)
    refine⟨some c,w4,h9,?_⟩
    unfold exOf at hex
    split at hex
    ·cases hex;exact wpIn_exit ⟨rfl,h10⟩
    ·cases hex;exact wpIn_goto ⟨rfl,h10⟩
    ·cases hex;exact wpIn_ret ⟨rfl,h10⟩
    ·cases hex
   ·cases h6
 ·cases h
end
end Go.V
namespace Go.V
open Go
section
variable {Y:RK}
theorem toExit_then {next:Act→World→Prop} {Q:Exit→Act→World→Prop} {ex:Ex} {a:Act} {w:World} (h:Q (toExit ex) a w) (hne:ex≠.normal):Exit.then next Q (toExit ex) a w:=by
 cases ex<;>first | exact(hne rfl).elim | exact h
theorem code_ok (hE:EOK Y.P Y.E) (hF:FunsOK Y.P) (hpr:PrimOK Y) (hmx:Y.P.follows .mixedOrders=true):∀ f k,k≤f→CodeOK Y k:=by
 intro f
 induction f with
 | zero=>
  intro k hk top n c fr m ex fr' m' h
  have:k=0:=by omega
  subst this
  cases h
 | succ f ih=>
  intro k hk
  by_cases hkf:k≤f
  ·exact ih k hkf
  have hk1:k=f+1:=by omega
  subst hk1
  have hc:=ih f (Nat.le_refl _)
  have hcall:=call_ok hE hF hpr hc
  intro top n c fr m ex fr' m' h hok B h0 I0 foot ro D0 n0 a w hro hs
  have h1:E_codeF Y f (E_code Y f) top n c fr m=some (ex,fr',m'):=h
  have hesc:=@RkX.esc Y n B h0 I0 foot ro
  unfold E_codeF at h1
  cases c with
  | skip=>cases h1;exact wpIn_skip ⟨rfl,hs⟩
  | label l=>cases h1;exact wpIn_label ⟨rfl,hs⟩
  | ret=>cases h1;exact wpIn_ret ⟨rfl,hs⟩
  | exit id=>cases h1;exact wpIn_exit ⟨rfl,hs⟩
  | goto l=>cases h1;exact wpIn_goto ⟨rfl,hs⟩
  | refuse s=>cases h1
  | seq x y=>
   simp only[okC,Bool.and_eq_true] at hok
   simp only[c_then] at h1
   split at h1
   ·rename_i fr1 m1 hx
    refine wpIn_seq (wpIn_mono (hc _ _ _ _ _ _ _ _ hx hok.1 B h0 I0 foot ro D0 n0 a w hro hs) ?_)
    rintro e a1 w1 ⟨rfl,hs1⟩
    exact hc _ _ _ _ _ _ _ _ h1 hok.2 B h0 I0 foot ro D0 n0 a1 w1 hro hs1
   ·rename_i hno
    refine wpIn_seq (wpIn_mono (hc _ _ _ _ _ _ _ _ h1 hok.1 B h0 I0 foot ro D0 n0 a w hro hs) ?_)
    rintro e a1 w1 ⟨rfl,hs1⟩
    exact toExit_then ⟨rfl,hs1⟩ fun e=>hno fr' m' (by rw[h1,e])
  | block id c=>
   simp only[okC] at hok
   simp only[c_block] at h1
   split at h1
   ·rename_i j fr1 m1 hx
    refine wpIn_block (wpIn_mono (hc _ _ _ _ _ _ _ _ hx hok B h0 I0 foot ro D0 n0 a w hro hs) ?_)
    rintro e a1 w1 ⟨rfl,hs1⟩
    simp only[toExit,Exit.inBlock]
    by_cases hj:j=id
    ·subst hj
     rw[beq_self'] at h1
     have h2:some (Ex.normal,fr1,m1)=some (ex,fr',m'):=h1
     cases h2
     rw[if_pos rfl]
     exact⟨rfl,hs1⟩
    ·rw[beq_ne hj] at h1
     have h2:some (Ex.exit j,fr1,m1)=some (ex,fr',m'):=h1
     cases h2
     rw[if_neg hj]
     exact⟨rfl,hs1⟩
   ·rename_i hno
    refine wpIn_block (wpIn_mono (hc _ _ _ _ _ _ _ _ h1 hok B h0 I0 foot ro D0 n0 a w hro hs) ?_)
    rintro e a1 w1 ⟨rfl,hs1⟩
    cases ex with
    | exit j=>exact(hno j fr' m' h1).elim
    | normal=>exact⟨rfl,hs1⟩
    | goto l=>exact⟨rfl,hs1⟩
    | ret=>exact⟨rfl,hs1⟩
  | cond x c1 c2=>
   simp only[okC,Bool.and_eq_true] at hok
   simp only[c_cond] at h1
   split at h1
   ·rename_i b hx
    refine wpIn_cond (hs.eval hx) ?_
    cases b with
    | true=>exact hc _ _ _ _ _ _ _ _ h1 hok.1 B h0 I0 foot ro D0 n0 a w hro hs
    | false=>exact hc _ _ _ _ _ _ _ _ h1 hok.2 B h0 I0 foot ro D0 n0 a w hro hs
   ·cases h1
  | loop c=>
   simp only[okC] at hok
   let J (k:Nat) (a:Act) (w:World):Prop:=k≤f+1∧∃ fr1 m1,E_code Y k top n (.loop c) fr1 m1=some (ex,fr',m')∧St (RkX Y n B h0 I0 foot ro) Y.G Y.pr D0 n0 fr1 m1 a w
   refine wpIn_loop_rel J (m:=f+1) ⟨Nat.le_refl _,fr,m,h,hs⟩ ?_
   rintro k a1 w1 ⟨hk,fr1,m1,h2,hs1⟩
   cases k with
   | zero=>cases h2
   | succ k=>
    have hck:=ih k (by omega)
    have h3:c_then (E_code Y k top n c fr1 m1) (E_code Y k top n (.loop c))=some (ex,fr',m'):=h2
    simp only[c_then] at h3
    split at h3
    ·rename_i fr2 m2 hx
     refine wpIn_mono (hck _ _ _ _ _ _ _ _ hx hok B h0 I0 foot ro D0 n0 a1 w1 hro hs1) ?_
     rintro e a2 w2 ⟨rfl,hs2⟩
     exact⟨k,Nat.lt_succ_self k,by omega,fr2,m2,h3,hs2⟩
    ·rename_i hno
     refine wpIn_mono (hck _ _ _ _ _ _ _ _ h3 hok B h0 I0 foot ro D0 n0 a1 w1 hro hs1) ?_
     rintro e a2 w2 ⟨rfl,hs2⟩
     exact toExit_then ⟨rfl,hs2⟩ fun e=>hno fr' m' (by rw[h3,e])
  | region id ops dr=>
   cases dr with
   | false=>
    simp only[c_ops] at h1
    obtain⟨⟨fr1,m1⟩,hx,h2⟩:=opn_eq h1
    cases h2
    refine wpIn_region ?_
    have:=E_ops_ok (X:=RkX Y n B h0 I0 foot ro) (G:=Y.G) (pr:=Y.pr) (D0:=D0) (n0:=n0) hE hesc hcall ops (fun e a w=>e=toExit .normal∧St (RkX Y n B h0 I0 foot ro) Y.G Y.pr D0 n0 fr1 m1 a w) (fun a w h=>⟨rfl,h⟩) ops.toList 0 (by simp) (opsOk_spec hok) hx hs
    have h9:wpOpsIn (fen (RkX Y n B h0 I0 foot ro)) 0 Y.P ops (fun e a w=>e=toExit .normal∧St (RkX Y n B h0 I0 foot ro) Y.G Y.pr D0 n0 fr1 m1 a w) (List.range' 0 ops.toList.length) a w:=this
    rw[List.range_eq_range']
    simpa using h9
   | true=>
    simp only[c_ops] at h1
    obtain⟨⟨fr1,m1⟩,hx,h2⟩:=opn_eq h1
    cases h2
    exact E_drawn_ok (X:=RkX Y n B h0 I0 foot ro) (G:=Y.G) (pr:=Y.pr) (D0:=D0) (n0:=n0) hE hesc hcall hmx hok hx (fun a w h=>⟨rfl,h⟩) hs
  | scope c=>
   simp only[okC] at hok
   have step:∀ (k:Nat) (x:Code) (fr1:Tri EV) (m1:Me) (a1:Act) (w1:World),okC n x=true→E_scope (E_code Y f) top n c (k+1) x fr1 m1=some (ex,fr',m')→St (RkX Y n B h0 I0 foot ro) Y.G Y.pr D0 n0 fr1 m1 a1 w1 →
     x.wpIn (fen (RkX Y n B h0 I0 foot ro)) 0 Y.P (fun e a' w'=>match e with
      | .goto l=>∃ rest fr2 m2,findLabel c l=some rest∧E_scope (E_code Y f) top n c k rest fr2 m2=some (ex,fr',m')∧St (RkX Y n B h0 I0 foot ro) Y.G Y.pr D0 n0 fr2 m2 a' w'
      | e=>e=toExit ex∧St (RkX Y n B h0 I0 foot ro) Y.G Y.pr D0 n0 fr' m' a' w') a1 w1:=fun k x fr1 m1 a1 w1 hx h2 hs1=>by
    have h3:(match E_code Y f top n x fr1 m1 with
     | some (.goto l,fr,m)=>opn (findLabel c l) none fun rest=>E_scope (E_code Y f) top n c k rest fr m
     | r=>r)=some (ex,fr',m'):=h2
    split at h3
    ·rename_i l fr2 m2 he
     obtain⟨rest,hrest,h4⟩:=opn_eq h3
     refine wpIn_mono (hc _ _ _ _ _ _ _ _ he hx B h0 I0 foot ro D0 n0 a1 w1 hro hs1) ?_
     rintro e a2 w2 ⟨rfl,hs2⟩
     exact⟨rest,fr2,m2,hrest,h4,hs2⟩
    ·rename_i hno
     refine wpIn_mono (hc _ _ _ _ _ _ _ _ h3 hx B h0 I0 foot ro D0 n0 a1 w1 hro hs1) ?_
     rintro e a2 w2 ⟨rfl,hs2⟩
     cases ex with
     | goto l=>exact(hno l fr' m' h3).elim
     | exit j=>exact⟨rfl,hs2⟩
     | normal=>exact⟨rfl,hs2⟩
     | ret=>exact⟨rfl,hs2⟩
   let J (l k:Nat) (a:Act) (w:World):Prop:=∃ rest fr1 m1,findLabel c l=some rest∧E_scope (E_code Y f) top n c k rest fr1 m1=some (ex,fr',m')∧St (RkX Y n B h0 I0 foot ro) Y.G Y.pr D0 n0 fr1 m1 a w
   cases f with
   | zero=>cases h1
   | succ f'=>
    refine wpIn_scope_rel J (wpIn_mono (step f' c fr m a w hok h1 hs) ?_) ?_
    ·intro e a1 w1 he
     cases e with
     | goto l=>exact⟨f',he⟩
     | _=>exact he
    ·rintro l k a1 w1 ⟨rest,fr1,m1,hrest,h2,hs1⟩
     cases k with
     | zero=>cases h2
     | succ k=>
      refine⟨rest,hrest,wpIn_mono (step k rest fr1 m1 a1 w1 (okC_label hok hrest) h2 hs1) ?_⟩
      intro e a2 w2 he
      cases e with
      | goto l'=>exact⟨k,Nat.lt_succ_self k,he⟩
      | _=>exact he
  | rangeFunc x ps asg body=>exact range_ok hE hF hpr hc h1 hok hro hs
theorem reckon (hE:EOK Y.P Y.E) (hF:FunsOK Y.P) (hpr:PrimOK Y) (hmx:Y.P.follows .mixedOrders=true) {f g:Nat} {args:List EV} {m m':Me} {v:EV} (h:callF Y (E_code Y f) g args m=some (v,m')) {D:Nm} {I:GH} {M:List Blk} {us:List Value} (hu:VRs D args us) (hm:MS Y D m I M) :
  Spec Y.P g us I M fun r I' M'=>∃ D',D.ext D' m.n∧VR D' v r∧MS Y D' m' I' M':=
 callF_ok hE hF hpr (code_ok hE hF hpr hmx f f (Nat.le_refl _)) h hu hm
end
end Go.V
namespace Go.V
open Go
theorem frame_end {I I':GH} {M M':List Blk} {w w':World} (h:Holds I M w) (h1:Holds I' M' w') (h2:Kept I [] w I' M' w') :
  Holds I' (M'++M) w'∧Kept I M w I' (M'++M) w'∧∀ x∈M',∀ y∈M,x.num≠y.num:=by
 have hlt:∀ x∈M,x.num < w.heap.size:=fun x hx=>(Array.getElem?_eq_some_iff.1 (h.m x hx)).1
 have hge:∀ x∈M',w.heap.size≤x.num:=fun x hx=>by
  rcases h2.newM x hx with ⟨y,hy,_⟩ | h
  ·cases hy
  ·exact h
 have hne:∀ x∈M',∀ y∈M,x.num≠y.num:=fun x hx y hy e=>by
  have:=hlt y hy
  have:=hge x hx
  omega
 refine⟨⟨h1.i,fun x hx=>?_,fun x hx=>?_,?_⟩,⟨h2.le,h2.newI,fun x hx=>?_,fun b hb _=>h2.old b hb (by simp),h2.out,h2.sz⟩,hne⟩
 ·rcases List.mem_append.1 hx with hx | hx
  ·exact h1.m x hx
  ·rw[h2.old x.num (hlt x hx) (by simp)]
   exact h.m x hx
 ·rcases List.mem_append.1 hx with hx | hx
  ·exact h1.d x hx
  ·cases he:I' x.num with
   | none=>rfl
   | some o=>
    rcases h2.newI _ _ he with h3 | h3
    ·rw[h.d x hx] at h3
     cases h3
    ·have:=hlt x hx
     omega
 ·rw[List.map_append,List.nodup_append]
  refine⟨h1.nd,h.nd,fun a ha b hb e=>?_⟩
  obtain⟨x,hx,rfl⟩:=List.mem_map.1 ha
  obtain⟨y,hy,rfl⟩:=List.mem_map.1 hb
  exact hne x hx y hy e
 ·rcases List.mem_append.1 hx with hx | hx
  ·exact .inr (hge x hx)
  ·exact .inl ⟨x,hx,rfl⟩
theorem Spec.frame {P:Program} {f:Nat} {args:List Value} {I:GH} {M:List Blk} {Q:Value→GH→List Blk→Prop} (h:Spec P f args I [] Q):Spec P f args I M fun r I' M''=>∃ M',M''=M'++M∧(∀ x∈M',∀ y∈M,x.num≠y.num)∧(∀ b o,I b=some o→I' b=some o)∧Q r I' M':=by
 have h0:∀ {w:World},Holds I M w→Holds I [] w:=fun hw=>⟨hw.i,by simp,by simp,by simp⟩
 rcases h with ⟨h1,h2⟩ | h
 ·refine .inl ⟨h1,fun w hw=>?_⟩
  refine(h2 w (h0 hw)).mono ?_
  rintro e w' ⟨v,I',M',e1,e2,e3,e4⟩
  obtain⟨g1,g2,g3⟩:=frame_end hw e3 e4
  exact⟨v,I',M'++M,e1,⟨M',rfl,g3,e4.le,e2⟩,g1,g2⟩
 ·refine .inr fun w hw=>?_
  obtain⟨v,w',I',M',e1,e2,e3,e4⟩:=h w (h0 hw)
  obtain⟨g1,g2,g3⟩:=frame_end hw e3 e4
  exact⟨v,w',I',M'++M,e1,⟨M',rfl,g3,e4.le,e2⟩,g1,g2⟩
mutual
def shV (k:Nat):EV→EV
 | .p id off=>.p (Nat.add id k) off
 | .sl id off n c=>.sl (Nat.add id k) off n c
 | .sx id off e n=>.sx (Nat.add id k) off e n
 | .m id=>.m (Nat.add id k)
 | .y id=>.y (Nat.add id k)
 | .f g l r=>.f g (shVs k l) (shVs k r)
 | .iv t v=>.iv t (shV k v)
 | .t l=>.t (shVs k l)
 | .a l=>.a (shVs k l)
 | .b x=>.b x
 | .i a n=>.i a n
 | .s l=>.s l
 | .pn=>.pn
 | .g n off=>.g n off
 | .sn=>.sn
 | .gs n off a c=>.gs n off a c
 | .so=>.so
 | .mn=>.mn
 | .fn=>.fn
 | .ni=>.ni
def shVs (k:Nat):List EV→List EV
 | []=>[]
 | v::l=>shV k v::shVs k l
end
section
mutual
theorem shV_ok {D0 D:Nm} {k:Nat} (hD:∀ id a,D0 id=some a→D (Nat.add id k)=some a):∀ (v:EV) {u:Value},VR D0 v u→VR D (shV k v) u
 | .p id off,u,h=>by
  simp only[VR,shV] at h ⊢
  obtain⟨a,ha,h⟩:=h
  exact⟨a,hD _ _ ha,h⟩
 | .sl id off n c,u,h=>by
  simp only[VR,shV] at h ⊢
  obtain⟨a,ha,h⟩:=h
  exact⟨a,hD _ _ ha,h⟩
 | .sx id off e n,u,h=>by
  simp only[VR,shV] at h ⊢
  obtain⟨a,ha,h⟩:=h
  exact⟨a,hD _ _ ha,h⟩
 | .m id,u,h=>by
  simp only[VR,shV] at h ⊢
  obtain⟨a,ha,h⟩:=h
  exact⟨a,hD _ _ ha,h⟩
 | .y id,u,h=>by
  simp only[VR,shV] at h ⊢
  obtain⟨a,ha,h⟩:=h
  exact⟨a,hD _ _ ha,h⟩
 | .f g l r,u,h=>by
  simp only[VR,shV] at h ⊢
  obtain⟨vs,ws,h1,h2,h⟩:=h
  exact⟨vs,ws,shVs_ok hD l h1,shVs_ok hD r h2,h⟩
 | .iv t v,u,h=>by
  simp only[VR,shV] at h ⊢
  obtain⟨x,h1,h⟩:=h
  exact⟨x,shV_ok hD v h1,h⟩
 | .t l,u,h=>by
  simp only[VR,shV] at h ⊢
  obtain⟨x,h1,h⟩:=h
  exact⟨x,shVs_ok hD l h1,h⟩
 | .a l,u,h=>by
  simp only[VR,shV] at h ⊢
  obtain⟨x,h1,h⟩:=h
  exact⟨x,shVs_ok hD l h1,h⟩
 | .b x,u,h=>by simpa only[VR,shV] using h
 | .i a n,u,h=>by simpa only[VR,shV] using h
 | .s l,u,h=>by simpa only[VR,shV] using h
 | .pn,u,h=>by simpa only[VR,shV] using h
 | .g n off,u,h=>by simpa only[VR,shV] using h
 | .sn,u,h=>by simpa only[VR,shV] using h
 | .gs n off a c,u,h=>by simpa only[VR,shV] using h
 | .so,u,h=>by simpa only[VR,shV] using h
 | .mn,u,h=>by simpa only[VR,shV] using h
 | .fn,u,h=>by simpa only[VR,shV] using h
 | .ni,u,h=>by simpa only[VR,shV] using h
theorem shVs_ok {D0 D:Nm} {k:Nat} (hD:∀ id a,D0 id=some a→D (Nat.add id k)=some a):∀ (l:List EV) {us:List Value},VRs D0 l us→VRs D (shVs k l) us
 | [],us,h=>by simpa only[VRs,shVs] using h
 | v::l,us,h=>by
  simp only[VRs,shVs] at h ⊢
  obtain⟨x,xs,h1,h2,h⟩:=h
  exact⟨x,xs,shV_ok hD v h1,shVs_ok hD l h2,h⟩
end
end
end Go.V
namespace Go.V
open Go
inductive SE where
 | cells (l:List EV) (T:Nat)
 | map (es:List (EV×EV))
noncomputable def readEnt:Ent→Option SE
 | .cells cs T lim=>cs.manyK 0 lim fun l=>some (.cells l T)
 | .map es=>some (.map es)
 | _=>none
noncomputable def readAll (t:Tri Ent):Nat→Nat→Option (List SE)
 | _,0=>some []
 | id,n+1=>opn (t.get id) none fun e=>opn (readEnt e) none fun s=>opn (readAll t (Nat.add id 1) n) none fun l=>some (s::l)
def shP (k:Nat):List (EV×EV)→List (EV×EV)
 | []=>[]
 | p::l=>(shV k p.1,shV k p.2)::shP k l
noncomputable def SE.ent (k:Nat):SE→Ent
 | .cells l T=>Tri.putsK (shVs k l) .nil 0 fun cs=>.cells cs T l.length
 | .map es=>.map (shP k es)
noncomputable def putSs {R:Type} (k:Nat):List SE→Nat→Tri Ent→(Tri Ent→R)→R
 | [],_,t,K=>K t
 | s::l,id,t,K=>t.setK (some (s.ent k)) id fun t=>putSs k l (Nat.add id 1) t K
noncomputable def memo (v:EV) (L:List SE) (m:Me):Option (EV×Me):=forceN m.n fun n=>forceN (Nat.add n L.length) fun n'=>putSs n L n m.t fun t=>some (shV n v,⟨t,n'⟩)
theorem readAll_ok {t:Tri Ent}:∀ {n id:Nat} {L:List SE},readAll t id n=some L→L.length=n∧∀ j s,L[j]?=some s→∃ e,t.get (id+j)=some e∧readEnt e=some s
 | 0,id,L,h=>by
  cases h
  exact⟨rfl,by simp⟩
 | n+1,id,L,h=>by
  unfold readAll at h
  obtain⟨e,h1,h⟩:=opn_eq h
  obtain⟨s,h2,h⟩:=opn_eq h
  obtain⟨l,h3,h⟩:=opn_eq h
  cases h
  obtain⟨g1,g2⟩:=readAll_ok h3
  refine⟨by simp[g1],fun j s' hj=>?_⟩
  cases j with
  | zero=>
   cases hj
   exact⟨e,h1,h2⟩
  | succ j=>
   obtain⟨e',k1,k2⟩:=g2 j s' (by simpa using hj)
   refine⟨e',?_,k2⟩
   rw[←k1]
   congr 1
   show id+(j+1)=id+1+j
   omega
theorem putSs_ok (k:Nat):∀ (L:List SE) (id:Nat) (t:Tri Ent),∃ t':Tri Ent,(∀ {R:Type} (K:Tri Ent→R),putSs k L id t K=K t') ∧
  ∀ j e,t'.get j=some e→(id≤j∧∃ s,L[j - id]?=some s∧e=s.ent k)∨((j < id∨id+L.length≤j)∧t.get j=some e)
 | [],id,t=>⟨t,fun K=>rfl,fun j e h=>.inr ⟨by simp;omega,h⟩⟩
 | s::L,id,t=>by
  obtain⟨t1,h1,h2⟩:=Tri.set_ok (some (s.ent k)) t id
  obtain⟨t',h3,h4⟩:=putSs_ok k L (id+1) t1
  refine⟨t',fun K=>?_,fun j e h=>?_⟩
  ·unfold putSs
   rw[h1]
   exact h3 K
  ·rcases h4 j e h with ⟨g1,s',g2,g3⟩ | ⟨g1,g2⟩
   ·refine .inl ⟨by omega,s',?_,g3⟩
    rw[show j - id=(j - (id+1))+1 by omega]
    simpa using g2
   ·rcases h2 j e g2 with ⟨rfl,g3⟩ | ⟨g3,g4⟩
    ·refine .inl ⟨Nat.le_refl _,s,by simp,?_⟩
     cases g3
     rfl
    ·refine .inr ⟨?_,g4⟩
     simp only[List.length_cons]
     omega
theorem shP_ok {D0 D:Nm} {k:Nat} (hD:∀ id a,D0 id=some a→D (Nat.add id k)=some a) {es:List (EV×EV)} {l:List MapEntry} (h:MpR D0 es l):MpR D (shP k es) l:=by
 induction h with
 | nil=>exact .nil
 | cons hk hv t ih=>exact .cons (shV_ok hD _ hk) (shV_ok hD _ hv) ih
theorem shVs_get {k:Nat}:∀ {l:List EV} {i:Nat} {v:EV},(shVs k l)[i]?=some v→∃ v0,l[i]?=some v0∧v=shV k v0
 | [],i,v,h=>by simp[shVs] at h
 | x::l,0,v,h=>by
  simp only[shVs,List.getElem?_cons_zero,Option.some.injEq] at h
  exact⟨x,rfl,h.symm⟩
 | x::l,i+1,v,h=>by
  simp only[shVs,List.getElem?_cons_succ] at h
  simpa using shVs_get h
theorem ent_sh {D0 D:Nm} {k:Nat} (hD:∀ id a,D0 id=some a→D (Nat.add id k)=some a) {E:Env} {M M':List Blk} (hM:∀ x∈M,x∈M') {a:Loc} {e:Ent} {s:SE} (h:EntR D0 E M a e) (hr:readEnt e=some s):EntR D E M' a (s.ent k):=by
 cases h with
 | @cells cs T lim arr h0 h1 h2 h3 h4 h5=>
  unfold readEnt at hr
  obtain⟨l,g1,g2,g3⟩:=Tri.many_ok cs lim 0 _ _ hr
  cases g3
  obtain⟨t',k1,k2⟩:=Tri.puts_ok (shVs k l) (.nil:Tri EV) 0
  show EntR D E M' a (Tri.putsK (shVs k l) .nil 0 fun cs=>Ent.cells cs T l.length)
  rw[k1,g1]
  refine .cells arr h0 (hM _ h1) h2 (fun i v hi hg=>?_) h4 h5
  rcases k2 i v hg with ⟨_,h⟩ | ⟨_,h⟩
  ·obtain⟨v0,e1,rfl⟩:=shVs_get (by simpa using h)
   have:=g2 i hi
   rw[Nat.zero_add,e1] at this
   obtain⟨x,f1,f2⟩:=h3 i v0 hi this
   exact⟨x,f1,shV_ok hD _ f2⟩
  ·cases h
 | map l clock h1 h2=>
  cases hr
  exact .map l clock (hM _ h1) (shP_ok hD h2)
 | loop L h1 h2=>cases hr
 | done L h1 h2 h3=>cases hr
theorem memo_ok {Y:RK} (hE:EOK Y.P Y.E) (hF:FunsOK Y.P) (hmx:Y.P.follows .mixedOrders=true) {f g:Nat} {args:List EV} {m0:Me} {v0:EV} {L:List SE}
  (h0:callF ⟨Y.P,Y.E,fun _=>none,fun _ _ _=>none⟩ (E_code ⟨Y.P,Y.E,fun _=>none,fun _ _ _=>none⟩ f) g args ⟨.nil,0⟩=some (v0,m0)) (hL:readAll m0.t 0 m0.n=some L)
  (hcl:∀ D us,VRs D args us→VRs (fun _=>none) args us) {m m':Me} {v:EV} (h:memo v0 L m=some (v,m')) {D:Nm} {I:GH} {M:List Blk} {us:List Value} (hu:VRs D args us) (hm:MS Y D m I M) :
  Spec Y.P g us I M fun r I' M'=>∃ D',D.ext D' m.n∧VR D' v r∧MS Y D' m' I' M':=by
 have hpr:PrimOK ⟨Y.P,Y.E,fun _=>none,fun _ _ _=>none⟩:=fun g vs m v m' h=>by cases h
 have hm0:MS ⟨Y.P,Y.E,fun _=>none,fun _ _ _=>none⟩ (fun _=>none) ⟨.nil,0⟩ I []:=⟨fun id e a h h'=>(by cases h'),fun id id' e e' a a' h h1 h'=>(by cases h'),fun id a h=>(by cases h),fun g cs h=>(by cases h)⟩
 have hs:=(reckon (Y:=⟨Y.P,Y.E,fun _=>none,fun _ _ _=>none⟩) hE hF hpr hmx h0 (hcl D us hu) hm0).frame (M:=M)
 refine Spec.weakK hs ?_
 rintro r I' M'' ⟨M0,rfl,hne,hle,D0,-,hv,hs0⟩
 unfold memo at h
 rw[forceN_eq,forceN_eq] at h
 obtain⟨t',h1,h2⟩:=putSs_ok m.n L m.n m.t
 rw[h1] at h
 cases h
 obtain⟨g1,g2⟩:=readAll_ok hL
 let D':Nm:=fun id=>if id < m.n then D id else D0 (id - m.n)
 have hD:∀ id a,D0 id=some a→D' (Nat.add id m.n)=some a:=fun id a ha=>by
  show (if id+m.n < m.n then D (id+m.n) else D0 (id+m.n - m.n))=some a
  rw[if_neg (by omega),Nat.add_sub_cancel,ha]
 have hle':D.le D':=fun id a ha=>by
  show (if id < m.n then D id else D0 (id - m.n))=some a
  rw[if_pos (hm.dom _ _ ha),ha]
 have lo:∀ id,id < m.n→D' id=D id:=fun id hi=>if_pos hi
 have hi':∀ id,m.n≤id→D' id=D0 (id - m.n):=fun id hi=>if_neg (by omega)
 have src:∀ id e a,t'.get id=some e→D' id=some a→(m.n≤id∧∃ s e0,e=s.ent m.n∧m0.t.get (id - m.n)=some e0∧readEnt e0=some s∧D0 (id - m.n)=some a)∨(id < m.n∧m.t.get id=some e∧D id=some a):=fun id e a he ha=>by
  rcases h2 id e he with ⟨k1,s,k2,k3⟩ | ⟨k1,k2⟩
  ·obtain⟨e0,k4,k5⟩:=g2 _ _ k2
   rw[Nat.zero_add] at k4
   rw[hi' _ k1] at ha
   exact .inl ⟨k1,s,e0,k3,k4,k5,ha⟩
  ·rcases Nat.lt_or_ge id m.n with hlt | hge
   ·rw[lo _ hlt] at ha
    exact .inr ⟨hlt,k2,ha⟩
   ·rw[hi' _ hge] at ha
    have:=hs0.dom _ _ ha
    omega
 refine⟨D',fun id hi=>lo id hi,shV_ok hD _ hv,⟨fun id e a he ha=>?_,fun id id' e e' a a' he he' ha ha' hb=>?_,fun id a ha=>?_,hm.glo.mono hle⟩⟩
 ·rcases src id e a he ha with ⟨k1,s,e0,rfl,k2,k3,k4⟩ | ⟨k1,k2,k3⟩
  ·exact ent_sh hD (fun x hx=>List.mem_append_left _ hx) (hs0.ent _ _ _ k2 k4) k3
  ·exact(hm.ent _ _ _ k2 k3).mono hle' fun x hx _=>List.mem_append_right _ hx
 ·rcases src id e a he ha with ⟨k1,s,e0,rfl,k2,k3,k4⟩ | ⟨k1,k2,k3⟩
  ·rcases src id' e' a' he' ha' with ⟨j1,s',e0',rfl,j2,j3,j4⟩ | ⟨j1,j2,j3⟩
   ·have:=hs0.inj _ _ _ _ _ _ k2 j2 k4 j4 hb
    omega
   ·obtain⟨x,hx,hxn⟩:=hs0.blk k2 k4
    obtain⟨y,hy,hyn⟩:=hm.blk j2 j3
    exact(hne x hx y hy (hxn.trans (hb.trans hyn.symm))).elim
  ·rcases src id' e' a' he' ha' with ⟨j1,s',e0',rfl,j2,j3,j4⟩ | ⟨j1,j2,j3⟩
   ·obtain⟨x,hx,hxn⟩:=hs0.blk j2 j4
    obtain⟨y,hy,hyn⟩:=hm.blk k2 k3
    exact(hne x hx y hy (hxn.trans (hb.symm.trans hyn.symm))).elim
   ·exact hm.inj _ _ _ _ _ _ k2 j2 k3 j3 hb
 ·show id < m.n+L.length
  rcases Nat.lt_or_ge id m.n with hlt | hge
  ·omega
  ·rw[hi' _ hge] at ha
   have:=hs0.dom _ _ ha
   omega
end Go.V
namespace Go.V
open Go Go.Proofs
theorem lies_many (k:Nat):liesAt Tryz.prog Tryz.prog.depth 229 ((k+1) * 2 / Tryz.prog.cellsOf 229) 0 229 1=true:=by
 have h2:Tryz.prog.cellsOf 229=2:=by kernel_rfl
 have hd:Tryz.prog.depth=(Tryz.prog.depth - 1)+1:=by kernel_rfl
 have hsl:sameLayout Tryz.prog Tryz.prog.depth 229 229=true:=by kernel_rfl
 have hr:rowAt Tryz.prog (sameLayout Tryz.prog Tryz.prog.depth · 229) Tryz.prog.depth 229 (k+1) 0 1=true:=by
  generalize hf:(sameLayout Tryz.prog Tryz.prog.depth · 229)=f
  have hf':f 229=true:=by rw[←hf];exact hsl
  rw[hd]
  unfold rowAt
  simp only[h2,hf']
  simp
 rw[h2,Nat.mul_div_cancel _ (by decide:0 < 2)]
 rw[hd]
 unfold liesAt
 rw[hr]
 rfl
theorem copyCheckN {I:GH} (pre post:List Blk) (b:Nat) (v:Value) (k:Nat) (rest:List Value) (hr:rest.length=2 * k) :
  Spec Tryz.prog 203 [ptr b] I (pre++⟨b,.cells (.pointer none::v::rest).toArray 229 (0,0)⟩::post) fun r I' M'=>r=.tuple #[]∧I'=I∧M'=pre++⟨b,.cells (splice (.pointer none::v::rest) 0 [ptr b]).toArray 229 (0,0)⟩::post:=by
 obtain⟨inf,z,hi,hi1,_⟩:=(TryzEOK 229 _ rfl).inf
 refine spec_of_V [] TryzEOK Tryz.func203 rfl rfl rfl ?_
 intro B h0
 have hm:∀ {o:Obj},(⟨b,o⟩:Blk)∈pre++⟨b,o⟩::post:=fun {o}=>List.mem_append.2 (.inr (.head _))
 have hsz:(Value.pointer none::v::rest).toArray.size=(k+1) * 2:=by
  simp[hr]
  omega
 have hl:liesAt Tryz.prog Tryz.prog.depth 229 ((Value.pointer none::v::rest).toArray.size / Tryz.prog.cellsOf 229) 0 229 1=true:=by
  rw[hsz]
  exact lies_many k
 refine LoadOb.mk [.pointer none] (blk_rd (cs:=.pointer none::v::rest) (k:=0) (n:=1) (T:=229) hm (by simp)) ?_
 refine .other (OtherOb.eqNil TryzEOK rfl (by simp) rfl rfl rfl rfl ?_)
 refine CondOb.mk (fun _=>?_) (fun h=>by cases h)
 refine OtherOb.conv rfl (by simp) rfl (fun w hw=>Lib.run_to_unsafe (t:=229) (e:=229) w ⟨b,0,none⟩ (by kernel_rfl) (by kernel_rfl) (j:=inf) (cells:=(Value.pointer none::v::rest).toArray.size) hi (by rw[hi1];decide) (shape_of hw hm) (by rw[hsz];show 0 < _;omega)) ?_
 refine CallOb.mk (pre++⟨b,.cells (.pointer none::v::rest).toArray 229 (0,0)⟩::post) [] _ (by simp) (NoEscape_spec _) ?_
 rintro v I' M' - ⟨rfl,rfl,rfl⟩
 refine OtherOb.conv rfl (by simp) rfl (fun w hw=>Lib.run_from_unsafe (u:=229) (e:=229) w ⟨b,0,none⟩ (by kernel_rfl) (by kernel_rfl) (j:=inf) (cells:=(Value.pointer none::v::rest).toArray.size) hi (shape_of hw (List.mem_append.2 (.inl hm))) hl) ?_
 refine StoreOb.mk pre post _ _ (List.append_nil _) rfl (by rw[hsz];show 0+0+1≤(k+1) * 2;omega) rfl ?_
 exact⟨_,_,.refl,rfl,rfl,rfl⟩
theorem copyCheckU {I:GH} {M:List Blk} {b:Nat} {arr:Array Value} {T:Nat} (hM:(⟨b,.cells arr T (0,0)⟩:Blk)∈M) (h0:arr[0]?=some (ptr b)) :
  Spec Tryz.prog 203 [ptr b] I M fun r I' M'=>r=.tuple #[]∧I'=I∧M'=M:=by
 refine spec_of_V [] TryzEOK Tryz.func203 rfl rfl rfl ?_
 intro B h0'
 have hr:Rd I M ((⟨b,0,none⟩:Addr).add 0) 1 [ptr b]:=by
  obtain⟨l⟩:=arr
  cases l with
  | nil=>simp at h0
  | cons x l=>
   simp only[List.getElem?_toArray,List.getElem?_cons_zero,Option.some.injEq] at h0
   subst h0
   exact blk_rd (cs:=ptr b::l) (k:=0) (n:=1) hM (by simp)
 refine LoadOb.mk [ptr b] hr ?_
 refine .other (OtherOb.eqNil TryzEOK rfl (by simp) rfl rfl rfl rfl ?_)
 refine CondOb.mk (fun h=>by cases h) (fun _=>?_)
 refine LoadOb.mk [ptr b] hr ?_
 refine .other (OtherOb.neSame TryzEOK rfl (by simp) rfl rfl rfl rfl rfl ?_)
 refine CondOb.mk (fun h=>by cases h) (fun _=>?_)
 exact⟨_,_,.refl,rfl,rfl,rfl⟩
theorem store_at {Y:RK} {D:Nm} {m:Me} {I:GH} {M:List Blk} {R:Type} {id off:Nat} {cs:Tri EV} {T lim:Nat} {a:Loc} {arr:Array Value} {pre post:List Blk} (hm:MS Y D m I M) (hg:m.t.get id=some (.cells cs T lim)) (ha:D id=some a)
  (ho:a.o=0) (hsp:M=pre++⟨a.b,.cells arr T (0,0)⟩::post) (hsz:a.o+lim≤arr.size) (hc:∀ i v,i < lim→cs.get i=some v→∃ x,arr[a.o+i]?=some x∧VR D v x) (hk:∀ i,Y.E T=some i→arr.size=a.o+a.c * i.size) (hmx:a.c≤maxLen)
  {l:List EV} {vs:List Value} (hl:VRs D l vs) {K:Me→Option R} {r:R} (h:storeE m (.p id off) l K=some r) :
  ∃ m',K m'=some r∧m'.n=m.n∧off+vs.length≤arr.size∧MS Y D m' I (pre++⟨a.b,.cells (splice arr.toList off vs).toArray T (0,0)⟩::post):=by
 unfold storeE at h
 simp only[hg] at h
 cases hb:(Nat.ble (Nat.add off l.length) lim && l.all EV.one) with
 | false=>rw[hb] at h;cases h
 | true=>
  rw[hb] at h
  simp only[cond_true] at h
  rw[Bool.and_eq_true] at hb
  have hlim:off+l.length≤lim:=Nat.le_of_ble_eq_true hb.1
  obtain⟨cs',h1,h2⟩:=Tri.puts_ok l cs off
  rw[h1] at h
  obtain⟨t',h3,h4⟩:=Tri.set_ok (some (Ent.cells cs' T lim)) m.t id
  rw[h3] at h
  have hlen:=hl.len
  have hfit:off+vs.length≤arr.size:=by omega
  refine⟨_,h,rfl,hfit,?_⟩
  have hnew:∀ x∈M,x.num≠a.b→x∈pre++⟨a.b,.cells (splice arr.toList off vs).toArray T (0,0)⟩::post:=fun x hx hn=>by
   rw[hsp] at hx
   rcases List.mem_append.1 hx with hx | hx
   ·exact List.mem_append.2 (.inl hx)
   ·rcases List.mem_cons.1 hx with rfl | hx
    ·exact(hn rfl).elim
    ·exact List.mem_append.2 (.inr (List.mem_cons_of_mem _ hx))
  refine hm.step (fun i e hi=>(h4 i e hi).imp (fun q=>⟨q.1,some_inj' q.2⟩) fun q=>q) ha (Nm.le_refl D) (fun _ _=>rfl) hm.dom (fun _ _ h=>h) (fun i e a' hne hi hai x hx hn=>hnew x hx ?_) ?_ ?_
  ·rw[hn]
   exact fun hb=>hne (hm.inj _ _ _ _ _ _ hi hg hai ha hb)
  ·have hls:(splice arr.toList off vs).length=arr.size:=by rw[splice_len (by simpa using hfit)];simp
   refine .cells (splice arr.toList off vs).toArray ho (by simp) (by simp[hls];exact hsz) (fun i v hi hgi=>?_) (fun i hi=>by simp[hls];exact hk i hi) hmx
   rw[ho,Nat.zero_add]
   simp only[List.getElem?_toArray]
   rw[splice_get (by simpa using hfit)]
   rcases h2 i v hgi with ⟨g1,g2⟩ | ⟨g1,g2⟩
   ·have hlt:=(List.getElem?_eq_some_iff.1 g2).1
    rw[if_pos ⟨g1,by omega⟩]
    exact hl.get g2
   ·rw[if_neg (by omega)]
    have:=hc i v hi g2
    rw[ho,Nat.zero_add] at this
    simpa using this
  ·intro i e a' hne hi hai hb
   exact hne (hm.inj _ _ _ _ _ _ hi hg hai ha hb)
noncomputable def ccE (m:Me) (vs:List EV):Option (EV×Me):=match vs with
 | [.p id 0]=>(match m.t.get id with
  | some (.cells cs T lim)=>cnd (Nat.beq T 229 && Nat.ble 2 lim) (match cs.get 0 with
   | some .pn=>storeE m (.p id 0) [.p id 0] fun m=>some (.t [],m)
   | some (.p id' 0)=>cnd (Nat.beq id id') (some (.t [],m)) none
   | _=>none) none
  | _=>none)
 | _=>none
theorem cc_ok {Y:RK} (hY:Y.P=Tryz.prog) (hYE:Y.E=TryzE) {m m':Me} {vs:List EV} {v:EV} (h:ccE m vs=some (v,m')) {D:Nm} {I:GH} {M:List Blk} {us:List Value} (hu:VRs D vs us) (hm:MS Y D m I M) :
  Spec Y.P 203 us I M fun r I' M'=>∃ D',D.ext D' m.n∧VR D' v r∧MS Y D' m' I' M':=by
 unfold ccE at h
 split at h
 ·rename_i id
  obtain⟨x,xs,hx,hn,rfl⟩:=hu.uncons
  obtain rfl:=hn.unnil
  obtain⟨a,ha,rfl⟩:=hx.ptr
  split at h
  ·rename_i cs T lim hg
   obtain⟨h1,hq⟩:=cnd_some h
   clear h
   rw[Bool.and_eq_true] at h1
   obtain⟨hT,hlim⟩:=h1
   obtain rfl:=Nat.eq_of_beq_eq_true hT
   have hlim:=Nat.le_of_ble_eq_true hlim
   obtain⟨arr,ho,hM,hl,hc,hk,hmx⟩:=hm.ent _ _ _ hg ha
   have hsz:=hk _ (by rw[hYE];rfl)
   have hsz:arr.size=a.c * 2:=by
    rw[hsz,ho,Nat.zero_add]
   have hp:Value.pointer (some ⟨a.b,a.o+0,none⟩)=ptr a.b:=by rw[ho];rfl
   split at hq
   ·rename_i hc0
    obtain⟨x0,hx0,hv0⟩:=hc 0 _ (by omega) hc0
    obtain⟨pre,post,hsp⟩:=List.append_of_mem hM
    obtain⟨m1,h2,h3,h4,h5⟩:=store_at hm hg ha ho hsp hl hc hk hmx (l:=[.p id 0]) (vs:=[ptr a.b]) (by simp only[VRs,VR];exact⟨_,_,⟨a,ha,hp.symm⟩,rfl,rfl⟩) hq
    cases h2
    rw[hp,hY,hsp]
    obtain⟨l⟩:=arr
    have hx0':x0=.pointer none:=by simpa only[VR] using hv0
    rw[ho] at hx0
    match l,hx0,hsz with
    | [],hx0,_=>simp at hx0
    | [_],_,hsz=>simp at hsz;omega
    | y::w::rest,hx0,hsz=>
     have hy:y=.pointer none:=by simpa[hx0'] using hx0
     subst hy
     have hrl:rest.length=2 * (a.c - 1):=by simp at hsz;omega
     refine Spec.weakK (copyCheckN pre post a.b w (a.c - 1) rest hrl) ?_
     rintro r I' M' ⟨rfl,rfl,rfl⟩
     exact⟨D,Nm.ext_refl,by simp only[VR,VRs];exact⟨[],rfl,rfl⟩,h5⟩
   ·rename_i id' hc0
    obtain⟨h2,hq2⟩:=cnd_some hq
    obtain rfl:=Nat.eq_of_beq_eq_true h2
    cases hq2
    obtain⟨x0,hx0,hv0⟩:=hc 0 _ (by omega) hc0
    obtain⟨a',ha',rfl⟩:=hv0.ptr
    rw[ha] at ha'
    cases ha'
    rw[hp] at hx0 ⊢
    rw[hY]
    refine Spec.weakK (copyCheckU hM (by rw[←hx0,ho])) ?_
    rintro r I' M' ⟨rfl,rfl,rfl⟩
    exact⟨D,Nm.ext_refl,by simp only[VR,VRs];exact⟨[],rfl,rfl⟩,hm⟩
   ·cases hq
  ·cases h
 ·cases h
end Go.V
namespace Go.V
open Go Go.Proofs
def frz (I:GH):List Blk→GH
 | []=>I
 | x::l=>ins (frz I l) x.num x.obj
theorem frz_inv {I:GH}:∀ {M:List Blk} {b:Nat} {o:Obj},frz I M b=some o→I b=some o∨∃ x∈M,x.num=b∧x.obj=o
 | [],b,o,h=>.inl h
 | x::l,b,o,h=>by
  unfold frz ins at h
  by_cases e:b=x.num
  ·subst e
   simp only[beq_self',cond_true,Option.some.injEq] at h
   exact .inr ⟨x,by simp,rfl,h⟩
  ·simp only[beq_ne e,cond_false] at h
   rcases frz_inv h with h | ⟨y,h1,h2,h3⟩
   ·exact .inl h
   ·exact .inr ⟨y,by simp[h1],h2,h3⟩
theorem frz_mem {I:GH}:∀ {M:List Blk} (hn:(M.map (·.num)).Nodup) {x:Blk},x∈M→frz I M x.num=some x.obj
 | y::l,hn,x,h=>by
  simp only[List.map_cons,List.nodup_cons] at hn
  rcases List.mem_cons.1 h with rfl | h
  ·unfold frz ins
   simp only[beq_self',cond_true]
  ·have e:x.num≠y.num:=fun e=>hn.1 (List.mem_map.2 ⟨x,h,e⟩)
   unfold frz ins
   simp only[beq_ne e,cond_false]
   exact frz_mem hn.2 h
theorem frz_le {I:GH}:∀ {M:List Blk} (hd:∀ x∈M,I x.num=none) {b:Nat} {o:Obj},I b=some o→frz I M b=some o
 | [],hd,b,o,h=>h
 | y::l,hd,b,o,h=>by
  have e:b≠y.num:=fun e=>by
   have:=hd y (by simp)
   rw[←e,h] at this
   cases this
  unfold frz ins
  simp only[beq_ne e,cond_false]
  exact frz_le (fun x hx=>hd x (by simp[hx])) h
theorem kn_frz {I:GH} {M:List Blk} (hn:(M.map (·.num)).Nodup) (hd:∀ x∈M,I x.num=none) {b:Nat} {o:Obj} (h:Kn I M b o):frz I M b=some o:=by
 rcases h with h | ⟨x,h1,rfl,rfl⟩
 ·exact frz_le hd h
 ·exact frz_mem hn h1
structure Frz (I:GH) (M:List Blk) (J:GH):Prop where
 kn:∀ b o,Kn I M b o→J b=some o
 inv:∀ b o,J b=some o→Kn I M b o
theorem Frz.le {I J:GH} {M:List Blk} (h:Frz I M J):∀ b o,I b=some o→J b=some o:=fun b o hb=>h.kn b o (.inl hb)
theorem frz_end {I I':GH} {M':List Blk} {w w':World} (h1:Holds I' M' w') (h2:Kept I [] w I' M' w'):Frz I' M' (frz I' M')∧Holds (frz I' M') [] w'∧Kept I [] w (frz I' M') [] w':=by
 refine⟨⟨fun b o h=>kn_frz h1.nd h1.d h,fun b o h=>?_⟩,⟨fun b o h=>?_,by simp,by simp,by simp⟩,⟨fun b o h=>frz_le h1.d (h2.le _ _ h),fun b o h=>?_,by simp,h2.old,h2.out,h2.sz⟩⟩
 ·rcases frz_inv h with h | ⟨x,g1,g2,g3⟩
  ·exact .inl h
  ·exact .inr ⟨x,g1,g2,g3⟩
 ·rcases frz_inv h with h | ⟨x,g1,rfl,rfl⟩
  ·exact h1.i _ _ h
  ·exact h1.m _ g1
 ·rcases frz_inv h with h | ⟨x,g1,rfl,rfl⟩
  ·exact h2.newI _ _ h
  ·rcases h2.newM _ g1 with ⟨y,hy,_⟩ | h
   ·cases hy
   ·exact .inr h
theorem Spec.frz {P:Program} {f:Nat} {args:List Value} {I:GH} {Q:Value→GH→List Blk→Prop} (h:Spec P f args I [] Q):Spec P f args I [] fun r J M''=>M''=[]∧(∀ b o,I b=some o→J b=some o)∧∃ I' M',Q r I' M'∧Frz I' M' J:=by
 rcases h with ⟨h1,h2⟩ | h
 ·refine .inl ⟨h1,fun w hw=>?_⟩
  refine(h2 w hw).mono ?_
  rintro e w' ⟨v,I',M',e1,e2,e3,e4⟩
  obtain⟨g1,g2,g3⟩:=frz_end e3 e4
  exact⟨v,_,[],e1,⟨rfl,g3.le,I',M',e2,g1⟩,g2,g3⟩
 ·refine .inr fun w hw=>?_
  obtain⟨v,w',I',M',e1,e2,e3,e4⟩:=h w hw
  obtain⟨g1,g2,g3⟩:=frz_end e3 e4
  exact⟨v,w',_,[],e1,⟨rfl,g3.le,I',M',e2,g1⟩,g2,g3⟩
noncomputable def triL {α:Type} (l:List α):Tri α:=Tri.putsK l .nil 0 id
theorem triL_get {α:Type} {l:List α} {i:Nat} {v:α} (h:(triL l).get i=some v):l[i]?=some v:=by
 obtain⟨t,h1,h2⟩:=Tri.puts_ok l (.nil:Tri α) 0
 unfold triL at h
 rw[h1] at h
 rcases h2 _ _ h with ⟨_,h⟩ | ⟨_,h⟩
 ·simpa using h
 ·cases h
noncomputable def GTs:GT:=fun g=>cnd (Nat.beq g 0) (some (triL (countsL.map (EV.i .i64))))
 (cnd (Nat.beq g 1) (some (triL (signsL.map EV.s)))
 (cnd (Nat.beq g 2) (some (triL [.i .i64 0,.i .i64 1,.s [63],.i .i64 0,.i .i64 (-1),.s [42],.i .i64 1,.i .i64 (-1),.s [43]]))
 (cnd (Nat.beq g 4) (some (triL (debL.map (EV.i .u8)))) none)))
theorem gi_map {α:Type} {f:α→EV} {h:α→Value} (hf:∀ x D,VR D (f x) (h x)) {l:List α} {i:Nat} {v:EV} (hv:(triL (l.map f)).get i=some v):∃ x,(l.map h).toArray[i]?=some x∧∀ D,VR D v x:=by
 have:=triL_get hv
 rw[List.getElem?_map] at this
 cases hx:l[i]? with
 | none=>rw[hx] at this;cases this
 | some x=>
  rw[hx] at this
  simp only[Option.map_some,Option.some.injEq] at this
  subst this
  exact⟨h x,by simp[hx],hf x⟩
theorem gi_tabs {I:GH} (hT:Tabs I debL):GI GTs I:=by
 intro g cs h
 unfold GTs at h
 rw[cnd_eq,cnd_eq,cnd_eq,cnd_eq] at h
 cases h1:Nat.beq g 0 with
 | true=>
  rw[h1,cond_true] at h
  obtain rfl:=Nat.eq_of_beq_eq_true h1
  have h:=Option.some.inj h
  subst h
  obtain⟨T,f,h⟩:=hT.c
  exact⟨_,T,f,h,fun i v hv=>gi_map (f:=EV.i .i64) (h:=Value.int .i64) (fun x D=>by simp only[VR]) hv⟩
 | false=>
 rw[h1,cond_false] at h
 cases h2:Nat.beq g 1 with
 | true=>
  rw[h2,cond_true] at h
  obtain rfl:=Nat.eq_of_beq_eq_true h2
  have h:=Option.some.inj h
  subst h
  obtain⟨T,f,h⟩:=hT.s
  exact⟨_,T,f,h,fun i v hv=>gi_map (f:=EV.s) (h:=fun l=>Value.string (strOf l)) (fun x D=>by simp only[VR,strOf]) hv⟩
 | false=>
 rw[h2,cond_false] at h
 cases h3:Nat.beq g 2 with
 | true=>
  rw[h3,cond_true] at h
  obtain rfl:=Nat.eq_of_beq_eq_true h3
  have h:=Option.some.inj h
  subst h
  obtain⟨T,f,h⟩:=hT.p
  refine⟨_,T,f,h,fun i v hv=>?_⟩
  have hv:=triL_get hv
  rcases i with _ | _ | _ | _ | _ | _ | _ | _ | _ | i
  all_goals first | (cases hv;exact⟨_,rfl,fun D=>by simp only[VR]<;>rfl⟩) | (simp at hv)
 | false=>
 rw[h3,cond_false] at h
 cases h4:Nat.beq g 4 with
 | true=>
  rw[h4,cond_true] at h
  obtain rfl:=Nat.eq_of_beq_eq_true h4
  have h:=Option.some.inj h
  subst h
  obtain⟨_,_,T,f,h⟩:=hT.d
  exact⟨_,T,f,h,fun i v hv=>gi_map (f:=EV.i .u8) (h:=Value.int .u8) (fun x D=>by simp only[VR]) hv⟩
 | false=>
 rw[h4,cond_false] at h
 cases h
noncomputable def idxN:List UInt8→Nat→Nat→Int
 | [],_,_=>-1
 | b::l,c,k=>cnd (Nat.beq b.toNat c) (Int.ofNat k) (idxN l c (Nat.succ k))
theorem idxN_eq (c:UInt8):∀ (l:List UInt8) (k:Nat),idxN l c.toNat k=if Lib.indexByte l c=-1 then -1 else Lib.indexByte l c+k
 | [],k=>rfl
 | b::l,k=>by
  have hge:=Lib.indexByte_ge l c
  unfold idxN Lib.indexByte
  rw[cnd_eq]
  by_cases h:b=c
  ·subst h
   simp
  ·have h1:Nat.beq b.toNat c.toNat=false:=by
    cases hb:Nat.beq b.toNat c.toNat with
    | false=>rfl
    | true=>exact absurd (UInt8.toNat_inj.1 (Nat.eq_of_beq_eq_true hb)) h
   have h2:(b == c)=false:=by simpa using h
   rw[h1,cond_false,h2,idxN_eq c l]
   simp only[Bool.false_eq_true,if_false]
   by_cases h3:Lib.indexByte l c=-1
   ·simp[h3]
   ·have h4:(Lib.indexByte l c == -1)=false:=by simpa using h3
    rw[h4,if_neg h3]
    simp only[Bool.false_eq_true,if_false]
    rw[if_neg (by omega)]
    omega
theorem yk_funs:FunsOK Tryz.prog:=funsOK_of (by kernel_rfl)
theorem yk_orders:Tryz.prog.follows .mixedOrders=true:=by kernel_rfl
noncomputable def YZ:RK:=⟨Tryz.prog,TryzE,fun _=>none,fun _ _ _=>none⟩
noncomputable def rdM:List SE:=[.map [(.i .u8 123,.f 217 [] []),(.i .u8 34,.f 218 [] []),(.i .u8 91,.f 219 [] []),(.i .u8 46,.f 220 [] []),(.i .u8 47,.f 236 [] [.p 1 0]),(.i .u8 38,.f 236 [] [.p 2 0]),(.i .u8 33,.f 236 [] [.p 3 0]),(.i .u8 63,.f 236 [] [.p 4 0]),(.i .u8 42,.f 236 [] [.p 5 0]),(.i .u8 43,.f 236 [] [.p 6 0]),(.i .u8 40,.f 236 [] [.p 7 0]),(.i .u8 41,.f 236 [] [.p 8 0]),(.i .u8 60,.f 222 [] []),(.i .u8 62,.f 236 [] [.p 10 0]),(.i .u8 58,.f 236 [] [.p 11 0]),(.i .u8 65,.f 223 [] []),(.i .u8 66,.f 223 [] []),(.i .u8 67,.f 223 [] []),(.i .u8 68,.f 223 [] []),(.i .u8 69,.f 223 [] []),(.i .u8 70,.f 223 [] []),(.i .u8 71,.f 223 [] []),(.i .u8 72,.f 223 [] []),(.i .u8 73,.f 223 [] []),(.i .u8 74,.f 223 [] []),(.i .u8 75,.f 223 [] []),(.i .u8 76,.f 223 [] []),(.i .u8 77,.f 223 [] []),(.i .u8 78,.f 223 [] []),(.i .u8 79,.f 223 [] []),(.i .u8 80,.f 223 [] []),(.i .u8 81,.f 223 [] []),(.i .u8 82,.f 223 [] []),(.i .u8 83,.f 223 [] []),(.i .u8 84,.f 223 [] []),(.i .u8 85,.f 223 [] []),(.i .u8 86,.f 223 [] []),(.i .u8 87,.f 223 [] []),(.i .u8 88,.f 223 [] []),(.i .u8 89,.f 223 [] []),(.i .u8 90,.f 223 [] []),(.i .u8 95,.f 223 [] []),(.i .u8 97,.f 223 [] []),(.i .u8 98,.f 223 [] []),(.i .u8 99,.f 223 [] []),(.i .u8 100,.f 223 [] []),(.i .u8 101,.f 223 [] []),(.i .u8 102,.f 223 [] []),(.i .u8 103,.f 223 [] []),(.i .u8 104,.f 223 [] []),(.i .u8 105,.f 223 [] []),(.i .u8 106,.f 223 [] []),(.i .u8 107,.f 223 [] []),(.i .u8 108,.f 223 [] []),(.i .u8 109,.f 223 [] []),(.i .u8 110,.f 223 [] []),(.i .u8 111,.f 223 [] []),(.i .u8 112,.f 223 [] []),(.i .u8 113,.f 223 [] []),(.i .u8 114,.f 223 [] []),(.i .u8 115,.f 223 [] []),(.i .u8 116,.f 223 [] []),(.i .u8 117,.f 223 [] []),(.i .u8 118,.f 223 [] []),(.i .u8 119,.f 223 [] []),(.i .u8 120,.f 223 [] []),(.i .u8 121,.f 223 [] []),(.i .u8 122,.f 223 [] [])],
 .cells [.i .u8 3] 5,
 .cells [.i .u8 4] 5,
 .cells [.i .u8 5] 5,
 .cells [.i .u8 6] 5,
 .cells [.i .u8 7] 5,
 .cells [.i .u8 8] 5,
 .cells [.i .u8 9] 5,
 .cells [.i .u8 10] 5,
 .cells [.i .u8 11] 5,
 .cells [.i .u8 12] 5,
 .cells [.i .u8 13] 5]
theorem rd_run:(opn (callF YZ (E_code YZ 100000) 205 [] ⟨.nil,0⟩) none fun p=>opn (readAll p.2.t 0 p.2.n) none fun L=>some (p.1,L))=some (EV.m 0,rdM):=by kernel_rfl
noncomputable def prL:PR:=fun g vs m=>cnd (Nat.beq g 253) (match vs with
 | [.s l,.i .u8 (.ofNat k)]=>cnd (Nat.blt k 256) (some (.i .i64 (idxN l k 0),m)) none
 | _=>none) (cnd (Nat.beq g 216) (match vs with
 | [v]=>some (v,m)
 | _=>none) (cnd (Nat.beq g 205) (match vs with
 | []=>memo (.m 0) rdM m
 | _=>none) (cnd (Nat.beq g 203) (ccE m vs) none)))
noncomputable def YK:RK:=⟨Tryz.prog,TryzE,GTs,prL⟩
theorem prim_ok:PrimOK YK:=by
 intro g vs m v m' h D I M us hu hm
 change prL g vs m=some (v,m') at h
 unfold prL at h
 rw[cnd_eq] at h
 cases h1:Nat.beq g 253 with
 | true=>
  rw[h1,cond_true] at h
  obtain rfl:=Nat.eq_of_beq_eq_true h1
  split at h
  ·rename_i l k
   rw[cnd_eq] at h
   cases hk:Nat.blt k 256 with
   | false=>rw[hk] at h;cases h
   | true=>
    rw[hk,cond_true] at h
    have hk':k < 256:=Nat.blt_eq ▸ hk
    cases h
    simp only[VRs,VR] at hu
    obtain⟨x,xs,rfl,⟨y,ys,rfl,rfl,rfl⟩,rfl⟩:=hu
    have hkc:(UInt8.ofNat k).toNat=k:=by simp;omega
    have:=IndexByteString_spec (I:=I) (M:=M) ⟨l.toArray⟩ (UInt8.ofNat k)
    rw[hkc] at this
    refine Spec.weakK this ?_
    rintro r I' M' ⟨rfl,rfl,rfl⟩
    refine⟨D,Nm.ext_refl,?_,hm⟩
    simp only[VR]
    have:=idxN_eq (UInt8.ofNat k) l 0
    rw[hkc] at this
    rw[this]
    split
    ·rename_i e
     simp[e]
    ·simp
  ·cases h
 | false=>
 rw[h1,cond_false,cnd_eq] at h
 cases h2:Nat.beq g 216 with
 | true=>
  rw[h2,cond_true] at h
  obtain rfl:=Nat.eq_of_beq_eq_true h2
  split at h
  ·cases h
   simp only[VRs] at hu
   obtain⟨x,xs,hu,rfl,rfl⟩:=hu
   refine Spec.weakK (NoEscape_spec _) ?_
   rintro r I' M' ⟨rfl,rfl,rfl⟩
   exact⟨D,Nm.ext_refl,hu,hm⟩
  ·cases h
 | false=>
 rw[h2,cond_false,cnd_eq] at h
 cases h3:Nat.beq g 205 with
 | true=>
  rw[h3,cond_true] at h
  obtain rfl:=Nat.eq_of_beq_eq_true h3
  split at h
  ·obtain⟨⟨v0,m0⟩,h4,h5⟩:=opn_eq rd_run
   obtain⟨L,h6,h7⟩:=opn_eq h5
   cases h7
   exact memo_ok (Y:=YK) TryzEOK yk_funs yk_orders h4 h6 (fun D us h=>by simpa only[VRs] using h) h hu hm
  ·cases h
 | false=>
 rw[h3,cond_false,cnd_eq] at h
 cases h4:Nat.beq g 203 with
 | true=>
  rw[h4,cond_true] at h
  obtain rfl:=Nat.eq_of_beq_eq_true h4
  exact cc_ok rfl rfl h hu hm
 | false=>
 rw[h4,cond_false] at h
 cases h
theorem reckonX {I:GH} (hT:Tabs I debL) {f g:Nat} {args:List EV} {m':Me} {v:EV} (h:callF YK (E_code YK f) g args ⟨.nil,0⟩=some (v,m')) {us:List Value} (hu:VRs (fun _=>none) args us) :
  Spec Tryz.prog g us I [] fun r J M''=>M''=[]∧(∀ b o,I b=some o→J b=some o)∧∃ I' M' D',VR D' v r∧MS YK D' m' I' M'∧Frz I' M' J:=by
 have hm:MS YK (fun _=>none) ⟨.nil,0⟩ I []:=⟨fun id e a h h'=>(by cases h'),fun id id' e e' a a' h h1 h'=>(by cases h'),fun id a h=>(by cases h),gi_tabs hT⟩
 refine Spec.weakK (reckon (Y:=YK) TryzEOK yk_funs prim_ok yk_orders h hu hm).frz ?_
 rintro r J M'' ⟨rfl,h1,I',M',⟨D',-,h2,h3⟩,h4⟩
 exact⟨rfl,h1,I',M',D',h2,h3,h4⟩
end Go.V
namespace Go.V
open Go Go.Proofs
noncomputable def gives (f g:Nat) (args:List EV):Option EV:=opn (callF YK (E_code YK f) g args ⟨.nil,0⟩) none fun p=>some p.1
theorem gives_spec {I:GH} (hT:Tabs I debL) {f g:Nat} {args:List EV} {b:Bool} (h:gives f g args=some (.b b)) {us:List Value} (hu:VRs (fun _=>none) args us) :
  Spec Tryz.prog g us I [] fun r J M''=>r=.bool b∧(∀ b o,I b=some o→J b=some o)∧M''=[]:=by
 unfold gives at h
 obtain⟨⟨v,m'⟩,h1,h⟩:=opn_eq h
 cases h
 refine Spec.weakK (reckonX hT h1 hu) ?_
 rintro r J M'' ⟨rfl,hle,I',M',D',hv,hm,hJ⟩
 simp only[VR] at hv
 exact⟨hv,hle,rfl⟩
end Go.V
namespace Go.V
open Go Go.Proofs
theorem of11_0:gives 100000 49 [.s [97,32,60,45,32,34,120,34,32,47,32,97],.s [34,97,98,34],.s [97],.b false]=some (.b true):=by kernel_rfl
theorem of11_1:gives 100000 49 [.s [97,32,60,45,32,34,120,34,32,47,32,97],.s [34,97,34,63,32,34,98,34],.s [97,98],.b false]=some (.b true):=by kernel_rfl
end Go.V
namespace Go.V
open Go Go.Proofs
theorem of11_2:gives 100000 49 [.s [97,32,60,45,32,34,120,34,32,47,32,97],.s [34,97,34,42],.s [97],.b true]=some (.b true):=by kernel_rfl
theorem of11_3:gives 100000 49 [.s [97,32,60,45,32,34,120,34,32,47,32,97],.s [33,34,97,34,32,91,97,45,99,93],.s [97,98,99],.b false]=some (.b true):=by kernel_rfl
end Go.V
namespace Go.V
open Go Go.Proofs
theorem of11_4:gives 100000 49 [.s [97,32,60,45,32,34,120,34,32,47,32,97],.s [97],.s [120],.b false]=some (.b true):=by kernel_rfl
theorem of11_5:gives 100000 49 [.s [97,32,60,45,32,34,120,34,32,47,32,97],.s [97,63],.s [120],.b true]=some (.b true):=by kernel_rfl
theorem of11_6:gives 100000 49 [.s [97,32,60,45,32,34,120,34,32,47,32,97],.s [38,91,93],.s [],.b false]=some (.b true):=by kernel_rfl
end Go.V
namespace Go.V
open Go Go.Proofs
theorem awake11_spec {I:GH} (hT:Tabs I debL):Spec Tryz.prog 34 [] I [] fun v J M''=>v=.bool true∧(∀ b o,I b=some o→J b=some o)∧M''=[]:=by
 refine spec_of_V [] TryzEOK Tryz.func34 rfl rfl rfl ?_
 intro B h0
 refine CallOb.mk [] [] _ (.refl _) (gives_spec hT of11_0 (us:=_) (by simp only[VRs,VR];exact⟨_,_,rfl,⟨_,_,rfl,⟨_,_,rfl,⟨_,_,rfl,rfl,rfl⟩,rfl⟩,rfl⟩,rfl⟩)) ?_
 rintro v I1 M1 - ⟨rfl,hI1,rfl⟩
 have hT1:=hT.mono hI1
 refine GuardOb.mk (fun _=>?_) (fun h=>by cases h)
 refine CallOb.mk [] [] _ (.refl _) (gives_spec hT1 of11_1 (us:=_) (by simp only[VRs,VR];exact⟨_,_,rfl,⟨_,_,rfl,⟨_,_,rfl,⟨_,_,rfl,rfl,rfl⟩,rfl⟩,rfl⟩,rfl⟩)) ?_
 rintro v I2 M2 - ⟨rfl,hI2,rfl⟩
 have hT2:=hT1.mono hI2
 refine GuardOb.mk (fun _=>?_) (fun h=>by cases h)
 refine CallOb.mk [] [] _ (.refl _) (gives_spec hT2 of11_2 (us:=_) (by simp only[VRs,VR];exact⟨_,_,rfl,⟨_,_,rfl,⟨_,_,rfl,⟨_,_,rfl,rfl,rfl⟩,rfl⟩,rfl⟩,rfl⟩)) ?_
 rintro v I3 M3 - ⟨rfl,hI3,rfl⟩
 have hT3:=hT2.mono hI3
 refine GuardOb.mk (fun _=>?_) (fun h=>by cases h)
 refine CallOb.mk [] [] _ (.refl _) (gives_spec hT3 of11_3 (us:=_) (by simp only[VRs,VR];exact⟨_,_,rfl,⟨_,_,rfl,⟨_,_,rfl,⟨_,_,rfl,rfl,rfl⟩,rfl⟩,rfl⟩,rfl⟩)) ?_
 rintro v I4 M4 - ⟨rfl,hI4,rfl⟩
 have hT4:=hT3.mono hI4
 refine GuardOb.mk (fun _=>?_) (fun h=>by cases h)
 refine CallOb.mk [] [] _ (.refl _) (gives_spec hT4 of11_4 (us:=_) (by simp only[VRs,VR];exact⟨_,_,rfl,⟨_,_,rfl,⟨_,_,rfl,⟨_,_,rfl,rfl,rfl⟩,rfl⟩,rfl⟩,rfl⟩)) ?_
 rintro v I5 M5 - ⟨rfl,hI5,rfl⟩
 have hT5:=hT4.mono hI5
 refine GuardOb.mk (fun _=>?_) (fun h=>by cases h)
 refine CallOb.mk [] [] _ (.refl _) (gives_spec hT5 of11_5 (us:=_) (by simp only[VRs,VR];exact⟨_,_,rfl,⟨_,_,rfl,⟨_,_,rfl,⟨_,_,rfl,rfl,rfl⟩,rfl⟩,rfl⟩,rfl⟩)) ?_
 rintro v I6 M6 - ⟨rfl,hI6,rfl⟩
 have hT6:=hT5.mono hI6
 refine GuardOb.mk (fun _=>?_) (fun h=>by cases h)
 refine CallOb.mk [] [] _ (.refl _) (gives_spec hT6 of11_6 (us:=_) (by simp only[VRs,VR];exact⟨_,_,rfl,⟨_,_,rfl,⟨_,_,rfl,⟨_,_,rfl,rfl,rfl⟩,rfl⟩,rfl⟩,rfl⟩)) ?_
 rintro v I7 M7 - ⟨rfl,hI7,rfl⟩
 have hT7:=hT6.mono hI7
 exact⟨_,_,.refl,rfl,fun b o h=>hI7 _ _ (hI6 _ _ (hI5 _ _ (hI4 _ _ (hI3 _ _ (hI2 _ _ (hI1 _ _ h)))))),rfl⟩
end Go.V
namespace Go.V
open Go Go.Proofs
structure Fl where
 z:Bool
 s:Bool
 f:Bool
 deriving DecidableEq
def Fl.cells (x:Fl):List Value:=[.bool x.z,.bool x.s,.bool x.f]
def Fl.val (x:Fl):Value:=.agg #[.bool x.z,.bool x.s,.bool x.f]
theorem Fl.cells_len (x:Fl):x.cells.length=3:=rfl
def Fl.suc (x:Fl):Bool:=x.z || x.s
theorem neB3_run (x y:Fl) (p q:Operand) (w:World):(do eqGuard .neq 80 p q x.val y.val;binOp .neq 80 x.val y.val:Sem Value).run Tryz.prog w=.ok (.bool (!decide (x=y))) w:=by
 obtain⟨a,b,c⟩:=x
 obtain⟨d,e,f⟩:=y
 cases a<;>cases b<;>cases c<;>cases d<;>cases e<;>cases f<;>kernel_rfl
theorem BinOb.neF {x y:Operand} {p q:Fl} {V:Value→Prop} {other:Prop} (h:V (.bool (!decide (p=q)))):BinOb Tryz.prog .neq 80 x y (.val (.agg #[.bool p.z,.bool p.s,.bool p.f])) (.val (.agg #[.bool q.z,.bool q.s,.bool q.f])) V other:=
 .mk _ _ _ rfl rfl (fun w=>neB3_run p q x y w) h
theorem fl_eq {z s f:Bool} {x:Fl} (h1:z=x.z) (h2:s=x.s) (h3:f=x.f):Value.agg #[.bool z,.bool s,.bool f]=x.val:=by
 subst h1 h2 h3
 rfl
theorem fl_cells {z s f:Bool} {x:Fl} (h1:z=x.z) (h2:s=x.s) (h3:f=x.f):[Value.bool z,Value.bool s,Value.bool f]=x.cells:=by
 subst h1 h2 h3
 rfl
theorem sv_bool {a b:Bool} (h:a=b):SvLe (.val (.bool a)) (.val (.bool b)):=by
 subst h
 exact .refl
theorem sv_lit {a b:Bool} (h:a=b):SvLe (.lit a) (.val (.bool b)):=by
 subst h
 exact .lit
theorem perm_nil {M:List Blk}:M.Perm (M++[]):=by simp
theorem BinOb.ne4 {P:Program} {E:Env} (hE:EOK P E) {t e:Nat} {ti ei:TI} {x y:Operand} (ht:E t=some ti) (hts:ti.sh=.array 4 e) (he:E e=some ei) {k:IntKind} (hes:ei.sh=.int k)
  (hg:P.eqGuardType P.depth t=false) {a0 a1 a2 a3 b0 b1 b2 b3:Int} {V:Value→Prop} {other:Prop}
  (h:V (.bool (!(a0 == b0 && (a1 == b1 && (a2 == b2 && a3 == b3)))))):BinOb P .neq t x y (.val (.agg #[.int k a0,.int k a1,.int k a2,.int k a3])) (.val (.agg #[.int k b0,.int k b1,.int k b2,.int k b3])) V other:=by
 obtain⟨d,hud,hdd⟩:=(hE _ _ ht).und
 obtain⟨de,hue,hde⟩:=(hE _ _ he).und
 obtain⟨inf,z,hi,hi1,_⟩:=(hE _ _ he).inf
 have h1:d=.array 4 e:=by rw[hts] at hdd;cases d<;>simp_all[shOf]
 have h2:de=.int k:=by rw[hes] at hde;cases de<;>simp_all[shOf]
 subst h1
 subst h2
 have hs1:inf.size=1:=by rw[hi1];exact(hE _ _ he).sz1 (by rw[hes];rfl)
 refine .mk _ _ _ rfl rfl (fun w=>?_) h
 simp only[Sem.run_bind,run_eqGuard_agg (hm:=hg),Result.andThen_ok,binOp,eq4_run hud hue hi hs1,Sem.run_pure]
theorem Suc_spec {I:GH} {M:List Blk} (x:Fl):Spec Tryz.prog 45 [x.val] I M fun v I' M'=>v=.bool x.suc∧I'=I∧M'=M:=by
 obtain⟨a,b,c⟩:=x
 refine spec_of_V [] TryzEOK Tryz.func45 rfl rfl rfl ?_
 intro B h0
 refine GuardOb.mk (fun h=>?_) (fun h=>?_)
 ·exact⟨_,_,.refl,by rw[show a=false from h];rfl,rfl,rfl⟩
 ·exact⟨_,_,.refl,by rw[show a=true from h];rfl,rfl,rfl⟩
structure FsAt (I:GH) (M:List Blk) (a:Option Addr) (n:Nat) (ks:List Fl):Prop where
 n:ks.length=n
 rd:∀ j (h:j < ks.length),∃ ad,a=some ad∧Rd I M (ad.add (j * 3)) 3 ks[j].cells
def seqStep (st:Fl×Bool) (k:Fl):Fl×Bool:=(⟨st.1.z && k.z,st.1.s || k.s,st.1.f || (st.2 && k.f)⟩,st.2 && k.suc)
def seqGo (ks:List Fl):Fl×Bool:=ks.foldl seqStep (⟨true,false,false⟩,true)
def seqFl (ks:List Fl):Fl:=⟨(seqGo ks).1.z,(seqGo ks).1.s && (seqGo ks).2,(seqGo ks).1.f⟩
def chStep (f k:Fl):Fl:=⟨f.z || (f.f && k.z),f.s || (f.f && k.s),f.f && k.f⟩
def chFl (ks:List Fl):Fl:=ks.foldl chStep ⟨false,false,true⟩
def fl0:Fl:=⟨false,false,false⟩
def repFl (d:Nd) (k:Fl):Fl:=bif decide (d.hi=0) then ⟨true,false,false⟩ else ⟨k.z || (decide (d.lo=0) && k.f),k.s,decide (0 < d.lo) && k.f⟩
def comeFl (d:Nd) (ks:List Fl):Fl:=
 bif decide (d.k=0) then ⟨true,false,false⟩ else
 bif decide (d.k=1) then ⟨false,!d.setZ,true⟩ else
 bif decide (d.k=2) then ⟨false,true,true⟩ else
 bif decide (d.k=3) then ks.headD fl0 else
 bif decide (d.k=4) then seqFl ks else
 bif decide (d.k=5) then chFl ks else
 bif decide (d.k=6) then repFl d (ks.headD fl0) else
 bif decide (d.k=7) then ⟨(ks.headD fl0).suc,false,(ks.headD fl0).f⟩ else
 bif decide (d.k=8) then ⟨(ks.headD fl0).f,false,(ks.headD fl0).suc⟩ else ks.headD fl0
section
variable {I:GH} {M:List Blk} {d:Nd} {a:Option Addr} {n c:Nat} {ks:List Fl}
theorem FsAt.head (hk:FsAt I M a n ks) (h0:0 < n):∃ ad,a=some ad∧Rd I M (ad.add (0 * 3)) 3 (ks.headD fl0).cells:=by
 have h1:0 < ks.length:=by rw[hk.n];exact h0
 obtain⟨ad,h2,h3⟩:=hk.rd 0 h1
 refine⟨ad,h2,?_⟩
 cases ks with
 | nil=>simp at h1
 | cons k ks=>exact h3
theorem fEmpty_spec:Spec Tryz.prog 164 [d.val,.slice a n c] I M fun v I' M'=>v=Fl.val ⟨true,false,false⟩∧I'=I∧M'=M:=by
 refine spec_of_V [] TryzEOK Tryz.func164 rfl rfl rfl ?_
 intro B h0
 exact⟨_,_,.refl,rfl,rfl,rfl⟩
theorem fText_spec:Spec Tryz.prog 166 [d.val,.slice a n c] I M fun v I' M'=>v=Fl.val ⟨false,true,true⟩∧I'=I∧M'=M:=by
 refine spec_of_V [] TryzEOK Tryz.func166 rfl rfl rfl ?_
 intro B h0
 exact⟨_,_,.refl,rfl,rfl,rfl⟩
theorem fItself_spec (hk:FsAt I M a n ks) (h0:0 < n):Spec Tryz.prog 167 [d.val,.slice a n c] I M fun v I' M'=>v=(ks.headD fl0).val∧I'=I∧M'=M:=by
 refine spec_of_V [] TryzEOK Tryz.func167 rfl rfl rfl ?_
 intro B h0'
 obtain⟨ad,had,hrd⟩:=hk.head h0
 refine IdxOb.mk ad 0 had rfl h0 ?_
 refine LoadOb.mk _ hrd ?_
 exact⟨_,_,.refl,rfl,rfl,rfl⟩
theorem fAnd_spec (hk:FsAt I M a n ks) (h0:0 < n):Spec Tryz.prog 171 [d.val,.slice a n c] I M fun v I' M'=>v=Fl.val ⟨(ks.headD fl0).suc,false,(ks.headD fl0).f⟩∧I'=I∧M'=M:=by
 refine spec_of_V [] TryzEOK Tryz.func171 rfl rfl rfl ?_
 intro B h0'
 obtain⟨ad,had,hrd⟩:=hk.head h0
 refine CodeOb.draw TryzEOK rfl rfl rfl ?_
 refine IdxOb.mk ad 0 had rfl h0 ?_
 refine LoadOb.mk _ hrd ?_
 refine IdxOb.mk ad 0 had rfl h0 ?_
 refine LoadOb.mk _ (hrd.part (k:=2) (m:=1) (by decide)) ?_
 refine PCallOb.mkR M [] _ perm_nil (Suc_spec (ks.headD fl0)) (fun v I' M' h x hx=>by rw[h.2.2];exact hx) ?_
 rintro v I' M' - ⟨rfl,rfl,rfl⟩
 rw[List.append_nil]
 exact⟨_,_,.refl,rfl,rfl,rfl⟩
theorem fNot_spec (hk:FsAt I M a n ks) (h0:0 < n):Spec Tryz.prog 172 [d.val,.slice a n c] I M fun v I' M'=>v=Fl.val ⟨(ks.headD fl0).f,false,(ks.headD fl0).suc⟩∧I'=I∧M'=M:=by
 refine spec_of_V [] TryzEOK Tryz.func172 rfl rfl rfl ?_
 intro B h0'
 obtain⟨ad,had,hrd⟩:=hk.head h0
 refine CodeOb.draw TryzEOK rfl rfl rfl ?_
 refine IdxOb.mk ad 0 had rfl h0 ?_
 refine LoadOb.mk _ (hrd.part (k:=2) (m:=1) (by decide)) ?_
 refine IdxOb.mk ad 0 had rfl h0 ?_
 refine LoadOb.mk _ hrd ?_
 refine PCallOb.mkR M [] _ perm_nil (Suc_spec (ks.headD fl0)) (fun v I' M' h x hx=>by rw[h.2.2];exact hx) ?_
 rintro v I' M' - ⟨rfl,rfl,rfl⟩
 rw[List.append_nil]
 exact⟨_,_,.refl,rfl,rfl,rfl⟩
theorem fSet_spec:Spec Tryz.prog 165 [d.val,.slice a n c] I M fun v I' M'=>v=Fl.val ⟨false,!d.setZ,true⟩∧I'=I∧M'=M:=by
 refine spec_of_V [] TryzEOK Tryz.func165 rfl rfl rfl ?_
 intro B h0
 refine BinOb.ne4 TryzEOK (e:=63) rfl rfl rfl rfl (by kernel_rfl) ?_
 exact⟨_,_,.refl,rfl,rfl,rfl⟩
theorem fRep_spec (hk:FsAt I M a n ks) (h0:0 < n):Spec Tryz.prog 170 [d.val,.slice a n c] I M fun v I' M'=>v=(repFl d (ks.headD fl0)).val∧I'=I∧M'=M:=by
 refine spec_of_V [] TryzEOK Tryz.func170 rfl rfl rfl ?_
 intro B h0'
 obtain⟨ad,had,hrd⟩:=hk.head h0
 generalize ks.headD fl0=k at hrd
 obtain⟨kz,kss,kf⟩:=k
 refine CondOb.mk (fun h=>?_) (fun h=>?_)
 ·refine⟨_,_,.refl,fl_eq ?_ ?_ ?_,rfl,rfl⟩<;>simp[repFl,h]
 refine IdxOb.mk ad 0 had rfl h0 ?_
 refine LoadOb.mk _ hrd ?_
 repeat' refine GuardOb.mk (fun h=>?_) (fun h=>?_)
 all_goals refine⟨_,_,.refl,fl_eq ?_ ?_ ?_,rfl,rfl⟩
 all_goals first | (simp_all[repFl];done) | (simp_all[repFl];intros;omega)
theorem fChoice_spec (hk:FsAt I M a n ks) (hn:n≤140737488355328):Spec Tryz.prog 169 [d.val,.slice a n c] I M fun v I' M'=>v=(chFl ks).val∧I'=I∧M'=M:=by
 refine spec_of_V [] TryzEOK Tryz.func169 rfl rfl rfl ?_
 intro B h0'
 have hkn:=hk.n
 refine LoopOb.inv (ι:=Nat×Fl) (fun x=>{ fl:=[(4,.ref 4 0),(5,.ref 5 0),(9,.val (.slice a n c)),(10,.val (.int .i64 n)),(11,.val (.int .i64 x.1))],cl:=[(4,fl0.cells),(5,x.2.cells)],gi:=I,mi:=M })
  (fun x=>x.1≤n∧x.2=(ks.take x.1).foldl chStep ⟨false,false,true⟩) (fun x=>n - x.1) ?_ ?_
 ·exact⟨(0,⟨false,false,true⟩),⟨Nat.zero_le _,rfl⟩,.refl,.cons .refl (.cons .refl (.cons .refl (.cons .refl (.cons .refl .nil)))),.cons rfl (.cons rfl .nil)⟩
 rintro⟨i,f⟩ ⟨hi,hf⟩
 simp only at hi hf
 refine CondOb.mk (fun h=>?_) (fun h=>?_)
 rotate_left
 ·have hge:n≤i:=by have:=of_decide_eq_false h;omega
  refine⟨_,_,.refl,?_,rfl,rfl⟩
  rw[List.take_of_length_le (by omega)] at hf
  rw[chFl,←hf]
  rfl
 have hlt:i < n:=by have:=of_decide_eq_true h;omega
 obtain⟨ad,had,hrd⟩:=hk.rd i (by omega)
 have hst:∀ g:Fl,g=chStep f (ks[i]'(by omega))→g=(ks.take (i+1)).foldl chStep ⟨false,false,true⟩:=fun g hg=>by
  rw[List.take_succ_eq_append_getElem (by omega),List.foldl_append,←hf,hg]
  rfl
 generalize ks[i]'(by omega)=k at hrd hst
 obtain⟨kz,kss,kf⟩:=k
 obtain⟨z,s,ff⟩:=f
 refine IdxOb.mk ad i had rfl hlt ?_
 refine LoadOb.mk _ hrd ?_
 repeat' refine GuardOb.mk (fun h=>?_) (fun h=>?_)
 all_goals refine ArithOb.mk _ (next_wr (i:=i) (by omega)) ?_
 all_goals refine⟨(i+1,_),⟨⟨by simp only;omega,hst _ rfl⟩,by simp only;omega⟩,.refl,.cons .refl (.cons .refl (.cons .refl (.cons .refl (.cons .refl .nil)))),.cons rfl (.cons ?_ .nil)⟩
 all_goals clear hst hf hrd
 all_goals (refine congrArg some (fl_cells ?_ ?_ ?_)<;>simp_all[chStep])
theorem seqGo_snoc (l:List Fl) (k:Fl):seqGo (l++[k])=seqStep (seqGo l) k:=by simp[seqGo]
set_option maxHeartbeats 4000000 in
theorem fSeq_spec (hk:FsAt I M a n ks) (hn:n≤140737488355328):Spec Tryz.prog 168 [d.val,.slice a n c] I M fun v I' M'=>v=(seqFl ks).val∧I'=I∧M'=M:=by
 refine spec_of_V [] TryzEOK Tryz.func168 rfl rfl rfl ?_
 intro B h0'
 have hkn:=hk.n
 refine LoopOb.inv (ι:=Nat×Fl×Bool) (fun x=>{ fl:=[(4,.ref 4 0),(5,.ref 5 0),(6,.val (.bool x.2.2)),(10,.val (.slice a n c)),(11,.val (.int .i64 n)),(12,.val (.int .i64 x.1))],cl:=[(4,fl0.cells),(5,x.2.1.cells)],gi:=I,mi:=M })
  (fun x=>x.1≤n∧x.2=seqGo (ks.take x.1)) (fun x=>n - x.1) ?_ ?_
 ·exact⟨(0,⟨true,false,false⟩,true),⟨Nat.zero_le _,rfl⟩,.refl,.cons .refl (.cons .refl (.cons .lit (.cons .refl (.cons .refl (.cons .refl .nil))))),.cons rfl (.cons rfl .nil)⟩
 rintro⟨i,f,sc⟩ ⟨hi,hf⟩
 simp only at hi hf
 refine CondOb.mk (fun h=>?_) (fun h=>?_)
 rotate_left
 ·have hge:n≤i:=by have:=of_decide_eq_false h;omega
  rw[List.take_of_length_le (by omega)] at hf
  obtain⟨z,s,ff⟩:=f
  have e1:(seqGo ks).1=⟨z,s,ff⟩:=by rw[←hf]
  have e2:(seqGo ks).2=sc:=by rw[←hf]
  refine GuardOb.mk (fun h2=>?_) (fun h2=>?_)
  all_goals refine⟨_,_,.refl,fl_eq ?_ ?_ ?_,rfl,rfl⟩
  all_goals simp_all[seqFl]
 have hlt:i < n:=by have:=of_decide_eq_true h;omega
 obtain⟨ad,had,hrd⟩:=hk.rd i (by omega)
 have hst:∀ g:Fl×Bool,g=seqStep (f,sc) (ks[i]'(by omega))→g=seqGo (ks.take (i+1)):=fun g hg=>by
  rw[List.take_succ_eq_append_getElem (by omega),seqGo_snoc,←hf,hg]
 generalize ks[i]'(by omega)=k at hrd hst
 obtain⟨kz,kss,kf⟩:=k
 obtain⟨z,s,ff⟩:=f
 refine IdxOb.mk ad i had rfl hlt ?_
 refine LoadOb.mk _ hrd ?_
 repeat' first
  | refine GuardOb.mk (fun h=>?_) (fun h=>?_)
  |(refine CallOb.mk M [] _ perm_nil (Suc_spec ⟨kz,kss,kf⟩) ?_;rintro v I' M' - ⟨rfl,rfl,rfl⟩;rw[List.append_nil])
 all_goals refine ArithOb.mk _ (next_wr (i:=i) (by omega)) ?_
 all_goals refine⟨(i+1,_),⟨⟨by simp only;omega,hst _ rfl⟩,by simp only;omega⟩,.refl,.cons .refl (.cons .refl (.cons ?_ (.cons .refl (.cons .refl (.cons .refl .nil))))),.cons rfl (.cons ?_ .nil)⟩
 all_goals clear hst hf hrd
 all_goals first
  |(refine congrArg some (fl_cells ?_ ?_ ?_)<;>simp_all[seqStep])
  |(refine sv_bool ?_;simp_all[seqStep])
  |(refine sv_lit ?_;simp_all[seqStep])
end
end Go.V
namespace Go.V
open Go Go.Proofs
def worV (x y:Int):Int:=IntKind.u64.wrap ((BitVec.ofInt 64 x ||| BitVec.ofInt 64 y).toNat:Int)
theorem worV_bv (x y:BitVec 64):worV x.toNat y.toNat=((x ||| y).toNat:Int):=by
 unfold worV
 rw[bv_ofInt,bv_ofInt,wrap_bv]
def worC (x y:Ws):Nat→List Value
 | 0=>[.int .u64 x.a.toNat,.int .u64 x.b.toNat,.int .u64 x.c.toNat,.int .u64 x.d.toNat]
 | 1=>[.int .u64 (worV x.a.toNat y.a.toNat),.int .u64 x.b.toNat,.int .u64 x.c.toNat,.int .u64 x.d.toNat]
 | 2=>[.int .u64 (worV x.a.toNat y.a.toNat),.int .u64 (worV x.b.toNat y.b.toNat),.int .u64 x.c.toNat,.int .u64 x.d.toNat]
 | 3=>[.int .u64 (worV x.a.toNat y.a.toNat),.int .u64 (worV x.b.toNat y.b.toNat),.int .u64 (worV x.c.toNat y.c.toNat),.int .u64 x.d.toNat]
 | _=>[.int .u64 (worV x.a.toNat y.a.toNat),.int .u64 (worV x.b.toNat y.b.toNat),.int .u64 (worV x.c.toNat y.c.toNat),.int .u64 (worV x.d.toNat y.d.toNat)]
theorem Or_spec {I:GH} {M:List Blk} (x y:Ws):Spec Tryz.prog 88 [x.val,y.val] I M fun r I' M'=>r=(x.or y).val∧I'=I∧M'=M:=by
 refine spec_of_V [] TryzEOK Tryz.func88 rfl rfl rfl ?_
 intro B h0
 refine LoopOb.inv (ι:=Nat) (fun i=>{ fl:=[(2,.ref 2 0),(4,.ref 4 0),(7,.val y.val),(8,.val (.int .i64 i))],cl:=[(2,worC x y i),(4,Ws.zero.cells)],gi:=I,mi:=M }) (fun i=>i≤4) (fun i=>4 - i) ?_ ?_
 ·exact⟨0,by simp,.refl,.cons .refl (.cons .refl (.cons .refl (.cons .refl .nil))),.cons rfl (.cons rfl .nil)⟩
 ·intro i hi
  match i,hi with
  | 0,_=>
   refine CondOb.mk (fun _=>?_) (fun h=>by simp at h)
   refine ArrOb.mk 0 rfl (by decide) ?_
   refine ArrOb.mk 0 rfl (by decide) ?_
   refine ArrOb.mk 0 rfl (by decide) ?_
   refine ArithOb.mk 1 (by decide) ?_
   exact⟨1,⟨by simp,by simp⟩,.refl,.cons .refl (.cons .refl (.cons .refl (.cons .refl .nil))),.cons rfl (.cons rfl .nil)⟩
  | 1,_=>
   refine CondOb.mk (fun _=>?_) (fun h=>by simp at h)
   refine ArrOb.mk 1 rfl (by decide) ?_
   refine ArrOb.mk 1 rfl (by decide) ?_
   refine ArrOb.mk 1 rfl (by decide) ?_
   refine ArithOb.mk 2 (by decide) ?_
   exact⟨2,⟨by simp,by simp⟩,.refl,.cons .refl (.cons .refl (.cons .refl (.cons .refl .nil))),.cons rfl (.cons rfl .nil)⟩
  | 2,_=>
   refine CondOb.mk (fun _=>?_) (fun h=>by simp at h)
   refine ArrOb.mk 2 rfl (by decide) ?_
   refine ArrOb.mk 2 rfl (by decide) ?_
   refine ArrOb.mk 2 rfl (by decide) ?_
   refine ArithOb.mk 3 (by decide) ?_
   exact⟨3,⟨by simp,by simp⟩,.refl,.cons .refl (.cons .refl (.cons .refl (.cons .refl .nil))),.cons rfl (.cons rfl .nil)⟩
  | 3,_=>
   refine CondOb.mk (fun _=>?_) (fun h=>by simp at h)
   refine ArrOb.mk 3 rfl (by decide) ?_
   refine ArrOb.mk 3 rfl (by decide) ?_
   refine ArrOb.mk 3 rfl (by decide) ?_
   refine ArithOb.mk 4 (by decide) ?_
   exact⟨4,⟨by simp,by simp⟩,.refl,.cons .refl (.cons .refl (.cons .refl (.cons .refl .nil))),.cons rfl (.cons rfl .nil)⟩
  | 4,_=>
   refine CondOb.mk (fun h=>by simp at h) (fun _=>?_)
   refine⟨_,_,.refl,?_,rfl,rfl⟩
   show Value.agg #[.int .u64 (worV x.a.toNat y.a.toNat),.int .u64 (worV x.b.toNat y.b.toNat),.int .u64 (worV x.c.toNat y.c.toNat),.int .u64 (worV x.d.toNat y.d.toNat)]=_
   rw[worV_bv,worV_bv,worV_bv,worV_bv]
   rfl
theorem eqI_bv (x y:BitVec 64):eqI (x.toNat:Int) (y.toNat:Int)=decide (x=y):=by
 rw[eqI_eq,←bv_nat_inj,Bool.eq_iff_iff]
 simp
theorem opn_s {α R:Type} (v:α) (x:R) (f:α→R):opn (some v) x f=f v:=rfl
theorem eqE_first (a0 a1 a2 a3 b0 b1 b2 b3:Int) (f g:Bool):eqT Tryz.prog TryzE 8 67 (.a [.i .u64 a0,.i .u64 a1,.i .u64 a2,.i .u64 a3,.b f]) (.a [.i .u64 b0,.i .u64 b1,.i .u64 b2,.i .u64 b3,.b g])=some (eqI a0 b0 && (eqI a1 b1 && (eqI a2 b2 && (eqI a3 b3 && (f == g))))):=by
 obtain⟨i67,h67,hs67⟩:∃ i,TryzE 67=some i∧i.sh=.struct [(65,0),(4,4)]:=⟨_,rfl,rfl⟩
 obtain⟨i65,h65,hs65,hz65⟩:∃ i,TryzE 65=some i∧i.sh=.array 4 63∧i.size=4:=⟨_,rfl,rfl,rfl⟩
 obtain⟨i63,h63,hs63,hz63⟩:∃ i,TryzE 63=some i∧i.sh=.int .u64∧i.size=1:=⟨_,rfl,rfl,rfl⟩
 obtain⟨i4,h4,hs4,hz4⟩:∃ i,TryzE 4=some i∧i.sh=.bool∧i.size=1:=⟨_,rfl,rfl,rfl⟩
 have hp:plainT Tryz.prog 67=true:=by kernel_rfl
 have hr:List.range 4=[0,1,2,3]:=rfl
 have hq:∀ k a b,eqT Tryz.prog TryzE (k+1) 63 (.i .u64 a) (.i .u64 b)=some (eqI a b):=fun k a b=>by
  simp only[eqT,h63,opn_s,hs63]
  rfl
 have hb:∀ k a b,eqT Tryz.prog TryzE (k+1) 4 (.b a) (.b b)=some (a == b):=fun k a b=>by
  simp only[eqT,h4,opn_s,hs4]
 have hset:∀ k,eqT Tryz.prog TryzE (k+2) 65 (.a [.i .u64 a0,.i .u64 a1,.i .u64 a2,.i .u64 a3]) (.a [.i .u64 b0,.i .u64 b1,.i .u64 b2,.i .u64 b3])=some (eqI a0 b0 && (eqI a1 b1 && (eqI a2 b2 && eqI a3 b3))):=fun k=>by
  rw[eqT]
  simp only[h65,opn_s,hs65,h63,hz63,hr,List.map_cons,List.map_nil]
  have p0:∀ c0 c1 c2 c3,partE TryzE 63 (0 * 1) [.i .u64 c0,.i .u64 c1,.i .u64 c2,.i .u64 c3]=some (.i .u64 c0):=fun _ _ _ _=>rfl
  have p1:∀ c0 c1 c2 c3,partE TryzE 63 (1 * 1) [.i .u64 c0,.i .u64 c1,.i .u64 c2,.i .u64 c3]=some (.i .u64 c1):=fun _ _ _ _=>rfl
  have p2:∀ c0 c1 c2 c3,partE TryzE 63 (2 * 1) [.i .u64 c0,.i .u64 c1,.i .u64 c2,.i .u64 c3]=some (.i .u64 c2):=fun _ _ _ _=>rfl
  have p3:∀ c0 c1 c2 c3,partE TryzE 63 (3 * 1) [.i .u64 c0,.i .u64 c1,.i .u64 c2,.i .u64 c3]=some (.i .u64 c3):=fun _ _ _ _=>rfl
  simp only[eqPl,p0,p1,p2,p3,opn_s,hq,cnd_eq]
  cases eqI a0 b0<;>cases eqI a1 b1<;>cases eqI a2 b2<;>cases eqI a3 b3<;>rfl
 rw[eqT]
 simp only[h67,opn_s,hs67,hp]
 have p0:∀ c0 c1 c2 c3 c4,partE TryzE 65 0 [.i .u64 c0,.i .u64 c1,.i .u64 c2,.i .u64 c3,c4]=some (.a [.i .u64 c0,.i .u64 c1,.i .u64 c2,.i .u64 c3]):=fun _ _ _ _ _=>rfl
 have p1:∀ c0 c1 c2 c3 c4,partE TryzE 4 4 [.i .u64 c0,.i .u64 c1,.i .u64 c2,.i .u64 c3,c4]=some c4:=fun _ _ _ _ _=>rfl
 simp only[eqPl,p0,p1,opn_s,hset,hb,cnd_eq]
 cases eqI a0 b0<;>cases eqI a1 b1<;>cases eqI a2 b2<;>cases eqI a3 b3<;>cases f<;>cases g<;>rfl
theorem Fi.eqb (x y:Fi):(eqI x.w.a.toNat y.w.a.toNat && (eqI x.w.b.toNat y.w.b.toNat && (eqI x.w.c.toNat y.w.c.toNat && (eqI x.w.d.toNat y.w.d.toNat && (x.f == y.f)))))=decide (x=y):=by
 obtain⟨⟨a,b,c,d⟩,f⟩:=x
 obtain⟨⟨a',b',c',d'⟩,f'⟩:=y
 simp only[eqI_bv]
 rw[Bool.eq_iff_iff]
 simp[and_assoc]
theorem Fi.vrs (D:Nm) (x:Fi):VRs D [.i .u64 x.w.a.toNat,.i .u64 x.w.b.toNat,.i .u64 x.w.c.toNat,.i .u64 x.w.d.toNat,.b x.f] x.cells:=by
 simp[VRs,VR,Fi.cells]
theorem BinOb.neI {x y:Operand} {p q:Fi} {V:Value→Prop} {other:Prop} (h:V (.bool (!decide (p=q)))) :
  BinOb Tryz.prog .neq 67 x y (.val (.agg #[.int .u64 p.w.a.toNat,.int .u64 p.w.b.toNat,.int .u64 p.w.c.toNat,.int .u64 p.w.d.toNat,.bool p.f])) (.val (.agg #[.int .u64 q.w.a.toNat,.int .u64 q.w.b.toNat,.int .u64 q.w.c.toNat,.int .u64 q.w.d.toNat,.bool q.f])) V other:=by
 refine b_agg_ok (X:=⟨Tryz.prog,TryzE,[],0,0,default,fun _=>none,[],none⟩) (D:=fun _=>none) (v:=.b (!decide (p=q))) TryzEOK ?_ (Fi.vrs _ p) (Fi.vrs _ q) (fun u hu=>by simp only[VR] at hu;rw[hu];exact h)
 show b_agg Tryz.prog TryzE .neq 67 _ _=_
 unfold b_agg
 rw[eqE_first,Fi.eqb,show Tryz.prog.eqGuardType Tryz.prog.depth 67=false by kernel_rfl]
 rfl
theorem ISeq_spec {I:GH} {M:List Blk} (x y:Fi):Spec Tryz.prog 51 [x.val,y.val] I M fun r I' M'=>r=(x.seq y).val∧I'=I∧M'=M:=by
 obtain⟨xw,xf⟩:=x
 refine spec_of_V [] TryzEOK Tryz.func51 rfl rfl rfl ?_
 intro B h0
 refine CondOb.mk (fun h=>?_) (fun h=>?_)
 ·have hf:xf=false:=by simpa using h
  subst hf
  exact⟨_,_,.refl,rfl,rfl,rfl⟩
 have hf:xf=true:=by simpa using h
 subst hf
 refine CodeOb.draw TryzEOK rfl rfl rfl ?_
 refine PCallOb.mkR M [] _ perm_nil (Or_spec xw y.w) (fun v I' M' h x hx=>by rw[h.2.2];exact hx) ?_
 rintro v I' M' - ⟨rfl,rfl,rfl⟩
 rw[List.append_nil]
 exact⟨_,_,.refl,rfl,rfl,rfl⟩
theorem IChoice_spec {I:GH} {M:List Blk} (x y:Fi):Spec Tryz.prog 53 [x.val,y.val] I M fun r I' M'=>r=(x.choice y).val∧I'=I∧M'=M:=by
 obtain⟨xw,xf⟩:=x
 refine spec_of_V [] TryzEOK Tryz.func53 rfl rfl rfl ?_
 intro B h0
 refine CodeOb.draw TryzEOK rfl rfl rfl ?_
 refine PCallOb.mkR M [] _ perm_nil (Or_spec xw y.w) (fun v I' M' h x hx=>by rw[h.2.2];exact hx) ?_
 rintro v I' M' - ⟨rfl,rfl,rfl⟩
 rw[List.append_nil]
 refine GuardOb.mk (fun h=>?_) (fun h=>?_)
 all_goals
  have hf:xf=_:=h
  subst hf
  exact⟨_,_,.refl,rfl,rfl,rfl⟩
end Go.V
namespace Go.V
open Go Go.Proofs
theorem RLetter_spec (I:GH) (c:UInt8):Spec Tryz.prog 186 [.int .u8 c.toNat] I [] (fun v I' M'=>v=.bool (letter c)∧I'=I∧M'=[]):=by
 refine spec_of_V [] TryzEOK Tryz.func186 rfl rfl rfl ?_
 intro B h0
 repeat' (refine GuardOb.mk (fun h=>?_) (fun h=>?_))
 all_goals
  refine⟨_,_,.refl,?_⟩
  refine⟨?_,rfl,rfl⟩
  simp_all[letter]
  all_goals first
   | omega
   |(rw[Bool.eq_iff_iff];simp;omega)
theorem Rdigit_spec (I:GH) (c:UInt8):Spec Tryz.prog 187 [.int .u8 c.toNat] I [] (fun v I' M'=>v=.bool (digit c)∧I'=I∧M'=[]):=by
 refine spec_of_V [] TryzEOK Tryz.func187 rfl rfl rfl ?_
 intro B h0
 repeat' (refine GuardOb.mk (fun h=>?_) (fun h=>?_))
 all_goals
  refine⟨_,_,.refl,?_⟩
  refine⟨?_,rfl,rfl⟩
  simp_all[digit]
  all_goals first
   | omega
   |(rw[Bool.eq_iff_iff];simp;omega)
theorem RTake_spec (I:GH) (s:ByteArray) (hs:s.size≤140737488355328):Spec Tryz.prog 142 [.string s] I [] (fun v I' M'=>v=.string (s.extract 0 (nameLen s))∧I'=I∧M'=[]):=by
 refine spec_of_V [] TryzEOK Tryz.func142 rfl rfl rfl ?_
 intro B h0
 have e0:∀ {s:ByteArray},nameLen s=0→s.extract 0 (nameLen s)=⟨#[]⟩:=fun h=>by rw[h];apply ByteArray.ext;simp[ByteArray.data_extract]
 refine GuardOb.mk (fun h=>?_) (fun h=>?_)
 ·have h1:s≠⟨#[]⟩:=by simpa using h
  have hpos:0 < s.size:=by
   refine Nat.pos_of_ne_zero fun e=>h1 ?_
   apply ByteArray.ext
   exact Array.eq_empty_of_size_eq_zero e
  refine StrOb.mk 0 rfl hpos ?_
  refine CallOb.mk [] [] _ (.refl _) (RLetter_spec I s[0]) ?_
  rintro v I' M' - ⟨rfl,rfl,rfl⟩
  refine CondOb.mk (fun h=>?_) (fun h=>?_)
  ·have hl:letter s[0]=false:=by simpa using h
   refine⟨_,_,.refl,?_,rfl,rfl⟩
   rw[e0]
   ·unfold nameLen
    cases hd:s.data.toList with
    | nil=>rfl
    | cons c r=>
     have:s[0]=c:=by
      show s.data.toList[0]=c
      simp only[hd]
      rfl
     rw[this] at hl
     simp[hl]
  ·have hl:letter s[0]=true:=by simpa using h
   refine LoopOb.inv (ι:=Nat) (fun i=>{ fl:=[(0,.val (.string s)),(3,.val (.int .i64 i))],gi:=I' }) (fun i=>i≤s.size∧∀ j (h:j < s.size),1≤j→j < i→nameCh s[j]=true) (fun i=>s.size - i) ?_ ?_
   ·exact⟨0,⟨by omega,fun j _ h1 h2=>by omega⟩,.refl,.cons .refl (.cons .refl .nil),.nil⟩
   ·rintro i ⟨hi2,hi3⟩
    have hch0:nameCh s[0]=true:=by simp[nameCh,hl]
    have next:∀ (hlt:i < s.size),nameCh s[i]=true→(i+1≤s.size∧∀ k (h:k < s.size),1≤k→k < i+1→nameCh s[k]=true)∧s.size - (i+1) < s.size - i:=fun hlt hc=>
     ⟨⟨by omega,fun j hj h1 h2=>by
      by_cases e:j=i
      ·subst e;exact hc
      ·exact hi3 j hj h1 (by omega)⟩,by omega⟩
    have out:(∀ (h:i < s.size),nameCh s[i]=false)→s.extract 0 i=s.extract 0 (nameLen s):=fun hn=>by
     have hi1:1≤i:=by
      apply Nat.one_le_iff_ne_zero.2
      intro e
      subst e
      rw[hn hpos] at hch0
      cases hch0
     rw[nameLen_of hpos hl hi1 hi2 hi3 hn]
    have hsz:(s.extract 0 i).size≤140737488355328:=by
     rw[ByteArray.size_extract]
     omega
    have hwr:IntKind.i64.wrap ((i:Int)+1)=((i+1:Nat):Int):=by
     rw[wrap_i64 ⟨by omega,by omega⟩]
     omega
    refine GuardOb.mk (fun h=>?_) (fun h=>?_)
    ·have hlt:i < s.size:=by simpa using h
     refine StrOb.mk i rfl hlt ?_
     refine CallOb.mk [] [] _ (.refl _) (RLetter_spec I' s[i]) ?_
     rintro v I' M' - ⟨rfl,rfl,rfl⟩
     refine GuardOb.mk (fun h=>?_) (fun h=>?_)
     ·refine StrOb.mk i rfl hlt ?_
      refine CallOb.mk [] [] _ (.refl _) (Rdigit_spec _ s[i]) ?_
      rintro v I' M' - ⟨rfl,rfl,rfl⟩
      refine CondOb.mk (fun h2=>?_) (fun h2=>?_)
      ·refine ArithOb.mk _ hwr ?_
       exact⟨i+1,next hlt (by simp only[nameCh];rw[show digit s[i]=true from h2];simp),.refl,.cons .refl (.cons .refl .nil),.nil⟩
      ·refine SliceOb.mk 0 i rfl rfl (by omega) (by omega) ?_
       refine⟨_,_,.refl,?_,rfl,rfl⟩
       rw[←out fun _=>by simp only[nameCh];rw[show letter s[i]=false from h,show digit s[i]=false from h2];rfl]
     ·refine ArithOb.mk _ hwr ?_
      exact⟨i+1,next hlt (by simp only[nameCh];rw[show letter s[i]=true from h];simp),.refl,.cons .refl (.cons .refl .nil),.nil⟩
    ·have hge:¬ i < s.size:=by simpa using h
     refine SliceOb.mk 0 i rfl rfl (by omega) (by omega) ?_
     refine⟨_,_,.refl,?_,rfl,rfl⟩
     rw[←out fun h=>(hge h).elim]
 ·have h1:s=⟨#[]⟩:=by simpa using h
  subst h1
  refine⟨_,_,.refl,?_,rfl,rfl⟩
  rw[e0]
  rfl
theorem RMay_spec (I:GH) (s:ByteArray):Spec Tryz.prog 99 [.string s] I [] (fun v I' M'=>v=.bool (mayName s)∧I'=I∧M'=[]):=by
 refine spec_of_V [] TryzEOK Tryz.func99 rfl rfl rfl ?_
 intro B h0
 refine GuardOb.mk (fun h1=>?_) (fun h1=>?_)
 ·refine GuardOb.mk (fun h2=>?_) (fun h2=>?_)
  ·have h2':s.size≤32:=by simp at h2;omega
   refine CallOb.mk [] [] _ (.refl _) (RTake_spec I s (by omega)) ?_
   rintro v I' M' - ⟨rfl,rfl,rfl⟩
   refine⟨_,_,.refl,?_,rfl,rfl⟩
   have hle:=nameLen_le s
   have e1:(s.extract 0 (nameLen s)).size=nameLen s:=by rw[ByteArray.size_extract];omega
   have e2:decide (s.extract 0 (nameLen s)=s)=decide (nameLen s=s.size):=by
    rw[decide_eq_decide]
    constructor
    ·intro h
     rw[←e1,h]
    ·intro h
     rw[h]
     apply ByteArray.ext
     simp[ByteArray.data_extract]
   have h1':decide (s≠⟨#[]⟩)=true:=by simpa using h1
   simp only[mayName,h1',Bool.true_and,show decide (s.size≤32)=true from decide_eq_true h2',←e2]
  ·refine⟨_,_,.refl,?_,rfl,rfl⟩
   have h1':decide (s≠⟨#[]⟩)=true:=by simpa using h1
   have h2':decide (s.size≤32)=false:=by simp at h2;simp;omega
   simp only[mayName,h1',h2',Bool.true_and,Bool.false_and]
 ·refine⟨_,_,.refl,?_,rfl,rfl⟩
  have h1':decide (s≠⟨#[]⟩)=false:=by simpa using h1
  simp only[mayName,h1',Bool.false_and]
theorem i0:i64ok 0:=⟨by decide,by decide⟩
def leafNd (k:Int) (s:ByteArray):Nd:=⟨k,0,0,0,0,s,0,0,none,0,0,[]⟩
end Go.V
namespace Go.V
open Go Go.Proofs
def plainR (d:Nd):Bool:=decide (d.t=⟨#[]⟩) && (decide (d.lo=0) && decide (d.hi=0))
def fitsR (d:Nd) (n:Int):Bool:=
 bif decide (d.k=0) then plainR d && decide (n=0) else
 bif decide (d.k=1) then plainR d && decide (n=0) else
 bif decide (d.k=2) then decide (d.lo=0) && (decide (d.hi=0) && (decide (n=0) && (decide ((1:Int)≤d.t.size) && decide ((d.t.size:Int)≤255)))) else
 bif decide (d.k=3) then decide (d.lo=0) && (decide (d.hi=0) && (decide (n=0) && mayName d.t)) else
 bif decide (d.k=4) || decide (d.k=5) then plainR d && decide (2≤n) else
 bif decide (d.k=6) then decide (d.t=⟨#[]⟩) && (decide (n=1) && (decide (0≤d.lo) && (decide (d.lo≤99) && (decide (d.hi=-1) || (decide (d.lo≤d.hi) && decide (d.hi≤99)))))) else
 bif decide (d.k=7) || decide (d.k=8) then plainR d && decide (n=1) else
 bif decide (d.k=9) then decide (d.lo=0) && (decide (d.hi=0) && (decide (n=1) && mayName d.t)) else false
end Go.V
namespace Go.V
open Go Go.Proofs
def fitsK (z:Bool) (d:Nd) (n:Int):Bool:=
 bif decide (d.k=0) then z && (plainR d && decide (n=0)) else
 bif decide (d.k=1) then plainR d && decide (n=0) else
 bif decide (d.k=2) then z && (decide (d.lo=0) && (decide (d.hi=0) && (decide (n=0) && (decide ((1:Int)≤d.t.size) && decide ((d.t.size:Int)≤255))))) else
 bif decide (d.k=3) then z && (decide (d.lo=0) && (decide (d.hi=0) && (decide (n=0) && mayName d.t))) else
 bif decide (d.k=4) || decide (d.k=5) then z && (plainR d && decide (2≤n)) else
 bif decide (d.k=6) then z && (decide (d.t=⟨#[]⟩) && (decide (n=1) && (decide (0≤d.lo) && (decide (d.lo≤99) && (decide (d.hi=-1) || (decide (d.lo≤d.hi) && decide (d.hi≤99))))))) else
 bif decide (d.k=7) || decide (d.k=8) then z && (plainR d && decide (n=1)) else
 bif decide (d.k=9) then z && (decide (d.lo=0) && (decide (d.hi=0) && (decide (n=1) && mayName d.t))) else false
theorem empty_size (s:ByteArray):decide (s=⟨#[]⟩)=decide (s.size=0):=by
 rw[Bool.eq_iff_iff]
 simp only[decide_eq_true_eq]
 constructor
 ·rintro rfl
  rfl
 ·intro h
  cases s with
  | mk d=>
   have:d.size=0:=h
   simp[Array.eq_empty_of_size_eq_zero this]
theorem fitsK_eq {d:Nd} (hk:0≤d.k∧d.k < 256) (n:Int):fitsK d.setZ d n=fits d n:=by
 by_cases h10:10≤d.k
 ·have e:fits d n=false:=by simp[fits,h10]
  rw[e]
  unfold fitsK
  have h:∀ j:Int,j < 10→decide (d.k=j)=false:=fun j hj=>by simp;omega
  rw[h 0,h 1,h 2,h 3,h 4,h 5,h 6,h 7,h 8,h 9]<;>first | rfl | omega
 have hcases:d.k=0∨d.k=1∨d.k=2∨d.k=3∨d.k=4∨d.k=5∨d.k=6∨d.k=7∨d.k=8∨d.k=9:=by omega
 generalize hz:d.setZ=z
 have hsz:=empty_size d.t
 have hemp:(d.t=ByteArray.empty) ↔ d.t.size=0:=by
  rw[←decide_eq_decide]
  exact hsz
 rcases hcases with h | h | h | h | h | h | h | h | h | h<;>rw[Bool.eq_iff_iff]<;>simp[fitsK,fits,h,hz,plainR,cntLo,cntHi,countsL,hemp]<;>cases z<;>first | (simp;done) | grind
theorem BinOb.eq4z {P:Program} {E:Env} (hE:EOK P E) {t e:Nat} {ti ei:TI} {x y:Operand} (ht:E t=some ti) (hts:ti.sh=.array 4 e) (he:E e=some ei) {k:IntKind} (hes:ei.sh=.int k)
  (hg:P.eqGuardType P.depth t=false) {a0 a1 a2 a3 b0 b1 b2 b3:Int} {V:Value→Prop} {other:Prop} (z:Bool) (hz:(a0 == b0 && (a1 == b1 && (a2 == b2 && a3 == b3)))=z)
  (h:V (.bool z)):BinOb P .eql t x y (.val (.agg #[.int k a0,.int k a1,.int k a2,.int k a3])) (.val (.agg #[.int k b0,.int k b1,.int k b2,.int k b3])) V other:=
 .eq4 hE ht hts he hes hg (by rw[hz];exact h)
set_option maxHeartbeats 40000000 in
set_option maxRecDepth 20000 in
theorem RFits_gen {I:GH} {d:Nd} (hk:0≤d.k∧d.k < 256) (n:Int):Spec Tryz.prog 163 [d.val,.int .i64 n] I []
  (fun v I' M'=>v=.bool (fits d n)∧I'=I∧M'=[]):=by
 rw[←fitsK_eq hk]
 obtain⟨k,s0,s1,s2,s3,s,lo,hi,ka,kn,kc,kids⟩:=d
 clear hk
 refine spec_of_V [] TryzEOK Tryz.func163 rfl rfl rfl ?_
 intro B h0
 obtain⟨z,hz⟩:∃ z,Nd.setZ ⟨k,s0,s1,s2,s3,s,lo,hi,ka,kn,kc,kids⟩=z:=⟨_,rfl⟩
 rw[hz]
 refine BinOb.eq4z TryzEOK (e:=63) rfl rfl rfl rfl (by kernel_rfl) z hz ?_
 repeat' (first
  | refine GuardOb.mk (fun h=>?_) (fun h=>?_)
  | refine CondOb.mk (fun h=>?_) (fun h=>?_)
  | refine BinOb.eq4z TryzEOK (e:=63) rfl rfl rfl rfl (by kernel_rfl) z hz ?_
  |(refine CallOb.mk [] [] _ (.refl _) (RMay_spec _ s) ?_;rintro v I' M' - ⟨rfl,rfl,rfl⟩))
 all_goals clear hz
 all_goals first
  |(refine⟨_,_,.refl,?_,rfl,rfl⟩;simp_all[fitsK,plainR];done)
  |(refine⟨_,_,.refl,?_,rfl,rfl⟩;simp_all[fitsK,plainR];omega)
  |(exfalso;simp_all;done)
  |(exfalso;simp_all;omega)
  | skip
end Go.V
namespace Go.V
open Go Go.Proofs
def b2i (b:Bool):Int:=bif b then 1 else 0
theorem kidsOk_none_of {i:Nat}:∀ {ks:List Int} {s:List Bool} {k:Int},k∈ks→(k < 0∨(i:Int)≤k)→kidsOk i ks s=none
 | a::ks,s,k,hk,h=>by
  unfold kidsOk
  cases hb:decide (a < 0) || (decide ((i:Int)≤a) || s.getD a.toNat false) with
  | true=>rfl
  | false=>
   simp only[cond_false]
   simp only[Bool.or_eq_false_iff,decide_eq_false_iff_not] at hb
   rcases List.mem_cons.1 hk with rfl | hk
   ·rcases h with h | h
    ·exact(hb.1 h).elim
    ·exact(hb.2.1 h).elim
   ·exact kidsOk_none_of hk h
theorem rootOk_false {root:Int}:∀ {s:List Bool} {i j:Nat},j < s.length→(s.getD j false == decide (((i+j:Nat):Int)=root))=true→rootOk root i s=false
 | b::s,i,0,_,h=>by
  unfold rootOk
  rw[show (b == decide ((i:Int)=root))=true by simpa using h]
  rfl
 | b::s,i,j+1,hj,h=>by
  unfold rootOk
  cases b == decide ((i:Int)=root) with
  | true=>rfl
  | false=>
   simp only[cond_false]
   refine rootOk_false (j:=j) (by simpa using hj) ?_
   rw[show i+1+j=i+(j+1) by omega]
   simpa using h
theorem rootOk_true {root:Int}:∀ {s:List Bool} {i:Nat},(∀ j,j < s.length→(s.getD j false == decide (((i+j:Nat):Int)=root))=false)→rootOk root i s=true
 | [],i,h=>rfl
 | b::s,i,h=>by
  unfold rootOk
  have h0:=h 0 (by simp)
  rw[show (b == decide ((i:Int)=root))=false by simpa using h0]
  simp only[cond_false]
  refine rootOk_true fun j hj=>?_
  have:=h (j+1) (by simpa using hj)
  rw[show i+1+j=i+(j+1) by omega]
  simpa using this
structure ParInv (t:Tr) (P:List Int) (W:Int):Prop where
 len:P.length=t.ns.length
 bd:∀ c∈P,0≤c∧c≤W
def ParAt (t:Tr) (P:List Int) (rest:List Bool→Option (List Bool)):Prop:=
 (∃ s:List Bool,s.length=t.ns.length∧P=s.map b2i∧nodesOk 0 t.ns (List.replicate t.ns.length false)=rest s) ∨
 (nodesOk 0 t.ns (List.replicate t.ns.length false)=none∧∃ k,k < t.ns.length∧2≤P.getD k 0)
def restN (t:Tr) (i:Nat) (s:List Bool):Option (List Bool):=nodesOk i (t.ns.drop i) s
def restK (t:Tr) (i:Nat) (d:Nd) (k:Nat) (s:List Bool):Option (List Bool):=match kidsOk i (d.kids.drop k) s with
 | some s'=>nodesOk (i+1) (t.ns.drop (i+1)) s'
 | none=>none
theorem right_none {t:Tr} (h:nodesOk 0 t.ns (List.replicate t.ns.length false)=none):right t=false:=by
 simp[right,h]
theorem ParAt.start (t:Tr):ParAt t (List.replicate t.ns.length 0) (restN t 0):=
 .inl ⟨List.replicate t.ns.length false,by simp,by simp[b2i],rfl⟩
theorem ParAt.enter {t:Tr} {P:List Int} {i:Nat} (h:ParAt t P (restN t i)) (hi:i < t.ns.length) (hf:fits t.ns[i] t.ns[i].kids.length=true):ParAt t P (restK t i t.ns[i] 0):=by
 rcases h with ⟨s,h1,h2,h3⟩ | h
 ·refine .inl ⟨s,h1,h2,?_⟩
  rw[h3,restN,List.drop_eq_getElem_cons hi,nodesOk,hf]
  rfl
 ·exact .inr h
theorem ParAt.unfit {t:Tr} {P:List Int} {i:Nat} (h:ParAt t P (restN t i)) (hi:i < t.ns.length) (hf:fits t.ns[i] t.ns[i].kids.length=false):right t=false:=by
 refine right_none ?_
 rcases h with ⟨s,h1,h2,h3⟩ | h
 ·rw[h3,restN,List.drop_eq_getElem_cons hi,nodesOk,hf]
  rfl
 ·exact h.1
theorem ParAt.out {t:Tr} {P:List Int} {i k:Nat} {d:Nd} (h:ParAt t P (restK t i d k)) (hk:k < d.kids.length) (hf:d.kids[k] < 0∨(i:Int)≤d.kids[k]):right t=false:=by
 refine right_none ?_
 rcases h with ⟨s,h1,h2,h3⟩ | h
 ·rw[h3,restK,kidsOk_none_of (k:=d.kids[k]) (by rw[List.drop_eq_getElem_cons hk];exact .head _) hf]
 ·exact h.1
theorem ParAt.kid {t:Tr} {P:List Int} {i k:Nat} {d:Nd} (hl:P.length=t.ns.length) (hi:i≤t.ns.length) (h:ParAt t P (restK t i d k)) (hk:k < d.kids.length) (h0:0≤d.kids[k]) (h1:d.kids[k] < i) :
  ParAt t (P.set d.kids[k].toNat (P.getD d.kids[k].toNat 0+1)) (restK t i d (k+1)):=by
 have hkl:d.kids[k].toNat < P.length:=by omega
 rcases h with ⟨s,g1,g2,g3⟩ | ⟨g1,j,g2,g3⟩
 ·have hsl:d.kids[k].toNat < s.length:=by omega
  have hg:P.getD d.kids[k].toNat 0=b2i (s.getD d.kids[k].toNat false):=by
   rw[g2]
   simp[List.getD_eq_getElem?_getD,hsl]
  cases hb:s.getD d.kids[k].toNat false with
  | false=>
   refine .inl ⟨s.set d.kids[k].toNat true,by simpa using g1,?_,?_⟩
   ·rw[hg,hb,g2,List.map_set]
    rfl
   ·rw[g3,restK,List.drop_eq_getElem_cons hk,kidsOk,hb]
    simp only[Bool.or_false]
    rw[decide_eq_false (by omega),decide_eq_false (by omega)]
    rfl
  | true=>
   refine .inr ⟨?_,d.kids[k].toNat,by omega,?_⟩
   ·rw[g3,restK,List.drop_eq_getElem_cons hk,kidsOk,hb]
    simp
   ·rw[hg,hb]
    simp[List.getD_eq_getElem?_getD,List.getElem?_set,hkl,b2i]
 ·refine .inr ⟨g1,j,g2,?_⟩
  simp only[List.getD_eq_getElem?_getD,List.getElem?_set] at g3 ⊢
  by_cases e:d.kids[k].toNat=j
  ·subst e
   simp[hkl] at g3 ⊢
   omega
  ·rw[if_neg e]
   exact g3
theorem ParAt.leave {t:Tr} {P:List Int} {i k:Nat} {d:Nd} (h:ParAt t P (restK t i d k)) (hk:d.kids.length≤k):ParAt t P (restN t (i+1)):=by
 rcases h with ⟨s,h1,h2,h3⟩ | h
 ·refine .inl ⟨s,h1,h2,?_⟩
  rw[h3,restK,List.drop_eq_nil_of_le hk]
  rfl
 ·exact .inr h
theorem ParInv.kid {t:Tr} {P:List Int} {W:Int} (h:ParInv t P W) {k:Nat} (hk:k < P.length):ParInv t (P.set k (P.getD k 0+1)) (W+1):=by
 refine⟨by simpa using h.len,fun c hc=>?_⟩
 have hg:P.getD k 0∈P:=by
  simp only[List.getD_eq_getElem?_getD,List.getElem?_eq_getElem hk,Option.getD_some]
  exact List.getElem_mem hk
 have:=h.bd _ hg
 rcases List.mem_or_eq_of_mem_set hc with hc | rfl
 ·have:=h.bd c hc
  omega
 ·omega
def parBad (t:Tr) (P:List Int) (i:Nat):Bool:=(decide ((i:Int)=t.root) && !decide (P.getD i 0=0)) || (!decide ((i:Int)=t.root) && !decide (P.getD i 0=1))
theorem ParAt.bad {t:Tr} {P:List Int} (h:ParAt t P (restN t t.ns.length)) {i:Nat} (hi:i < t.ns.length) (hq:parBad t P i=true):right t=false:=by
 rcases h with ⟨s,h1,h2,h3⟩ | h
 ·rw[restN,List.drop_length,nodesOk] at h3
  have:rootOk t.root 0 s=false:=by
   refine rootOk_false (j:=i) (by omega) ?_
   have hg:P.getD i 0=b2i (s.getD i false):=by
    rw[h2]
    simp[List.getD_eq_getElem?_getD,h1,hi]
   rw[parBad,hg] at hq
   rw[Nat.zero_add]
   generalize s.getD i false=x at hq ⊢
   cases x<;>cases hd:decide ((i:Int)=t.root)<;>simp_all[b2i]
  simp[right,h3,this]
 ·exact right_none h.1
theorem ParAt.good {t:Tr} {P:List Int} (h:ParAt t P (restN t t.ns.length)) (h0:0≤t.root∧t.root < t.ns.length) (hq:∀ i,i < t.ns.length→parBad t P i=false):right t=true:=by
 rcases h with ⟨s,h1,h2,h3⟩ | ⟨h1,k,h2,h3⟩
 ·rw[restN,List.drop_length,nodesOk] at h3
  have:rootOk t.root 0 s=true:=by
   refine rootOk_true fun i hi=>?_
   have hg:P.getD i 0=b2i (s.getD i false):=by
    rw[h2]
    simp[List.getD_eq_getElem?_getD,hi]
   have hq':=hq i (by omega)
   rw[parBad,hg] at hq'
   rw[Nat.zero_add]
   generalize s.getD i false=x at hq' ⊢
   cases x<;>cases hd:decide ((i:Int)=t.root)<;>simp_all[b2i]
  simp[right,h3,this,h0.1,h0.2]
 ·have:=hq k h2
  simp only[parBad,Bool.or_eq_false_iff,Bool.and_eq_false_iff,decide_eq_false_iff_not,Bool.not_eq_false',decide_eq_true_eq] at this
  omega
set_option maxHeartbeats 4000000 in
theorem RRight_gen {I:GH} {t:Tr} (ht:t.ok I) (W:Nat) (hW:∀ d∈t.ns,d.kn≤W) (hb:t.n * W≤1152921504606846976):Spec Tryz.prog 121 [t.val] I [] fun v I' M'=>v=.bool (right t)∧I'=I∧M'=[]:=by
 refine spec_of_V [] TryzEOK Tryz.func121 rfl rfl rfl ?_
 intro B h0
 have htn:=ht.n
 have hcap:=ht.rs.cap
 refine GuardOb.mk (fun h=>?_) (fun h=>?_)
 rotate_left
 ·refine⟨_,_,.refl,?_,rfl,rfl⟩
  have:t.root < 0:=by simpa using h
  rw[show right t=false by simp[right];omega]
 have hr0:0≤t.root:=by have:=of_decide_eq_false h;omega
 refine CondOb.mk (fun h2=>?_) (fun h2=>?_)
 ·refine⟨_,_,.refl,?_,rfl,rfl⟩
  have:=of_decide_eq_true h2
  rw[show right t=false by simp[right];omega]
 have hr1:t.root < t.n:=by have:=of_decide_eq_false h2;omega
 refine MakeOb.mk t.n t.n rfl rfl (Nat.le_refl _) (by show 8 * t.n≤_;omega) (by omega) ?_
 refine AllocOb.mk fun b1 hb1 hbM1=>?_
 refine LoopOb.inv (ι:=Nat×List Int) (fun x=>{ fl:=[(1,.ref 1 0),(3,.val (.slice (some ⟨b1,0,none⟩) t.n t.n)),(4,.val (.int .i64 x.1))],cl:=[(1,t.cells)],gi:=I,mi:=[intRow b1 x.2] })
  (fun x=>x.1≤t.n∧ParInv t x.2 (x.1 * W:Nat)∧ParAt t x.2 (restN t x.1)) (fun x=>t.n - x.1) ?_ ?_
 ·refine⟨(0,List.replicate t.n 0),⟨Nat.zero_le _,⟨by simp[htn],fun c hc=>by have:=List.eq_of_mem_replicate hc;simp only;omega⟩,by rw[←htn];exact ParAt.start t⟩,?_,.cons .refl (.cons .refl (.cons .refl .nil)),.cons rfl .nil⟩
  simp only[rowOf_one,intRow,List.map_replicate,Nat.mul_one]
  exact .refl
 rintro⟨i,P⟩ ⟨hi,hP,hA⟩
 simp only at hi hP hA
 have hPl:=hP.len
 refine CondOb.mk (fun h=>?_) (fun h=>?_)
 ·have hlt:i < t.n:=by have:=of_decide_eq_true h;omega
  have hlt':i < t.ns.length:=by omega
  obtain⟨ad,had,hrd⟩:=ht.rs.row Nd.cells_len hlt hlt'
  have hdm:t.ns[i]∈t.ns:=List.getElem_mem hlt'
  have hd:=ht.ns _ hdm
  have hkn:=hd.kn
  have hkW:=hW _ hdm
  have hcap2:=hd.rs.cap
  have hiW:(i+1) * W≤1152921504606846976:=Nat.le_trans (Nat.mul_le_mul_right W hlt) hb
  rw[Nat.add_mul,Nat.one_mul] at hiW
  refine IdxOb.mk ad i had rfl hlt ?_
  refine LoadOb.mk _ (hrd _) ?_
  refine CallOb.mk [] _ _ (.refl _) (RFits_gen hd.k t.ns[i].kn) ?_
  rintro v I2 M2 - ⟨rfl,rfl,rfl⟩
  rw[←hkn]
  refine CondOb.mk (fun h3=>?_) (fun h3=>?_)
  ·refine⟨_,_,.sub (List.nil_sublist _) .refl,?_,rfl,rfl⟩
   rw[hA.unfit hlt' (by simpa using h3)]
  have hA:=hA.enter hlt' (by simpa using h3)
  generalize hdd:t.ns[i]=d at hd hkn hkW hcap2 hrd hA
  refine LoopOb.inv (ι:=Nat×List Int) (fun x=>{ fl:=[(1,.ref 1 0),(3,.val (.slice (some ⟨b1,0,none⟩) t.n t.n)),(4,.val (.int .i64 i)),(5,.ref 5 0),(6,.val (.int .i64 x.1))],cl:=[(1,t.cells),(5,d.cells)],gi:=I2,mi:=[intRow b1 x.2] })
   (fun x=>x.1≤d.kn∧ParInv t x.2 (i * W+x.1:Nat)∧ParAt t x.2 (restK t i d x.1)) (fun x=>d.kn - x.1) ?_ ?_
  ·exact⟨(0,P),⟨Nat.zero_le _,hP,hA⟩,.refl,.cons .refl (.cons .refl (.cons .refl (.cons .refl (.cons .refl .nil)))),.cons rfl (.cons rfl .nil)⟩
  rintro⟨k,Q⟩ ⟨hk,hQ,hB⟩
  simp only at hk hQ hB
  have hQl:=hQ.len
  refine CondOb.mk (fun h4=>?_) (fun h4=>?_)
  ·have hkl:k < d.kn:=by have:=of_decide_eq_true h4;omega
   have hkl':k < d.kids.length:=by omega
   obtain⟨ak,hak,hrk⟩:=hd.rs.one hkl hkl'
   refine IdxOb.mk ak k hak rfl hkl ?_
   refine LoadOb.mk _ (hrk _) ?_
   refine GuardOb.mk (fun h5=>?_) (fun h5=>?_)
   rotate_left
   ·refine⟨_,_,.sub (List.nil_sublist _) .refl,?_,rfl,rfl⟩
    rw[hB.out hkl' (.inl (by simpa using h5))]
   have hk0:0≤d.kids[k]:=by have:=of_decide_eq_false h5;omega
   refine IdxOb.mk ak k hak rfl hkl ?_
   refine LoadOb.mk _ (hrk _) ?_
   refine CondOb.mk (fun h6=>?_) (fun h6=>?_)
   ·refine⟨_,_,.sub (List.nil_sublist _) .refl,?_,rfl,rfl⟩
    rw[hB.out hkl' (.inr (of_decide_eq_true h6))]
   have hk1:d.kids[k] < i:=by have:=of_decide_eq_false h6;omega
   have hkQ:d.kids[k].toNat < Q.length:=by omega
   have hQb:0≤Q[d.kids[k].toNat]∧Q[d.kids[k].toNat]≤(i * W+k:Nat):=hQ.bd _ (List.getElem_mem hkQ)
   have hQg:Q.getD d.kids[k].toNat 0=Q[d.kids[k].toNat]:=by simp[List.getD_eq_getElem?_getD,hkQ]
   have hB':=hB.kid hQl (by omega) hkl' hk0 hk1
   have hQ':=hQ.kid hkQ
   rw[hQg] at hB' hQ'
   refine IdxOb.mk ak k hak rfl hkl ?_
   refine LoadOb.mk _ (hrk _) ?_
   refine IdxOb.mk ⟨b1,0,none⟩ d.kids[k].toNat rfl (by omega) (by omega) ?_
   refine LoadOb.mk _ (intRow_rd (s:=Q) (.head _) hkQ) ?_
   refine ArithOb.mk (Q[d.kids[k].toNat]+1) (wr_eq rfl (by omega)) ?_
   refine IdxOb.mk ⟨b1,0,none⟩ d.kids[k].toNat rfl (by omega) (by omega) ?_
   refine StoreOb.add [] [] _ _ rfl ?_ rfl ?_
   ·simp only[List.size_toArray,List.length_map]
    show 0+d.kids[k].toNat * 1+1≤_
    omega
   have e:=intRow_set Q d.kids[k].toNat hkQ (Q[d.kids[k].toNat]+1)
   refine ArithOb.mk _ (next_wr (i:=k) (by omega)) ?_
   refine⟨(k+1,Q.set d.kids[k].toNat (Q[d.kids[k].toNat]+1)),⟨⟨by simp only;omega,?_,hB'⟩,by simp only;omega⟩,?_,.cons .refl (.cons .refl (.cons .refl (.cons .refl (.cons .refl .nil)))),.cons rfl (.cons rfl .nil)⟩
   ·simp only
    rw[show ((i * W+(k+1):Nat):Int)=((i * W+k:Nat):Int)+1 by omega]
    exact hQ'
   ·simp only[intRow]
    rw[←e]
    simp only[Nat.zero_add,Nat.mul_one]
    exact .refl
  ·have hge:d.kn≤k:=by have:=of_decide_eq_false h4;omega
   refine ArithOb.mk _ (next_wr (i:=i) (by omega)) ?_
   refine⟨(i+1,Q),⟨⟨by simp only;omega,⟨hQl,fun c hc=>?_⟩,hB.leave (by omega)⟩,by simp only;omega⟩,.refl,.cons .refl (.cons .refl (.cons .refl .nil)),.cons rfl .nil⟩
   have:=hQ.bd c hc
   simp only[Nat.add_mul,Nat.one_mul]
   omega
 have hge:i=t.n:=by have:=of_decide_eq_false h;omega
 have hA2:ParAt t P (restN t t.ns.length):=by rw[htn,←hge];exact hA
 clear hP h hi hA
 subst hge
 refine LoopOb.inv (ι:=Nat) (fun x=>{ fl:=[(1,.ref 1 0),(3,.val (.slice (some ⟨b1,0,none⟩) t.n t.n)),(7,.val (.int .i64 x))],cl:=[(1,t.cells)],gi:=I,mi:=[intRow b1 P] })
  (fun x=>x≤t.n∧∀ j,j < x→parBad t P j=false) (fun x=>t.n - x) ?_ ?_
 ·exact⟨0,⟨Nat.zero_le _,fun j hj=>by omega⟩,.refl,.cons .refl (.cons .refl (.cons .refl .nil)),.cons rfl .nil⟩
 rintro i ⟨hi,hq⟩
 refine CondOb.mk (fun h=>?_) (fun h=>?_)
 rotate_left
 ·have hge:i=t.n:=by have:=of_decide_eq_false h;omega
  refine⟨_,_,.sub (List.nil_sublist _) .refl,?_,rfl,rfl⟩
  rw[hA2.good ⟨hr0,by omega⟩ fun j hj=>hq j (by omega)]
 have hlt:i < t.n:=by have:=of_decide_eq_true h;omega
 have hiP:i < P.length:=by omega
 have hrd:Rd I [intRow b1 P] ((⟨b1,0,none⟩:Addr).add (i * 1)) 1 [.int .i64 P[i]]:=intRow_rd (.head _) hiP
 have hg:P.getD i 0=P[i]:=by simp[List.getD_eq_getElem?_getD,hiP]
 have hbad:parBad t P i=true→right t=false:=hA2.bad (by omega)
 have hgo:parBad t P i=false→∀ j,j < i+1→parBad t P j=false:=fun h j hj=>by
  by_cases e:j=i
  ·rw[e];exact h
  ·exact hq j (by omega)
 rw[parBad,hg] at hbad hgo
 clear h hq hA2
 generalize P[i]=c at hbad hgo hrd
 refine GuardOb.mk (fun h=>?_) (fun h=>?_)
 ·rw[h] at hbad hgo
  refine IdxOb.mk ⟨b1,0,none⟩ i rfl rfl hlt ?_
  refine LoadOb.mk _ hrd ?_
  refine GuardOb.mk (fun h2=>?_) (fun h2=>?_)
  ·refine GuardOb.mk (fun h3=>?_) (fun _=>?_)
   ·exfalso
    rw[h] at h3
    cases h3
   ·refine ArithOb.mk _ (next_wr (i:=i) (by omega)) ?_
    exact⟨i+1,⟨⟨by omega,hgo (by simp[h2])⟩,by omega⟩,.refl,.cons .refl (.cons .refl (.cons .refl .nil)),.cons rfl .nil⟩
  ·refine⟨_,_,.sub (List.nil_sublist _) .refl,?_,rfl,rfl⟩
   rw[hbad (by simp[h2])]
 ·rw[show decide ((i:Int)=t.root)=false from h] at hbad hgo
  refine GuardOb.mk (fun h3=>?_) (fun h3=>?_)
  ·refine IdxOb.mk ⟨b1,0,none⟩ i rfl rfl hlt ?_
   refine LoadOb.mk _ hrd ?_
   refine CondOb.mk (fun h2=>?_) (fun h2=>?_)
   ·refine⟨_,_,.sub (List.nil_sublist _) .refl,?_,rfl,rfl⟩
    rw[hbad (by simp[h2])]
   ·refine ArithOb.mk _ (next_wr (i:=i) (by omega)) ?_
    exact⟨i+1,⟨⟨by omega,hgo (by simp[h2])⟩,by omega⟩,.refl,.cons .refl (.cons .refl (.cons .refl .nil)),.cons rfl .nil⟩
  ·exfalso
   rw[show decide ((i:Int)=t.root)=false from h] at h3
   cases h3
end Go.V
namespace Go.V
open Go Go.Proofs
end Go.V
namespace Go.V
open Go Go.Proofs
theorem OtherOb.nd {X:Ctx} {o:Oper} {F:Fr} {C:Bx} {I:GH} {M:List Blk} {K:KS} (h:OtherOb X o F C I M (fun F C I M=>(M.map (·.num)).Nodup→(∀ x∈M,I x.num=none)→K F C I M)):OtherOb X o F C I M K:=
 ⟨fun a w Q hR=>Oper.wpIn_mono (fun a' w'=>fun ⟨F',C',I',M',⟨β,hr⟩,hk⟩=>⟨F',C',I',M',⟨β,hr⟩,hk hr.holds.nd hr.holds.d⟩) (h.1 a w Q hR)⟩
theorem appk_ok {os:OS} {xs ys:List Value} {size:Nat} (hos:os.ok size xs) {g c:Nat} {cur:List Value} (hy:ys.length=size) (h1:cur.length=c * size) (h2:os.n+1≤c) (h3:c≤maxLen) (h4:cur.take ((os.n+1) * size)=xs++ys) :
  OS.ok ⟨some g,os.n+1,c,cur⟩ size (xs++ys):=by
 have hl:=hos.len
 refine⟨?_,(fun h=>by cases h),fun g3 hg3=>⟨h1,h2,h3,h4⟩⟩
 rw[List.length_append,hl,hy]
 simp only
 rw[Nat.add_mul,Nat.one_mul]
abbrev Lf:=Tr×Int×ByteArray
def Lf.nd (x:Lf):Nd:=leafNd x.2.1 x.2.2
structure Lf.ok (I:GH) (x:Lf):Prop where
 t:x.1.ok I
 ns:x.1.ns=[x.nd]
 root:x.1.root=0
 fits:fitsR x.nd 0=true
end Go.V
namespace Go.V
open Go Go.Proofs
def szOf (ns:List Nd):Int→Nat:=tabOf 0 (fun d g=>1+sumOf g d.kids) ns
theorem szOf_eq {t:Tr} (hr:right t=true) {j:Nat} (hj:j < t.ns.length):szOf t.ns j=1+sumOf (szOf t.ns) t.ns[j].kids:=
 tabOf_eq (fun d g g' h=>by rw[sumOf_congr h]) hr hj
theorem sz_root {t:Tr} (hr:right t=true):szOf t.ns t.root≤t.ns.length:=by
 have:=right_sum hr (g:=szOf t.ns) (c:=fun _=>1) fun j hj=>by rw[szOf_eq hr hj];exact Nat.le_refl _
 rwa [sum_const,Nat.one_mul] at this
theorem kidsOk_mark {i:Nat}:∀ {ks:List Int} {s s':List Bool},kidsOk i ks s=some s'→∀ j,s'.getD j false=true→s.getD j false=true∨((j:Int)∈ks∧j < i)
 | [],s,s',h,j,hj=>by
  simp only[kidsOk,Option.some.injEq] at h
  subst h
  exact .inl hj
 | k::ks,s,s',h,j,hj=>by
  unfold kidsOk at h
  cases hb:decide (k < 0) || (decide ((i:Int)≤k) || s.getD k.toNat false) with
  | true=>rw[hb] at h;cases h
  | false=>
   rw[hb] at h
   simp only[cond_false] at h
   simp only[Bool.or_eq_false_iff,decide_eq_false_iff_not] at hb
   rcases kidsOk_mark h j hj with h1 | h1
   ·by_cases e:k.toNat=j
    ·right
     refine⟨?_,by omega⟩
     have:(j:Int)=k:=by omega
     rw[this]
     exact .head _
    ·left
     simp only[List.getD_eq_getElem?_getD,List.getElem?_set] at h1 ⊢
     rwa [if_neg e] at h1
   ·exact .inr ⟨.tail _ h1.1,h1.2⟩
theorem nodesOk_mark:∀ {ds:List Nd} {i:Nat} {s s':List Bool},nodesOk i ds s=some s'→∀ j,s'.getD j false=true→s.getD j false=true∨∃ q,∃ h:q < ds.length,(j:Int)∈ds[q].kids∧j < i+q
 | [],i,s,s',h,j,hj=>by
  simp only[nodesOk,Option.some.injEq] at h
  subst h
  exact .inl hj
 | d::ds,i,s,s',h,j,hj=>by
  unfold nodesOk at h
  cases hf:fits d d.kids.length with
  | false=>rw[hf] at h;cases h
  | true=>
   rw[hf] at h
   simp only[cond_true] at h
   split at h
   ·rename_i s1 hs1
    rcases nodesOk_mark h j hj with h1 | ⟨q,hq,h1,h2⟩
    ·rcases kidsOk_mark hs1 j h1 with h3 | ⟨h3,h4⟩
     ·exact .inl h3
     ·exact .inr ⟨0,by simp,h3,by omega⟩
    ·exact .inr ⟨q+1,by simpa using hq,by simpa using h1,by omega⟩
   ·cases h
theorem right_parent {t:Tr} (hr:right t=true) {j:Nat} (hj:j < t.ns.length) (hne:(j:Int)≠t.root):∃ p,∃ h:p < t.ns.length,(j:Int)∈t.ns[p].kids∧j < p:=by
 unfold right at hr
 simp only[Bool.and_eq_true] at hr
 obtain⟨_,_,hr⟩:=hr
 split at hr
 ·rename_i s hs
  have hsl:=(free_nodes (g:=fun _=>0) (c:=fun _=>0) hs (by simp) (fun j hj=>by simp)).1
  have hm:s.getD j false=true:=by
   cases hb:s.getD j false with
   | true=>rfl
   | false=>
    have:=rootOk_false (root:=t.root) (s:=s) (i:=0) (j:=j) (by rw[hsl];simpa using hj) (by rw[hb,Nat.zero_add];simp[hne])
    rw[this] at hr
    cases hr
  rcases nodesOk_mark hs j hm with h1 | ⟨q,hq,h1,h2⟩
  ·simp[List.getD_eq_getElem?_getD,hj] at h1
  ·exact⟨q,hq,h1,by omega⟩
 ·cases hr
theorem sumOf_mem {g:Int→Nat}:∀ {ks:List Int} {k:Int},k∈ks→g k≤sumOf g ks
 | a::ks,k,h=>by
  simp only[sumOf,List.map_cons,List.sum_cons]
  rcases List.mem_cons.1 h with rfl | h
  ·omega
  ·have:=sumOf_mem (g:=g) h
   simp only[sumOf] at this
   omega
theorem sz_le {t:Tr} (hr:right t=true):∀ (m j:Nat),j < t.ns.length→t.ns.length - j≤m→szOf t.ns j≤t.ns.length
 | 0,j,hj,hm=>by omega
 | m+1,j,hj,hm=>by
  by_cases e:(j:Int)=t.root
  ·rw[e]
   exact sz_root hr
  ·obtain⟨p,hp,hk,hlt⟩:=right_parent hr hj e
   have h1:=sz_le hr m p hp (by omega)
   rw[szOf_eq hr hp] at h1
   have:=sumOf_mem (g:=szOf t.ns) hk
   omega
theorem sumOf_append (g:Int→Nat) (a b:List Int):sumOf g (a++b)=sumOf g a+sumOf g b:=by
 simp[sumOf]
theorem len_le_sum {t:Tr} (hr:right t=true):∀ {l:List Int},valid t.ns.length l→l.length≤sumOf (szOf t.ns) l
 | [],_=>by simp
 | a::l,hv=>by
  have h1:=len_le_sum hr (l:=l) fun k hk=>hv k (.tail _ hk)
  have h2:=hv a (.head _)
  obtain⟨a,rfl⟩:=Int.eq_ofNat_of_zero_le h2.1
  have h3:=szOf_eq hr (j:=a) (by omega)
  simp only[sumOf,List.map_cons,List.sum_cons,List.length_cons] at h1 ⊢
  have h4:szOf t.ns (Int.ofNat a)=szOf t.ns a:=rfl
  omega
def backGo (ns:List Nd):Nat→List Int→List Int→List Int
 | 0,_,b=>b
 | f+1,todo,b=>match todo.getLast? with
  | none=>b
  | some n=>backGo ns f (todo.dropLast++(nodeAt ns n.toNat).kids) (b++[n])
def backOf (ns:List Nd) (node:Int):List Int:=backGo ns (ns.length+1) [node] []
theorem backGo_nil (ns:List Nd) (f:Nat) (b:List Int):backGo ns f [] b=b:=by cases f<;>rfl
theorem backGo_snoc (ns:List Nd) (f:Nat) (todo:List Int) (n:Int) (b:List Int):backGo ns (f+1) (todo++[n]) b=backGo ns f (todo++(nodeAt ns n.toNat).kids) (b++[n]):=by
 rw[backGo]
 simp only[List.getLast?_concat,List.dropLast_concat]
def Nd.ct (d:Nd):Nd:=⟨d.k,d.s0,d.s1,d.s2,d.s3,d.t,d.lo,d.hi,none,0,0,d.kids⟩
def Nd.withKids (d:Nd) (l:List Int):Nd:=⟨d.k,d.s0,d.s1,d.s2,d.s3,d.t,d.lo,d.hi,none,0,0,l⟩
def subStep (ns:List Nd) (st:List Int×List Nd) (b:Int):List Int×List Nd:=
 (st.1.set b.toNat st.2.length,st.2++[(nodeAt ns b.toNat).withKids ((nodeAt ns b.toNat).kids.map fun k=>(st.1.set b.toNat st.2.length).getD k.toNat 0)])
def subC (ns:List Nd) (node:Int):List Nd:=((backOf ns node).reverse.foldl (subStep ns) (List.replicate ns.length 0,[])).2
theorem OS.pop {os:OS} {xs:List Value} {x:Value} (h:os.ok 1 (xs++[x])):OS.ok ⟨os.a,os.n - 1,os.c,os.cur⟩ 1 xs:=by
 have hl:=h.len
 simp only[List.length_append,List.length_cons,List.length_nil,Nat.mul_one] at hl
 refine⟨by simp only;omega,fun ha=>?_,fun g hg=>?_⟩
 ·have:=h.nil ha
  simp only
  omega
 ·obtain⟨h1,h2,h3,h4⟩:=h.cap g hg
  refine⟨h1,by simp only;omega,h3,?_⟩
  simp only
  have e:os.n * 1=xs.length+1:=by omega
  rw[e] at h4
  have:os.cur.take xs.length=(os.cur.take (xs.length+1)).take xs.length:=by rw[List.take_take];congr 1;omega
  rw[show (os.n - 1) * 1=xs.length by omega,this,h4,List.take_left]
theorem appm_ok {os:OS} {xs ys:List Value} {size m:Nat} (hos:os.ok size xs) {g c:Nat} {cur:List Value} (hy:ys.length=m * size) (h1:cur.length=c * size) (h2:os.n+m≤c) (h3:c≤maxLen) (h4:cur.take ((os.n+m) * size)=xs++ys) :
  OS.ok ⟨some g,os.n+m,c,cur⟩ size (xs++ys):=by
 have hl:=hos.len
 refine⟨?_,(fun h=>by cases h),fun g3 hg3=>⟨h1,h2,h3,h4⟩⟩
 rw[List.length_append,hl,hy]
 simp only
 rw[Nat.add_mul]
structure BackInv (t:Tr) (node:Int) (x:OS×List Int×OS×List Int×Nat):Prop where
 todo:x.1.ok 1 (x.2.1.map (.int .i64 ·))
 back:x.2.2.1.ok 1 (x.2.2.2.1.map (.int .i64 ·))
 vt:valid t.ns.length x.2.1
 vb:valid t.ns.length x.2.2.2.1
 sum:sumOf (szOf t.ns) x.2.1+x.2.2.2.1.length=szOf t.ns node
 fuel:sumOf (szOf t.ns) x.2.1+1≤x.2.2.2.2
 eq:backOf t.ns node=backGo t.ns x.2.2.2.2 x.2.1 x.2.2.2.1
structure SubInv (I:GH) (t:Tr) (rb:List Int) (x:Nat×List Int×OS×List Nd×GH):Prop where
 j:x.1≤rb.length
 len:x.2.1.length=t.ns.length
 out:x.2.2.1.ok 9 (x.2.2.2.1.flatMap Nd.cells)
 on:x.2.2.2.1.length=x.1
 eq:(rb.take x.1).foldl (subStep t.ns) (List.replicate t.ns.length 0,[])=(x.2.1,x.2.2.2.1.map Nd.ct)
 ok:∀ d∈x.2.2.2.1,d.ok x.2.2.2.2
 le:∀ b o,I b=some o→x.2.2.2.2 b=some o
 bd:∀ c∈x.2.1,0≤c∧c≤rb.length
 kb:∀ d∈x.2.2.2.1,∀ k∈d.kids,0≤k∧k≤rb.length
set_option maxRecDepth 100000 in
set_option maxHeartbeats 8000000 in
theorem RSub_gen {I:GH} {t:Tr} (ht:t.ok I) (hr:right t=true) (W:Nat) (hW:∀ d∈t.ns,d.kn≤W) (hb:t.n * W≤1152921504606846976) (hn:t.n≤1099511627776) {node:Nat} (hnode:node < t.n) :
  Spec Tryz.prog 80 [t.val,.int .i64 node] I [] fun v I' M'=>(∀ b o,I b=some o→I' b=some o)∧M'=[]∧∃ t':Tr,v=.tuple #[t'.val,.bool true]∧t'.ok I'∧t'.ns.map Nd.ct=subC t.ns node∧t'.root=(t'.ns.length:Int) - 1∧t'.ns.length≤t.n∧∀ d∈t'.ns,∀ k∈d.kids,0≤k∧k≤t.n:=by
 refine spec_of_VF [] TryzEOK Tryz.func80 rfl rfl rfl ?_
 intro B h0
 have htn:=ht.n
 have hcap:=ht.rs.cap
 have hszn:szOf t.ns node≤t.ns.length:=sz_le hr t.ns.length node (by omega) (by omega)
 refine CallOb.mk [] [] _ (.refl _) (RRight_gen ht W hW hb) ?_
 rintro v I' M' - ⟨rfl,rfl,rfl⟩
 rw[hr]
 refine GuardOb.mk (fun _=>?_) (fun h=>by simp at h)
 refine GuardOb.mk (fun _=>?_) (fun h=>?_)
 rotate_left
 ·have:((node:Nat):Int) < 0:=of_decide_eq_true h
  omega
 refine CondOb.mk (fun h=>?_) (fun _=>?_)
 ·have:((t.n:Nat):Int)≤((node:Nat):Int):=of_decide_eq_true h
  omega
 refine AllocOb.mk fun b1 hb1 hbM1=>?_
 refine LoopOb.inv (ι:=OS×List Int×OS×List Int×Nat) (fun x=>{ fl:=[(2,.ref 2 0),(4,.ref 4 0),(6,.val x.2.2.1.val),(7,.val x.1.val)],cl:=[(2,t.cells),(4,[.slice none 0 0,.int .i64 0])],gi:=I',mi:=x.2.2.1.blk 3++x.1.blk 3 })
  (BackInv t node) (fun x=>sumOf (szOf t.ns) x.2.1) ?_ ?_
 ·refine⟨(⟨some b1,1,1,[.int .i64 node]⟩,[(node:Int)],OS0,[],t.ns.length+1),⟨⟨rfl,(fun h=>by cases h),fun g' hg'=>⟨rfl,Nat.le_refl _,by simp[maxLen],rfl⟩⟩,OS0_ok 1,fun k hk=>?_,(fun k hk=>by cases hk),?_,?_,rfl⟩,.refl,.cons .refl (.cons .refl (.cons .refl (.cons .refl .nil))),.cons rfl (.cons rfl .nil)⟩
  ·simp only[List.mem_singleton] at hk
   omega
  ·simp[sumOf]
  ·simp only[sumOf,List.map_cons,List.map_nil,List.sum_cons,List.sum_nil]
   omega
 rintro⟨todo,tl,back,bl,f⟩ ⟨htodo,hback,hvt,hvb,hsum,hfuel,heq⟩
 simp only at htodo hback hvt hvb hsum hfuel heq
 have hbl:=hback.len1
 have htl:=htodo.len1
 refine CondOb.mk (fun h=>?_) (fun h=>?_)
 ·have h0t:0 < todo.n:=by
   have:(0:Int) < (todo.n:Int):=of_decide_eq_true h
   omega
  obtain⟨tl',m,rfl⟩:∃ tl' m,tl=tl'++[m]:=by
   rcases List.eq_nil_or_concat tl with h1 | ⟨r,p,h1⟩
   ·subst h1
    simp at htl
    omega
   ·exact⟨r,p,by simpa using h1⟩
  have hm:=hvt m (by simp)
  obtain⟨m,rfl⟩:=Int.eq_ofNat_of_zero_le hm.1
  have hml:m < t.n:=by omega
  have hml':m < t.ns.length:=by omega
  have htl':todo.n=tl'.length+1:=by simpa using htl
  have hszm:=szOf_eq hr hml'
  rw[sumOf_append] at hsum hfuel
  have hs1:sumOf (szOf t.ns) [(m:Int)]=szOf t.ns m:=by simp[sumOf]
  rw[hs1,hszm] at hsum hfuel
  have htlen:tl'.length≤sumOf (szOf t.ns) tl':=len_le_sum hr fun k hk=>hvt k (by simp[hk])
  have hklen:t.ns[m].kids.length≤sumOf (szOf t.ns) t.ns[m].kids:=len_le_sum hr fun k hk=>by
   have:=right_kids hr m hml' k hk
   omega
  have htot:tl'.length+t.ns[m].kids.length≤t.ns.length:=by omega
  obtain⟨ad,had,hrd⟩:=OS.rdI (I:=I') (e:=3) (M:=back.blk 3++todo.blk 3) htodo (fun x hx=>by simp[hx]) (j:=tl'.length) (by simp)
  rw[List.getElem_concat_length rfl] at hrd
  have hpop:=htodo
  rw[List.map_append] at hpop
  have hpop:=OS.pop hpop
  refine ArithOb.mk ((tl'.length:Nat):Int) (wr_eq (by simp only[OS.val];omega) (by omega)) ?_
  refine IdxOb.mk ad tl'.length had rfl (show tl'.length < todo.n by omega) ?_
  refine LoadOb.mk _ hrd ?_
  refine ArithOb.mk ((tl'.length:Nat):Int) (wr_eq (by simp only[OS.val];omega) (by omega)) ?_
  refine SliceOb.mk 0 tl'.length rfl rfl (Nat.zero_le _) ?_ ?_
  ·have:=htodo.cap
   obtain⟨oa,on,oc,ocur⟩:=todo
   cases oa with
   | none=>have:=(htodo.nil rfl).1;simp only at this htl';omega
   | some gg=>
    obtain⟨-,h2,-,-⟩:=htodo.cap gg rfl
    simp only at h2 htl' ⊢
    omega
  refine AllocOb.mk fun b2 hb2 hbM2=>?_
  refine OtherOb.append TryzEOK rfl (by simp) (e:=3) rfl rfl rfl back hback rfl (m:=1) rfl (news:=[.int .i64 m]) (by decide) (blk_rd (b:=b2) (cs:=[.int .i64 m]) (k:=0) (n:=1) (T:=3) (.head _) (by simp)) rfl (Mr:=⟨b2,.cells #[.int .i64 m] 3 (0,0)⟩::todo.blk 3) List.perm_middle.symm (by simp only[maxLen];omega) (by show (back.n+1) * 8≤_;omega) ?_
  intro g1 c1 cur1 q1 q2 q3 q4
  have hback':OS.ok ⟨some g1,back.n+1,c1,cur1⟩ 1 ((bl++[(m:Int)]).map (.int .i64 ·)):=by
   rw[List.map_append]
   exact app1_ok hback q1 q2 q3 q4
  obtain⟨an,han,hrn⟩:=ht.rs.row Nd.cells_len hml hml'
  have hd:=ht.ns _ (List.getElem_mem hml')
  have hkn:=hd.kn
  have hkc:=hd.rs.cap
  have hkv:=right_kids hr m hml'
  have hvt':valid t.ns.length (tl'++t.ns[m].kids):=fun k hk=>by
   rcases List.mem_append.1 hk with hk | hk
   ·exact hvt k (by simp[hk])
   ·have:=hkv k hk
    omega
  have hvb':valid t.ns.length (bl++[(m:Int)]):=fun k hk=>by
   rcases List.mem_append.1 hk with hk | hk
   ·exact hvb k hk
   ·simp only[List.mem_singleton] at hk
    omega
  have heq':∀ f',f=f'+1→backOf t.ns node=backGo t.ns f' (tl'++t.ns[m].kids) (bl++[(m:Int)]):=fun f' hf'=>by
   rw[heq,hf',backGo_snoc,Int.toNat_natCast,nodeAt_eq hml']
  have hinv:∀ td:OS,td.ok 1 ((tl'++t.ns[m].kids).map (.int .i64 ·))→BackInv t node (td,tl'++t.ns[m].kids,⟨some g1,back.n+1,c1,cur1⟩,bl++[(m:Int)],f - 1):=fun td htd=>by
   refine⟨htd,hback',hvt',hvb',?_,?_,heq' (f - 1) (by omega)⟩
   ·simp only[sumOf_append,List.length_append,List.length_cons,List.length_nil]
    omega
   ·simp only[sumOf_append]
    omega
  have hmu:sumOf (szOf t.ns) (tl'++t.ns[m].kids) < sumOf (szOf t.ns) (tl'++[(m:Int)]):=by
   rw[sumOf_append,sumOf_append,hs1,hszm]
   omega
  refine IdxOb.mk an m han rfl hml ?_
  refine LoadOb.mk _ ((hrn _).part (k:=8) (m:=1) (by decide)) ?_
  generalize hdd:t.ns[m]=d at hd hkn hkc hrn hinv hmu htot
  by_cases hk0:d.kn=0
  ·have hnil:d.kids=[]:=List.eq_nil_of_length_eq_zero (by omega)
   rw[hnil,List.append_nil] at hinv hmu
   refine OtherOb.append0 TryzEOK rfl (by simp) (e:=3) (sa:=todo.a.map fun g=>⟨g,0,none⟩) (n:=tl'.length) (c:=todo.c) rfl rfl rfl (by simp) rfl rfl ?_ rfl (.inl ⟨d.ka,d.kc,by rw[←hk0];rfl⟩) ?_
   ·obtain⟨oa,on,oc,ocur⟩:=todo
    cases oa with
    | none=>have:=(htodo.nil rfl).1;simp only at this htl';omega
    | some gg=>
     obtain⟨-,h2,-,-⟩:=htodo.cap gg rfl
     simp only at h2 htl' ⊢
     omega
   have he:todo.n - 1=tl'.length:=by omega
   refine⟨_,⟨hinv _ hpop,hmu⟩,.sub (M1:=⟨g1,.cells cur1.toArray 3 (0,0)⟩::todo.blk 3) (.cons_cons _ (.cons _ (.refl _))) .refl,.cons .refl (.cons .refl (.cons .refl (.cons ?_ .nil))),.cons rfl (.cons rfl .nil)⟩
   simp only[OS.val,he]
   exact .refl
  ·obtain⟨ak,hak,hsp,cs,T,fr,hI,hv⟩:=hd.rs.rd.resolve_left hk0
   have hpop':OS.ok ⟨todo.a,tl'.length,todo.c,todo.cur⟩ 1 (tl'.map (.int .i64 ·)):=by
    have he:todo.n - 1=tl'.length:=by omega
    rw[←he]
    exact hpop
   refine OtherOb.append TryzEOK rfl (by simp) (e:=3) rfl rfl rfl ⟨todo.a,tl'.length,todo.c,todo.cur⟩ hpop' rfl (ad:=ak) (m:=d.kn) (c':=d.kc) (by rw[←hak];rfl) (news:=d.kids.map (.int .i64 ·)) (by omega) ⟨hsp,cs,T,fr,.inl hI,hv,by simp[hkn]⟩ ?_ (Mr:=[⟨g1,.cells cur1.toArray 3 (0,0)⟩,⟨b2,.cells #[.int .i64 m] 3 (0,0)⟩]) (List.perm_append_comm (l₁:=[_,_])) (by simp only[maxLen];omega) (by show (tl'.length+d.kn) * 8≤_;omega) ?_
   ·simp[allOne,Value.oneCell']
   intro g2 c2 cur2 r1 r2 r3 r4
   refine⟨(⟨some g2,tl'.length+d.kn,c2,cur2⟩,_,_,_,_),⟨hinv _ ?_,hmu⟩,.sub (M1:=[⟨g2,.cells cur2.toArray 3 (0,0)⟩,⟨g1,.cells cur1.toArray 3 (0,0)⟩]) (.cons_cons _ (.cons_cons _ (List.nil_sublist _))) (.perm (List.Perm.swap _ _ _) .refl),.cons .refl (.cons .refl (.cons .refl (.cons .refl .nil))),.cons rfl (.cons rfl .nil)⟩
   rw[List.map_append]
   exact appm_ok hpop' (by simp[hkn]) r1 r2 r3 r4
 have htl0:tl=[]:=by
  have:¬ (0:Int) < (todo.n:Int):=of_decide_eq_false h
  exact List.eq_nil_of_length_eq_zero (by omega)
 subst htl0
 rw[backGo_nil] at heq
 simp only[sumOf,List.map_nil,List.sum_nil,Nat.zero_add] at hsum
 clear hfuel htodo hvt h
 refine MakeOb.mk t.n t.n rfl rfl (Nat.le_refl _) (by show 8 * t.n≤_;omega) (by omega) ?_
 refine AllocOb.mk fun b9 hb9 hbM9=>?_
 refine ArithOb.mk ((bl.length:Int) - 1) (wr_eq (by simp only[OS.val];omega) (by omega)) ?_
 refine LoopOb.invF (ι:=Nat×List Int×OS×List Nd×GH) (fun x=>{ fl:=[(2,.ref 2 0),(4,.ref 4 0),(6,.val back.val),(9,.val (.slice (some ⟨b9,0,none⟩) t.n t.n)),(10,.val x.2.2.1.val),(11,.val (.int .i64 ((bl.length:Int) - 1 - x.1)))],cl:=[(2,t.cells),(4,[.slice none 0 0,.int .i64 0])],gi:=x.2.2.2.2,mi:=intRow b9 x.2.1::(x.2.2.1.blk 82++back.blk 3) })
  (SubInv I' t bl.reverse) (fun x=>bl.length - x.1) ?_ ?_
 ·intro _
  refine⟨(0,List.replicate t.n 0,OS0,[],I'),⟨Nat.zero_le _,by simp[htn],OS0_ok 9,rfl,(by rw[htn];rfl),(fun d hd=>by cases hd),fun _ _ h=>h,(fun c hc=>by have:=List.eq_of_mem_replicate hc;omega),(fun d hd=>by cases hd)⟩,?_,.cons .refl (.cons .refl (.cons .refl (.cons .refl (.cons .refl (.cons ?_ .nil))))),.cons rfl (.cons rfl .nil)⟩
  ·simp only[rowOf_one,intRow,List.map_replicate,Nat.mul_one]
   exact .sub (M1:=⟨b9,.cells (List.replicate t.n (Value.int .i64 0)).toArray 3 (0,0)⟩::(OS0.blk 82++back.blk 3)) (.cons_cons _ (List.sublist_append_left _ _)) .refl
  ·simp only[Int.ofNat_zero,Int.sub_zero]
   exact .refl
 rintro⟨j,P,out,outN,J⟩ ⟨hj,hPl,hout,hon,hfold,hJok,hJ,hPb,hkb⟩
 simp only at hj hPl hout hon hfold hJok hJ hPb hkb
 rw[List.length_reverse] at hj hPb hkb
 have hol:out.n=j:=by
  have:=hout.len
  rw[flat_len _ 9 Nd.cells_len,hon] at this
  omega
 subst hol
 refine CondOb.mk (fun h=>?_) (fun h=>?_)
 ·have hjl:out.n < bl.length:=by
   have:(0:Int)≤(bl.length:Int) - 1 - (out.n:Int):=of_decide_eq_true h
   omega
  have hjr:out.n < bl.reverse.length:=by simpa using hjl
  have hbi:bl.length - 1 - out.n < bl.length:=by omega
  have hrev:bl.reverse[out.n]=bl[bl.length - 1 - out.n]:=by rw[List.getElem_reverse]
  have hm:=hvb _ (List.getElem_mem hbi)
  obtain⟨m,hmm⟩:=Int.eq_ofNat_of_zero_le hm.1
  rw[hmm] at hm
  have hml:m < t.n:=by omega
  have hml':m < t.ns.length:=by omega
  have hidx:((bl.length:Int) - 1 - (out.n:Int))=((bl.length - 1 - out.n:Nat):Int):=by omega
  have hbrd:∀ {M:List Blk},(∀ x∈back.blk 3,x∈M)→∃ ad,(back.a.map fun g=>(⟨g,0,none⟩:Addr))=some ad∧Rd J M (ad.add ((bl.length - 1 - out.n) * 1)) 1 [.int .i64 m]:=fun hM=>by
   obtain⟨ad,h1,h2⟩:=OS.rdI (I:=J) (e:=3) hback hM hbi
   rw[hmm] at h2
   exact⟨ad,h1,h2⟩
  obtain⟨an,han,hrn⟩:=(ht.rs.mono hJ).row Nd.cells_len hml hml'
  have hd:=(ht.ns _ (List.getElem_mem hml')).mono hJ
  have hkn:=hd.kn
  have hkc:=hd.rs.cap
  have hkv:=right_kids hr m hml'
  have hna:nodeAt t.ns m=t.ns[m]:=nodeAt_eq hml'
  generalize hdd:t.ns[m]=d at hd hkn hkc hkv hrn hna
  obtain⟨ad,had,hrdb⟩:=hbrd (M:=intRow b9 P::(out.blk 82++back.blk 3)) (fun x hx=>by simp[hx])
  refine CodeOb.draw TryzEOK rfl rfl rfl ?_
  refine IdxOb.mk ad (bl.length - 1 - out.n) had hidx (show _ < back.n by omega) ?_
  refine LoadOb.mk _ hrdb ?_
  refine IdxOb.mk an m han rfl hml ?_
  refine LoadOb.mk _ (hrn _) ?_
  refine AllocOb.mk fun b12 hb12 hbM12=>?_
  refine StoreOb.mk [] _ _ _ rfl rfl (Nat.le_of_ble_eq_true rfl) rfl ?_
  obtain⟨ad2,had2,hrdb2⟩:=hbrd (M:=⟨b12,.cells d.cells.toArray 82 (0,0)⟩::intRow b9 P::(out.blk 82++back.blk 3)) (fun x hx=>by simp[hx])
  refine IdxOb.mk ad2 (bl.length - 1 - out.n) had2 hidx (show _ < back.n by omega) ?_
  refine LoadOb.mk _ hrdb2 ?_
  refine IdxOb.mk ⟨b9,0,none⟩ m rfl rfl hml ?_
  refine StoreOb.add [⟨b12,.cells d.cells.toArray 82 (0,0)⟩] (out.blk 82++back.blk 3) _ _ rfl ?_ rfl ?_
  ·simp only[List.size_toArray,List.length_map]
   show 0+m * 1+1≤_
   omega
  have hset:=intRow_set P m (by omega) (out.n:Int)
  generalize hP':P.set m (out.n:Int)=P' at hset
  have hPl':P'.length=t.ns.length:=by rw[←hP'];simpa using hPl
  have hPb':∀ c∈P',0≤c∧c≤bl.length:=fun c hc=>by
   rw[←hP'] at hc
   rcases List.mem_or_eq_of_mem_set hc with hc | rfl
   ·exact hPb c hc
   ·omega
  have b12rd:∀ {M:List Blk} {cs:List Value} (k n:Nat),(⟨b12,.cells cs.toArray 82 (0,0)⟩:Blk)∈M→k+n≤cs.length→Rd J M ((⟨b12,0,none⟩:Addr).add k) n ((cs.drop k).take n):=fun k n hM hl=>blk_rd hM hl
  refine LoopOb.inv (ι:=Nat×OS×List Int) (fun y=>{ fl:=[(2,.ref 2 0),(4,.ref 4 0),(6,.val back.val),(9,.val (.slice (some ⟨b9,0,none⟩) t.n t.n)),(10,.val out.val),(11,.val (.int .i64 ((bl.length:Int) - 1 - out.n))),(12,.val (ptr b12)),(13,.val y.2.1.val),(14,.val (.int .i64 y.1))],cl:=[(2,t.cells),(4,[.slice none 0 0,.int .i64 0])],gi:=J,mi:=y.2.1.blk 3++(⟨b12,.cells d.cells.toArray 82 (0,0)⟩::intRow b9 P'::(out.blk 82++back.blk 3)) })
   (fun y=>y.1≤d.kn∧y.2.1.ok 1 (y.2.2.map (.int .i64 ·))∧y.2.2=(d.kids.take y.1).map fun k=>P'.getD k.toNat 0) (fun y=>d.kn - y.1) ?_ ?_
  ·refine⟨(0,OS0,[]),⟨Nat.zero_le _,OS0_ok 1,by simp⟩,?_,.cons .refl (.cons .refl (.cons .refl (.cons .refl (.cons .refl (.cons .refl (.cons .refl (.cons .refl (.cons .refl .nil)))))))),.cons rfl (.cons rfl .nil)⟩
   simp only[intRow]
   rw[←hset]
   simp only[Nat.zero_add,Nat.mul_one]
   exact .refl
  rintro⟨k,ko,kl⟩ ⟨hk,hko,hkl⟩
  simp only at hk hko hkl
  have hkon:=hko.len1
  have hmem:(⟨b12,.cells d.cells.toArray 82 (0,0)⟩:Blk)∈ko.blk 3++(⟨b12,.cells d.cells.toArray 82 (0,0)⟩::intRow b9 P'::(out.blk 82++back.blk 3)):=by simp
  have hmemP:intRow b9 P'∈ko.blk 3++(⟨b12,.cells d.cells.toArray 82 (0,0)⟩::intRow b9 P'::(out.blk 82++back.blk 3)):=by simp
  have hsl:kl.length≤d.kn:=by
   rw[hkl,List.length_map]
   exact Nat.le_trans (List.length_take_le _ _) hk
  have hsk:kl.length≤k:=by
   rw[hkl,List.length_map]
   exact List.length_take_le _ _
  refine LoadOb.mk [.slice d.ka d.kn d.kc] (b12rd 8 1 hmem (by rw[Nd.cells_len];decide)) ?_
  refine CondOb.mk (fun h2=>?_) (fun h2=>?_)
  ·have hkk:k < d.kn:=by have:(k:Int) < (d.kn:Int):=of_decide_eq_true h2;omega
   have hkk':k < d.kids.length:=by omega
   obtain⟨ak,hak,hrk⟩:=hd.rs.one hkk hkk'
   have hv:=hkv _ (List.getElem_mem hkk')
   have hkP:d.kids[k].toNat < P'.length:=by omega
   have hPg:P'.getD d.kids[k].toNat 0=P'[d.kids[k].toNat]:=by simp[List.getD_eq_getElem?_getD,hkP]
   refine LoadOb.mk [.slice d.ka d.kn d.kc] (b12rd 8 1 hmem (by rw[Nd.cells_len];decide)) ?_
   refine IdxOb.mk ak k hak rfl hkk ?_
   refine LoadOb.mk _ (hrk _) ?_
   refine IdxOb.mk ⟨b9,0,none⟩ d.kids[k].toNat rfl (by omega) (by omega) ?_
   refine LoadOb.mk _ (intRow_rd hmemP hkP) ?_
   refine AllocOb.mk fun b13 hb13 hbM13=>?_
   refine OtherOb.append TryzEOK rfl (by simp) (e:=3) rfl rfl rfl ko hko rfl (m:=1) rfl (news:=[.int .i64 P'[d.kids[k].toNat]]) (by decide) (blk_rd (b:=b13) (cs:=[.int .i64 P'[d.kids[k].toNat]]) (k:=0) (n:=1) (T:=3) (.head _) (by simp)) rfl (Mr:=⟨b13,.cells #[.int .i64 P'[d.kids[k].toNat]] 3 (0,0)⟩::(⟨b12,.cells d.cells.toArray 82 (0,0)⟩::intRow b9 P'::(out.blk 82++back.blk 3))) List.perm_middle.symm (by simp only[maxLen];omega) (by show (ko.n+1) * 8≤_;omega) ?_
   intro g2 c2 cur2 r1 r2 r3 r4
   refine ArithOb.mk _ (next_wr (i:=k) (by omega)) ?_
   refine⟨(k+1,⟨some g2,ko.n+1,c2,cur2⟩,kl++[P'[d.kids[k].toNat]]),⟨⟨by simp only;omega,?_,?_⟩,by simp only;omega⟩,.sub (.cons_cons _ (.cons _ (.refl _))) .refl,.cons .refl (.cons .refl (.cons .refl (.cons .refl (.cons .refl (.cons .refl (.cons .refl (.cons .refl (.cons .refl .nil)))))))),.cons rfl (.cons rfl .nil)⟩
   ·simp only
    rw[List.map_append]
    exact app1_ok hko r1 r2 r3 r4
   ·simp only
    rw[List.take_succ_eq_append_getElem hkk',List.map_append,←hkl,List.map_cons,List.map_nil,hPg]
  have hge:d.kn≤k:=by have:¬ (k:Int) < (d.kn:Int):=of_decide_eq_false h2;omega
  rw[List.take_of_length_le (by omega)] at hkl
  have hnd:∃ nd:Nd,nd=⟨d.k,d.s0,d.s1,d.s2,d.s3,d.t,d.lo,d.hi,ko.a.map fun g=>⟨g,0,none⟩,ko.n,ko.c,kl⟩:=⟨_,rfl⟩
  obtain⟨nd,hnd⟩:=hnd
  have hndc:splice d.cells (0+8) [ko.val]=nd.cells:=by rw[hnd];rfl
  refine StoreOb.addTo (ko.blk 3) (intRow b9 P'::(out.blk 82++back.blk 3)) d.cells _ rfl rfl rfl nd.cells hndc ?_
  have hmem2:(⟨b12,.cells nd.cells.toArray 82 (0,0)⟩:Blk)∈ko.blk 3++(⟨b12,.cells nd.cells.toArray 82 (0,0)⟩::intRow b9 P'::(out.blk 82++back.blk 3)):=by simp
  refine LoadOb.mk nd.cells (b12rd 0 9 hmem2 (by rw[Nd.cells_len];decide)) ?_
  refine AllocOb.mk fun b15 hb15 hbM15=>?_
  have hperm15:(⟨b15,.cells nd.cells.toArray 82 (0,0)⟩::(ko.blk 3++(⟨b12,.cells nd.cells.toArray 82 (0,0)⟩::intRow b9 P'::(out.blk 82++back.blk 3)))).Perm (out.blk 82++(⟨b15,.cells nd.cells.toArray 82 (0,0)⟩::(ko.blk 3++(⟨b12,.cells nd.cells.toArray 82 (0,0)⟩::intRow b9 P'::back.blk 3)))):=by
   simpa using List.perm_append_comm_assoc (⟨b15,.cells nd.cells.toArray 82 (0,0)⟩::(ko.blk 3++[⟨b12,.cells nd.cells.toArray 82 (0,0)⟩,intRow b9 P'])) (out.blk 82) (back.blk 3)
  refine OtherOb.append TryzEOK rfl (by simp) (e:=82) rfl rfl rfl out hout rfl (m:=1) rfl (news:=nd.cells) (by decide) (blk_rd (b:=b15) (cs:=nd.cells) (k:=0) (n:=9) (T:=82) (.head _) (by rw[Nd.cells_len];decide)) rfl
   (Mr:=⟨b15,.cells nd.cells.toArray 82 (0,0)⟩::(ko.blk 3++(⟨b12,.cells nd.cells.toArray 82 (0,0)⟩::intRow b9 P'::back.blk 3))) ?_ (by simp only[maxLen];omega) (by show (out.n+1) * 96≤_;omega) ?_
  ·exact hperm15
  intro g3 c3 cur3 u1 u2 u3 u4
  refine ArithOb.mk ((bl.length:Int) - 1 - (out.n+1:Nat)) (wr_eq (by omega) (by omega)) ?_
  have hklb:∀ c∈kl,0≤c∧c≤bl.length:=fun c hc=>by
   rw[hkl] at hc
   obtain⟨q,hq,rfl⟩:=List.mem_map.1 hc
   have hq':=hkv q hq
   have hqP:q.toNat < P'.length:=by omega
   exact hPb' (P'.getD q.toNat 0) (by simp only[List.getD_eq_getElem?_getD,List.getElem?_eq_getElem hqP,Option.getD_some];exact List.getElem_mem _)
  intro hfa
  obtain⟨J',hw,hle,hrs⟩:=OS.give (I:=J) (b:=8) (e:=3) hko (by omega) (fun g hg=>hfa.d ⟨g,.cells ko.cur.toArray 3 (0,0)⟩ (by simp[OS.blk,hg])) (intRow b9 P'::([⟨g3,.cells cur3.toArray 82 (0,0)⟩]++back.blk 3))
  refine⟨(out.n+1,P',⟨some g3,out.n+1,c3,cur3⟩,outN++[nd],J'),⟨⟨by simp only;omega,hPl',?_,by simp[hon],?_,?_,fun b o h=>hle _ _ (hJ _ _ h),?_,?_⟩,by simp only;omega⟩,?_,.cons .refl (.cons .refl (.cons .refl (.cons .refl (.cons .refl (.cons .refl .nil))))),.cons rfl (.cons rfl .nil)⟩
  ·simp only
   rw[List.flatMap_append]
   have:([nd].flatMap Nd.cells)=nd.cells:=by simp
   rw[this]
   exact appk_ok hout (Nd.cells_len _) u1 u2 u3 u4
  ·simp only
   rw[List.take_succ_eq_append_getElem hjr,List.foldl_append,hfold,List.foldl_cons,List.foldl_nil,hrev,hmm]
   show (P.set m ((outN.map Nd.ct).length:Int),outN.map Nd.ct++[(nodeAt t.ns m).withKids ((nodeAt t.ns m).kids.map fun k=>(P.set m ((outN.map Nd.ct).length:Int)).getD k.toNat 0)])=_
   rw[List.length_map,hon,hP',hna,←hkl,List.map_append,hnd]
   rfl
  ·simp only
   intro x hx
   rcases List.mem_append.1 hx with hx | hx
   ·exact(hJok x hx).mono hle
   ·simp only[List.mem_singleton] at hx
    rw[hx,hnd]
    refine⟨hd.k,hd.s0,hd.s1,hd.s2,hd.s3,hd.t,hd.lo,hd.hi,hrs,fun c hc=>?_⟩
    have:=hklb c hc
    exact⟨by omega,by omega⟩
  ·simp only[List.length_reverse]
   exact hPb'
  ·simp only[List.length_reverse]
   intro x hx
   rcases List.mem_append.1 hx with hx | hx
   ·exact hkb x hx
   ·simp only[List.mem_singleton] at hx
    rw[hx,hnd]
    exact hklb
  ·simp only
   refine .sub (M1:=⟨g3,.cells cur3.toArray 82 (0,0)⟩::(ko.blk 3++(intRow b9 P'::back.blk 3))) (.cons_cons _ (.cons _ (List.Sublist.append (.refl _) (.cons _ (.refl _))))) ?_
   refine .perm (M1:=ko.blk 3++(intRow b9 P'::([(⟨g3,.cells cur3.toArray 82 (0,0)⟩:Blk)]++back.blk 3))) ?_ hw
   exact List.perm_middle.symm.trans (List.Perm.append_left _ (List.Perm.swap _ _ _))
 have hge:out.n=bl.length:=by
  have:¬ (0:Int)≤(bl.length:Int) - 1 - (out.n:Int):=of_decide_eq_false h
  omega
 refine ArithOb.mk ((outN.length:Int) - 1) (wr_eq (by simp only[OS.val];omega) (by omega)) ?_
 intro hfa
 obtain⟨J',hw,hle,hrs⟩:=OS.give (I:=J) (b:=96) (e:=82) hout (by omega) (fun g hg=>hfa.d ⟨g,.cells out.cur.toArray 82 (0,0)⟩ (by simp[OS.blk,hg])) []
 refine⟨J',[],.sub (M1:=out.blk 82++[]) (by rw[List.append_nil];exact .cons _ (List.sublist_append_left _ _)) hw,fun b o h=>hle _ _ (hJ _ _ h),rfl,⟨outN,out.a.map fun g=>⟨g,0,none⟩,out.n,out.c,(outN.length:Int) - 1⟩,rfl,⟨hrs,fun d hd=>(hJok d hd).mono hle,⟨by simp only;omega,by simp only;omega⟩⟩,?_,rfl,by simp only;omega,fun d hd k hk=>by have:=hkb d hd k hk;omega⟩
 rw[List.take_of_length_le (by rw[List.length_reverse];omega)] at hfold
 rw[subC,heq,hfold]
end Go.V
namespace Go.V
open Go Go.Proofs
structure Fit (t:Tr) (W:Nat):Prop where
 w:∀ d∈t.ns,d.kn≤W
 b:t.n * W≤1152921504606846976
 n:t.n≤1099511627776
theorem Rd.mono {I I':GH} {M:List Blk} {a:Addr} {n:Nat} {vs:List Value} (h:Rd I M a n vs) (hI:∀ b o,I b=some o→I' b=some o):Rd I' M a n vs:=by
 obtain⟨h1,cs,T,fr,h2,h3⟩:=h
 exact⟨h1,cs,T,fr,h2.imp (hI _ _) id,h3⟩
theorem Rd.sub {I:GH} {M M':List Blk} {a:Addr} {n:Nat} {vs:List Value} (h:Rd I M a n vs) (hM:∀ x∈M,x∈M'):Rd I M' a n vs:=by
 obtain⟨h1,cs,T,fr,h2,h3⟩:=h
 refine⟨h1,cs,T,fr,h2.imp id ?_,h3⟩
 rintro⟨x,hx,e1,e2⟩
 exact⟨x,hM x hx,e1,e2⟩
def ofStep (st:List Nd×List Int) (l:List Nd):List Nd×List Int:=
 (st.1++l.map (fun x=>x.withKids (x.kids.map fun k=>(st.1.length:Int)+k)),st.2++[((st.1.length+l.length:Nat):Int) - 1])
def ofNds (d:Nd) (ls:List (List Nd)):List Nd:=(ls.foldl ofStep ([],[])).1++[d.withKids (ls.foldl ofStep ([],[])).2]
end Go.V
namespace Go.V
open Go Go.Proofs
section
variable {X:Ctx} {β:Nat→Nat} {a:Act} {w:World} {F:Fr} {C:Bx} {I:GH} {M:List Blk} {o:Oper} {Q:Exit→Act→World→Prop} {K:KS}
theorem lookup_runs (hE:EOK X.P X.E) {t:Nat} {ti tk:TI} {k e:Nat} (ht:X.E t=some ti) (hts:ti.sh=.map k e) (hk:X.E k=some tk) (hks:tk.sh=.string)
  (hz:∀ w,(zeroValue e).run X.P w=.ok (.int .i64 0) w) {g:Nat} {l:List (ByteArray×Int)} {s:ByteArray} (hg:w.heap[g]?=some (mapO l)) (ok:Bool) :
  (Instr.lookup t (.map (some g)) (.string s) ok).run X.P w=.ok (bif ok then .tuple #[.int .i64 ((lookM s l).getD 0),.bool (lookM s l).isSome] else .int .i64 ((lookM s l).getD 0)) w:=by
 obtain⟨d,hud,hdd⟩:=(hE _ _ ht).und
 have h1:d=.map k e:=by rw[hts] at hdd;cases d<;>simp_all[shOf]
 subst h1
 obtain⟨dk,huk,hdk⟩:=(hE _ _ hk).und
 have h2:dk=.string:=by rw[hks] at hdk;cases dk<;>simp_all[shOf]
 subst h2
 have hg:w.heap[g]?=some (.map (ents l 0).toArray l.length):=hg
 obtain⟨r,hf1,hf2⟩:=findNow_ents s l 0 0
 have hc:(Instr.checkKey (ents l 0).toArray.isEmpty 10000 k (.string s)).run X.P w=.ok () w:=MapKept.run_checkKey (k:=.string s) huk (by simp[MapKept.IsKey]) _ 9999
 have hfk:(Instr.findKey k (.string s) (ents l 0)).run X.P w=.ok r w:=MapKept.run_findKey huk hf1
 unfold Instr.lookup
 simp only[Sem.run_bind,run_underlying hud,Result.andThen_ok,MapKept.run_getObj_map hg,Sem.run_pure,hc,hfk]
 cases r with
 | none=>
  cases hl:lookM s l with
  | none=>cases ok<;>simp[hz]
  | some v=>rw[hl] at hf2;simp at hf2
 | some p=>
  cases hl:lookM s l with
  | none=>rw[hl] at hf2;simp at hf2
  | some v=>
   rw[hl] at hf2
   simp only[Option.map_some,Option.some.injEq] at hf2
   cases ok<;>simp[hf2]
theorem OtherOb.lookupT (hE:EOK X.P X.E) {t:Nat} {x y:Operand} (ho:o.op=.lookup t x y true) (hd:∀ d,o.dst=some d→d < X.n) {ti tk:TI} {k e:Nat} (ht:X.E t=some ti) (hts:ti.sh=.map k e) (hk:X.E k=some tk) (hks:tk.sh=.string)
  (hz:∀ w,(zeroValue e).run X.P w=.ok (.int .i64 0) w) {g:Nat} {l:List (ByteArray×Int)} {s:ByteArray} (hx:ev F x=.val (.map (some g))) (hy:ev F y=.val (.string s)) (hM:Kn I M g (mapO l))
  (h:K (put o.dst (.val (.tuple #[.int .i64 ((lookM s l).getD 0),.bool (lookM s l).isSome])) F) C I M):OtherOb X o F C I M K:=by
 refine⟨fun a w Q ⟨β,hR⟩=>?_⟩
 have hrun:=lookup_runs hE ht hts hk hks hz (hM.heap hR.holds) (s:=s) true
 have ex:=eval_of_ev hR.fr hx
 have ey:=eval_of_ev hR.fr hy
 refine done_vv hR hd (by rw[ho];simp) ?_ h
 unfold execOp
 simp only[ho,ex,ey,Sem.run_bind,hrun,Result.andThen_ok,Sem.run_pure,cond_true]
theorem OtherOb.lookupF (hE:EOK X.P X.E) {t:Nat} {x y:Operand} (ho:o.op=.lookup t x y false) (hd:∀ d,o.dst=some d→d < X.n) {ti tk:TI} {k e:Nat} (ht:X.E t=some ti) (hts:ti.sh=.map k e) (hk:X.E k=some tk) (hks:tk.sh=.string)
  (hz:∀ w,(zeroValue e).run X.P w=.ok (.int .i64 0) w) {g:Nat} {l:List (ByteArray×Int)} {s:ByteArray} (hx:ev F x=.val (.map (some g))) (hy:ev F y=.val (.string s)) (hM:Kn I M g (mapO l))
  (h:K (put o.dst (.val (.int .i64 ((lookM s l).getD 0))) F) C I M):OtherOb X o F C I M K:=by
 refine⟨fun a w Q ⟨β,hR⟩=>?_⟩
 have hrun:=lookup_runs hE ht hts hk hks hz (hM.heap hR.holds) (s:=s) false
 have ex:=eval_of_ev hR.fr hx
 have ey:=eval_of_ev hR.fr hy
 refine done_vv hR hd (by rw[ho];simp) ?_ h
 unfold execOp
 simp only[ho,ex,ey,Sem.run_bind,hrun,Result.andThen_ok,Sem.run_pure,cond_false]
end
def placesGo:List (ByteArray×Int)→Nat→List Df→List (ByteArray×Int)
 | acc,_,[]=>acc
 | acc,i,d::ds=>placesGo (bif (lookM d.name acc).isSome then acc else acc++[(d.name,(i:Int))]) (i+1) ds
def placesL (ds:List Df):List (ByteArray×Int):=placesGo [] 0 ds
set_option maxHeartbeats 1000000 in
theorem places_spec {I:GH} {g:Gr} (hg:g.ok I):Spec Tryz.prog 81 [g.val] I [] fun v I' M'=>(∀ b o,I b=some o→I' b=some o)∧M'=[]∧∃ gm,v=.map (some gm)∧I' gm=some (mapO (placesL g.ds)):=by
 refine spec_of_VF [] TryzEOK Tryz.func81 rfl rfl rfl ?_
 intro B h0
 have hgn:=hg.n
 have hcap:=hg.rs.cap
 refine OtherOb.makeMap TryzEOK rfl (by simp) rfl rfl rfl fun bm=>?_
 refine LoopOb.inv (ι:=Nat×List (ByteArray×Int)) (fun x=>{ fl:=[(1,.ref 1 0),(3,.val (.map (some bm))),(13,.val (.slice g.a g.n g.c)),(14,.val (.int .i64 g.n)),(15,.val (.int .i64 x.1))],cl:=[(1,[.slice g.a g.n g.c])],gi:=I,mi:=[⟨bm,mapO x.2⟩] })
  (fun x=>x.1≤g.n∧placesL g.ds=placesGo x.2 x.1 (g.ds.drop x.1)) (fun x=>g.n - x.1) ?_ ?_
 ·exact⟨(0,[]),⟨Nat.zero_le _,rfl⟩,.refl,.cons .refl (.cons .refl (.cons .refl (.cons .refl (.cons .refl .nil)))),.cons rfl .nil⟩
 rintro⟨i,acc⟩ ⟨hi,hp⟩
 simp only at hi hp
 refine CondOb.mk (fun h=>?_) (fun h=>?_)
 ·have hlt:i < g.n:=by have:(i:Int) < (g.n:Int):=of_decide_eq_true h;omega
  have hlt':i < g.ds.length:=by omega
  obtain⟨ad,had,hrd⟩:=hg.rs.row Df.cells_len hlt hlt'
  rw[List.drop_eq_getElem_cons hlt',placesGo] at hp
  refine IdxOb.mk ad i had rfl hlt ?_
  refine LoadOb.mk _ (hrd _) ?_
  refine OtherOb.lookupT TryzEOK rfl (by simp) rfl rfl rfl rfl (fun w=>zero_int w) (l:=acc) (g:=bm) rfl rfl (.inr ⟨_,.head _,rfl,rfl⟩) ?_
  refine CondOb.mk (fun h3=>?_) (fun h3=>?_)
  ·have hn:(lookM g.ds[i].name acc).isSome=false:=by simpa using h3
   have hl:lookM g.ds[i].name acc=none:=by simpa using hn
   rw[hn,cond_false] at hp
   refine OtherOb.mapNew TryzEOK rfl rfl rfl rfl rfl rfl rfl rfl rfl hl (Mr:=[]) (.refl _) ?_
   refine ArithOb.mk _ (next_wr (i:=i) (by omega)) ?_
   exact⟨(i+1,_),⟨⟨by simp only;omega,hp⟩,by simp only;omega⟩,.refl,.cons .refl (.cons .refl (.cons .refl (.cons .refl (.cons .refl .nil)))),.cons rfl .nil⟩
  ·have hn:(lookM g.ds[i].name acc).isSome=true:=by simpa using h3
   rw[hn,cond_true] at hp
   refine ArithOb.mk _ (next_wr (i:=i) (by omega)) ?_
   exact⟨(i+1,_),⟨⟨by simp only;omega,hp⟩,by simp only;omega⟩,.refl,.cons .refl (.cons .refl (.cons .refl (.cons .refl (.cons .refl .nil)))),.cons rfl .nil⟩
 have hge:g.n≤i:=by have:¬ (i:Int) < (g.n:Int):=of_decide_eq_false h;omega
 rw[List.drop_eq_nil_of_le (by omega),placesGo] at hp
 intro hfa
 have hb:=hfa.d ⟨bm,mapO acc⟩ (.head _)
 exact⟨_,_,.prom rfl (by simp) .refl,ins_le hb,rfl,bm,rfl,by rw[hp];exact ins_self ..⟩
end Go.V
