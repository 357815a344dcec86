/-
  Part 7 of what the proofs of this seat share: the executor, data in memory, walks.
-/
import Derived.Test.YtmijfbjkkllhlaaGreatDoorK5
import Derived.Test.YtmijfbjkkllhlaaGreatDoorK6
import Derived.Test.YtmijfbjkkllhlaaGreatDoorK3
set_option linter.unusedVariables false
set_option linter.unusedSimpArgs false
set_option linter.unusedSectionVars false
namespace Go.V
open Go
def allKids (ns:List Nd):List Int:=ns.flatMap (·.kids)
def DiffL (l:List Int):Prop:=l.Pairwise (·≠·)
def MarksAre (s:List Bool) (l:List Int):Prop:=∀ j,s.getD j false=true ↔ ((j:Int)∈l∧j < s.length)
theorem kidsOk_iff {i:Nat}:∀ {ks seen:List Int} {s:List Bool},i≤s.length→MarksAre s seen→DiffL seen →
  ((∃ s',kidsOk i ks s=some s') ↔ ((∀ k∈ks,0≤k∧k < i)∧DiffL (seen++ks)))∧∀ s',kidsOk i ks s=some s'→s'.length=s.length∧MarksAre s' (seen++ks)
 | [],seen,s,hi,hm,hd=>by
  refine⟨⟨fun _=>⟨fun k hk=>by (cases hk),by simpa using hd⟩,fun _=>⟨s,rfl⟩⟩,fun s' h=>?_⟩
  simp only[kidsOk,Option.some.injEq] at h
  subst h
  exact⟨rfl,by simpa using hm⟩
 | k::ks,seen,s,hi,hm,hd=>by
  unfold kidsOk
  cases hb:decide (k < 0) || (decide ((i:Int)≤k) || s.getD k.toNat false) with
  | true=>
   refine⟨⟨fun ⟨s',h⟩=>(by cases h),fun ⟨h1,h2⟩=>?_⟩,fun s' h=>by cases h⟩
   exfalso
   have h3:=h1 k (.head _)
   simp only[Bool.or_eq_true,decide_eq_true_eq] at hb
   rcases hb with hb | hb | hb
   ·omega
   ·omega
   ·have:=(hm _).1 hb
    rw[Int.toNat_of_nonneg h3.1] at this
    exact(List.pairwise_append.1 h2).2.2 k this.1 k (.head _) rfl
  | false=>
   simp only[Bool.or_eq_false_iff,decide_eq_false_iff_not] at hb
   obtain⟨b1,b2,b3⟩:=hb
   have hk:k.toNat < s.length:=by omega
   have hks:k ∉ seen:=fun h=>by
    have:=(hm k.toNat).2 ⟨by rw[Int.toNat_of_nonneg (by omega)];exact h,hk⟩
    rw[b3] at this
    cases this
   have hm':MarksAre (s.set k.toNat true) (seen++[k]):=fun j=>by
    have:=hm j
    simp only[List.getD_eq_getElem?_getD,List.getElem?_set,List.length_set,List.mem_append,List.mem_singleton] at this ⊢
    by_cases e:k.toNat=j
    ·subst e
     rw[if_pos rfl,if_pos hk]
     simp only[Option.getD_some,true_iff]
     exact⟨.inr (by omega),hk⟩
    ·rw[if_neg e,this]
     constructor
     ·rintro⟨h1,h2⟩
      exact⟨.inl h1,h2⟩
     ·rintro⟨h1 | h1,h2⟩
      ·exact⟨h1,h2⟩
      ·omega
   have hd':DiffL (seen++[k]):=List.pairwise_append.2 ⟨hd,by simp,fun a ha b hb e=>by
    simp only[List.mem_singleton] at hb
    subst hb
    subst e
    exact hks ha⟩
   have ih:=kidsOk_iff (i:=i) (ks:=ks) (seen:=seen++[k]) (s:=s.set k.toNat true) (by simpa using hi) hm' hd'
   simp only[cond_false]
   rw[List.append_assoc,List.singleton_append] at ih
   refine⟨ih.1.trans ⟨fun ⟨h1,h2⟩=>⟨fun x hx=>?_,h2⟩,fun ⟨h1,h2⟩=>⟨fun x hx=>h1 x (.tail _ hx),h2⟩⟩,fun s' h=>?_⟩
   ·rcases List.mem_cons.1 hx with rfl | hx
    ·omega
    ·exact h1 x hx
   ·have:=ih.2 s' h
    simpa using this
theorem nodesOk_iff:∀ {ds:List Nd} {i:Nat} {seen:List Int} {s:List Bool},i+ds.length≤s.length→MarksAre s seen→DiffL seen →
  ((∃ s',nodesOk i ds s=some s') ↔ ((∀ j (h:j < ds.length),fits ds[j] ds[j].kids.length=true∧∀ k∈ds[j].kids,0≤k∧k < i+j)∧DiffL (seen++allKids ds)))∧∀ s',nodesOk i ds s=some s'→s'.length=s.length∧MarksAre s' (seen++allKids ds)
 | [],i,seen,s,hi,hm,hd=>by
  refine⟨⟨fun _=>⟨fun j hj=>by simp at hj,by simpa[allKids] using hd⟩,fun _=>⟨s,rfl⟩⟩,fun s' h=>?_⟩
  simp only[nodesOk,Option.some.injEq] at h
  subst h
  exact⟨rfl,by simpa[allKids] using hm⟩
 | d::ds,i,seen,s,hi,hm,hd=>by
  unfold nodesOk
  have hk:=kidsOk_iff (i:=i) (ks:=d.kids) (by simp at hi;omega) hm hd
  have hall:allKids (d::ds)=d.kids++allKids ds:=rfl
  cases hf:fits d d.kids.length with
  | false=>
   refine⟨⟨fun ⟨s',h⟩=>(by cases h),fun ⟨h1,h2⟩=>?_⟩,fun s' h=>by cases h⟩
   have:=(h1 0 (by simp)).1
   simp only[List.getElem_cons_zero] at this
   rw[hf] at this
   cases this
  | true=>
   simp only[cond_true]
   cases hq:kidsOk i d.kids s with
   | none=>
    refine⟨⟨fun ⟨s',h⟩=>(by cases h),fun ⟨h1,h2⟩=>?_⟩,fun s' h=>by cases h⟩
    exfalso
    have:∃ s',kidsOk i d.kids s=some s':=hk.1.2 ⟨fun k hk=>by
     have:=(h1 0 (by simp)).2 k hk
     omega,by
     rw[hall,←List.append_assoc] at h2
     exact(List.pairwise_append.1 h2).1⟩
    obtain⟨s',h⟩:=this
    rw[hq] at h
    cases h
   | some s1=>
    obtain⟨l1,m1⟩:=hk.2 s1 hq
    obtain⟨r1,d1⟩:=hk.1.1 ⟨s1,hq⟩
    have ih:=nodesOk_iff (ds:=ds) (i:=i+1) (seen:=seen++d.kids) (s:=s1) (by simp at hi;omega) m1 d1
    rw[List.append_assoc,←hall] at ih
    simp only
    refine⟨ih.1.trans ⟨fun ⟨h1,h2⟩=>⟨fun j hj=>?_,h2⟩,fun ⟨h1,h2⟩=>⟨fun j hj=>?_,h2⟩⟩,fun s' h=>?_⟩
    ·cases j with
     | zero=>exact⟨hf,fun k hk=>by have:=r1 k hk;omega⟩
     | succ j=>
      have:=h1 j (by simpa using hj)
      refine⟨this.1,fun k hk=>?_⟩
      have:=this.2 k hk
      omega
    ·have:=h1 (j+1) (by simpa using hj)
     refine⟨this.1,fun k hk=>?_⟩
     have:=this.2 k hk
     omega
    ·have:=ih.2 s' h
     exact⟨this.1.trans l1,this.2⟩
theorem marks_none (n:Nat):MarksAre (List.replicate n false) []:=fun j=>by
 by_cases h:j < n<;>simp[List.getD_eq_getElem?_getD,List.getElem?_replicate,h]
structure Right (t:Tr):Prop where
 root:0≤t.root∧t.root < t.ns.length
 fits:∀ j (h:j < t.ns.length),fits t.ns[j] t.ns[j].kids.length=true
 kids:∀ j (h:j < t.ns.length),∀ k∈t.ns[j].kids,0≤k∧k < j
 diff:DiffL (allKids t.ns)
 all:∀ j:Nat,j < t.ns.length→((j:Int)∈allKids t.ns ↔ (j:Int)≠t.root)
theorem right_iff {t:Tr}:right t=true ↔ Right t:=by
 have h:=nodesOk_iff (ds:=t.ns) (i:=0) (seen:=[]) (s:=List.replicate t.ns.length false) (by simp) (marks_none _) (by simp[DiffL])
 simp only[List.nil_append,Nat.zero_add,List.length_replicate] at h
 unfold right
 constructor
 ·intro hr
  simp only[Bool.and_eq_true,decide_eq_true_eq] at hr
  obtain⟨r1,r2,r3⟩:=hr
  split at r3
  ·rename_i s hs
   obtain⟨q1,q2⟩:=h.1.1 ⟨s,hs⟩
   obtain⟨m1,m2⟩:=h.2 s hs
   refine⟨⟨r1,r2⟩,fun j hj=>(q1 j hj).1,fun j hj k hk=>(by have:=(q1 j hj).2 k hk;omega),q2,fun j hj=>?_⟩
   have hb:(s.getD j false == decide (((0+j:Nat):Int)=t.root))=false:=by
    cases hb:(s.getD j false == decide (((0+j:Nat):Int)=t.root)) with
    | false=>rfl
    | true=>
     have:=rootOk_false (by omega) hb
     rw[this] at r3
     cases r3
   rw[Nat.zero_add] at hb
   have hm:=m2 j
   constructor
   ·intro hx e
    have:=hm.2 ⟨hx,by omega⟩
    rw[this,decide_eq_true e] at hb
    cases hb
   ·intro hne
    rw[decide_eq_false hne] at hb
    have:s.getD j false=true:=by
     revert hb
     cases s.getD j false<;>simp
    exact(hm.1 this).1
  ·cases r3
 ·intro hr
  obtain⟨s,hs⟩:=h.1.2 ⟨fun j hj=>⟨hr.fits j hj,fun k hk=>by have:=hr.kids j hj k hk;omega⟩,hr.diff⟩
  obtain⟨m1,m2⟩:=h.2 s hs
  rw[hs]
  simp only[Bool.and_eq_true,decide_eq_true_eq]
  refine⟨hr.root.1,hr.root.2,rootOk_true fun j hj=>?_⟩
  rw[Nat.zero_add]
  have ha:=hr.all j (by omega)
  have hm:=m2 j
  by_cases e:(j:Int)=t.root
  ·have hf:s.getD j false=false:=by
    cases hb:s.getD j false with
    | false=>rfl
    | true=>exact absurd e (ha.1 (hm.1 hb).1)
   rw[hf,decide_eq_true e]
   rfl
  ·have:=hm.2 ⟨ha.2 e,by omega⟩
   rw[this,decide_eq_false e]
   rfl
theorem Right.node {t:Tr} (hr:Right t) {j:Nat} (hj:j < t.ns.length) {k:Int} (hk:k∈(nodeAt t.ns j).kids):0≤k∧k < j:=by
 rw[nodeAt_eq hj] at hk
 exact hr.kids j hj k hk
theorem Right.two {t:Tr} (hr:Right t) {i j:Nat} (hi:i < t.ns.length) (hj:j < t.ns.length) (hne:i≠j) {k:Int} (h1:k∈(nodeAt t.ns i).kids) (h2:k∈(nodeAt t.ns j).kids):False:=by
 rw[nodeAt_eq hi] at h1
 rw[nodeAt_eq hj] at h2
 have:=(List.pairwise_flatMap.1 hr.diff).2
 rw[List.pairwise_iff_getElem] at this
 rcases Nat.lt_or_gt_of_ne hne with h | h
 ·exact this i j hi hj h k h1 k h2 rfl
 ·exact this j i hj hi h k h2 k h1 rfl
theorem Right.kdiff {t:Tr} (hr:Right t) {j:Nat} (hj:j < t.ns.length):DiffL (nodeAt t.ns j).kids:=by
 rw[nodeAt_eq hj]
 exact(List.pairwise_flatMap.1 hr.diff).1 _ (List.getElem_mem hj)
def postN (ns:List Nd):Nat→Int→List Int
 | 0,_=>[]
 | f+1,n=>(nodeAt ns n.toNat).kids.flatMap (postN ns f)++[n]
def postO (ns:List Nd) (n:Int):List Int:=postN ns (n.toNat+1) n
theorem flatMap_congr' {α β:Type} {f g:α→List β}:∀ {l:List α},(∀ x∈l,f x=g x)→l.flatMap f=l.flatMap g
 | [],_=>rfl
 | a::l,h=>by rw[List.flatMap_cons,List.flatMap_cons,h a (.head _),flatMap_congr' fun x hx=>h x (.tail _ hx)]
section
variable {t:Tr} (hr:Right t)
include hr
theorem postN_fuel:∀ (f j:Nat),j < t.ns.length→j < f→postN t.ns f j=postO t.ns j:=by
 intro f
 induction f using Nat.strongRecOn with
 | _ f ih=>
  intro j hj hf
  match f,hf,ih with
  | f+1,hf,ih=>
   unfold postO
   rw[postN,postN]
   congr 1
   refine flatMap_congr' fun k hk=>?_
   obtain⟨h0,h1⟩:=hr.node hj hk
   obtain⟨k,rfl⟩:=Int.eq_ofNat_of_zero_le h0
   have e1:=ih f (by omega) k (by omega) (by omega)
   have e2:=ih j (by omega) k (by omega) (by omega)
   exact e1.trans e2.symm
theorem post_eq {j:Nat} (hj:j < t.ns.length):postO t.ns j=(nodeAt t.ns j).kids.flatMap (postO t.ns)++[(j:Int)]:=by
 unfold postO
 rw[postN]
 congr 1
 refine flatMap_congr' fun k hk=>?_
 obtain⟨h0,h1⟩:=hr.node hj hk
 obtain⟨k,rfl⟩:=Int.eq_ofNat_of_zero_le h0
 exact postN_fuel hr _ k (by omega) (by omega)
theorem post_mem:∀ (j:Nat),j < t.ns.length→∀ x∈postO t.ns j,(0≤x∧x≤j)∧(x=j∨∃ y:Nat,(y:Int)∈postO t.ns j∧y < t.ns.length∧x∈(nodeAt t.ns y).kids):=by
 intro j
 induction j using Nat.strongRecOn with
 | _ j ih=>
  intro hj x hx
  rw[post_eq hr hj] at hx
  rcases List.mem_append.1 hx with hx | hx
  ·obtain⟨k,hk,hx⟩:=List.mem_flatMap.1 hx
   obtain⟨h0,h1⟩:=hr.node hj hk
   obtain⟨k,rfl⟩:=Int.eq_ofNat_of_zero_le h0
   obtain⟨b,c⟩:=ih k (by omega) (by omega) x hx
   refine⟨by omega,.inr ?_⟩
   rcases c with rfl | ⟨y,hy,hyl,hyx⟩
   ·exact⟨j,by rw[post_eq hr hj];simp,hj,hk⟩
   ·exact⟨y,by rw[post_eq hr hj];exact List.mem_append.2 (.inl (List.mem_flatMap.2 ⟨k,hk,hy⟩)),hyl,hyx⟩
  ·simp only[List.mem_singleton] at hx
   subst hx
   exact⟨by omega,.inl rfl⟩
theorem post_two {j:Nat} (hj:j < t.ns.length) {a b:Nat} (ha:(a:Int)∈(nodeAt t.ns j).kids) (hb:(b:Int)∈(nodeAt t.ns j).kids) (hne:a≠b):∀ (m:Nat) (x:Int),x∈postO t.ns a→x∈postO t.ns b→t.ns.length - x.toNat≤m→False:=by
 have h1:=hr.node hj ha
 have h2:=hr.node hj hb
 intro m
 induction m with
 | zero=>
  intro x hxa hxb hm
  have:=(post_mem hr a (by omega) x hxa).1
  omega
 | succ m ih=>
  intro x hxa hxb hm
  obtain⟨ba,ca⟩:=post_mem hr a (by omega) x hxa
  obtain⟨bb,cb⟩:=post_mem hr b (by omega) x hxb
  rcases ca with ea | ⟨ya,hya,hyal,hyax⟩
  ·rcases cb with eb | ⟨yb,hyb,hybl,hybx⟩
   ·omega
   ·have:=(post_mem hr b (by omega) yb hyb).1
    subst ea
    exact hr.two hj hybl (by omega) ha hybx
  ·rcases cb with eb | ⟨yb,hyb,hybl,hybx⟩
   ·have:=(post_mem hr a (by omega) ya hya).1
    subst eb
    exact hr.two hj hyal (by omega) hb hyax
   ·by_cases e:ya=yb
    ·subst e
     have:=hr.node hyal hyax
     exact ih ya hya hyb (by omega)
    ·exact hr.two hyal hybl e hyax hybx
theorem post_diff:∀ (j:Nat),j < t.ns.length→DiffL (postO t.ns j):=by
 intro j
 induction j using Nat.strongRecOn with
 | _ j ih=>
  intro hj
  rw[post_eq hr hj]
  have kd:=hr.kdiff hj
  refine List.pairwise_append.2 ⟨List.pairwise_flatMap.2 ⟨fun k hk=>?_,?_⟩,by simp,fun x hx y hy=>?_⟩
  ·obtain⟨h0,h1⟩:=hr.node hj hk
   obtain⟨k,rfl⟩:=Int.eq_ofNat_of_zero_le h0
   exact ih k (by omega) (by omega)
  ·refine kd.imp_of_mem ?_
   intro a b ha hb hne x hx y hy e
   subst e
   obtain⟨h0,h1⟩:=hr.node hj ha
   obtain⟨h2,h3⟩:=hr.node hj hb
   obtain⟨a,rfl⟩:=Int.eq_ofNat_of_zero_le h0
   obtain⟨b,rfl⟩:=Int.eq_ofNat_of_zero_le h2
   exact post_two hr hj ha hb (by intro e;subst e;exact hne rfl) _ x hx hy (Nat.le_refl _)
  ·simp only[List.mem_singleton] at hy
   subst hy
   obtain⟨k,hk,hx⟩:=List.mem_flatMap.1 hx
   obtain⟨h0,h1⟩:=hr.node hj hk
   obtain⟨k,rfl⟩:=Int.eq_ofNat_of_zero_le h0
   have:=(post_mem hr k (by omega) x hx).1
   omega
def PreO (ns:List Nd) (l:List Int):Prop:=∀ i (h:i < l.length),∀ k∈(nodeAt ns (l[i]).toNat).kids,k∈l.take i
omit hr in
theorem PreO.append {ns:List Nd} {l m:List Int} (h:PreO ns l) (h':PreO ns m):PreO ns (l++m):=by
 intro i hi k hk
 by_cases hl:i < l.length
 ·rw[List.getElem_append_left hl] at hk
  rw[List.take_append_of_le_length (by omega)]
  exact h i hl k hk
 ·rw[List.getElem_append_right (by omega)] at hk
  have:=h' (i - l.length) (by simp at hi;omega) k hk
  rw[List.take_append,List.take_of_length_le (by omega)]
  exact List.mem_append.2 (.inr this)
omit hr in
theorem PreO.flat {ns:List Nd} {f:Int→List Int}:∀ {ks:List Int},(∀ k∈ks,PreO ns (f k))→PreO ns (ks.flatMap f)
 | [],_=>fun i h=>by simp at h
 | k::ks,h=>by
  rw[List.flatMap_cons]
  exact(h k (.head _)).append (PreO.flat fun x hx=>h x (.tail _ hx))
theorem post_self {j:Nat} (hj:j < t.ns.length):(j:Int)∈postO t.ns j:=by rw[post_eq hr hj];simp
theorem post_pre:∀ (j:Nat),j < t.ns.length→PreO t.ns (postO t.ns j):=by
 intro j
 induction j using Nat.strongRecOn with
 | _ j ih=>
  intro hj
  have hk:∀ k∈(nodeAt t.ns j).kids,∃ q:Nat,k=q∧q < j:=fun k hk=>by
   obtain⟨h0,h1⟩:=hr.node hj hk
   exact⟨k.toNat,by omega,by omega⟩
  have h1:PreO t.ns ((nodeAt t.ns j).kids.flatMap (postO t.ns)):=PreO.flat fun k hk'=>by
   obtain⟨q,rfl,hq⟩:=hk k hk'
   exact ih q hq (by omega)
  rw[post_eq hr hj]
  intro i hi k hki
  by_cases hl:i < ((nodeAt t.ns j).kids.flatMap (postO t.ns)).length
  ·rw[List.getElem_append_left hl] at hki
   rw[List.take_append_of_le_length (by omega)]
   exact h1 i hl k hki
  ·rw[List.getElem_append_right (by omega)] at hki
   have e:i - ((nodeAt t.ns j).kids.flatMap (postO t.ns)).length=0:=by simp only[List.length_append,List.length_cons,List.length_nil] at hi;omega
   simp only[e,List.getElem_cons_zero,Int.toNat_natCast] at hki
   rw[List.take_append,List.take_of_length_le (by omega)]
   refine List.mem_append.2 (.inl (List.mem_flatMap.2 ⟨k,hki,?_⟩))
   obtain⟨q,rfl,hq⟩:=hk k hki
   exact post_self hr (by omega)
theorem post_last {j:Nat} (hj:j < t.ns.length):(postO t.ns j).getLast?=some (j:Int):=by rw[post_eq hr hj];simp
theorem post_len:∀ (j:Nat),j < t.ns.length→(postO t.ns j).length=szOf t.ns j:=by
 intro j
 induction j using Nat.strongRecOn with
 | _ j ih=>
  intro hj
  rw[post_eq hr hj,szOf_eq (right_iff.2 hr) hj,←nodeAt_eq hj]
  simp only[List.length_append,List.length_flatMap,List.length_cons,List.length_nil,sumOf]
  have:(nodeAt t.ns j).kids.map (fun a=>(postO t.ns a).length)=(nodeAt t.ns j).kids.map (szOf t.ns):=List.map_congr_left fun k hk=>by
   obtain⟨h0,h1⟩:=hr.node hj hk
   obtain⟨k,rfl⟩:=Int.eq_ofNat_of_zero_le h0
   exact ih k (by omega) (by omega)
  rw[this]
  omega
theorem back_post:∀ (f:Nat) (todo b:List Int),(∀ k∈todo,0≤k∧k < t.ns.length)→(todo.map fun n=>(postO t.ns n).length).sum≤f→backGo t.ns f todo b=b++todo.reverse.flatMap (fun n=>(postO t.ns n).reverse)
 | 0,todo,b,hv,hf=>by
  rcases List.eq_nil_or_concat todo with h | ⟨r,p,h⟩
  ·subst h
   simp[backGo]
  ·subst h
   obtain⟨h0,h1⟩:=hv p (by simp)
   obtain⟨p,rfl⟩:=Int.eq_ofNat_of_zero_le h0
   have:=congrArg List.length (post_eq hr (j:=p) (by omega))
   simp at hf this
   have h2:(postO t.ns (p:Int)).length=0:=by rw[hf.2];rfl
   omega
 | f+1,todo,b,hv,hf=>by
  rcases List.eq_nil_or_concat todo with h | ⟨r,p,h⟩
  ·subst h
   rw[backGo_nil]
   simp
  ·rw[List.concat_eq_append] at h
   subst h
   obtain⟨h0,h1⟩:=hv p (by simp)
   obtain⟨p,rfl⟩:=Int.eq_ofNat_of_zero_le h0
   have hp:p < t.ns.length:=by omega
   have he:=post_eq hr hp
   have hl:=congrArg List.length he
   simp only[List.length_append,List.length_flatMap,List.length_cons,List.length_nil] at hl
   have hv':∀ k∈r++(nodeAt t.ns p).kids,0≤k∧k < t.ns.length:=fun k hk=>by
    rcases List.mem_append.1 hk with hk | hk
    ·exact hv k (by simp[hk])
    ·have:=hr.node hp hk
     omega
   have hf':((r++(nodeAt t.ns p).kids).map fun n=>(postO t.ns n).length).sum≤f:=by
    simp only[List.map_append,List.sum_append,List.map_cons,List.map_nil,List.sum_cons,List.sum_nil] at hf ⊢
    omega
   rw[backGo_snoc,Int.toNat_natCast,back_post f _ _ hv' hf']
   rw[List.reverse_append,List.reverse_append,List.flatMap_append,List.flatMap_append,List.reverse_singleton,List.flatMap_singleton,he,List.reverse_append,List.append_assoc]
   congr 1
   rw[←List.append_assoc]
   congr 1
   simp[List.reverse_flatMap]
   rfl
theorem backOf_post {j:Nat} (hj:j < t.ns.length):(backOf t.ns j).reverse=postO t.ns j:=by
 unfold backOf
 have h1:=post_len hr j hj
 have h2:=sz_le (right_iff.2 hr) t.ns.length j hj (by omega)
 rw[back_post hr _ _ _ (fun k hk=>by simp only[List.mem_singleton] at hk;omega) (by simp;omega)]
 simp
def posn (rb:List Int) (k:Int):Int:=(rb.idxOf k:Nat)
def subN (ns:List Nd) (rb:List Int) (b:Int):Nd:=(nodeAt ns b.toNat).withKids ((nodeAt ns b.toNat).kids.map (posn rb))
omit hr in
theorem DiffL.idx {l:List Int} (h:DiffL l) {i:Nat} (hi:i < l.length):l.idxOf l[i]=i:=by
 have h1:=List.idxOf_lt_length_of_mem (List.getElem_mem hi)
 have h2:=List.getElem_idxOf h1
 have h3:=List.pairwise_iff_getElem.1 h
 rcases Nat.lt_trichotomy (l.idxOf l[i]) i with h4 | h4 | h4
 ·exact absurd h2 (h3 _ _ h1 hi h4)
 ·exact h4
 ·exact absurd h2.symm (h3 _ _ hi h1 h4)
omit hr in
theorem DiffL.nodup {l:List Int} (h:DiffL l) {i j:Nat} (hi:i < l.length) (hj:j < l.length) (e:l[i]=l[j]):i=j:=by
 rw[←h.idx hi,←h.idx hj,e]
omit hr in
theorem sub_fold {rb:List Int} (hd:DiffL rb) (hp:PreO t.ns rb) (hv:∀ k∈rb,0≤k∧k < t.ns.length):∀ i,i≤rb.length→∃ P:List Int,(rb.take i).foldl (subStep t.ns) (List.replicate t.ns.length 0,[])=(P,(rb.take i).map (subN t.ns rb))∧P.length=t.ns.length∧∀ q (h:q < rb.length),q < i→P.getD rb[q].toNat 0=(q:Int)
 | 0,_=>⟨List.replicate t.ns.length 0,rfl,by simp,fun q h hq=>by omega⟩
 | i+1,hi=>by
  obtain⟨P,h1,h2,h3⟩:=sub_fold hd hp hv i (by omega)
  have hil:i < rb.length:=by omega
  have hvi:=hv _ (List.getElem_mem hil)
  have key:∀ q (h:q < rb.length),q < i+1→(P.set rb[i].toNat (i:Nat)).getD rb[q].toNat 0=(q:Int):=fun q h hq=>by
   have hvq:=hv _ (List.getElem_mem h)
   by_cases e:q=i
   ·subst e
    simp[List.getD_eq_getElem?_getD,List.getElem?_set,show rb[q].toNat < P.length by omega]
   ·have hne:rb[i].toNat≠rb[q].toNat:=fun e'=>e (hd.nodup h hil (by omega))
    have:=h3 q h (by omega)
    simp only[List.getD_eq_getElem?_getD,List.getElem?_set] at this ⊢
    rw[if_neg hne]
    exact this
  refine⟨P.set rb[i].toNat (i:Nat),?_,by simpa using h2,key⟩
  rw[List.take_succ_eq_append_getElem hil,List.foldl_append,h1,List.map_append]
  simp only[List.foldl_cons,List.foldl_nil,subStep,List.length_map,List.length_take,Nat.min_eq_left (Nat.le_of_lt hil),List.map_cons,List.map_nil]
  have:subN t.ns rb rb[i]=(nodeAt t.ns rb[i].toNat).withKids ((nodeAt t.ns rb[i].toNat).kids.map fun k=>(P.set rb[i].toNat (i:Nat)).getD k.toNat 0):=by
   unfold subN
   congr 1
   refine List.map_congr_left fun k hk=>?_
   have hm:=hp i hil k hk
   obtain⟨q,hq,e⟩:=List.getElem_of_mem hm
   rw[List.length_take] at hq
   rw[List.getElem_take] at e
   rw[←e,key q (by omega) (by omega)]
   unfold posn
   rw[hd.idx]
  rw[this]
theorem subC_eq {j:Nat} (hj:j < t.ns.length):subC t.ns j=(postO t.ns j).map (subN t.ns (postO t.ns j)):=by
 obtain⟨P,h1,-,-⟩:=sub_fold (post_diff hr j hj) (post_pre hr j hj) (fun k hk=>by have:=(post_mem hr j hj k hk).1;omega) (postO t.ns j).length (Nat.le_refl _)
 rw[List.take_length] at h1
 unfold subC
 rw[backOf_post hr hj,h1]
theorem sub_right {j:Nat} (hj:j < t.ns.length):Right (trOf (subC t.ns j)):=by
 have hd:=post_diff hr j hj
 have hp:=post_pre hr j hj
 have hm:=post_mem hr j hj
 have hla:=post_last hr hj
 rw[subC_eq hr hj]
 generalize postO t.ns j=rb at *
 have hlen:0 < rb.length:=by
  cases rb with
  | nil=>simp at hla
  | cons a l=>simp
 have hlast:rb[rb.length - 1]=(j:Int):=by
  rw[List.getLast?_eq_getElem?,List.getElem?_eq_getElem (by omega)] at hla
  exact Option.some.inj hla
 have hn:∀ i (h:i < rb.length),rb[i].toNat < t.ns.length:=fun i h=>by have:=(hm _ (List.getElem_mem h)).1;omega
 have hpos:∀ i (h:i < rb.length),∀ k∈(nodeAt t.ns rb[i].toNat).kids,k∈rb∧rb.idxOf k < i:=fun i h k hk=>by
  have:=hp i h k hk
  refine⟨List.mem_of_mem_take this,?_⟩
  obtain⟨q,hq,e⟩:=List.getElem_of_mem this
  rw[List.length_take] at hq
  rw[List.getElem_take] at e
  rw[←e,hd.idx]
  omega
 have hinj:∀ a∈rb,∀ b∈rb,posn rb a=posn rb b→a=b:=fun a ha b hb e=>by
  unfold posn at e
  have e':rb.idxOf a=rb.idxOf b:=by omega
  rw[←List.getElem_idxOf (List.idxOf_lt_length_of_mem ha),←List.getElem_idxOf (List.idxOf_lt_length_of_mem hb)]
  simp only[e']
 have hall:allKids (rb.map (subN t.ns rb))=rb.flatMap fun b=>(nodeAt t.ns b.toNat).kids.map (posn rb):=by
  unfold allKids
  rw[List.flatMap_map]
  rfl
 have hin:∀ b∈rb,∀ k∈(nodeAt t.ns b.toNat).kids,k∈rb:=fun b hb k hk=>by
  obtain⟨i,hi,rfl⟩:=List.getElem_of_mem hb
  exact(hpos i hi k hk).1
 refine⟨by simp[trOf];omega,fun i hi=>?_,fun i hi k hk=>?_,?_,fun i hi=>?_⟩
 ·have hi':i < rb.length:=by simpa[trOf] using hi
  have hf:=hr.fits _ (hn i hi')
  rw[←nodeAt_eq (hn i hi')] at hf
  simp only[trOf,List.getElem_map]
  have e:(subN t.ns rb rb[i]).kids.length=(nodeAt t.ns rb[i].toNat).kids.length:=by
   show ((nodeAt t.ns rb[i].toNat).kids.map (posn rb)).length=_
   rw[List.length_map]
  rw[e]
  exact hf
 ·have hi':i < rb.length:=by simpa[trOf] using hi
  simp only[trOf,List.getElem_map] at hk
  obtain⟨q,hq,rfl⟩:=List.mem_map.1 hk
  have:=(hpos i hi' q hq).2
  unfold posn
  omega
 ·show DiffL (allKids (rb.map (subN t.ns rb)))
  rw[hall]
  refine List.pairwise_flatMap.2 ⟨fun b hb=>?_,?_⟩
  ·have hb':=(hm b hb).1
   refine List.pairwise_map.2 ((hr.kdiff (j:=b.toNat) (by omega)).imp_of_mem ?_)
   intro x y hx hy hne e
   exact hne (hinj x (hin b hb x hx) y (hin b hb y hy) e)
  ·refine hd.imp_of_mem ?_
   intro a b ha hb hne x hx y hy e
   obtain⟨p,hp',rfl⟩:=List.mem_map.1 hx
   obtain⟨q,hq',rfl⟩:=List.mem_map.1 hy
   have e1:=hinj p (hin a ha p hp') q (hin b hb q hq') e
   subst e1
   have ha':=(hm a ha).1
   have hb':=(hm b hb).1
   exact hr.two (i:=a.toNat) (j:=b.toNat) (by omega) (by omega) (by omega) hp' hq'
 ·have hi':i < rb.length:=by simpa[trOf] using hi
  show (i:Int)∈allKids (rb.map (subN t.ns rb)) ↔ (i:Int)≠((rb.map (subN t.ns rb)).length:Int) - 1
  rw[hall,List.length_map]
  constructor
  ·intro h e
   obtain⟨b,hb,h⟩:=List.mem_flatMap.1 h
   obtain⟨k,hk,e2⟩:=List.mem_map.1 h
   have hkr:=hin b hb k hk
   have e3:k=rb[i]:=by
    rw[←List.getElem_idxOf (List.idxOf_lt_length_of_mem hkr)]
    unfold posn at e2
    have:rb.idxOf k=i:=by omega
    simp only[this]
   have e4:i=rb.length - 1:=by omega
   subst e4
   rw[hlast] at e3
   have hb':=(hm b hb).1
   have:=hr.node (j:=b.toNat) (by omega) hk
   omega
  ·intro h
   obtain⟨hb,hc⟩:=hm _ (List.getElem_mem hi')
   rcases hc with e | ⟨y,hy,hyl,hyk⟩
   ·have:=hd.nodup hi' (show rb.length - 1 < rb.length by omega) (e.trans hlast.symm)
    omega
   ·refine List.mem_flatMap.2 ⟨y,hy,List.mem_map.2 ⟨rb[i],by simpa using hyk,?_⟩⟩
    unfold posn
    rw[hd.idx]
theorem sub_tab {α:Type} {z:α} {F:Nd→List α→α} (hF:∀ d l,F (d.withKids l)=F d) {j:Nat} (hj:j < t.ns.length):tabOf z (fun d g=>F d (d.kids.map g)) (subC t.ns j) ((subC t.ns j).length - 1:Int)=tabOf z (fun d g=>F d (d.kids.map g)) t.ns j:=by
 have hR:=sub_right hr hj
 have hd:=post_diff hr j hj
 have hp:=post_pre hr j hj
 have hm:=post_mem hr j hj
 have hla:=post_last hr hj
 rw[subC_eq hr hj] at hR ⊢
 generalize postO t.ns j=rb at *
 have hlen:0 < rb.length:=by
  cases rb with
  | nil=>simp at hla
  | cons a l=>simp
 have hlast:rb[rb.length - 1]=(j:Int):=by
  rw[List.getLast?_eq_getElem?,List.getElem?_eq_getElem (by omega)] at hla
  exact Option.some.inj hla
 have hcong:∀ (d:Nd) (g g':Int→α),(∀ k∈d.kids,g k=g' k)→F d (d.kids.map g)=F d (d.kids.map g'):=fun d g g' h=>by rw[List.map_congr_left h]
 have key:∀ i (h:i < rb.length),tabOf z (fun d g=>F d (d.kids.map g)) (rb.map (subN t.ns rb)) i=tabOf z (fun d g=>F d (d.kids.map g)) t.ns rb[i]:=by
  intro i
  induction i using Nat.strongRecOn with
  | _ i ih=>
   intro h
   have hb:=(hm _ (List.getElem_mem h)).1
   have e1:=tabOf_eq (z:=z) (f:=fun d g=>F d (d.kids.map g)) hcong (right_iff.2 hR) (j:=i) (by simpa[trOf] using h)
   have e2:=tabOf_eq (z:=z) (f:=fun d g=>F d (d.kids.map g)) hcong (right_iff.2 hr) (j:=rb[i].toNat) (by omega)
   have e3:((rb[i].toNat:Nat):Int)=rb[i]:=by omega
   rw[e3] at e2
   rw[e2,←nodeAt_eq (show rb[i].toNat < t.ns.length by omega)]
   refine e1.trans ?_
   simp only[trOf,List.getElem_map]
   show F (subN t.ns rb rb[i]) (((nodeAt t.ns rb[i].toNat).kids.map (posn rb)).map _)=_
   unfold subN
   rw[hF,List.map_map]
   congr 1
   refine List.map_congr_left fun k hk=>?_
   have hm':=hp i h k hk
   obtain⟨q,hq,e⟩:=List.getElem_of_mem hm'
   rw[List.length_take] at hq
   rw[List.getElem_take] at e
   have:=ih q (by omega) (by omega)
   simp only[Function.comp]
   rw[←e]
   unfold posn
   rw[hd.idx]
   exact this
 rw[List.length_map]
 have:=key (rb.length - 1) (by omega)
 rw[hlast] at this
 rw[←this]
 congr 1
 omega
end
end Go.V
namespace Go.V
open Go
structure FR2 (x:Fl) (k:Fi):Prop where
 z:x.z=true→k.f=true
 s:x.s=true→k.w≠.zero
theorem FR2.none (k:Fi):FR2 fl0 k:=⟨fun h=>(by cases h),fun h=>(by cases h)⟩
inductive FR2s:List Fl→List Fi→Prop
 | nil:FR2s [] []
 | cons {x k l m} (h:FR2 x k) (t:FR2s l m):FR2s (x::l) (k::m)
theorem FR2s.getD:∀ {l:List Fl} {m:List Fi},FR2s l m→∀ i,FR2 (l.getD i fl0) (m.getD i fi0)
 | _,_,.nil,i=>by simpa using FR2.none fi0
 | _,_,.cons h t,0=>h
 | _,_,.cons h t,i+1=>by simpa using t.getD i
theorem FR2s.len:∀ {l:List Fl} {m:List Fi},FR2s l m→l.length=m.length
 | _,_,.nil=>rfl
 | _,_,.cons h t=>by simp[t.len]
theorem FR2s.of:∀ {l:List Fl} {m:List Fi},l.length=m.length→(∀ i,i < l.length→FR2 (l.getD i fl0) (m.getD i fi0))→FR2s l m
 | [],[],_,_=>.nil
 | x::l,k::m,hl,h=>.cons (by simpa using h 0 (by simp)) (FR2s.of (by simpa using hl) fun i hi=>by simpa using h (i+1) (by simpa using hi))
theorem FR2s.head {l:List Fl} {m:List Fi} (h:FR2s l m):FR2 (l.headD fl0) (m.headD fi0):=by
 cases h with
 | nil=>exact FR2.none _
 | cons h t=>exact h
theorem FR2s.map {α:Type} {f:α→Fl} {g:α→Fi}:∀ {l:List α},(∀ x∈l,FR2 (f x) (g x))→FR2s (l.map f) (l.map g)
 | [],_=>.nil
 | x::l,h=>.cons (h x (.head _)) (FR2s.map fun y hy=>h y (.tail _ hy))
theorem nodesF_pre (pl:List (ByteArray×Int)) (fl:List Fl):∀ (ds:List Nd) (acc:List Fl),∃ r,nodesF pl fl ds acc=acc++r
 | [],acc=>⟨[],by simp[nodesF]⟩
 | d::ds,acc=>by
  obtain⟨r,h⟩:=nodesF_pre pl fl ds (acc++[comeFl d (kidsF pl fl acc d)])
  exact⟨_,by rw[nodesF,h,List.append_assoc]⟩
theorem nodesF_at (pl:List (ByteArray×Int)) (fl:List Fl) (d:Nd) (ds:List Nd) (acc:List Fl):(nodesF pl fl (d::ds) acc).getD acc.length fl0=comeFl d (kidsF pl fl acc d):=by
 obtain⟨r,h⟩:=nodesF_pre pl fl ds (acc++[comeFl d (kidsF pl fl acc d)])
 rw[nodesF,h]
 simp[List.getD_eq_getElem?_getD]
end Go.V
namespace Go.V
open Go
def pairF (pl:List (ByteArray×Int)) (F:List Fl) (l:List Fi) (d:Nd) (xs:List (Fl×Fi)):Fl×Fi:=
 (comeFl d (xs.map (·.1)++bif decide (d.k=3) then [F.getD ((lookM d.t pl).getD 0).toNat fl0] else []),
  comeFi d (comeFl d (xs.map (·.1)++bif decide (d.k=3) then [F.getD ((lookM d.t pl).getD 0).toNat fl0] else [])) (xs.map (·.2)++bif decide (d.k=3) then [l.getD ((lookM d.t pl).getD 0).toNat fi0] else []))
def pairAt (pl:List (ByteArray×Int)) (F:List Fl) (l:List Fi) (ns:List Nd) (j:Int):Fl×Fi:=tabOf (fl0,fi0) (fun d g=>pairF pl F l d (d.kids.map g)) ns j
theorem getD_fst (acc:List (Fl×Fi)) (i:Nat):(acc.getD i (fl0,fi0)).1=(acc.map (·.1)).getD i fl0:=by
 simp only[List.getD_eq_getElem?_getD,List.getElem?_map]
 cases acc[i]?<;>rfl
theorem getD_snd (acc:List (Fl×Fi)) (i:Nat):(acc.getD i (fl0,fi0)).2=(acc.map (·.2)).getD i fi0:=by
 simp only[List.getD_eq_getElem?_getD,List.getElem?_map]
 cases acc[i]?<;>rfl
theorem tab_pair (pl:List (ByteArray×Int)) (F:List Fl) (l:List Fi):∀ (ds:List Nd) (acc:List (Fl×Fi)),
  (tab (fl0,fi0) (fun d g=>pairF pl F l d (d.kids.map g)) ds acc).map (·.1)=nodesF pl F ds (acc.map (·.1)) ∧
  (tab (fl0,fi0) (fun d g=>pairF pl F l d (d.kids.map g)) ds acc).map (·.2)=nodesI pl l (nodesF pl F ds (acc.map (·.1))) ds (acc.map (·.2))
 | [],acc=>⟨rfl,rfl⟩
 | d::ds,acc=>by
  have e1:(pairF pl F l d (d.kids.map fun k=>acc.getD k.toNat (fl0,fi0))).1=comeFl d (kidsF pl F (acc.map (·.1)) d):=by
   unfold pairF kidsF
   simp only[List.map_map,Function.comp_def,getD_fst]
  have e2:(pairF pl F l d (d.kids.map fun k=>acc.getD k.toNat (fl0,fi0))).2=comeFi d (comeFl d (kidsF pl F (acc.map (·.1)) d)) (kidsI pl l (acc.map (·.2)) d):=by
   unfold pairF kidsF kidsI
   simp only[List.map_map,Function.comp_def,getD_fst,getD_snd]
  obtain⟨h1,h2⟩:=tab_pair pl F l ds (acc++[pairF pl F l d (d.kids.map fun k=>acc.getD k.toNat (fl0,fi0))])
  rw[List.map_append,List.map_append,List.map_cons,List.map_nil,List.map_cons,List.map_nil,e1,e2] at h2
  rw[List.map_append,List.map_cons,List.map_nil,e1] at h1
  have h3:=nodesF_at pl F d ds (acc.map (·.1))
  refine⟨by rw[tab,h1,nodesF],?_⟩
  rw[tab,h2,nodesI,List.length_map]
  rw[List.length_map] at h3
  rw[h3,nodesF]
theorem pair_at (pl:List (ByteArray×Int)) (F:List Fl) (l:List Fi) (ns:List Nd) (j:Int):pairAt pl F l ns j=((nodesF pl F ns []).getD j.toNat fl0,(nodesI pl l (nodesF pl F ns []) ns []).getD j.toNat fi0):=by
 have h:=tab_pair pl F l ns []
 unfold pairAt tabOf
 refine Prod.ext ?_ ?_
 ·rw[getD_fst,h.1]
  rfl
 ·rw[getD_snd,h.2]
  rfl
theorem pairF_kids (pl:List (ByteArray×Int)) (F:List Fl) (l:List Fi) (d:Nd) (ks:List Int):pairF pl F l (d.withKids ks)=pairF pl F l d:=rfl
theorem pair_eq {pl:List (ByteArray×Int)} {F:List Fl} {l:List Fi} {t:Tr} (hr:right t=true) {j:Nat} (hj:j < t.ns.length):pairAt pl F l t.ns j=pairF pl F l t.ns[j] (t.ns[j].kids.map (pairAt pl F l t.ns)):=
 tabOf_eq (fun d g g' h=>by rw[List.map_congr_left h]) hr hj
theorem pair_ct (pl:List (ByteArray×Int)) (F:List Fl) (l:List Fi) (ns:List Nd) (j:Int):pairAt pl F l (ns.map Nd.ct) j=pairAt pl F l ns j:=by
 unfold pairAt tabOf
 rw[tab_ct (f:=fun d g=>pairF pl F l d (d.kids.map g)) (g:=fun d g=>pairF pl F l d (d.kids.map g)) (fun d q=>rfl)]
structure SubAt (t:Tr) (k:Int) (t':Tr):Prop where
 ct:t'.ns.map Nd.ct=subC t.ns k
 root:t'.root=(t'.ns.length:Int) - 1
theorem subAt_right {t:Tr} (hr:right t=true) {j:Nat} (hj:j < t.ns.length) {t':Tr} (h:SubAt t j t'):right t'=true:=by
 have h1:=right_iff.2 (sub_right (right_iff.1 hr) hj)
 have hl:=congrArg List.length h.ct
 rw[List.length_map] at hl
 have h2:right t'.ct=right (trOf (subC t.ns j)):=by
  unfold right Tr.ct trOf
  simp only[h.ct,h.root,hl]
 rw[right_ct] at h2
 rw[h2,h1]
theorem subAt_len {t:Tr} (hr:right t=true) {j:Nat} (hj:j < t.ns.length) {t':Tr} (h:SubAt t j t'):t'.ns.length=szOf t.ns j:=by
 have hl:=congrArg List.length h.ct
 rw[List.length_map,subC_eq (right_iff.1 hr) hj,List.length_map,post_len (right_iff.1 hr) j hj] at hl
 exact hl
theorem subAt_pair {pl:List (ByteArray×Int)} {F:List Fl} {l:List Fi} {t:Tr} (hr:right t=true) {j:Nat} (hj:j < t.ns.length) {t':Tr} (h:SubAt t j t'):pairAt pl F l t'.ns t'.root=pairAt pl F l t.ns j:=by
 have hl:=congrArg List.length h.ct
 rw[List.length_map] at hl
 rw[←pair_ct,h.ct,h.root,hl]
 exact sub_tab (right_iff.1 hr) (F:=pairF pl F l) (fun d ks=>pairF_kids pl F l d ks) hj
theorem subAt_node {t:Tr} (hr:right t=true) {j:Nat} (hj:j < t.ns.length) {t':Tr} (h:SubAt t j t'):∀ d∈t'.ns,∃ d0∈t.ns,∃ ks:List Int,d.ct=d0.withKids ks∧ks.length=d0.kids.length:=fun d hd=>by
 have h1:d.ct∈t'.ns.map Nd.ct:=List.mem_map.2 ⟨d,hd,rfl⟩
 rw[h.ct,subC_eq (right_iff.1 hr) hj] at h1
 obtain⟨b,hb,e⟩:=List.mem_map.1 h1
 have hm:=(post_mem (right_iff.1 hr) j hj b hb).1
 refine⟨t.ns[b.toNat]'(by omega),List.getElem_mem _,(t.ns[b.toNat]'(by omega)).kids.map (posn (postO t.ns j)),?_,List.length_map _⟩
 rw[←e,subN,nodeAt_eq (by omega)]
end Go.V
namespace Go.V
open Go Go.Proofs
theorem RRange_spec {I:GH} (b:UInt8):Spec Tryz.prog 119 [.int .u8 b.toNat,.int .u8 b.toNat] I [] fun v I' M'=>v=(byteW b).val∧I'=I∧M'=[]:=by
 have hbl:b.toNat < 256:=b.toNat_lt
 have hp:fromP (fun n=>decide (b.toNat≤n) && decide (n≤b.toNat)) 256=byteW b:=fromP_eq fun n hn=>by
  rw[has_byte b hn,Bool.eq_iff_iff]
  simp only[Bool.and_eq_true,decide_eq_true_eq]
  omega
 refine spec_of_V [] TryzEOK Tryz.func119 rfl rfl rfl ?_
 intro B h0
 refine LoopOb.inv (ι:=Nat) (fun i=>{ fl:=[(0,.val (.int .u8 b.toNat)),(1,.val (.int .u8 b.toNat)),(4,.ref 4 0),(5,.ref 5 0),(6,.val (.int .i64 i))],cl:=[(4,Ws.zero.cells),(5,(fromP (fun n=>decide (b.toNat≤n) && decide (n≤b.toNat)) i).cells)],gi:=I }) (fun i=>i≤256) (fun i=>256 - i) ?_ ?_
 ·exact⟨0,by simp,.refl,.cons .refl (.cons .refl (.cons .refl (.cons .refl (.cons .refl (.nil))))),.cons rfl (.cons rfl (.nil))⟩
 intro i hi
 refine CondOb.mk (fun h=>?_) (fun h=>?_)
 rotate_left
 ·have:i=256:=by have:¬ (i:Int) < 256:=of_decide_eq_false h;omega
  subst this
  refine⟨_,_,.refl,?_,rfl,rfl⟩
  rw[←hp]
  rfl
 have hlt:i < 256:=by have:(i:Int) < 256:=of_decide_eq_true h;omega
 have e8:=u8wr hlt
 have hb:(UInt8.ofNat i).toNat=i:=u8nat hlt
 refine ArithOb.mk (b.toNat:Int) (wr_eq rfl (by omega)) ?_
 refine GuardOb.mk (fun h1=>?_) (fun h1=>?_)
 ·have h1':decide (b.toNat≤i)=true:=by have:(b.toNat:Int)≤(i:Int):=of_decide_eq_true h1;exact decide_eq_true (by omega)
  refine ArithOb.mk (b.toNat:Int) (wr_eq rfl (by omega)) ?_
  refine CondOb.mk (fun h2=>?_) (fun h2=>?_)
  ·have h2':decide (i≤b.toNat)=true:=by have:(i:Int)≤(b.toNat:Int):=of_decide_eq_true h2;exact decide_eq_true (by omega)
   refine ArithOb.mk (i:Int) (by rw[e8,hb]) ?_
   have hw:=RWith_spec (I:=I) (fromP (fun n=>decide (b.toNat≤n) && decide (n≤b.toNat)) i) (UInt8.ofNat i)
   rw[hb] at hw
   refine CallOb.mk [] [] _ (.refl _) hw ?_
   rintro v I2 M2 - ⟨rfl,rfl,rfl⟩
   refine ArithOb.mk _ (next_wr (i:=i) (by omega)) ?_
   refine⟨i+1,⟨by omega,by omega⟩,.refl,.cons .refl (.cons .refl (.cons .refl (.cons .refl (.cons .refl (.nil))))),.cons rfl (.cons ?_ .nil)⟩
   have e:(decide (b.toNat≤i) && decide (i≤b.toNat))=true:=by rw[h1',h2'];rfl
   simp only[fromP,e,cond_true]
   rfl
  ·have h2':decide (i≤b.toNat)=false:=by have:¬ (i:Int)≤(b.toNat:Int):=of_decide_eq_false h2;exact decide_eq_false (by omega)
   refine ArithOb.mk _ (next_wr (i:=i) (by omega)) ?_
   refine⟨i+1,⟨by omega,by omega⟩,.refl,.cons .refl (.cons .refl (.cons .refl (.cons .refl (.cons .refl (.nil))))),.cons rfl (.cons ?_ .nil)⟩
   have e:(decide (b.toNat≤i) && decide (i≤b.toNat))=false:=by rw[h1',h2'];rfl
   simp only[fromP,e,cond_false]
   rfl
 ·have h1':decide (b.toNat≤i)=false:=by have:¬ (b.toNat:Int)≤(i:Int):=of_decide_eq_false h1;exact decide_eq_false (by omega)
  refine ArithOb.mk _ (next_wr (i:=i) (by omega)) ?_
  refine⟨i+1,⟨by omega,by omega⟩,.refl,.cons .refl (.cons .refl (.cons .refl (.cons .refl (.cons .refl (.nil))))),.cons rfl (.cons ?_ .nil)⟩
  have e:(decide (b.toNat≤i) && decide (i≤b.toNat))=false:=by rw[h1'];rfl
  simp only[fromP,e,cond_false]
  rfl
theorem RRight_fr {I:GH} {M0:List Blk} {t:Tr} (ht:t.ok I) {W:Nat} (hf:Fit t W) {r:Bool} (hr:right t=r):Spec Tryz.prog 121 [t.val] I M0 fun v I' M'=>v=.bool r∧I'=I∧M'=M0:=by
 refine Spec.weakK (Spec.frame (RRight_gen ht W hf.w hf.b)) ?_
 rintro v J M ⟨M',rfl,-,-,rfl,rfl,rfl⟩
 rw[hr]
 exact⟨rfl,rfl,rfl⟩
theorem RSub_fr {I:GH} {M0:List Blk} {t:Tr} (ht:t.ok I) (hr:right t=true) {W:Nat} (hf:Fit t W) {node:Nat} (hn:node < t.n):Spec Tryz.prog 80 [t.val,.int .i64 node] I M0 fun v I' M'=>(∀ b o,I b=some o→I' b=some o)∧M'=M0∧∃ t':Tr,v=.tuple #[t'.val,.bool true]∧t'.ok I'∧SubAt t node t':=by
 refine Spec.weakK (Spec.frame (RSub_gen ht hr W hf.w hf.b hf.n hn)) ?_
 rintro v J M ⟨M',rfl,-,-,h1,rfl,t',rfl,h2,h3,h4,-⟩
 exact⟨h1,rfl,t',rfl,h2,⟨h3,h4⟩⟩
theorem subAt_fit {I:GH} {t:Tr} (hr:right t=true) {W:Nat} (hf:Fit t W) (ht:t.ok I) {j:Nat} (hj:j < t.ns.length) {I':GH} {t':Tr} (h:SubAt t j t') (ht':t'.ok I'):Fit t' W:=by
 have hl:=subAt_len hr hj h
 have hs:=sz_le hr t.ns.length j hj (by omega)
 have hn:=ht.n
 have hn':=ht'.n
 have hle:t'.n≤t.n:=by omega
 refine⟨fun d hd=>?_,Nat.le_trans (Nat.mul_le_mul_right W hle) hf.b,Nat.le_trans hle hf.n⟩
 obtain⟨d0,h0,ks,e,hk⟩:=subAt_node hr hj h d hd
 have e2:d.kids=ks:=by have:=congrArg Nd.kids e;exact this
 have h1:=(ht'.ns d hd).kn
 have h2:=(ht.ns d0 h0).kn
 have h3:=hf.w d0 h0
 rw[e2] at h1
 omega
theorem subAt_named {pl:List (ByteArray×Int)} {t:Tr} (hr:right t=true) (hn:namedOk pl t.ns=true) {j:Nat} (hj:j < t.ns.length) {t':Tr} (h:SubAt t j t'):namedOk pl t'.ns=true:=by
 refine List.all_eq_true.2 fun d hd=>?_
 obtain⟨d0,h0,ks,e,hk⟩:=subAt_node hr hj h d hd
 have e1:d.k=d0.k:=by have:=congrArg Nd.k e;exact this
 have e2:d.t=d0.t:=by have:=congrArg Nd.t e;exact this
 rw[e1,e2]
 exact List.all_eq_true.1 hn d0 h0
theorem RRoot_spec {I:GH} {M0:List Blk} {t:Tr} (ht:t.ok I) (hr:right t=true) {W:Nat} (hf:Fit t W):Spec Tryz.prog 106 [t.val] I M0 fun v I' M'=>v=((nodeAt t.ns t.root.toNat).withKids []).val∧I'=I∧M'=M0:=by
 refine spec_of_V [] TryzEOK Tryz.func106 rfl rfl rfl ?_
 intro B h0
 have htn:=ht.n
 obtain⟨hr0,hr1⟩:=right_root hr
 obtain⟨r,hrr⟩:=Int.eq_ofNat_of_zero_le hr0
 have hrl:r < t.ns.length:=by omega
 obtain⟨ad,had,hrd⟩:=ht.rs.row Nd.cells_len (show r < t.n by omega) hrl
 have hna:nodeAt t.ns t.root.toNat=t.ns[r]:=by
  rw[hrr]
  exact nodeAt_eq hrl
 rw[hna]
 generalize t.ns[r]=d at hrd
 refine CallOb.whole _ (RRight_fr ht hf hr) ?_
 rintro v J N - ⟨rfl,hJ,hN⟩
 subst J
 subst N
 refine CondOb.mk (fun h=>absurd h (by simp)) (fun _=>?_)
 refine IdxOb.mk ad r had hrr (by omega) ?_
 refine LoadOb.mk _ (hrd _) ?_
 exact⟨_,_,.refl,rfl,rfl,rfl⟩
structure KidsInv (I:GH) (t:Tr) (d:Nd) (x:Nat×OS×List Tr×GH):Prop where
 i:x.1≤d.kn
 os:x.2.1.ok 2 (x.2.2.1.flatMap Tr.cells)
 len:x.2.2.1.length=x.1
 le:∀ b o,I b=some o→x.2.2.2 b=some o
 all:∀ q (h:q < x.2.2.1.length),(x.2.2.1[q]).ok x.2.2.2∧SubAt t (d.kids.getD q 0) x.2.2.1[q]
set_option maxRecDepth 100000 in
set_option maxHeartbeats 4000000 in
theorem RKids_spec {I:GH} {M0:List Blk} {t:Tr} (ht:t.ok I) (hr:right t=true) {W:Nat} (hf:Fit t W):Spec Tryz.prog 107 [t.val] I M0 fun v I' M'=>(∀ b o,I b=some o→I' b=some o)∧∃ (os:OS) (L:List Tr),os.ok 2 (L.flatMap Tr.cells)∧v=os.val∧M'=os.blk 43++M0 ∧
  L.length=(nodeAt t.ns t.root.toNat).kids.length∧∀ q (h:q < L.length),(L[q]).ok I'∧SubAt t ((nodeAt t.ns t.root.toNat).kids.getD q 0) L[q]:=by
 refine spec_of_V [] TryzEOK Tryz.func107 rfl rfl rfl ?_
 intro B h0
 have htn:=ht.n
 obtain⟨hr0,hr1⟩:=right_root hr
 obtain⟨r,hrr⟩:=Int.eq_ofNat_of_zero_le hr0
 have hrl:r < t.ns.length:=by omega
 obtain⟨ad,had,hrd⟩:=ht.rs.row Nd.cells_len (show r < t.n by omega) hrl
 have hna:nodeAt t.ns t.root.toNat=t.ns[r]:=by
  rw[hrr]
  exact nodeAt_eq hrl
 have hdm:=List.getElem_mem hrl
 have hd:=ht.ns _ hdm
 have hkw:=hf.w _ hdm
 have hkv:=right_kids hr r hrl
 have hKW:t.ns[r].kids.length≤t.ns.length:=by
  have h1:=szOf_eq hr hrl
  have h2:=sz_le hr t.ns.length r hrl (by omega)
  have h3:t.ns[r].kids.length≤sumOf (szOf t.ns) t.ns[r].kids:=len_le_sum hr fun k hk=>by
   have:=hkv k hk
   omega
  omega
 rw[hna]
 generalize t.ns[r]=d at hrd hd hkw hkv hKW
 have hkn:=hd.kn
 have hkc:=hd.rs.cap
 have hfn:=hf.n
 refine CallOb.whole _ (RRight_fr ht hf hr) ?_
 rintro v J N - ⟨rfl,hJ,hN⟩
 subst J
 subst N
 refine CondOb.mk (fun h=>absurd h (by simp)) (fun _=>?_)
 refine IdxOb.mk ad r had hrr (by omega) ?_
 refine LoadOb.mk _ ((hrd _).part (k:=8) (m:=1) (by decide)) ?_
 refine LoopOb.inv (ι:=Nat×OS×List Tr×GH) (fun x=>{ fl:=[(1,.ref 1 0),(3,.val x.2.1.val),(4,.val (.slice d.ka d.kn d.kc)),(5,.val (.int .i64 x.1))],cl:=[(1,t.cells)],gi:=x.2.2.2,mi:=x.2.1.blk 43++M0 }) (KidsInv I t d) (fun x=>d.kn - x.1) ?_ ?_
 ·exact⟨(0,OS0,[],I),⟨Nat.zero_le _,OS0_ok 2,rfl,fun _ _ h=>h,fun q h=>absurd h (Nat.not_lt_zero _)⟩,.refl,.cons .refl (.cons .refl (.cons .refl (.cons .refl (.nil)))),.cons rfl (.nil)⟩
 rintro⟨i,os,L,K⟩ ⟨hi,hos,hL,hK,hall⟩
 simp only at hi hos hL hK hall
 have hosn:os.n=i:=by
  have:=hos.len
  rw[flat_len Tr.cells 2 (fun _=>rfl)] at this
  omega
 refine CondOb.mk (fun h=>?_) (fun h=>?_)
 rotate_left
 ·have hge:i=d.kn:=by have:¬ (i:Int) < (d.kn:Int):=of_decide_eq_false h;omega
  exact⟨_,_,.refl,hK,os,L,hos,rfl,rfl,by omega,hall⟩
 have hlt:i < d.kn:=by have:(i:Int) < (d.kn:Int):=of_decide_eq_true h;omega
 have hil:i < d.kids.length:=by omega
 obtain⟨ak,hak,hrk⟩:=(hd.rs.mono hK).one hlt hil
 have hq:=hkv _ (List.getElem_mem hil)
 have hgd:d.kids.getD i 0=d.kids[i]:=by simp[List.getD_eq_getElem?_getD,hil]
 generalize d.kids[i]=kv at hrk hq hgd
 obtain⟨q,rfl⟩:=Int.eq_ofNat_of_zero_le hq.1
 have hsub:∀ {M:List Blk},Spec Tryz.prog 80 [t.val,.int .i64 q] K M fun v I' M'=>(∀ b o,K b=some o→I' b=some o)∧M'=M∧∃ t':Tr,v=.tuple #[t'.val,.bool true]∧t'.ok I'∧SubAt t q t':=fun {M}=>RSub_fr (ht.mono hK) hr hf (by omega)
 refine CodeOb.drawC TryzEOK rfl rfl rfl (ι:=Nat×GH×Tr) (fun s=>{ fl:=[(1,.ref 1 0),(3,.val os.val),(4,.val (.slice d.ka d.kn d.kc)),(5,.val (.int .i64 i)),(6,.val (ptr s.1))],cl:=[(1,t.cells)],gi:=s.2.1,mi:=⟨s.1,.cells s.2.2.cells.toArray 43 (0,0)⟩::(os.blk 43++M0) }) (fun s=>(∀ b o,K b=some o→s.2.1 b=some o)∧s.2.2.ok s.2.1∧SubAt t q s.2.2) ?_ ?_
 ·refine IdxOb.mk ak i hak rfl hlt ?_
  refine LoadOb.mk _ (hrk _) ?_
  refine⟨?_,?_⟩
  ·refine CallOb.whole _ hsub ?_
   rintro v K2 M2 - ⟨hK2,rfl,t',rfl,h1,h2⟩
   refine AllocOb.mk fun s hs hsM=>?_
   refine StoreOb.to [] _ _ _ rfl rfl rfl rfl t'.cells rfl ?_
   exact⟨(s,K2,t'),⟨hK2,h1,h2⟩,.refl,.cons .refl (.cons .refl (.cons .refl (.cons .refl (.cons .refl (.nil))))),.cons rfl (.nil)⟩
  ·refine AllocOb.mk fun s hs hsM=>?_
   refine PCallOb.whole _ hsub (fun v I' M' h x hx=>by rw[h.2.1];exact hx) ?_
   rintro v K2 M2 - ⟨hK2,rfl,t',rfl,h1,h2⟩
   refine StoreOb.to [] _ _ _ rfl rfl rfl rfl t'.cells rfl ?_
   exact⟨(s,K2,t'),⟨hK2,h1,h2⟩,.refl,.cons .refl (.cons .refl (.cons .refl (.cons .refl (.cons .refl (.nil))))),.cons rfl (.nil)⟩
 rintro⟨s6,K2,t'⟩ ⟨hK2,h1,h2⟩
 simp only at hK2 h1 h2
 refine LoadOb.mk t'.cells ⟨rfl,_,_,_,.inr ⟨_,.head _,rfl,rfl⟩,rfl,rfl⟩ ?_
 refine AllocOb.mk fun b9 hb9 hbM9=>?_
 refine OtherOb.app1 TryzEOK rfl (by simp) (e:=43) rfl rfl rfl os hos rfl (cs:=t'.cells) rfl rfl rfl [⟨s6,.cells t'.cells.toArray 43 (0,0)⟩] M0 rfl (by omega) (by show (os.n+1) * 32≤_;omega) ?_
 intro os2 hn2 hI2 hok2
 refine ArithOb.mk _ (next_wr (i:=i) (by omega)) ?_
 refine⟨(i+1,os2,L++[t'],K2),⟨⟨hlt,?_,by simp[hL],fun b o h=>hK2 _ _ (hK _ _ h),fun p hp=>?_⟩,by simp only;omega⟩,.sub (.cons _ (.refl _)) .refl,.cons .refl (.cons .refl (.cons .refl (.cons .refl (.nil)))),.cons rfl (.nil)⟩
 ·simp only
  rw[List.flatMap_append]
  simpa using hok2
 ·simp only at hp ⊢
  by_cases e:p < L.length
  ·rw[List.getElem_append_left e]
   obtain⟨g1,g2⟩:=hall p e
   exact⟨g1.mono hK2,g2⟩
  ·have hp':p=L.length:=by simp at hp;omega
   subst hp'
   rw[List.getElem_concat_length rfl,hL,hgd]
   exact⟨h1,h2⟩
end Go.V
namespace Go.V
open Go Go.Proofs
section
variable {X:Ctx} {F:Fr} {C:Bx} {I:GH} {M:List Blk} {o:Oper} {K:KS}
end
theorem eqE_firstR (a0 a1 a2 a3 b0 b1 b2 b3:Int) (f g:Bool):eqT Tryz.prog TryzE 8 70 (.a [.i .u64 a0,.i .u64 a1,.i .u64 a2,.i .u64 a3,.b f]) (.a [.i .u64 b0,.i .u64 b1,.i .u64 b2,.i .u64 b3,.b g])=some (eqI a0 b0 && (eqI a1 b1 && (eqI a2 b2 && (eqI a3 b3 && (f == g))))):=by
 obtain⟨i67,h67,hs67⟩:∃ i,TryzE 70=some i∧i.sh=.struct [(65,0),(4,4)]:=⟨_,rfl,rfl⟩
 obtain⟨i65,h65,hs65,hz65⟩:∃ i,TryzE 65=some i∧i.sh=.array 4 63∧i.size=4:=⟨_,rfl,rfl,rfl⟩
 obtain⟨i63,h63,hs63,hz63⟩:∃ i,TryzE 63=some i∧i.sh=.int .u64∧i.size=1:=⟨_,rfl,rfl,rfl⟩
 obtain⟨i4,h4,hs4,hz4⟩:∃ i,TryzE 4=some i∧i.sh=.bool∧i.size=1:=⟨_,rfl,rfl,rfl⟩
 have hp:plainT Tryz.prog 70=true:=by kernel_rfl
 have hr:List.range 4=[0,1,2,3]:=rfl
 have hq:∀ k a b,eqT Tryz.prog TryzE (k+1) 63 (.i .u64 a) (.i .u64 b)=some (eqI a b):=fun k a b=>by
  simp only[eqT,h63,opn_s,hs63]
  rfl
 have hb:∀ k a b,eqT Tryz.prog TryzE (k+1) 4 (.b a) (.b b)=some (a == b):=fun k a b=>by
  simp only[eqT,h4,opn_s,hs4]
 have hset:∀ k,eqT Tryz.prog TryzE (k+2) 65 (.a [.i .u64 a0,.i .u64 a1,.i .u64 a2,.i .u64 a3]) (.a [.i .u64 b0,.i .u64 b1,.i .u64 b2,.i .u64 b3])=some (eqI a0 b0 && (eqI a1 b1 && (eqI a2 b2 && eqI a3 b3))):=fun k=>by
  rw[eqT]
  simp only[h65,opn_s,hs65,h63,hz63,hr,List.map_cons,List.map_nil]
  have p0:∀ c0 c1 c2 c3,partE TryzE 63 (0 * 1) [.i .u64 c0,.i .u64 c1,.i .u64 c2,.i .u64 c3]=some (.i .u64 c0):=fun _ _ _ _=>rfl
  have p1:∀ c0 c1 c2 c3,partE TryzE 63 (1 * 1) [.i .u64 c0,.i .u64 c1,.i .u64 c2,.i .u64 c3]=some (.i .u64 c1):=fun _ _ _ _=>rfl
  have p2:∀ c0 c1 c2 c3,partE TryzE 63 (2 * 1) [.i .u64 c0,.i .u64 c1,.i .u64 c2,.i .u64 c3]=some (.i .u64 c2):=fun _ _ _ _=>rfl
  have p3:∀ c0 c1 c2 c3,partE TryzE 63 (3 * 1) [.i .u64 c0,.i .u64 c1,.i .u64 c2,.i .u64 c3]=some (.i .u64 c3):=fun _ _ _ _=>rfl
  simp only[eqPl,p0,p1,p2,p3,opn_s,hq,cnd_eq]
  cases eqI a0 b0<;>cases eqI a1 b1<;>cases eqI a2 b2<;>cases eqI a3 b3<;>rfl
 rw[eqT]
 simp only[h67,opn_s,hs67,hp]
 have p0:∀ c0 c1 c2 c3 c4,partE TryzE 65 0 [.i .u64 c0,.i .u64 c1,.i .u64 c2,.i .u64 c3,c4]=some (.a [.i .u64 c0,.i .u64 c1,.i .u64 c2,.i .u64 c3]):=fun _ _ _ _ _=>rfl
 have p1:∀ c0 c1 c2 c3 c4,partE TryzE 4 4 [.i .u64 c0,.i .u64 c1,.i .u64 c2,.i .u64 c3,c4]=some c4:=fun _ _ _ _ _=>rfl
 simp only[eqPl,p0,p1,opn_s,hset,hb,cnd_eq]
 cases eqI a0 b0<;>cases eqI a1 b1<;>cases eqI a2 b2<;>cases eqI a3 b3<;>cases f<;>cases g<;>rfl
theorem BinOb.neIR {x y:Operand} {p q:Fi} {V:Value→Prop} {other:Prop} (h:V (.bool (!decide (p=q)))) :
  BinOb Tryz.prog .neq 70 x y (.val (.agg #[.int .u64 p.w.a.toNat,.int .u64 p.w.b.toNat,.int .u64 p.w.c.toNat,.int .u64 p.w.d.toNat,.bool p.f])) (.val (.agg #[.int .u64 q.w.a.toNat,.int .u64 q.w.b.toNat,.int .u64 q.w.c.toNat,.int .u64 q.w.d.toNat,.bool q.f])) V other:=by
 refine b_agg_ok (X:=⟨Tryz.prog,TryzE,[],0,0,default,fun _=>none,[],none⟩) (D:=fun _=>none) (v:=.b (!decide (p=q))) TryzEOK ?_ (Fi.vrs _ p) (Fi.vrs _ q) (fun u hu=>by simp only[VR] at hu;rw[hu];exact h)
 show b_agg Tryz.prog TryzE .neq 70 _ _=_
 unfold b_agg
 rw[eqE_firstR,Fi.eqb,show Tryz.prog.eqGuardType Tryz.prog.depth 70=false by kernel_rfl]
 rfl
end Go.V
namespace Go.V
open Go Go.Proofs
theorem RSuc_spec {I:GH} {M:List Blk} (x:Fl):Spec Tryz.prog 201 [x.val] I M fun v I' M'=>v=.bool x.suc∧I'=I∧M'=M:=by
 obtain⟨a,b,c⟩:=x
 refine spec_of_V [] TryzEOK Tryz.func201 rfl rfl rfl ?_
 intro B h0
 refine GuardOb.mk (fun h=>?_) (fun h=>?_)
 ·exact⟨_,_,.refl,by rw[show a=false from h];rfl,rfl,rfl⟩
 ·exact⟨_,_,.refl,by rw[show a=true from h];rfl,rfl,rfl⟩
section
variable {I:GH} {M:List Blk} {d:Nd} {a:Option Addr} {n c:Nat} {ks:List Fl}
set_option maxHeartbeats 8000000 in
theorem rSeq_spec (hk:FsAt I M a n ks) (hn:n≤140737488355328):Spec Tryz.prog 199 [.slice a n c] I M fun v I' M'=>v=(seqFl ks).val∧I'=I∧M'=M:=by
 refine spec_of_V [] TryzEOK Tryz.func199 rfl rfl rfl ?_
 intro B h0'
 have hkn:=hk.n
 refine LoopOb.inv (ι:=Nat×(Bool×Bool)×Bool×Bool) (fun x=>{ fl:=[(0,.val (.slice a n c)),(2,.ref 2 0),(3,.ref 3 0),(4,.val (.bool x.2.2.1)),(5,.val (.bool x.2.2.2)),(6,.val (.int .i64 x.1))],cl:=[(2,fl0.cells),(3,[.bool x.2.1.1,.bool false,.bool x.2.1.2])],gi:=I,mi:=M })
  (fun x=>x.1≤n∧seqGo (ks.take x.1)=(⟨x.2.1.1,x.2.2.2,x.2.1.2⟩,x.2.2.1)) (fun x=>n - x.1) ?_ ?_
 ·exact⟨(0,(true,false),true,false),⟨Nat.zero_le _,rfl⟩,.refl,.cons .refl (.cons .refl (.cons .refl (.cons .lit (.cons .lit (.cons .refl .nil))))),.cons rfl (.cons rfl .nil)⟩
 rintro⟨i,⟨z,f⟩,al,so⟩ ⟨hi,hf⟩
 simp only at hi hf
 refine CondOb.mk (fun h=>?_) (fun h=>?_)
 rotate_left
 ·have hge:n≤i:=by have:=of_decide_eq_false h;omega
  rw[List.take_of_length_le (by omega)] at hf
  refine GuardOb.mk (fun h2=>?_) (fun h2=>?_)
  all_goals refine⟨_,_,.refl,fl_eq ?_ ?_ ?_,rfl,rfl⟩
  all_goals simp_all[seqFl]
 have hlt:i < n:=by have:=of_decide_eq_true h;omega
 obtain⟨ad,had,hrd⟩:=hk.rd i (by omega)
 have hst:∀ g:Fl×Bool,seqStep (⟨z,so,f⟩,al) (ks[i]'(by omega))=g→seqGo (ks.take (i+1))=g:=fun g hg=>by
  rw[List.take_succ_eq_append_getElem (by omega),seqGo_snoc,hf,hg]
 generalize ks[i]'(by omega)=k at hrd hst
 obtain⟨kz,kss,kf⟩:=k
 repeat' first
  | refine GuardOb.mk (fun h=>?_) (fun h=>?_)
  | refine CondOb.mk (fun h=>?_) (fun h=>?_)
  | refine IdxOb.mk ad i had rfl hlt ?_
  | refine LoadOb.mk _ hrd ?_
  | refine LoadOb.mk _ (hrd.part (k:=0) (m:=1) (by decide)) ?_
  | refine LoadOb.mk _ (hrd.part (k:=1) (m:=1) (by decide)) ?_
  | refine LoadOb.mk _ (hrd.part (k:=2) (m:=1) (by decide)) ?_
  |(refine CallOb.mk M [] _ perm_nil (RSuc_spec ⟨kz,kss,kf⟩) ?_;rintro v I' M' - ⟨rfl,rfl,rfl⟩;rw[List.append_nil])
 all_goals refine ArithOb.mk _ (next_wr (i:=i) (by omega)) ?_
 all_goals
  first
  |(exfalso;simp_all;done)
  |(refine⟨(i+1,((seqStep (⟨z,so,f⟩,al) ⟨kz,kss,kf⟩).1.z,(seqStep (⟨z,so,f⟩,al) ⟨kz,kss,kf⟩).1.f),(seqStep (⟨z,so,f⟩,al) ⟨kz,kss,kf⟩).2,(seqStep (⟨z,so,f⟩,al) ⟨kz,kss,kf⟩).1.s),⟨⟨by simp only;omega,hst _ rfl⟩,by simp only;omega⟩,.refl,.cons .refl (.cons .refl (.cons .refl (.cons ?_ (.cons ?_ (.cons .refl .nil))))),.cons rfl (.cons ?_ .nil)⟩
    all_goals clear hst hf hrd
    all_goals first
    |(refine sv_bool ?_;simp_all[seqStep];done)
    |(refine sv_lit ?_;simp_all[seqStep];done)
    |(refine congrArg some ?_;simp_all[seqStep]<;>rfl))
set_option maxHeartbeats 8000000 in
theorem rChoice_spec (hk:FsAt I M a n ks) (hn:n≤140737488355328):Spec Tryz.prog 200 [.slice a n c] I M fun v I' M'=>v=(chFl ks).val∧I'=I∧M'=M:=by
 refine spec_of_V [] TryzEOK Tryz.func200 rfl rfl rfl ?_
 intro B h0'
 have hkn:=hk.n
 refine LoopOb.inv (ι:=Nat×Fl) (fun x=>{ fl:=[(0,.val (.slice a n c)),(2,.ref 2 0),(3,.ref 3 0),(4,.val (.bool x.2.f)),(5,.val (.int .i64 x.1))],cl:=[(2,fl0.cells),(3,[.bool x.2.z,.bool x.2.s,.bool false])],gi:=I,mi:=M })
  (fun x=>x.1≤n∧(ks.take x.1).foldl chStep ⟨false,false,true⟩=x.2) (fun x=>n - x.1) ?_ ?_
 ·exact⟨(0,⟨false,false,true⟩),⟨Nat.zero_le _,rfl⟩,.refl,.cons .refl (.cons .refl (.cons .refl (.cons .lit (.cons .refl .nil)))),.cons rfl (.cons rfl .nil)⟩
 rintro⟨i,⟨z,s,f⟩⟩ ⟨hi,hf⟩
 simp only at hi hf
 refine CondOb.mk (fun h=>?_) (fun h=>?_)
 rotate_left
 ·have hge:n≤i:=by have:=of_decide_eq_false h;omega
  rw[List.take_of_length_le (by omega)] at hf
  refine⟨_,_,.refl,fl_eq ?_ ?_ ?_,rfl,rfl⟩
  all_goals rw[chFl,hf]
 have hlt:i < n:=by have:=of_decide_eq_true h;omega
 obtain⟨ad,had,hrd⟩:=hk.rd i (by omega)
 have hst:∀ g:Fl,chStep ⟨z,s,f⟩ (ks[i]'(by omega))=g→(ks.take (i+1)).foldl chStep ⟨false,false,true⟩=g:=fun g hg=>by
  rw[List.take_succ_eq_append_getElem (by omega),List.foldl_append,hf,←hg]
  rfl
 generalize ks[i]'(by omega)=k at hrd hst
 obtain⟨kz,kss,kf⟩:=k
 repeat' first
  | refine GuardOb.mk (fun h=>?_) (fun h=>?_)
  | refine CondOb.mk (fun h=>?_) (fun h=>?_)
  | refine IdxOb.mk ad i had rfl hlt ?_
  | refine LoadOb.mk _ (hrd.part (k:=0) (m:=1) (by decide)) ?_
  | refine LoadOb.mk _ (hrd.part (k:=1) (m:=1) (by decide)) ?_
  | refine LoadOb.mk _ (hrd.part (k:=2) (m:=1) (by decide)) ?_
 all_goals refine ArithOb.mk _ (next_wr (i:=i) (by omega)) ?_
 all_goals
  first
  |(exfalso;simp_all;done)
  |(refine⟨(i+1,chStep ⟨z,s,f⟩ ⟨kz,kss,kf⟩),⟨⟨by simp only;omega,hst _ rfl⟩,by simp only;omega⟩,.refl,.cons .refl (.cons .refl (.cons .refl (.cons ?_ (.cons .refl .nil)))),.cons rfl (.cons ?_ .nil)⟩
    all_goals clear hst hf hrd
    all_goals first
    |(refine sv_bool ?_;simp_all[chStep];done)
    |(refine sv_lit ?_;simp_all[chStep];done)
    |(refine congrArg some ?_;simp_all[chStep]<;>rfl))
def comeR (d:Nd) (ks:List Fl) (rule:Fl):Fl:=bif decide (d.k=3) then rule else comeFl d ks
set_option maxHeartbeats 8000000 in
theorem rNode_spec (hd:0≤d.k∧d.k < 10) (hk:FsAt I M a n ks) (hn:n≤140737488355328) (h6:6≤d.k→0 < n) (rule:Fl):Spec Tryz.prog 189 [d.val,.slice a n c,rule.val] I M fun v I' M'=>v=(comeR d ks rule).val∧I'=I∧M'=M:=by
 refine spec_of_V [] TryzEOK Tryz.func189 rfl rfl rfl ?_
 intro B h0'
 have hhd:=fun h0=>hk.head h0
 refine CondOb.mk (fun e=>?_) (fun e0=>?_)
 ·exact⟨_,_,.refl,by simp at e;simp[comeR,comeFl,e];rfl,rfl,rfl⟩
 refine CondOb.mk (fun e=>?_) (fun e1=>?_)
 ·refine BinOb.ne4 TryzEOK (e:=63) rfl rfl rfl rfl (by kernel_rfl) ?_
  exact⟨_,_,.refl,by rw[show comeR d ks rule=⟨false,!d.setZ,true⟩ by simp at e;simp[comeR,comeFl,e]];rfl,rfl,rfl⟩
 refine CondOb.mk (fun e=>?_) (fun e2=>?_)
 ·exact⟨_,_,.refl,by simp at e;simp[comeR,comeFl,e];rfl,rfl,rfl⟩
 refine CondOb.mk (fun e=>?_) (fun e3=>?_)
 ·exact⟨_,_,.refl,by simp at e;simp[comeR,comeFl,e];rfl,rfl,rfl⟩
 refine CondOb.mk (fun e=>?_) (fun e4=>?_)
 ·refine CallOb.mk M [] _ perm_nil (rSeq_spec hk hn) ?_
  rintro v I' M' - ⟨rfl,rfl,rfl⟩
  rw[List.append_nil]
  exact⟨_,_,.refl,by simp at e;simp[comeR,comeFl,e];rfl,rfl,rfl⟩
 refine CondOb.mk (fun e=>?_) (fun e5=>?_)
 ·refine CallOb.mk M [] _ perm_nil (rChoice_spec hk hn) ?_
  rintro v I' M' - ⟨rfl,rfl,rfl⟩
  rw[List.append_nil]
  exact⟨_,_,.refl,by simp at e;simp[comeR,comeFl,e];rfl,rfl,rfl⟩
 simp at e0 e1 e2 e3 e4 e5
 have h0:0 < n:=h6 (by omega)
 obtain⟨ad,had,hrd⟩:=hhd h0
 have hc0:∀ x:Fl,comeR d ks rule=x→comeR d ks rule=x:=fun _ h=>h
 refine CondOb.mk (fun e=>?_) (fun e6=>?_)
 ·have hce:comeR d ks rule=repFl d (ks.headD fl0):=by simp at e;simp[comeR,comeFl,e]
  rw[hce]
  generalize ks.headD fl0=k at hrd
  obtain⟨kz,kss,kf⟩:=k
  refine CondOb.mk (fun h=>?_) (fun h=>?_)
  ·refine⟨_,_,.refl,fl_eq ?_ ?_ ?_,rfl,rfl⟩<;>simp[repFl,h]
  refine CodeOb.draw TryzEOK rfl rfl rfl ?_
  repeat' first
   | refine GuardOb.mk (fun h=>?_) (fun h=>?_)
   | refine IdxOb.mk ad 0 had rfl h0 ?_
   | refine LoadOb.mk _ (hrd.part (k:=0) (m:=1) (by decide)) ?_
   | refine LoadOb.mk _ (hrd.part (k:=1) (m:=1) (by decide)) ?_
   | refine LoadOb.mk _ (hrd.part (k:=2) (m:=1) (by decide)) ?_
  all_goals refine⟨_,_,.refl,fl_eq ?_ ?_ ?_,rfl,rfl⟩
  all_goals first | (simp_all[repFl];done) | (simp_all[repFl];intros;omega)
 refine CondOb.mk (fun e=>?_) (fun e7=>?_)
 ·have hce:comeR d ks rule=⟨(ks.headD fl0).suc,false,(ks.headD fl0).f⟩:=by simp at e;simp[comeR,comeFl,e]
  rw[hce]
  refine CodeOb.draw TryzEOK rfl rfl rfl ?_
  refine IdxOb.mk ad 0 had rfl h0 ?_
  refine LoadOb.mk _ hrd ?_
  refine IdxOb.mk ad 0 had rfl h0 ?_
  refine LoadOb.mk _ (hrd.part (k:=2) (m:=1) (by decide)) ?_
  refine PCallOb.mkR M [] _ perm_nil (RSuc_spec (ks.headD fl0)) (fun v I' M' h x hx=>by rw[h.2.2];exact hx) ?_
  rintro v I' M' - ⟨rfl,rfl,rfl⟩
  rw[List.append_nil]
  exact⟨_,_,.refl,rfl,rfl,rfl⟩
 refine CondOb.mk (fun e=>?_) (fun e8=>?_)
 ·have hce:comeR d ks rule=⟨(ks.headD fl0).f,false,(ks.headD fl0).suc⟩:=by simp at e;simp[comeR,comeFl,e]
  rw[hce]
  refine CodeOb.draw TryzEOK rfl rfl rfl ?_
  refine IdxOb.mk ad 0 had rfl h0 ?_
  refine LoadOb.mk _ (hrd.part (k:=2) (m:=1) (by decide)) ?_
  refine IdxOb.mk ad 0 had rfl h0 ?_
  refine LoadOb.mk _ hrd ?_
  refine PCallOb.mkR M [] _ perm_nil (RSuc_spec (ks.headD fl0)) (fun v I' M' h x hx=>by rw[h.2.2];exact hx) ?_
  rintro v I' M' - ⟨rfl,rfl,rfl⟩
  rw[List.append_nil]
  exact⟨_,_,.refl,rfl,rfl,rfl⟩
 simp at e6 e7 e8
 have hce:comeR d ks rule=ks.headD fl0:=by simp[comeR,comeFl,e0,e1,e2,e3,e4,e5,e6,e7,e8]
 rw[hce]
 refine IdxOb.mk ad 0 had rfl h0 ?_
 refine LoadOb.mk _ hrd ?_
 exact⟨_,_,.refl,rfl,rfl,rfl⟩
end
end Go.V
namespace Go.V
open Go Go.Proofs
theorem hex_one:∀ n:Fin 16,(hexL.extract n.val (n.val+1)).data.toList=[hexd n.val]:=by decide +kernel
theorem Rhex_spec {I:GH} (n:Nat) (hn:n < 16):Spec Tryz.prog 239 [.int .i64 n] I [] fun v I' M'=>v=.string (strOf [hexd n])∧I'=I∧M'=[]:=by
 refine spec_of_V [] TryzEOK Tryz.func239 rfl rfl rfl ?_
 intro B h0
 refine ArithOb.mk ((n+1:Nat):Int) (by rw[wrap_i64 ⟨by omega,by omega⟩];omega) ?_
 refine SliceOb.mk n (n+1) rfl rfl (by omega) (by show _≤16;omega) ?_
 refine⟨_,_,.refl,?_,rfl,rfl⟩
 have:hexL.extract n (n+1)=strOf [hexd n]:=bytes_eq (hex_one ⟨n,hn⟩)
 rw[←this]
 rfl
def inB (c:UInt8) (s:ByteArray):Bool:=s.data.toList.any fun x=>decide (x.toNat=c.toNat)
theorem Rwithin_spec {I:GH} (c:UInt8) (s:ByteArray) (hs:s.size≤140737488355328):Spec Tryz.prog 240 [.int .u8 c.toNat,.string s] I [] fun v I' M'=>v=.bool (inB c s)∧I'=I∧M'=[]:=by
 refine spec_of_V [] TryzEOK Tryz.func240 rfl rfl rfl ?_
 intro B h0
 have hsl:s.data.toList.length=s.size:=rfl
 refine LoopOb.inv (ι:=Nat) (fun i=>{ fl:=[(0,.val (.int .u8 c.toNat)),(1,.val (.string s)),(5,.val (.int .i64 i))],gi:=I }) (fun i=>i≤s.size∧inB c s=(s.data.toList.drop i).any fun x=>decide (x.toNat=c.toNat)) (fun i=>s.size - i) ?_ ?_
 ·exact⟨0,⟨Nat.zero_le _,rfl⟩,.refl,.cons .refl (.cons .refl (.cons .refl .nil)),.nil⟩
 intro i ⟨hi,hin⟩
 refine CondOb.mk (fun h=>?_) (fun h=>?_)
 ·have hlt:i < s.size:=by simpa using h
  rw[List.drop_eq_getElem_cons (show i < s.data.toList.length from hlt),List.any_cons] at hin
  have hel:s.data.toList[i]'hlt=s[i]:=rfl
  rw[hel] at hin
  refine StrOb.mk i rfl hlt ?_
  refine CondOb.mk (fun h2=>?_) (fun h2=>?_)
  ·have e:decide (s[i].toNat=c.toNat)=true:=by simp at h2 ⊢;omega
   rw[e,Bool.true_or] at hin
   exact⟨_,_,.refl,congrArg Value.bool hin.symm,rfl,rfl⟩
  ·have e:decide (s[i].toNat=c.toNat)=false:=by simp at h2 ⊢;omega
   rw[e,Bool.false_or] at hin
   refine ArithOb.mk _ (next_wr (i:=i) (by omega)) ?_
   exact⟨i+1,⟨⟨by omega,hin⟩,by omega⟩,.refl,.cons .refl (.cons .refl (.cons .refl .nil)),.nil⟩
 ·have:i=s.size:=by simp at h;omega
  subst this
  rw[List.drop_of_length_le (by omega)] at hin
  exact⟨_,_,.refl,congrArg Value.bool hin.symm,rfl,rfl⟩
def signB (c:UInt8) (sp:ByteArray):List UInt8:=
 bif decide ((c.toNat:Int)=10) then [92,110] else
 bif decide ((c.toNat:Int)=13) then [92,114] else
 bif decide ((c.toNat:Int)=9) then [92,116] else
 bif decide ((c.toNat:Int) < 32) || decide (126 < (c.toNat:Int)) then [92,120,hexd (c.toNat / 16),hexd (c.toNat % 16)] else
 bif inB c sp then [92,c] else [c]
theorem RSign_spec {I:GH} (c:UInt8) (sp:ByteArray) (hs:sp.size≤140737488355328):Spec Tryz.prog 226 [.int .u8 c.toNat,.string sp] I [] fun v I' M'=>v=.string (strOf (signB c sp))∧I'=I∧M'=[]:=by
 refine spec_of_V [] TryzEOK Tryz.func226 rfl rfl rfl ?_
 intro B h0
 have hc:=c.toNat_lt
 refine CondOb.mk (fun h1=>?_) (fun h1=>?_)
 ·exact⟨_,_,.refl,by rw[signB,h1];rfl,rfl,rfl⟩
 refine CondOb.mk (fun h2=>?_) (fun h2=>?_)
 ·exact⟨_,_,.refl,by rw[signB,h1,h2];rfl,rfl,rfl⟩
 refine CondOb.mk (fun h3=>?_) (fun h3=>?_)
 ·exact⟨_,_,.refl,by rw[signB,h1,h2,h3];rfl,rfl,rfl⟩
 have hexp:(decide ((c.toNat:Int) < 32) || decide (126 < (c.toNat:Int)))=true→signB c sp=[92,120,hexd (c.toNat / 16),hexd (c.toNat % 16)]:=fun h=>by
  rw[signB,h1,h2,h3,h]
  rfl
 have hexn:(decide ((c.toNat:Int) < 32) || decide (126 < (c.toNat:Int)))=false→signB c sp=bif inB c sp then [92,c] else [c]:=fun h=>by
  rw[signB,h1,h2,h3,h]
  rfl
 refine GuardOb.mk (fun h4=>?_) (fun h4=>?_)
 ·refine CondOb.mk (fun h5=>?_) (fun h5=>?_)
  ·have hq:(decide ((c.toNat:Int) < 32) || decide (126 < (c.toNat:Int)))=true:=by rw[h4,h5];rfl
   refine ArithOb.mk (c.toNat:Int) (wrap_i64 ⟨by omega,by omega⟩) ?_
   refine DivOb.mk (by decide) ?_
   refine ArithOb.mk ((c.toNat / 16:Nat):Int) (wrap_i64 (x:=((c.toNat / 16:Nat):Int)) ⟨by omega,by omega⟩) ?_
   refine CallOb.mk [] [] _ (.refl _) (Rhex_spec (c.toNat / 16) (by omega)) ?_
   rintro v J N - ⟨rfl,hJ,rfl⟩
   subst J
   refine BinOb.concatL (a:=[92,120]) (by simp) ?_
   refine ArithOb.mk (c.toNat:Int) (wrap_i64 ⟨by omega,by omega⟩) ?_
   refine DivOb.mk (by decide) ?_
   refine CallOb.mk [] [] _ (.refl _) (Rhex_spec (c.toNat % 16) (by omega)) ?_
   rintro v J N - ⟨rfl,hJ,rfl⟩
   subst J
   refine BinOb.concatL (a:=[92,120,hexd (c.toNat / 16)]) (by simp) ?_
   exact⟨_,_,.refl,by rw[hexp hq];rfl,rfl,rfl⟩
  have hq:(decide ((c.toNat:Int) < 32) || decide (126 < (c.toNat:Int)))=false:=by rw[h4,h5];rfl
  refine CallOb.mk [] [] _ (.refl _) (Rwithin_spec c sp hs) ?_
  rintro v J N - ⟨rfl,hJ,rfl⟩
  subst J
  refine CondOb.mk (fun h6=>?_) (fun h6=>?_)
  ·refine AllocOb.mk fun b hb hbM=>?_
   refine OtherOb.bytesS TryzEOK rfl (by simp) rfl rfl rfl rfl rfl rfl (ad:=⟨b,0,none⟩) (n:=1) (l:=[c]) rfl rfl (blk_rd (b:=b) (cs:=[.int .u8 c.toNat]) (k:=0) (n:=1) (T:=5) (.head _) (by simp)) ?_
   refine BinOb.concatL (a:=[92]) (b:=[c]) (by simp) ?_
   exact⟨_,_,.sub (List.nil_sublist _) .refl,by rw[hexn hq,h6];rfl,rfl,rfl⟩
  ·refine AllocOb.mk fun b hb hbM=>?_
   refine OtherOb.bytesS TryzEOK rfl (by simp) rfl rfl rfl rfl rfl rfl (ad:=⟨b,0,none⟩) (n:=1) (l:=[c]) rfl rfl (blk_rd (b:=b) (cs:=[.int .u8 c.toNat]) (k:=0) (n:=1) (T:=5) (.head _) (by simp)) ?_
   exact⟨_,_,.sub (List.nil_sublist _) .refl,by rw[hexn hq,h6];rfl,rfl,rfl⟩
 ·have hq:(decide ((c.toNat:Int) < 32) || decide (126 < (c.toNat:Int)))=true:=by simp at h4;simp[h4]
  refine ArithOb.mk (c.toNat:Int) (wrap_i64 ⟨by omega,by omega⟩) ?_
  refine DivOb.mk (by decide) ?_
  refine ArithOb.mk ((c.toNat / 16:Nat):Int) (wrap_i64 (x:=((c.toNat / 16:Nat):Int)) ⟨by omega,by omega⟩) ?_
  refine CallOb.mk [] [] _ (.refl _) (Rhex_spec (c.toNat / 16) (by omega)) ?_
  rintro v J N - ⟨rfl,hJ,rfl⟩
  subst J
  refine BinOb.concatL (a:=[92,120]) (by simp) ?_
  refine ArithOb.mk (c.toNat:Int) (wrap_i64 ⟨by omega,by omega⟩) ?_
  refine DivOb.mk (by decide) ?_
  refine CallOb.mk [] [] _ (.refl _) (Rhex_spec (c.toNat % 16) (by omega)) ?_
  rintro v J N - ⟨rfl,hJ,rfl⟩
  subst J
  refine BinOb.concatL (a:=[92,120,hexd (c.toNat / 16)]) (by simp) ?_
  exact⟨_,_,.refl,by rw[hexp hq];rfl,rfl,rfl⟩
end Go.V
namespace Go.V
open Go Go.Proofs
def quoR:ByteArray:=⟨#[34,92]⟩
def clsR:ByteArray:=⟨#[93,45,94,92]⟩
theorem sign_put (c:UInt8):signB c quoR=putB c quoL∧signB c clsR=putB c clsL:=by
 have h:∀ n:Fin 256,signB (UInt8.ofNat n.val) quoR=putB (UInt8.ofNat n.val) quoL∧signB (UInt8.ofNat n.val) clsR=putB (UInt8.ofNat n.val) clsL:=by decide +kernel
 have:=h ⟨c.toNat,c.toNat_lt⟩
 simpa using this
theorem RLiteral_spec {I:GH} (s:ByteArray) (hs:s.size≤1099511627776):Spec Tryz.prog 210 [.string s] I [] fun r I' M'=>r=.string (strOf (litB s))∧I'=I∧M'=[]:=by
 refine spec_of_V [] TryzEOK Tryz.func210 rfl rfl rfl ?_
 intro B h0
 have hfl:∀ i,((s.data.toList.take i).flatMap (putB · quoL)).length≤4 * i:=fun i=>by
  have:=flat_le (putB · quoL) 4 (fun c=>putB_len c quoL) (s.data.toList.take i)
  have h2:=List.length_take_le i s.data.toList
  omega
 refine LoopOb.inv (ι:=Nat) (fun i=>{ fl:=[(0,.val (.string s)),(3,.val (.string (strOf ((s.data.toList.take i).flatMap (putB · quoL))))),(4,.val (.int .i64 i))],gi:=I }) (fun i=>i≤s.size) (fun i=>s.size - i) ?_ ?_
 ·exact⟨0,Nat.zero_le _,.refl,.cons .refl (.cons .refl (.cons .refl .nil)),.nil⟩
 intro i hi
 have hli:=hfl i
 refine CondOb.mk (fun h=>?_) (fun h=>?_)
 ·have hlt:i < s.size:=by simpa using h
  have hlt':i < s.data.toList.length:=hlt
  refine StrOb.mk i rfl hlt ?_
  have hsg:=RSign_spec (I:=I) s[i] quoR (by decide)
  rw[(sign_put s[i]).1] at hsg
  refine CallOb.mk [] [] _ (.refl _) hsg ?_
  rintro v J N - ⟨rfl,hJ,rfl⟩
  subst J
  have hpl:=putB_len s[i] quoL
  refine BinOb.concatL (by omega) ?_
  refine ArithOb.mk _ (next_wr (i:=i) (by omega)) ?_
  have e:(s.data.toList.take (i+1)).flatMap (putB · quoL)=(s.data.toList.take i).flatMap (putB · quoL)++putB s[i] quoL:=by
   rw[List.take_succ_eq_append_getElem hlt',List.flatMap_append]
   simp
   rfl
  refine⟨i+1,⟨hlt,by omega⟩,.refl,.cons .refl (.cons ?_ (.cons .refl .nil)),.nil⟩
  rw[e]
  exact .refl
 ·have:i=s.size:=by simp at h;omega
  subst this
  have e:s.data.toList.take s.size=s.data.toList:=List.take_of_length_le (Nat.le_refl _)
  refine BinOb.concatL (a:=[34]) (by simp only[List.length_cons,List.length_nil];omega) ?_
  refine BinOb.concatL (b:=[34]) (by simp only[List.length_append,List.length_cons,List.length_nil];omega) ?_
  exact⟨_,_,.refl,by rw[litB,e],rfl,rfl⟩
theorem RShow_spec {I:GH} (n:Nat) (hn:n < 100):Spec Tryz.prog 227 [.int .i64 n] I [] fun r I' M'=>r=.string (digS n)∧I'=I∧M'=[]:=by
 refine spec_of_V [] TryzEOK Tryz.func227 rfl rfl rfl ?_
 intro B h0
 refine ArithOb.mk (n:Int) (wrap_u64_id ⟨by omega,by omega⟩) ?_
 refine CondOb.mk (fun h=>by simp at h;omega) (fun _=>?_)
 refine LoopOb.inv (ι:=Bool) (fun x=>{ fl:=[(3,.val (.int .u64 ((bif x then n / 10 else n:Nat):Int))),(4,.val (.string (strOf []))),(5,.val (.string (strOf (bif x then [UInt8.ofNat (48+n % 10)] else []))))],gi:=I }) (fun x=>x=true→10≤n) (fun x=>bif x then 0 else 1) ?_ ?_
 ·exact⟨false,(fun h=>by cases h),.refl,.cons .refl (.cons .refl (.cons .refl .nil)),.nil⟩
 intro x hx
 cases x with
 | false=>
  refine CondOb.mk (fun h=>?_) (fun h=>?_)
  ·have h9:10≤n:=by simp at h;omega
   refine DivOb.mk (by decide) ?_
   refine ArithOb.mk ((48+n % 10:Nat):Int) (wrap_u64_id (x:=((48+n % 10:Nat):Int)) ⟨by omega,by omega⟩) ?_
   refine ArithOb.mk _ (u8wr (n:=48+n % 10) (by omega)) ?_
   refine AllocOb.mk fun b hb hbM=>?_
   refine OtherOb.bytesS TryzEOK rfl (by simp) rfl rfl rfl rfl rfl rfl (ad:=⟨b,0,none⟩) (n:=1) (l:=[UInt8.ofNat (48+n % 10)]) rfl rfl (blk_rd (b:=b) (cs:=[.int .u8 (UInt8.ofNat (48+n % 10)).toNat]) (k:=0) (n:=1) (T:=5) (.head _) (by simp)) ?_
   refine BinOb.concatL (a:=[UInt8.ofNat (48+n % 10)]) (b:=[]) (by simp) ?_
   refine DivOb.mk (by decide) ?_
   refine ArithOb.mk ((n / 10:Nat):Int) (wrap_u64_id (x:=((n / 10:Nat):Int)) ⟨by omega,by omega⟩) ?_
   exact⟨true,⟨fun _=>h9,by decide⟩,.sub (List.nil_sublist _) .refl,.cons .refl (.cons .refl (.cons .refl .nil)),.nil⟩
  ·have h9:n < 10:=by simp at h;omega
   refine ArithOb.mk ((48+n:Nat):Int) (wrap_u64_id (x:=((48+n:Nat):Int)) ⟨by omega,by omega⟩) ?_
   refine ArithOb.mk _ (u8wr (n:=48+n) (by omega)) ?_
   refine AllocOb.mk fun b hb hbM=>?_
   refine OtherOb.bytesS TryzEOK rfl (by simp) rfl rfl rfl rfl rfl rfl (ad:=⟨b,0,none⟩) (n:=1) (l:=[UInt8.ofNat (48+n)]) rfl rfl (blk_rd (b:=b) (cs:=[.int .u8 (UInt8.ofNat (48+n)).toNat]) (k:=0) (n:=1) (T:=5) (.head _) (by simp)) ?_
   refine BinOb.concatL (a:=[]) (b:=[UInt8.ofNat (48+n)]) (by simp) ?_
   refine BinOb.concatL (a:=[]++[UInt8.ofNat (48+n)]) (b:=[]) (by simp) ?_
   have e:dig n=[UInt8.ofNat (48+n)]:=by
    have:Nat.blt n 10=true:=by simp[Nat.blt_eq];omega
    rw[dig,this]
    rfl
   exact⟨_,_,.sub (List.nil_sublist _) .refl,by rw[digS,e];rfl,rfl,rfl⟩
 | true=>
  have h9:=hx rfl
  refine CondOb.mk (fun h=>?_) (fun h=>?_)
  ·simp at h
   omega
  refine ArithOb.mk ((48+n / 10:Nat):Int) (wrap_u64_id (x:=((48+n / 10:Nat):Int)) ⟨by omega,by omega⟩) ?_
  refine ArithOb.mk _ (u8wr (n:=48+n / 10) (by omega)) ?_
  refine AllocOb.mk fun b hb hbM=>?_
  refine OtherOb.bytesS TryzEOK rfl (by simp) rfl rfl rfl rfl rfl rfl (ad:=⟨b,0,none⟩) (n:=1) (l:=[UInt8.ofNat (48+n / 10)]) rfl rfl (blk_rd (b:=b) (cs:=[.int .u8 (UInt8.ofNat (48+n / 10)).toNat]) (k:=0) (n:=1) (T:=5) (.head _) (by simp)) ?_
  refine BinOb.concatL (a:=[]) (b:=[UInt8.ofNat (48+n / 10)]) (by simp) ?_
  refine BinOb.concatL (a:=[]++[UInt8.ofNat (48+n / 10)]) (b:=[UInt8.ofNat (48+n % 10)]) (by simp) ?_
  have e:dig n=[UInt8.ofNat (48+n / 10),UInt8.ofNat (48+n % 10)]:=by
   have:Nat.blt n 10=false:=by
    rw[Bool.eq_false_iff]
    simp[Nat.blt_eq]
    omega
   rw[dig,this]
   rfl
  exact⟨_,_,.sub (List.nil_sublist _) .refl,by rw[digS,e];rfl,rfl,rfl⟩
end Go.V
namespace Go.V
open Go Go.Proofs
def runR (p:UInt8×UInt8):List UInt8:=putB p.1 clsL++((bif decide ((p.1.toNat:Int)+1 < p.2.toNat) then [45] else [])++(bif decide ((p.1.toNat:Int) < p.2.toNat) then putB p.2 clsL else []))
def isAll (rs:List (UInt8×UInt8)):Bool:=match rs with
 | [p]=>((p.1.toNat:Int) == 0) && ((p.2.toNat:Int) == 255)
 | _=>false
def classR (rs:List (UInt8×UInt8)):List UInt8:=bif isAll rs then [46] else [91]++rs.flatMap runR++[93]
theorem runR_len (p:UInt8×UInt8):(runR p).length≤9:=by
 have h1:=putB_len p.1 clsL
 have h2:=putB_len p.2 clsL
 unfold runR
 cases decide ((p.1.toNat:Int)+1 < p.2.toNat)<;>cases decide ((p.1.toNat:Int) < p.2.toNat)<;>simp<;>omega
set_option maxHeartbeats 2000000 in
theorem RClass_spec {I:GH} {a b c d:Int} (hws:∀ x∈[a,b,c,d],u64ok x):Spec Tryz.prog 209 [.agg #[.int .u64 a,.int .u64 b,.int .u64 c,.int .u64 d]] I []
  fun r I' M'=>r=.string (strOf (classR (runsR (hasR [a,b,c,d]) 256)))∧I'=I∧M'=[]:=by
 refine spec_of_V [] TryzEOK Tryz.func209 rfl rfl rfl ?_
 intro B h0
 refine CallOb.mk [] [] _ (.refl _) (RRuns_spec hws) ?_
 rintro v J N - ⟨hJ,os,rfl,hos,rfl⟩
 subst J
 have hrl:=runsR_len (hasR [a,b,c,d]) 256
 generalize runsR (hasR [a,b,c,d]) 256=rs at *
 have hn:rs.length=os.n:=by
  have:=hos.len
  rw[pairV_len] at this
  omega
 have main:isAll rs=false→classR rs=[91]++rs.flatMap runR++[93]:=fun h=>by rw[classR,h];rfl
 have hfl:∀ i,((rs.take i).flatMap runR).length≤9 * i:=fun i=>by
  have:=flat_le runR 9 runR_len (rs.take i)
  have h2:=List.length_take_le i rs
  omega
 have row:∀ {i:Nat} (hi:i < rs.length) (M:List Blk),(∀ y∈os.blk 270,y∈M)→∃ ad,(os.a.map fun g=>(⟨g,0,none⟩:Addr))=some ad∧Rd I M (ad.add (i * 2)) 2 (pairC rs[i]):=fun {i} hi M hM=>OS.ok.row (I:=I) (M:=M) (f:=pairC) (fun _=>rfl) (by decide) hos (e:=270) hM hi
 refine GuardOb.mk (fun h1=>?_) (fun h1=>?_)
 ·have hn1:os.n=1:=by simp at h1;omega
  obtain⟨p,rfl⟩:∃ p,rs=[p]:=by
   match rs,(show rs.length=1 by omega) with
   | [p],_=>exact⟨p,rfl⟩
  obtain⟨ad,had,hrd⟩:=row (i:=0) (by simp) (os.blk 270++[]) (fun y hy=>by simp[hy])
  refine IdxOb.mk ad 0 had rfl (by omega) ?_
  refine LoadOb.mk _ hrd ?_
  refine BinOb.eq2 TryzEOK (e:=5) rfl rfl rfl rfl (by kernel_rfl) ?_
  refine CondOb.mk (fun h2=>?_) (fun h2=>?_)
  ·exact⟨_,_,.sub (List.nil_sublist _) .refl,by rw[classR,show isAll [p]=true from h2];rfl,rfl,rfl⟩
  ·have hall:isAll [p]=false:=h2
   have hm:=main hall
   refine LoopOb.inv (ι:=Nat×List UInt8) (fun x=>{ fl:=[(3,.val os.val),(4,.val (.string (strOf x.2))),(5,.val (.int .i64 x.1))],gi:=I,mi:=os.blk 270 }) (fun x=>x.1≤os.n∧x.2=([p].take x.1).flatMap runR) (fun x=>os.n - x.1) ?_ ?_
   ·exact⟨(0,[]),⟨Nat.zero_le _,rfl⟩,.perm (by simp) .refl,.cons .refl (.cons .refl (.cons .refl .nil)),.nil⟩
   rintro⟨i,w⟩ ⟨hi,hw⟩
   simp only at hi hw
   have hli:=hfl i
   rw[←hw] at hli
   refine CondOb.mk (fun h=>?_) (fun h=>?_)
   ·have hlt:i < os.n:=by simpa using h
    have hlt':i < ([p]:List (UInt8×UInt8)).length:=by omega
    obtain⟨ad,had,hrd⟩:=row (i:=i) hlt' (os.blk 270) (fun y hy=>hy)
    have etk:([p].take (i+1)).flatMap runR=([p].take i).flatMap runR++runR ([p]:List (UInt8×UInt8))[i]:=by
     rw[List.take_succ_eq_append_getElem hlt',List.flatMap_append]
     simp
    generalize hq:([p]:List (UInt8×UInt8))[i]=q at hrd etk
    have hq1:=q.1.toNat_lt
    have hq2:=q.2.toNat_lt
    have hl1:=putB_len q.1 clsL
    have hl2:=putB_len q.2 clsL
    refine CodeOb.draw TryzEOK rfl rfl rfl ?_
    refine IdxOb.mk ad i had rfl hlt ?_
    refine ArrOb.mk 0 rfl (by decide) ?_
    refine LoadOb.mk _ (Rd.part (k:=0 * 1) (m:=1) hrd (by decide)) ?_
    refine ArithOb.mk (q.1.toNat:Int) (wrap_i64 ⟨by omega,by omega⟩) ?_
    refine IdxOb.mk ad i had rfl hlt ?_
    refine ArrOb.mk 1 rfl (by decide) ?_
    refine LoadOb.mk _ (Rd.part (k:=1 * 1) (m:=1) hrd (by decide)) ?_
    refine ArithOb.mk (q.2.toNat:Int) (wrap_i64 ⟨by omega,by omega⟩) ?_
    have hw1:IntKind.u8.wrap (q.1.toNat:Int)=(q.1.toNat:Int):=by simp[IntKind.wrap,IntKind.signed,IntKind.bits];omega
    have hw2:IntKind.u8.wrap (q.2.toNat:Int)=(q.2.toNat:Int):=by simp[IntKind.wrap,IntKind.signed,IntKind.bits];omega
    refine ArithOb.mk _ hw1 ?_
    have hs1:=RSign_spec (I:=I) q.1 clsR (by decide)
    rw[(sign_put q.1).2] at hs1
    refine CallOb.mk [] (os.blk 270) _ (.refl _) hs1 ?_
    rintro v J N - ⟨rfl,hJ,rfl⟩
    subst J
    refine BinOb.concatL (a:=w) (by omega) ?_
    refine ArithOb.mk ((q.1.toNat:Int)+1) (wrap_i64 ⟨by omega,by omega⟩) ?_
    have hs2:=RSign_spec (I:=I) q.2 clsR (by decide)
    rw[(sign_put q.2).2] at hs2
    refine CondOb.mk (fun k1=>?_) (fun k1=>?_)
    ·refine BinOb.concatL (b:=[45]) (by simp only[List.length_append,List.length_cons,List.length_nil];omega) ?_
     refine CondOb.mk (fun k2=>?_) (fun k2=>?_)
     ·refine ArithOb.mk _ hw2 ?_
      refine CallOb.mk [] (os.blk 270) _ (.refl _) hs2 ?_
      rintro v J N - ⟨rfl,hJ,rfl⟩
      subst J
      refine BinOb.concatL (by simp only[List.length_append,List.length_cons,List.length_nil];omega) ?_
      refine ArithOb.mk _ (next_wr (i:=i) (by omega)) ?_
      refine⟨(i+1,_),⟨⟨hlt,?_⟩,by simp only;omega⟩,.refl,.cons .refl (.cons .refl (.cons .refl .nil)),.nil⟩
      simp only
      rw[hw,etk,runR,k1,k2,cond_true,cond_true,←List.append_assoc,←List.append_assoc]
     ·simp at k1 k2
      omega
    ·refine CondOb.mk (fun k2=>?_) (fun k2=>?_)
     ·refine ArithOb.mk _ hw2 ?_
      refine CallOb.mk [] (os.blk 270) _ (.refl _) hs2 ?_
      rintro v J N - ⟨rfl,hJ,rfl⟩
      subst J
      refine BinOb.concatL (by simp only[List.length_append,List.length_cons,List.length_nil];omega) ?_
      refine ArithOb.mk _ (next_wr (i:=i) (by omega)) ?_
      refine⟨(i+1,_),⟨⟨hlt,?_⟩,by simp only;omega⟩,.refl,.cons .refl (.cons .refl (.cons .refl .nil)),.nil⟩
      simp only
      rw[hw,etk,runR,k1,k2,cond_false,cond_true,List.nil_append,←List.append_assoc]
     ·refine ArithOb.mk _ (next_wr (i:=i) (by omega)) ?_
      refine⟨(i+1,_),⟨⟨hlt,?_⟩,by simp only;omega⟩,.refl,.cons .refl (.cons .refl (.cons .refl .nil)),.nil⟩
      simp only
      rw[hw,etk,runR,k1,k2,cond_false,cond_false,List.nil_append,List.append_nil]
   ·have:i=os.n:=by simp at h;omega
    subst this
    have e:[p].take os.n=[p]:=List.take_of_length_le (by omega)
    refine BinOb.concatL (a:=[91]) (by simp only[List.length_cons,List.length_nil];omega) ?_
    refine BinOb.concatL (b:=[93]) (by simp only[List.length_append,List.length_cons,List.length_nil];omega) ?_
    exact⟨_,_,.sub (List.nil_sublist _) .refl,by rw[hm,hw,e],rfl,rfl⟩
 ·have hall:isAll rs=false:=by
   match rs,hn with
   | [],_=>rfl
   | [p],hn=>simp at h1 hn;omega
   | _::_::_,_=>rfl
  have hm:=main hall
  refine LoopOb.inv (ι:=Nat×List UInt8) (fun x=>{ fl:=[(3,.val os.val),(4,.val (.string (strOf x.2))),(5,.val (.int .i64 x.1))],gi:=I,mi:=os.blk 270 }) (fun x=>x.1≤os.n∧x.2=(rs.take x.1).flatMap runR) (fun x=>os.n - x.1) ?_ ?_
  ·exact⟨(0,[]),⟨Nat.zero_le _,rfl⟩,.perm (by simp) .refl,.cons .refl (.cons .refl (.cons .refl .nil)),.nil⟩
  rintro⟨i,w⟩ ⟨hi,hw⟩
  simp only at hi hw
  have hli:=hfl i
  rw[←hw] at hli
  refine CondOb.mk (fun h=>?_) (fun h=>?_)
  ·have hlt:i < os.n:=by simpa using h
   have hlt':i < (rs:List (UInt8×UInt8)).length:=by omega
   obtain⟨ad,had,hrd⟩:=row (i:=i) hlt' (os.blk 270) (fun y hy=>hy)
   have etk:(rs.take (i+1)).flatMap runR=(rs.take i).flatMap runR++runR (rs:List (UInt8×UInt8))[i]:=by
    rw[List.take_succ_eq_append_getElem hlt',List.flatMap_append]
    simp
   generalize hq:(rs:List (UInt8×UInt8))[i]=q at hrd etk
   have hq1:=q.1.toNat_lt
   have hq2:=q.2.toNat_lt
   have hl1:=putB_len q.1 clsL
   have hl2:=putB_len q.2 clsL
   refine CodeOb.draw TryzEOK rfl rfl rfl ?_
   refine IdxOb.mk ad i had rfl hlt ?_
   refine ArrOb.mk 0 rfl (by decide) ?_
   refine LoadOb.mk _ (Rd.part (k:=0 * 1) (m:=1) hrd (by decide)) ?_
   refine ArithOb.mk (q.1.toNat:Int) (wrap_i64 ⟨by omega,by omega⟩) ?_
   refine IdxOb.mk ad i had rfl hlt ?_
   refine ArrOb.mk 1 rfl (by decide) ?_
   refine LoadOb.mk _ (Rd.part (k:=1 * 1) (m:=1) hrd (by decide)) ?_
   refine ArithOb.mk (q.2.toNat:Int) (wrap_i64 ⟨by omega,by omega⟩) ?_
   have hw1:IntKind.u8.wrap (q.1.toNat:Int)=(q.1.toNat:Int):=by simp[IntKind.wrap,IntKind.signed,IntKind.bits];omega
   have hw2:IntKind.u8.wrap (q.2.toNat:Int)=(q.2.toNat:Int):=by simp[IntKind.wrap,IntKind.signed,IntKind.bits];omega
   refine ArithOb.mk _ hw1 ?_
   have hs1:=RSign_spec (I:=I) q.1 clsR (by decide)
   rw[(sign_put q.1).2] at hs1
   refine CallOb.mk [] (os.blk 270) _ (.refl _) hs1 ?_
   rintro v J N - ⟨rfl,hJ,rfl⟩
   subst J
   refine BinOb.concatL (a:=w) (by omega) ?_
   refine ArithOb.mk ((q.1.toNat:Int)+1) (wrap_i64 ⟨by omega,by omega⟩) ?_
   have hs2:=RSign_spec (I:=I) q.2 clsR (by decide)
   rw[(sign_put q.2).2] at hs2
   refine CondOb.mk (fun k1=>?_) (fun k1=>?_)
   ·refine BinOb.concatL (b:=[45]) (by simp only[List.length_append,List.length_cons,List.length_nil];omega) ?_
    refine CondOb.mk (fun k2=>?_) (fun k2=>?_)
    ·refine ArithOb.mk _ hw2 ?_
     refine CallOb.mk [] (os.blk 270) _ (.refl _) hs2 ?_
     rintro v J N - ⟨rfl,hJ,rfl⟩
     subst J
     refine BinOb.concatL (by simp only[List.length_append,List.length_cons,List.length_nil];omega) ?_
     refine ArithOb.mk _ (next_wr (i:=i) (by omega)) ?_
     refine⟨(i+1,_),⟨⟨hlt,?_⟩,by simp only;omega⟩,.refl,.cons .refl (.cons .refl (.cons .refl .nil)),.nil⟩
     simp only
     rw[hw,etk,runR,k1,k2,cond_true,cond_true,←List.append_assoc,←List.append_assoc]
    ·simp at k1 k2
     omega
   ·refine CondOb.mk (fun k2=>?_) (fun k2=>?_)
    ·refine ArithOb.mk _ hw2 ?_
     refine CallOb.mk [] (os.blk 270) _ (.refl _) hs2 ?_
     rintro v J N - ⟨rfl,hJ,rfl⟩
     subst J
     refine BinOb.concatL (by simp only[List.length_append,List.length_cons,List.length_nil];omega) ?_
     refine ArithOb.mk _ (next_wr (i:=i) (by omega)) ?_
     refine⟨(i+1,_),⟨⟨hlt,?_⟩,by simp only;omega⟩,.refl,.cons .refl (.cons .refl (.cons .refl .nil)),.nil⟩
     simp only
     rw[hw,etk,runR,k1,k2,cond_false,cond_true,List.nil_append,←List.append_assoc]
    ·refine ArithOb.mk _ (next_wr (i:=i) (by omega)) ?_
     refine⟨(i+1,_),⟨⟨hlt,?_⟩,by simp only;omega⟩,.refl,.cons .refl (.cons .refl (.cons .refl .nil)),.nil⟩
     simp only
     rw[hw,etk,runR,k1,k2,cond_false,cond_false,List.nil_append,List.append_nil]
  ·have:i=os.n:=by simp at h;omega
   subst this
   have e:rs.take os.n=rs:=List.take_of_length_le (by omega)
   refine BinOb.concatL (a:=[91]) (by simp only[List.length_cons,List.length_nil];omega) ?_
   refine BinOb.concatL (b:=[93]) (by simp only[List.length_append,List.length_cons,List.length_nil];omega) ?_
   exact⟨_,_,.sub (List.nil_sublist _) .refl,by rw[hm,hw,e],rfl,rfl⟩
end Go.V
namespace Go.V
open Go Go.Proofs
theorem RSize_spec {I:GH} {t:Tr} (ht:t.ok I) {W:Nat} (hf:Fit t W):Spec Tryz.prog 143 [t.val] I [] (fun v I' M'=>v=.int .i64 (sizeT t:Nat)∧I'=I∧M'=[]):=by
 refine spec_of_V [] TryzEOK Tryz.func143 rfl rfl rfl ?_
 intro B h0
 refine CallOb.mk [] [] _ (.refl _) (RRight_gen ht W hf.w hf.b) ?_
 rintro v J N - ⟨rfl,hJ,rfl⟩
 subst J
 refine CondOb.mk (fun h=>?_) (fun h=>?_)
 ·refine⟨_,_,.refl,?_,rfl,rfl⟩
  simp[sizeT,show right t=false by simpa using h]
 ·refine⟨_,_,.refl,?_,rfl,rfl⟩
  simp[sizeT,show right t=true by simpa using h]
set_option maxHeartbeats 1000000 in
theorem RDepth_spec {I:GH} {t:Tr} (ht:t.ok I) {W:Nat} (hf:Fit t W):Spec Tryz.prog 144 [t.val] I [] (fun v I' M'=>v=.int .i64 (depth t)∧I'=I∧M'=[]):=by
 refine spec_of_V [] TryzEOK Tryz.func144 rfl rfl rfl ?_
 intro B h0
 have hn:=ht.n
 have hcap:=ht.rs.cap
 refine CallOb.mk [] [] _ (.refl _) (RRight_gen ht W hf.w hf.b) ?_
 rintro v J N - ⟨rfl,hJ,rfl⟩
 subst J
 refine CondOb.mk (fun h=>?_) (fun h=>?_)
 ·refine⟨_,_,.refl,?_,rfl,rfl⟩
  simp[depth,show right t=false by simpa using h]
 ·have hr:right t=true:=by simpa using h
  have hkids:=right_kids hr
  obtain⟨g1,g2⟩:=right_root hr
  refine MakeOb.mk t.n t.n rfl rfl (Nat.le_refl _) (by show 8 * t.n≤_;omega) (by omega) ?_
  refine AllocOb.mk fun b hb hbM=>?_
  refine LoopOb.inv (ι:=Nat×List Int)
   (fun x=>{ fl:=[(1,.ref 1 0),(3,.val (.slice (some ⟨b,0,none⟩) t.n t.n)),(4,.val (.int .i64 x.1))],cl:=[(1,t.cells)],gi:=I,mi:=[intRow b x.2] })
   (fun x=>x.1≤t.n∧x.2.length=t.n∧(∀ j,0≤x.2.getD j 0∧x.2.getD j 0≤x.1)∧(∀ j,x.1≤j→x.2.getD j 0=0)∧depthsFrom 0 t.ns (List.replicate t.ns.length 0)=depthsFrom x.1 (t.ns.drop x.1) x.2) (fun x=>t.n - x.1) ?_ ?_
  ·have z:∀ j,(List.replicate t.n (0:Int)).getD j 0=0:=fun j=>by
    by_cases hj:j < t.n<;>simp[List.getD_eq_getElem?_getD,hj]
   refine⟨(0,List.replicate t.n 0),⟨by omega,by simp,fun j=>by rw[z];simp,fun j _=>z j,by simp[hn]⟩,?_,.cons .refl (.cons .refl (.cons .refl .nil)),.cons rfl .nil⟩
   show Wk _ _ [⟨b,.cells (rowOf [Value.int .i64 0] (t.n * 1)).toArray 3 (0,0)⟩] _ [intRow b (List.replicate t.n 0)]
   rw[rowOf_one,Nat.mul_one]
   simp only[intRow,List.map_replicate]
   exact .refl
  ·rintro⟨i,dp⟩ ⟨hi1,hi2,hi3,hi4,hi5⟩
   simp only at hi1 hi2 hi3 hi4 hi5
   refine CondOb.mk (fun h=>?_) (fun h=>?_)
   ·have hlt:i < t.n:=by simpa using h
    have hlt':i < t.ns.length:=by omega
    obtain⟨ad,had,hrd⟩:=ht.rs.row Nd.cells_len hlt hlt'
    have hdk:=ht.ns t.ns[i] (List.getElem_mem hlt')
    have hkn:=hdk.kn
    have hdrop:t.ns.drop i=t.ns[i]::t.ns.drop (i+1):=List.drop_eq_getElem_cons hlt'
    have hrk8:∀ M,Rd I M ((ad.add (i * 9)).add 8) 1 [.slice t.ns[i].ka t.ns[i].kn t.ns[i].kc]:=fun M=>(hrd M).part (k:=8) (m:=1) (by decide)
    refine LoopOb.inv (ι:=Nat×Int)
     (fun x=>{ fl:=[(1,.ref 1 0),(3,.val (.slice (some ⟨b,0,none⟩) t.n t.n)),(4,.val (.int .i64 i)),(5,.val (.int .i64 x.1))],cl:=[(1,t.cells)],gi:=I,mi:=[intRow b (dp.set i x.2)] })
     (fun x=>x.1≤t.ns[i].kn∧0≤x.2∧x.2≤i∧kidMax dp t.ns[i].kids 0=kidMax dp (t.ns[i].kids.drop x.1) x.2) (fun x=>t.ns[i].kn - x.1) ?_ ?_
    ·refine⟨(0,0),⟨by omega,by omega,by simp,rfl⟩,?_,.cons .refl (.cons .refl (.cons .refl (.cons .refl .nil))),.cons rfl .nil⟩
     have e:dp.set i 0=dp:=by
      have h1:=hi4 i (Nat.le_refl _)
      rw[List.getD_eq_getElem?_getD] at h1
      apply List.ext_getElem?
      intro j
      rw[List.getElem?_set]
      split
      ·rename_i e
       subst e
       have:i < dp.length:=by omega
       simp[this] at h1 ⊢
       exact h1.symm
      ·rfl
     simp only
     rw[e]
     exact .refl
    ·rintro⟨j,m⟩ ⟨hj1,hj2,hj3,hj4⟩
     simp only at hj1 hj2 hj3 hj4
     refine IdxOb.mk ad i had rfl hlt ?_
     refine LoadOb.mk _ (hrk8 _) ?_
     refine CondOb.mk (fun h=>?_) (fun h=>?_)
     ·have hjl:j < t.ns[i].kn:=by simpa using h
      have hjl':j < t.ns[i].kids.length:=by omega
      obtain⟨ak,hak,hrk⟩:=hdk.rs.one hjl hjl'
      have hkd:t.ns[i].kids.drop j=t.ns[i].kids[j]::t.ns[i].kids.drop (j+1):=List.drop_eq_getElem_cons hjl'
      have hk:=hkids i hlt' t.ns[i].kids[j] (List.getElem_mem hjl')
      have hk0:t.ns[i].kids[j]=((t.ns[i].kids[j].toNat:Nat):Int):=by omega
      have hkl:t.ns[i].kids[j].toNat < t.n:=by omega
      refine CodeOb.draw TryzEOK rfl rfl rfl ?_
      have hil:i < (dp.set i m).length:=by simp;omega
      have hkl':t.ns[i].kids[j].toNat < (dp.set i m).length:=by simp;omega
      have hii:(dp.set i m)[i]=m:=by simp
      have hkk:(dp.set i m)[t.ns[i].kids[j].toNat]=dp.getD t.ns[i].kids[j].toNat 0:=by
       have hne:i≠t.ns[i].kids[j].toNat:=by omega
       have h9:t.ns[i].kids[j].toNat < dp.length:=by omega
       rw[List.getElem_set,if_neg hne]
       simp[List.getD_eq_getElem?_getD,h9]
      refine IdxOb.mk ⟨b,0,none⟩ i rfl rfl hlt ?_
      refine LoadOb.mk [.int .i64 m] (intRow_rd' hil hii (by simp)) ?_
      refine IdxOb.mk ad i had rfl hlt ?_
      refine LoadOb.mk _ (hrk8 _) ?_
      refine IdxOb.mk ak j hak rfl hjl ?_
      refine LoadOb.mk [.int .i64 t.ns[i].kids[j]] (hrk _) ?_
      refine IdxOb.mk ⟨b,0,none⟩ t.ns[i].kids[j].toNat rfl hk0 hkl ?_
      refine LoadOb.mk [.int .i64 (dp.getD t.ns[i].kids[j].toNat 0)] (intRow_rd' hkl' hkk (by simp)) ?_
      refine IdxOb.mk ⟨b,0,none⟩ i rfl rfl hlt ?_
      refine StoreOb.add [] [] _ 3 rfl ?_ rfl ?_
      ·simp only[List.size_toArray,List.length_map]
       show 0+i * 1+1≤_
       simp
       omega
      have hwr:IntKind.i64.wrap ((j:Int)+1)=((j+1:Nat):Int):=by
       rw[wrap_i64 ⟨by omega,by have:=hdk.rs.cap;omega⟩]
       omega
      refine ArithOb.mk _ hwr ?_
      have h3k:=hi3 t.ns[i].kids[j].toNat
      refine⟨(j+1,max m (dp.getD t.ns[i].kids[j].toNat 0)),⟨⟨by omega,by simp only;omega,by simp only;omega,?_⟩,by show _ < _;simp only;omega⟩,?_,.cons .refl (.cons .refl (.cons .refl (.cons .refl .nil))),.cons rfl .nil⟩
      ·simp only
       rw[hj4,hkd]
       rfl
      ·have e:=intRow_set (dp.set i m) i hil (max m (dp.getD t.ns[i].kids[j].toNat 0))
       simp only[intRow]
       rw[List.set_set] at e
       rw[←e]
       simp only[Nat.zero_add,Nat.mul_one]
       exact .refl
     ·have hjl:¬ j < t.ns[i].kn:=by simpa using h
      have hje:t.ns[i].kids.drop j=[]:=List.drop_eq_nil_of_le (by omega)
      have hm:kidMax dp t.ns[i].kids 0=m:=by rw[hj4,hje];rfl
      have hil:i < (dp.set i m).length:=by simp;omega
      have hii:(dp.set i m)[i]=m:=by simp
      have hwm:IntKind.i64.wrap (m+1)=m+1:=wrap_i64 ⟨by omega,by omega⟩
      have hwr:IntKind.i64.wrap ((i:Int)+1)=((i+1:Nat):Int):=by
       rw[wrap_i64 ⟨by omega,by omega⟩]
       omega
      refine IdxOb.mk ⟨b,0,none⟩ i rfl rfl hlt ?_
      refine LoadOb.mk [.int .i64 m] (intRow_rd' hil hii (by simp)) ?_
      refine ArithOb.mk _ hwm ?_
      refine IdxOb.mk ⟨b,0,none⟩ i rfl rfl hlt ?_
      refine StoreOb.add [] [] _ 3 rfl ?_ rfl ?_
      ·simp only[List.size_toArray,List.length_map]
       show 0+i * 1+1≤_
       omega
      refine ArithOb.mk _ hwr ?_
      refine⟨(i+1,dp.set i (m+1)),⟨⟨by omega,by simp[hi2],?_,?_,?_⟩,by show _ < _;simp only;omega⟩,?_,.cons .refl (.cons .refl (.cons .refl .nil)),.cons rfl .nil⟩
      ·intro q
       have h3q:=hi3 q
       simp only[List.getD_eq_getElem?_getD,List.getElem?_set] at h3q ⊢
       split
       ·rename_i e
        subst e
        have:i < dp.length:=by omega
        simp[this]
        omega
       ·omega
      ·intro q hq
       have h4q:=hi4 q (by omega)
       simp only at hq
       simp only[List.getD_eq_getElem?_getD,List.getElem?_set] at h4q ⊢
       rw[if_neg (by omega)]
       exact h4q
      ·simp only
       rw[hi5,hdrop]
       simp only[depthsFrom,hm]
      ·have e:=intRow_set (dp.set i m) i hil (m+1)
       simp only[intRow]
       rw[List.set_set] at e
       rw[←e]
       simp only[Nat.zero_add,Nat.mul_one]
       exact .refl
   ·have hge:¬ i < t.n:=by simpa using h
    have hdn:t.ns.drop i=[]:=List.drop_eq_nil_of_le (by omega)
    have hall:depthsFrom 0 t.ns (List.replicate t.ns.length 0)=dp:=by rw[hi5,hdn];rfl
    have hr0:t.root=((t.root.toNat:Nat):Int):=by omega
    have hrl:t.root.toNat < dp.length:=by omega
    refine IdxOb.mk ⟨b,0,none⟩ t.root.toNat rfl hr0 (by omega) ?_
    refine LoadOb.mk [.int .i64 dp[t.root.toNat]] (intRow_rd' hrl rfl (by simp)) ?_
    refine⟨_,_,.sub (List.nil_sublist _) .refl,?_,rfl,rfl⟩
    have:depth t=dp[t.root.toNat]:=by
     unfold depth
     rw[hr,hall]
     simp[List.getD_eq_getElem?_getD,hrl]
    rw[this]
    rfl
theorem RTMay_spec {I:GH} {t:Tr} (ht:t.ok I) {W:Nat} (hf:Fit t W):Spec Tryz.prog 102 [t.val] I [] (fun v I' M'=>v=.bool (mayTree t)∧I'=I∧M'=[]):=by
 refine spec_of_V [] TryzEOK Tryz.func102 rfl rfl rfl ?_
 intro B h0
 refine CallOb.mk [] [] _ (.refl _) (RRight_gen ht W hf.w hf.b) ?_
 rintro v J N - ⟨rfl,hJ,rfl⟩
 subst J
 refine GuardOb.mk (fun h1=>?_) (fun h1=>?_)
 ·refine GuardOb.mk (fun h2=>?_) (fun h2=>?_)
  ·refine CallOb.mk [] [] _ (.refl _) (RDepth_spec ht hf) ?_
   rintro v J N - ⟨rfl,hJ,rfl⟩
   subst J
   refine⟨_,_,.refl,?_,rfl,rfl⟩
   have h2':t.n≤1024:=by simp at h2;omega
   simp[mayTree,h1,h2']
  ·refine⟨_,_,.refl,?_,rfl,rfl⟩
   have h2':¬ t.n≤1024:=by simp at h2;omega
   simp[mayTree,h2']
 ·refine⟨_,_,.refl,?_,rfl,rfl⟩
  have h1':right t=false:=h1
  simp[mayTree,h1']
def badKid (kd kk:Int):Bool:=(decide (kd=4) && (decide (kk=4) || decide (kk=0))) || (decide (kd=5) && decide (kk=5))
def normAll (ns:List Nd):List Nd→Bool
 | []=>true
 | d::ds=>(d.kids.all fun k=>!badKid d.k (kindAt ns k)) && normAll ns ds
theorem normKids_eq (ns:List Nd) (kd:Int) (h:kd=4∨kd=5):∀ ks,normKids ns kd ks=ks.all fun k=>!badKid kd (kindAt ns k)
 | []=>rfl
 | k::ks=>by
  rw[normKids,List.all_cons,normKids_eq ns kd h ks]
  have e:(decide (kindAt ns k=kd) || (decide (kindAt ns k=0) && decide (kd=4)))=badKid kd (kindAt ns k):=by
   unfold badKid
   rcases h with rfl | rfl
   ·simp
   ·simp
  rw[e]
  cases badKid kd (kindAt ns k)<;>rfl
theorem normAll_eq (ns:List Nd):∀ ds,normNodes ns ds=normAll ns ds
 | []=>rfl
 | d::ds=>by
  rw[normNodes,normAll,normAll_eq ns ds]
  by_cases h4:d.k=4
  ·rw[normKids_eq ns d.k (.inl h4)]
   simp only[h4,decide_true,Bool.not_true,Bool.false_and,cond_false]
   cases (d.kids.all fun k=>!badKid 4 (kindAt ns k))<;>rfl
  ·by_cases h5:d.k=5
   ·rw[normKids_eq ns d.k (.inr h5)]
    simp only[h5,decide_true,Bool.not_true,Bool.and_false,cond_false]
    cases (d.kids.all fun k=>!badKid 5 (kindAt ns k))<;>rfl
   ·have e:(d.kids.all fun k=>!badKid d.k (kindAt ns k))=true:=by
     rw[List.all_eq_true]
     intro k _
     simp[badKid,h4,h5]
    rw[e]
    simp[h4,h5]
end Go.V
namespace Go.V
open Go Go.Proofs
set_option maxHeartbeats 1000000 in
theorem RNormal_spec {I:GH} {t:Tr} (ht:t.ok I) {W:Nat} (hf:Fit t W):Spec Tryz.prog 100 [t.val] I [] (fun v I' M'=>v=.bool (normal t)∧I'=I∧M'=[]):=by
 refine spec_of_V [] TryzEOK Tryz.func100 rfl rfl rfl ?_
 intro B h0
 have hn:=ht.n
 have hcap:=ht.rs.cap
 refine CallOb.mk [] [] _ (.refl _) (RRight_gen ht W hf.w hf.b) ?_
 rintro v J N - ⟨rfl,hJ,rfl⟩
 subst J
 refine CondOb.mk (fun h=>?_) (fun h=>?_)
 ·refine⟨_,_,.refl,?_,rfl,rfl⟩
  simp[normal,show right t=false by simpa using h]
 have hr:right t=true:=by simpa using h
 have hno:normal t=normAll t.ns t.ns:=by simp[normal,hr,normAll_eq]
 refine LoopOb.inv (ι:=Nat) (fun i=>{ fl:=[(1,.ref 1 0),(3,.val (.int .i64 i))],cl:=[(1,t.cells)],gi:=I }) (fun i=>i≤t.n∧normAll t.ns t.ns=normAll t.ns (t.ns.drop i)) (fun i=>t.n - i) ?_ ?_
 ·exact⟨0,⟨by simp,rfl⟩,.refl,.cons .refl (.cons .refl .nil),.cons rfl .nil⟩
 rintro i ⟨hi,hin⟩
 refine CondOb.mk (fun h=>?_) (fun h=>?_)
 ·have hlt:i < t.n:=by simpa using h
  have hlt':i < t.ns.length:=by omega
  obtain⟨ad,had,hrd⟩:=ht.rs.row Nd.cells_len hlt hlt'
  have hdk:=ht.ns t.ns[i] (List.getElem_mem hlt')
  have hkn:=hdk.kn
  have hdrop:t.ns.drop i=t.ns[i]::t.ns.drop (i+1):=List.drop_eq_getElem_cons hlt'
  have hkids:=right_kids hr i hlt'
  generalize hd:t.ns[i]=d at hrd hdk hkn hdrop hkids
  rw[hdrop,normAll] at hin
  refine IdxOb.mk ad i had rfl hlt ?_
  refine LoadOb.mk _ (hrd _) ?_
  refine LoopOb.inv (ι:=Nat) (fun j=>{ fl:=[(1,.ref 1 0),(3,.val (.int .i64 i)),(4,.ref 4 0),(5,.val (.int .i64 j))],cl:=[(1,t.cells),(4,d.cells)],gi:=I })
   (fun j=>j≤d.kn∧(d.kids.all fun k=>!badKid d.k (kindAt t.ns k))=((d.kids.drop j).all fun k=>!badKid d.k (kindAt t.ns k))) (fun j=>d.kn - j) ?_ ?_
  ·exact⟨0,⟨by simp,rfl⟩,.refl,.cons .refl (.cons .refl (.cons .refl (.cons .refl .nil))),.cons rfl (.cons rfl .nil)⟩
  rintro j ⟨hj,hjn⟩
  refine CondOb.mk (fun h=>?_) (fun h=>?_)
  ·have hjl:j < d.kn:=by simpa using h
   have hjl':j < d.kids.length:=by omega
   obtain⟨ak,hak,hrk⟩:=hdk.rs.one hjl hjl'
   have hkd:d.kids.drop j=d.kids[j]::d.kids.drop (j+1):=List.drop_eq_getElem_cons hjl'
   have hkk:=hkids _ (List.getElem_mem hjl')
   generalize hkv:d.kids[j]=kv at hrk hkd hkk
   obtain⟨q,rfl⟩:=Int.eq_ofNat_of_zero_le hkk.1
   have hql:q < t.ns.length:=by omega
   have hql':q < t.n:=by omega
   obtain⟨aq,haq,hrq0⟩:=ht.rs.row Nd.cells_len hql' hql
   have hrq:∀ M,Rd I M ((aq.add (q * 9)).add 0) 1 [.int .u8 t.ns[q].k]:=fun M=>(hrq0 M).part (k:=0) (m:=1) (by decide)
   have hkat:kindAt t.ns ((q:Nat):Int)=t.ns[q].k:=by simp[kindAt,List.getD_eq_getElem?_getD,hql]
   rw[hkd,List.all_cons,hkat] at hjn
   have bad:badKid d.k t.ns[q].k=true→normal t=false:=fun hb=>by
    rw[hno,hin,hjn,hb]
    rfl
   have good:badKid d.k t.ns[q].k=false→(d.kids.all fun k=>!badKid d.k (kindAt t.ns k))=((d.kids.drop (j+1)).all fun k=>!badKid d.k (kindAt t.ns k)):=fun hb=>by
    rw[hjn,hb]
    rfl
   have hwr:=next_wr (i:=j) (by have:=hdk.rs.cap;omega)
   refine CodeOb.draw TryzEOK rfl rfl rfl ?_
   refine IdxOb.mk ak j hak rfl hjl ?_
   refine LoadOb.mk _ (hrk _) ?_
   refine IdxOb.mk aq q haq rfl hql' ?_
   refine LoadOb.mk _ (hrq _) ?_
   refine GuardOb.mk (fun c1=>?_) (fun c1=>?_)
   ·have d4:d.k=4:=by simpa using c1
    refine GuardOb.mk (fun c2=>?_) (fun c2=>?_)
    ·refine GuardOb.mk (fun c3=>?_) (fun c3=>?_)
     ·refine GuardOb.mk (fun c4=>?_) (fun _=>?_)
      ·exfalso
       simp at c4
       omega
      refine ArithOb.mk _ hwr ?_
      exact⟨j+1,⟨⟨by omega,good (by simp at c2 c3;simp[badKid,d4,c2,c3])⟩,by omega⟩,.refl,.cons .refl (.cons .refl (.cons .refl (.cons .refl .nil))),.cons rfl (.cons rfl .nil)⟩
     ·exact⟨_,_,.refl,congrArg Value.bool (bad (by simp at c3;simp[badKid,d4,c3])).symm,rfl,rfl⟩
    ·exact⟨_,_,.refl,congrArg Value.bool (bad (by simp at c2;simp[badKid,d4,c2])).symm,rfl,rfl⟩
   ·have d4:d.k≠4:=by simpa using c1
    refine GuardOb.mk (fun c4=>?_) (fun c4=>?_)
    ·have d5:d.k=5:=by simpa using c4
     refine CondOb.mk (fun c5=>?_) (fun c5=>?_)
     ·exact⟨_,_,.refl,congrArg Value.bool (bad (by simp at c5;simp[badKid,d5,c5])).symm,rfl,rfl⟩
     ·refine ArithOb.mk _ hwr ?_
      exact⟨j+1,⟨⟨by omega,good (by simp at c5;simp[badKid,d5,c5])⟩,by omega⟩,.refl,.cons .refl (.cons .refl (.cons .refl (.cons .refl .nil))),.cons rfl (.cons rfl .nil)⟩
    ·have d5:d.k≠5:=by simpa using c4
     refine ArithOb.mk _ hwr ?_
     exact⟨j+1,⟨⟨by omega,good (by simp[badKid,d4,d5])⟩,by omega⟩,.refl,.cons .refl (.cons .refl (.cons .refl (.cons .refl .nil))),.cons rfl (.cons rfl .nil)⟩
  ·have hje:d.kids.drop j=[]:=List.drop_eq_nil_of_le (by simp at h;omega)
   refine ArithOb.mk _ (next_wr (i:=i) (by omega)) ?_
   refine⟨i+1,⟨⟨by omega,?_⟩,by omega⟩,.refl,.cons .refl (.cons .refl .nil),.cons rfl .nil⟩
   rw[hin,hjn,hje]
   rfl
 ·have hge:t.n≤i:=by simpa using h
  have hdn:t.ns.drop i=[]:=List.drop_eq_nil_of_le (by omega)
  refine⟨_,_,.refl,?_,rfl,rfl⟩
  rw[hno,hin,hdn]
  rfl
end Go.V
namespace Go.V
open Go Go.Proofs
theorem Rwraps_spec {I:GH} (a b:Int):Spec Tryz.prog 208 [.int .u8 a,.int .u8 b] I [] fun r I' M'=>r=.bool (wrapsV a b)∧I'=I∧M'=[]:=by
 refine spec_of_V [] TryzEOK Tryz.func208 rfl rfl rfl ?_
 intro B h0
 repeat' first
  | refine CondOb.mk (fun h=>?_) (fun h=>?_)
  | refine GuardOb.mk (fun h=>?_) (fun h=>?_)
 all_goals (first | (exfalso;simp at *;omega;done) | refine⟨_,_,.refl,?_,rfl,rfl⟩)
 all_goals (simp only[decide_eq_true_eq,decide_eq_false_iff_not,Bool.not_true,Bool.not_false] at *;simp_all[wrapsV])
set_option maxHeartbeats 1000000 in
theorem RCount_spec {I:GH} (lo:Nat) (hi:Int) (hlo:lo≤99) (hhi:hi=-1∨((lo:Int)≤hi∧hi≤99)):Spec Tryz.prog 211 [.int .i64 lo,.int .i64 hi] I [] fun r I' M'=>r=.string (strOf (countB lo hi))∧I'=I∧M'=[]:=by
 have hd:=dig_len lo
 have hd2:=dig_len hi.toNat
 refine spec_of_V [] TryzEOK Tryz.func211 rfl rfl rfl ?_
 intro B h0
 have hA:2≤lo→countB lo (-1)=[123]++dig lo++[44,125]:=fun h=>by
  have e1:decide ((0:Int)=lo)=false:=decide_eq_false (by omega)
  have e2:decide ((1:Int)=lo)=false:=decide_eq_false (by omega)
  have e3:decide ((-1:Int)=lo)=false:=decide_eq_false (by omega)
  simp[countB,repB,e1,e2,e3]
 have hB:countB lo lo=[123]++dig lo++[125]:=by
  have e1:(decide ((0:Int)=lo) && decide ((1:Int)=lo))=false:=by
   rw[Bool.and_eq_false_iff]
   by_cases h:(0:Int)=lo
   ·exact .inr (decide_eq_false (by omega))
   ·exact .inl (decide_eq_false h)
  have e3:decide ((-1:Int)=lo)=false:=decide_eq_false (by omega)
  unfold countB repB
  rw[e1,e3]
  simp
 have hC:∀ h:Nat,lo < h→¬ (lo=0∧h=1)→countB lo (h:Int)=[123]++dig lo++[44]++dig h++[125]:=fun h h1 h2=>by
  have e1:(decide ((0:Int)=lo) && decide ((1:Int)=h))=false:=by
   rw[Bool.and_eq_false_iff]
   by_cases h:(0:Int)=lo
   ·exact .inr (decide_eq_false (by omega))
   ·exact .inl (decide_eq_false h)
  have e3:decide ((-1:Int)=h)=false:=decide_eq_false (by omega)
  have e4:decide ((h:Int)=lo)=false:=decide_eq_false (by omega)
  have e5:decide ((h:Int)=-1)=false:=decide_eq_false (by omega)
  unfold countB repB
  rw[e1,e3,e4,e5]
  simp
 rcases hhi with rfl | ⟨h1,h2⟩
 ·rcases(by omega:lo=0∨lo=1∨2≤lo) with rfl | rfl | hlo2
  ·repeat' first
    | refine CondOb.mk (fun h=>?_) (fun h=>?_)
    | refine GuardOb.mk (fun h=>?_) (fun h=>?_)
   all_goals (try (exfalso;simp at *;done))
   all_goals exact⟨_,_,.refl,rfl,rfl,rfl⟩
  ·repeat' first
    | refine CondOb.mk (fun h=>?_) (fun h=>?_)
    | refine GuardOb.mk (fun h=>?_) (fun h=>?_)
   all_goals (try (exfalso;simp at *;done))
   all_goals exact⟨_,_,.refl,rfl,rfl,rfl⟩
  ·have e:=hA hlo2
   clear hA hB hC
   repeat' first
    | refine CondOb.mk (fun h=>?_) (fun h=>?_)
    | refine GuardOb.mk (fun h=>?_) (fun h=>?_)
   all_goals (try (exfalso;simp at *;done))
   all_goals (try (exfalso;simp at *;omega;done))
   refine CallOb.mk [] [] _ (.refl _) (RShow_spec lo (by omega)) ?_
   rintro v J N - ⟨rfl,rfl,rfl⟩
   refine BinOb.concatL (a:=[123]) (b:=dig lo) (by simp;omega) ?_
   refine BinOb.concatL (b:=[44,125]) (by simp;omega) ?_
   exact⟨_,_,.refl,by rw[e],rfl,rfl⟩
 ·obtain⟨w,rfl⟩:=Int.eq_ofNat_of_zero_le (show 0≤hi by omega)
  rcases(by omega:(lo=0∧w=1)∨lo=w∨(lo < w∧¬ (lo=0∧w=1))) with ⟨rfl,rfl⟩ | rfl | ⟨k1,k2⟩
  ·clear hA hB hC
   repeat' first
    | refine CondOb.mk (fun h=>?_) (fun h=>?_)
    | refine GuardOb.mk (fun h=>?_) (fun h=>?_)
   all_goals (try (exfalso;simp at *;done))
   all_goals exact⟨_,_,.refl,rfl,rfl,rfl⟩
  ·clear hA hC
   repeat' first
    | refine CondOb.mk (fun h=>?_) (fun h=>?_)
    | refine GuardOb.mk (fun h=>?_) (fun h=>?_)
   all_goals (try (exfalso;simp at *;done))
   all_goals (try (exfalso;simp at *;omega;done))
   all_goals
    refine CallOb.mk [] [] _ (.refl _) (RShow_spec lo (by omega)) ?_
    rintro v J N - ⟨rfl,rfl,rfl⟩
    refine BinOb.concatL (a:=[123]) (b:=dig lo) (by simp;omega) ?_
    refine BinOb.concatL (b:=[125]) (by simp;omega) ?_
    exact⟨_,_,.refl,by rw[hB],rfl,rfl⟩
  ·have e:=hC w k1 k2
   clear hA hB hC
   repeat' first
    | refine CondOb.mk (fun h=>?_) (fun h=>?_)
    | refine GuardOb.mk (fun h=>?_) (fun h=>?_)
   all_goals (try (exfalso;simp at *;done))
   all_goals (try (exfalso;simp at *;omega;done))
   all_goals
    have hd3:(dig w).length≤2:=dig_len w
    refine CallOb.mk [] [] _ (.refl _) (RShow_spec lo (by omega)) ?_
    rintro v J N - ⟨rfl,rfl,rfl⟩
    refine BinOb.concatL (a:=[123]) (b:=dig lo) (by simp;omega) ?_
    refine BinOb.concatL (b:=[44]) (by simp;omega) ?_
    refine CallOb.mk [] [] _ (.refl _) (RShow_spec w (by omega)) ?_
    rintro v J N - ⟨rfl,rfl,rfl⟩
    refine BinOb.concatL (b:=dig w) (by simp;omega) ?_
    refine BinOb.concatL (b:=[125]) (by simp;omega) ?_
    exact⟨_,_,.refl,by rw[e],rfl,rfl⟩
end Go.V
namespace Go.V
open Go Go.Proofs
structure FitsMore (d:Nd) (n:Int):Prop where
 z:d.k=0→d.t=⟨#[]⟩
 leaf:d.k≤3→n=0
 one:6≤d.k→n=1
 two:d.k=4∨d.k=5→2≤n
set_option maxHeartbeats 1000000 in
theorem fits_more {d:Nd} {n:Int} (h0:0≤d.k) (h:fits d n=true):FitsMore d n:=by
 have hs:=(fits_says h).k
 have hk:d.k=0∨d.k=1∨d.k=2∨d.k=3∨d.k=4∨d.k=5∨d.k=6∨d.k=7∨d.k=8∨d.k=9:=by omega
 have hcl:∀ j:Fin 10,cntLo j.val=countsL.getD (j.val * 2) 0∧cntHi j.val=countsL.getD (j.val * 2+1) 0:=by decide
 unfold fits at h
 rcases hk with e | e | e | e | e | e | e | e | e | e<;>rw[e] at h<;>simp[cntLo,cntHi,countsL] at h <;>
  refine⟨fun q=>?_,fun q=>?_,fun q=>?_,fun q=>?_⟩<;>first | (omega;done) | (exact h.2.2.1;done) | (exact h.2.1;done) | (simp_all;done)
def catL (sep:List UInt8):List (List UInt8)→List UInt8
 | []=>[]
 | x::xs=>x++xs.flatMap fun y=>sep++y
theorem kidsT_true (sep:List UInt8) (f:Int→List UInt8):∀ ks,kidsT sep f true ks=(ks.map f).flatMap fun y=>sep++y
 | []=>rfl
 | k::ks=>by
  rw[kidsT,kidsT_true sep f ks]
  simp
theorem kidsT_cat (sep:List UInt8) (f:Int→List UInt8) (ks:List Int):kidsT sep f false ks=catL sep (ks.map f):=by
 cases ks with
 | nil=>rfl
 | cons k ks=>
  rw[kidsT,kidsT_true]
  simp[catL]
theorem catL_snoc (sep:List UInt8) (L:List (List UInt8)) (h:L≠[]) (y:List UInt8):catL sep (L++[y])=catL sep L++sep++y:=by
 cases L with
 | nil=>exact absurd rfl h
 | cons x xs=>simp[catL]
def nodeR (deb:List Int) (d:Nd) (L:List (List UInt8)):List UInt8:=
 bif decide (d.k=0) then [34,34] else
 bif decide (d.k=1) then classB deb d.s0 d.s1 d.s2 d.s3 else
 bif decide (d.k=2) then litB d.t else
 bif decide (d.k=3) then d.t.data.toList else
 bif decide (d.k=7) then [38]++L.headD [] else
 bif decide (d.k=8) then [33]++L.headD [] else
 bif decide (d.k=6) then L.headD []++countB d.lo.toNat d.hi else
 bif decide (d.k=9) then [60]++d.t.data.toList++[58,32]++L.headD []++[62] else
 catL (bif decide (d.k=5) then [32,47,32] else [32]) L
set_option maxHeartbeats 1000000 in
theorem nodeT_eq (deb:List Int) (ns:List Nd) {d:Nd} (h0:0≤d.k) (h:fits d d.kids.length=true) (g:Int→List UInt8):nodeT deb ns d g=nodeR deb d (d.kids.map fun k=>paren (wrapsV d.k (kindAt ns k)) (g k)):=by
 have hs:=(fits_says h).k
 have hm:=fits_more h0 h
 have hk:d.k=0∨d.k=1∨d.k=2∨d.k=3∨d.k=4∨d.k=5∨d.k=6∨d.k=7∨d.k=8∨d.k=9:=by omega
 unfold nodeT nodeR
 rw[kidsT_cat]
 generalize hL:(d.kids.map fun k=>paren (wrapsV d.k (kindAt ns k)) (g k))=L
 have hll:L.length=d.kids.length:=by rw[←hL];simp
 have s0:sgn 2=[]∧sgn 3=[]∧sgn 5=[]∧sgn 8=[]∧sgn 11=[]∧sgn 12=[]∧sgn 13=[32]∧sgn 14=[]∧sgn 15=[]∧sgn 16=[32,47,32]∧sgn 17=[]∧sgn 18=[]∧sgn 21=[38]∧sgn 23=[]∧sgn 24=[33]∧sgn 26=[]∧sgn 27=[60]∧sgn 29=[62]:=by decide
 obtain⟨z2,z3,z5,z8,z11,z12,z13,z14,z15,z16,z17,z18,z21,z23,z24,z26,z27,z29⟩:=s0
 have nil:d.k≤3→L=[]:=fun q=>List.eq_nil_of_length_eq_zero (by have:=hm.leaf q;omega)
 have one:6≤d.k→∃ x,L=[x]:=fun q=>by
  have:=hm.one q
  match L,hll with
  | [x],_=>exact⟨x,rfl⟩
  | [],hll=>simp at hll;omega
  | _::_::_,hll=>simp at hll;omega
 rcases hk with e | e | e | e | e | e | e | e | e | e
 ·rw[nil (by omega)]
  simp[aheadB,behindB,sepOf,catL,e,z2,hm.z e,litB]
 ·rw[nil (by omega)]
  simp[aheadB,behindB,sepOf,catL,e,z5]
 ·rw[nil (by omega)]
  simp[aheadB,behindB,sepOf,catL,e,z8]
 ·rw[nil (by omega)]
  simp[aheadB,behindB,sepOf,catL,e,z11]
 ·simp[aheadB,behindB,sepOf,e,z12,z13,z14]
 ·simp[aheadB,behindB,sepOf,e,z15,z16,z17]
 ·obtain⟨x,rfl⟩:=one (by omega)
  simp[aheadB,behindB,sepOf,catL,e,z18]
 ·obtain⟨x,rfl⟩:=one (by omega)
  simp[aheadB,behindB,sepOf,catL,e,z21,z23]
 ·obtain⟨x,rfl⟩:=one (by omega)
  simp[aheadB,behindB,sepOf,catL,e,z24,z26]
 ·obtain⟨x,rfl⟩:=one (by omega)
  simp[aheadB,behindB,sepOf,catL,e,z27,z29]
end Go.V
namespace Go.V
open Go Go.Proofs
def ClsOk (deb:List Int):Prop:=∀ a b c d:Int,(∀ x∈[a,b,c,d],u64ok x)→classR (runsR (hasR [a,b,c,d]) 256)=classB deb a b c d
def strC (l:List UInt8):List Value:=[.string (strOf l)]
def strV (L:List (List UInt8)):List Value:=L.flatMap strC
theorem strV_snoc (L:List (List UInt8)) (x:List UInt8):strV (L++[x])=strV L++[.string (strOf x)]:=by simp[strV,strC]
theorem strV_len (L:List (List UInt8)):(strV L).length=L.length:=by
 have:=flat_len strC 1 (fun _=>rfl) L
 simpa[strV] using this
theorem BinOb.concatR {P:Program} {t:Nat} {x y:Operand} {a:List UInt8} {b:ByteArray} (hs:a.length+b.size≤9223372036854775807) {V:Value→Prop} {other:Prop} (h:V (.string (strOf (a++b.data.toList)))):BinOb P .add t x y (.val (.string (strOf a))) (.val (.string b)) V other:=
 BinOb.concat (a:=strOf a) (b:=b) hs (by rw[←strOf_app,strOf_self] at h;exact h)
theorem kidsT_mem {sep:List UInt8} {f:Int→List UInt8}:∀ {ks:List Int} {b:Bool} {k:Int},k∈ks→(f k).length≤(kidsT sep f b ks).length
 | k0::ks,b,k,h=>by
  unfold kidsT
  simp only[List.length_append]
  rcases List.mem_cons.1 h with rfl | h
  ·omega
  ·have:=kidsT_mem (sep:=sep) (f:=f) (b:=true) h
   omega
theorem catL_take (sep:List UInt8) (L:List (List UInt8)) (i:Nat):(catL sep (L.take i)).length≤(catL sep L).length:=by
 cases L with
 | nil=>simp
 | cons x xs=>
  cases i with
  | zero=>simp[catL]
  | succ i=>
   rw[List.take_succ_cons,catL,catL,List.length_append,List.length_append]
   have:((xs.take i).flatMap fun y=>sep++y).length≤(xs.flatMap fun y=>sep++y).length:=by
    conv=>rhs;rw[←List.take_append_drop i xs,List.flatMap_append,List.length_append]
    omega
   omega
theorem head_mem {L:List (List UInt8)} (h:0 < L.length):L.headD []=L[0]:=by
 cases L with
 | nil=>simp at h
 | cons x xs=>rfl
set_option maxRecDepth 100000 in
set_option maxHeartbeats 8000000 in
theorem Rtext_spec {I:GH} {deb:List Int} (hcl:ClsOk deb) {t:Tr} (ht:t.ok I) (hr:right t=true) (hk:∀ d∈t.ns,d.kn≤1099511627776):∀ (m j:Nat),j < m→∀ (hj:j < t.ns.length),(textOf deb t.ns j).length≤1152921504606846976 →
  Spec Tryz.prog 198 [t.val,.int .i64 j] I [] fun r I' M'=>r=.string (strOf (textOf deb t.ns j))∧I'=I∧M'=[]
 | 0,j,h,_,_=>absurd h (Nat.not_lt_zero _)
 | m+1,j,hjm,hj,hlen=>by
  have ih:=Rtext_spec (I:=I) hcl ht hr hk m
  have htn:=ht.n
  have hdm:t.ns[j]∈t.ns:=List.getElem_mem hj
  have hdk:=ht.ns t.ns[j] hdm
  have hkn:=hdk.kn
  have hkW:=hk _ hdm
  have hkids:=right_kids hr j hj
  have hfit:=right_fits hr hj
  have hfs:=fits_says hfit
  have hfm:=fits_more hdk.k.1 hfit
  have hj':j < t.n:=by omega
  obtain⟨ad,had,hrd⟩:=ht.rs.row Nd.cells_len hj' hj
  have htx:textOf deb t.ns j=nodeR deb t.ns[j] (t.ns[j].kids.map fun k=>paren (wrapsV t.ns[j].k (kindAt t.ns k)) (textOf deb t.ns k)):=by
   rw[textOf_eq hr hj,nodeT_eq deb t.ns hdk.k.1 hfit]
  have hkl:∀ k∈t.ns[j].kids,(paren (wrapsV t.ns[j].k (kindAt t.ns k)) (textOf deb t.ns k)).length≤1152921504606846976:=fun k hkm=>by
   refine Nat.le_trans ?_ hlen
   rw[textOf_eq hr hj,nodeT]
   have:=kidsT_mem (sep:=sepOf t.ns[j]) (f:=fun k=>paren (wrapsV t.ns[j].k (kindAt t.ns k)) (textOf deb t.ns k)) (b:=false) hkm
   simp only[List.length_append] at this ⊢
   omega
  generalize hd:t.ns[j]=d at *
  generalize hF:(fun k:Int=>paren (wrapsV d.k (kindAt t.ns k)) (textOf deb t.ns k))=F at *
  have hFk:∀ k,F k=paren (wrapsV d.k (kindAt t.ns k)) (textOf deb t.ns k):=fun k=>by rw[←hF]
  refine spec_of_V [] TryzEOK Tryz.func198 rfl rfl rfl ?_
  intro B h0
  refine IdxOb.mk ad j had rfl hj' ?_
  refine LoadOb.mk _ (hrd _) ?_
  refine LoopOb.inv (ι:=Nat×OS) (fun x=>{ fl:=[(2,.ref 2 0),(5,.ref 5 0),(6,.val x.2.val),(7,.val (.int .i64 x.1))],cl:=[(2,t.cells),(5,d.cells)],gi:=I,mi:=x.2.blk 9 })
   (fun x=>x.1≤d.kn∧x.2.ok 1 (strV ((d.kids.take x.1).map F))) (fun x=>d.kn - x.1) ?_ ?_
  ·exact⟨(0,OS0),⟨Nat.zero_le _,OS0_ok 1⟩,.refl,.cons .refl (.cons .refl (.cons .refl (.cons .refl .nil))),.cons rfl (.cons rfl .nil)⟩
  rintro⟨i,os⟩ ⟨hi,hos⟩
  simp only at hi hos
  have hon:os.n=i:=by
   have:=hos.len
   rw[strV_len,List.length_map,List.length_take_of_le (by omega)] at this
   omega
  refine CondOb.mk (fun h=>?_) (fun h=>?_)
  ·have hlt:i < d.kn:=by simpa using h
   have hil:i < d.kids.length:=by omega
   obtain⟨ak,hak,hrk⟩:=hdk.rs.one hlt hil
   have hkm:d.kids[i]∈d.kids:=List.getElem_mem hil
   have hkk:=hkids _ hkm
   have hkb:=hkl _ hkm
   have etk:(d.kids.take (i+1)).map F=(d.kids.take i).map F++[F d.kids[i]]:=by
    rw[List.take_succ_eq_append_getElem hil,List.map_append]
    rfl
   generalize hkv:d.kids[i]=kv at *
   obtain⟨q,rfl⟩:=Int.eq_ofNat_of_zero_le hkk.1
   have hql:q < t.ns.length:=by omega
   have hql':q < t.n:=by omega
   obtain⟨aq,haq,hrq0⟩:=ht.rs.row Nd.cells_len hql' hql
   have hrq:∀ M,Rd I M ((aq.add (q * 9)).add 0) 1 [.int .u8 t.ns[q].k]:=fun M=>(hrq0 M).part (k:=0) (m:=1) (by decide)
   have hkat:kindAt t.ns ((q:Nat):Int)=t.ns[q].k:=by simp[kindAt,List.getD_eq_getElem?_getD,hql]
   have hpl:(textOf deb t.ns q).length≤1152921504606846976:=by
    rw[paren] at hkb
    simp only[List.length_append] at hkb
    omega
   refine CodeOb.draw TryzEOK rfl rfl rfl ?_
   refine IdxOb.mk ak i hak rfl hlt ?_
   refine LoadOb.mk _ (hrk _) ?_
   refine CallOb.mk [] (os.blk 9) _ (.refl _) (ih q (by omega) hql hpl) ?_
   rintro v J N - ⟨rfl,hJ,rfl⟩
   subst J
   refine CodeOb.draw TryzEOK rfl rfl rfl ?_
   refine IdxOb.mk ak i hak rfl hlt ?_
   refine LoadOb.mk _ (hrk _) ?_
   refine IdxOb.mk aq q haq rfl hql' ?_
   refine LoadOb.mk _ (hrq _) ?_
   refine CallOb.mk [] (os.blk 9) _ (.refl _) (Rwraps_spec d.k t.ns[q].k) ?_
   rintro v J N - ⟨rfl,hJ,rfl⟩
   subst J
   have hFq:=hFk q
   rw[hkat] at hFq
   refine CondOb.mk (fun h2=>?_) (fun h2=>?_)
   ·have hFe:F q=[40]++textOf deb t.ns q++[41]:=by rw[hFq,h2];rfl
    refine BinOb.concatL (a:=[40]) (by simp only[List.length_cons,List.length_nil];omega) ?_
    refine BinOb.concatL (b:=[41]) (by simp only[List.length_append,List.length_cons,List.length_nil];omega) ?_
    refine AllocOb.mk fun b9 hb9 hbM9=>?_
    refine OtherOb.appendN TryzEOK rfl (by simp) (e:=9) rfl rfl rfl os hos rfl (m:=1) rfl (news:=[.string (strOf ([40]++textOf deb t.ns q++[41]))]) (by decide) (blk_rd (b:=b9) (cs:=[.string (strOf ([40]++textOf deb t.ns q++[41]))]) (k:=0) (n:=1) (T:=9) (.head _) (by simp)) rfl (Mr:=[⟨b9,.cells #[.string (strOf ([40]++textOf deb t.ns q++[41]))] 9 (0,0)⟩]) (List.perm_append_comm (l₁:=[_])) (by simp only[maxLen];omega) (by show (os.n+1) * 16≤_;omega) ?_
    intro g' c' cur' q0 q1 q2 q3 q4
    refine ArithOb.mk _ (next_wr (i:=i) (by omega)) ?_
    refine⟨(i+1,⟨some g',os.n+1,c',cur'⟩),⟨⟨by simp only;omega,?_⟩,by simp only;omega⟩,.sub (List.Sublist.cons_cons _ (List.nil_sublist _)) .refl,.cons .refl (.cons .refl (.cons .refl (.cons .refl .nil))),.cons rfl (.cons rfl .nil)⟩
    simp only
    rw[etk,hFe,strV_snoc]
    exact app1_ok hos q1 q2 q3 q4
   ·have hFe:F q=textOf deb t.ns q:=by rw[hFq,h2];simp[paren]
    refine AllocOb.mk fun b9 hb9 hbM9=>?_
    refine OtherOb.appendN TryzEOK rfl (by simp) (e:=9) rfl rfl rfl os hos rfl (m:=1) rfl (news:=[.string (strOf (textOf deb t.ns q))]) (by decide) (blk_rd (b:=b9) (cs:=[.string (strOf (textOf deb t.ns q))]) (k:=0) (n:=1) (T:=9) (.head _) (by simp)) rfl (Mr:=[⟨b9,.cells #[.string (strOf (textOf deb t.ns q))] 9 (0,0)⟩]) (List.perm_append_comm (l₁:=[_])) (by simp only[maxLen];omega) (by show (os.n+1) * 16≤_;omega) ?_
    intro g' c' cur' q0 q1 q2 q3 q4
    refine ArithOb.mk _ (next_wr (i:=i) (by omega)) ?_
    refine⟨(i+1,⟨some g',os.n+1,c',cur'⟩),⟨⟨by simp only;omega,?_⟩,by simp only;omega⟩,.sub (List.Sublist.cons_cons _ (List.nil_sublist _)) .refl,.cons .refl (.cons .refl (.cons .refl (.cons .refl .nil))),.cons rfl (.cons rfl .nil)⟩
    simp only
    rw[etk,hFe,strV_snoc]
    exact app1_ok hos q1 q2 q3 q4
  ·have hie:i=d.kn:=by simp at h;omega
   have etk:(d.kids.take i).map F=d.kids.map F:=by rw[List.take_of_length_le (by omega)]
   rw[etk] at hos
   generalize hL:d.kids.map F=L at *
   have hLl:L.length=d.kn:=by rw[←hL];simp;omega
   have row:∀ {i:Nat} (hi:i < L.length),∃ ad,(os.a.map fun g=>(⟨g,0,none⟩:Addr))=some ad∧Rd I (os.blk 9) (ad.add (i * 1)) 1 (strC L[i]):=fun {i} hi=>OS.ok.row (I:=I) (M:=os.blk 9) (f:=strC) (fun _=>rfl) (by decide) hos (e:=9) (fun y hy=>hy) hi
   have hLk:∀ x∈L,x.length≤1152921504606846976:=fun x hx=>by
    rw[←hL] at hx
    obtain⟨k,hkm,rfl⟩:=List.mem_map.1 hx
    rw[hFk]
    exact hkl k hkm
   have hone:6≤d.k→0 < L.length∧L.headD []=L.headD []:=fun h6=>⟨by have:=hfm.one h6;omega,rfl⟩
   refine CondOb.mk (fun c0=>?_) (fun c0=>?_)
   ·exact⟨_,_,.sub (List.nil_sublist _) .refl,by rw[htx,nodeR,c0];rfl,rfl,rfl⟩
   refine CondOb.mk (fun c1=>?_) (fun c1=>?_)
   ·have hws:∀ x∈[d.s0,d.s1,d.s2,d.s3],u64ok x:=by
     intro x hx
     simp only[List.mem_cons,List.not_mem_nil,or_false] at hx
     rcases hx with rfl | rfl | rfl | rfl
     ·exact hdk.s0
     ·exact hdk.s1
     ·exact hdk.s2
     ·exact hdk.s3
    have hsp:=RClass_spec (I:=I) hws
    rw[hcl _ _ _ _ hws] at hsp
    refine CallOb.mk [] (os.blk 9) _ (.refl _) hsp ?_
    rintro v J N - ⟨rfl,hJ,rfl⟩
    subst J
    exact⟨_,_,.sub (List.nil_sublist _) .refl,by rw[htx,nodeR,c0,c1];rfl,rfl,rfl⟩
   refine CondOb.mk (fun c2=>?_) (fun c2=>?_)
   ·refine CallOb.mk [] (os.blk 9) _ (.refl _) (RLiteral_spec d.t (by have:=hfs.t;omega)) ?_
    rintro v J N - ⟨rfl,hJ,rfl⟩
    subst J
    exact⟨_,_,.sub (List.nil_sublist _) .refl,by rw[htx,nodeR,c0,c1,c2];rfl,rfl,rfl⟩
   refine CondOb.mk (fun c3=>?_) (fun c3=>?_)
   ·exact⟨_,_,.sub (List.nil_sublist _) .refl,by rw[htx,nodeR,c0,c1,c2,c3];exact congrArg Value.string (strOf_self d.t).symm,rfl,rfl⟩
   refine CondOb.mk (fun c7=>?_) (fun c7=>?_)
   ·have hL0:0 < L.length:=(hone (by simp at c7;omega)).1
    have hb0:=hLk _ (List.getElem_mem hL0)
    obtain⟨a0,ha0,hr0⟩:=row (i:=0) hL0
    refine IdxOb.mk a0 0 ha0 rfl (show 0 < os.n by omega) ?_
    refine LoadOb.mk _ (hr0.sub fun y hy=>hy) ?_
    refine BinOb.concatL (a:=[38]) (by simp only[List.length_cons,List.length_nil];omega) ?_
    exact⟨_,_,.sub (List.nil_sublist _) .refl,by rw[htx,nodeR,c0,c1,c2,c3,c7,head_mem hL0];rfl,rfl,rfl⟩
   refine CondOb.mk (fun c8=>?_) (fun c8=>?_)
   ·have hL0:0 < L.length:=(hone (by simp at c8;omega)).1
    have hb0:=hLk _ (List.getElem_mem hL0)
    obtain⟨a0,ha0,hr0⟩:=row (i:=0) hL0
    refine IdxOb.mk a0 0 ha0 rfl (show 0 < os.n by omega) ?_
    refine LoadOb.mk _ (hr0.sub fun y hy=>hy) ?_
    refine BinOb.concatL (a:=[33]) (by simp only[List.length_cons,List.length_nil];omega) ?_
    exact⟨_,_,.sub (List.nil_sublist _) .refl,by rw[htx,nodeR,c0,c1,c2,c3,c7,c8,head_mem hL0];rfl,rfl,rfl⟩
   refine CondOb.mk (fun c6=>?_) (fun c6=>?_)
   ·have k6:d.k=6:=by simpa using c6
    have hL0:0 < L.length:=(hone (by omega)).1
    have hb0:=hLk _ (List.getElem_mem hL0)
    have hrep:=hfs.rep k6
    have hlo:((d.lo.toNat:Nat):Int)=d.lo:=by omega
    have hsp:=RCount_spec (I:=I) d.lo.toNat d.hi (by omega) (by omega)
    rw[hlo] at hsp
    have hcb:=countB_len d.lo.toNat d.hi
    refine CodeOb.draw TryzEOK rfl rfl rfl ?_
    obtain⟨a0,ha0,hr0⟩:=row (i:=0) hL0
    refine IdxOb.mk a0 0 ha0 rfl (show 0 < os.n by omega) ?_
    refine LoadOb.mk _ (hr0.sub fun y hy=>hy) ?_
    refine PCallOb.mk _ hsp ?_
    rintro v J N - ⟨rfl,hJ,rfl⟩
    subst J
    refine BinOb.concatL (a:=L[0]) (by omega) ?_
    exact⟨_,_,.sub (List.nil_sublist _) .refl,by rw[htx,nodeR,c0,c1,c2,c3,c7,c8,c6,head_mem hL0];rfl,rfl,rfl⟩
   refine CondOb.mk (fun c9=>?_) (fun c9=>?_)
   ·have k9:d.k=9:=by simpa using c9
    have hL0:0 < L.length:=(hone (by omega)).1
    have hb0:=hLk _ (List.getElem_mem hL0)
    have hts:=hfs.t
    have htl:d.t.data.toList.length=d.t.size:=rfl
    refine CodeOb.draw TryzEOK rfl rfl rfl ?_
    refine BinOb.concatR (a:=[60]) (by simp only[List.length_cons,List.length_nil];omega) ?_
    refine BinOb.concatL (b:=[58,32]) (by simp only[List.length_append,List.length_cons,List.length_nil];omega) ?_
    obtain⟨a0,ha0,hr0⟩:=row (i:=0) hL0
    refine IdxOb.mk a0 0 ha0 rfl (show 0 < os.n by omega) ?_
    refine LoadOb.mk _ (hr0.sub fun y hy=>hy) ?_
    refine BinOb.concatL (b:=L[0]) (by simp only[List.length_append,List.length_cons,List.length_nil];omega) ?_
    refine BinOb.concatL (b:=[62]) (by simp only[List.length_append,List.length_cons,List.length_nil];omega) ?_
    exact⟨_,_,.sub (List.nil_sublist _) .refl,by rw[htx,nodeR,c0,c1,c2,c3,c7,c8,c6,c9,head_mem hL0];rfl,rfl,rfl⟩
   have hL0:0 < L.length:=by
    have:d.k=4∨d.k=5:=by
     have h1:=hfs.k
     have h2:=hdk.k.1
     simp at c0 c1 c2 c3 c7 c8 c6 c9
     omega
    have:=hfm.two this
    omega
   have hcat:∀ sep,(bif decide (d.k=5) then [32,47,32] else [32])=sep→textOf deb t.ns j=catL sep L:=fun sep hsep=>by
    rw[htx,nodeR,c0,c1,c2,c3,c7,c8,c6,c9,hsep]
    rfl
   refine CondOb.mk (fun c5=>?_) (fun c5=>?_)
   ·have htL:=hcat [32,47,32] (by rw[c5];rfl)
    obtain⟨a0,ha0,hr0⟩:=row (i:=0) hL0
    refine IdxOb.mk a0 0 ha0 rfl (show 0 < os.n by omega) ?_
    refine LoadOb.mk _ (hr0.sub fun y hy=>hy) ?_
    refine LoopOb.inv (ι:=Nat×List UInt8) (fun x=>{ fl:=[(6,.val os.val),(9,.val (.string (strOf [32,47,32]))),(10,.val (.string (strOf x.2))),(11,.val (.int .i64 x.1))],gi:=I,mi:=os.blk 9 }) (fun x=>1≤x.1∧x.1≤os.n∧x.2=catL [32,47,32] (L.take x.1)) (fun x=>os.n - x.1) ?_ ?_
    ·refine⟨(1,L[0]),⟨Nat.le_refl _,by simp only;omega,?_⟩,.refl,.cons .refl (.cons .refl (.cons .refl (.cons .refl .nil))),.nil⟩
     simp only
     rw[List.take_succ_eq_append_getElem hL0]
     simp[catL]
    rintro⟨i,w⟩ ⟨hi1,hi2,hw⟩
    simp only at hi1 hi2 hw
    have hwl:=catL_take [32,47,32] L i
    have hcl:=hlen
    rw[htL] at hcl
    rw[←hw] at hwl
    refine CondOb.mk (fun h=>?_) (fun h=>?_)
    ·have hlt:i < os.n:=by simpa using h
     have hil:i < L.length:=by omega
     have hb:=hLk _ (List.getElem_mem hil)
     obtain⟨ai,hai,hri⟩:=row hil
     have hne:L.take i≠[]:=by
      intro h
      have:=congrArg List.length h
      rw[List.length_take_of_le (by omega)] at this
      simp at this
      omega
     have hst:=catL_snoc [32,47,32] (L.take i) hne L[i]
     rw[←List.take_succ_eq_append_getElem hil,←hw] at hst
     refine BinOb.concatL (a:=w) (by simp only[List.length_cons,List.length_nil];omega) ?_
     refine IdxOb.mk ai i hai rfl hlt ?_
     refine LoadOb.mk _ (hri.sub fun y hy=>hy) ?_
     refine BinOb.concatL (b:=L[i]) (by simp only[List.length_append,List.length_cons,List.length_nil];omega) ?_
     refine ArithOb.mk _ (next_wr (i:=i) (by omega)) ?_
     refine⟨(i+1,_),⟨⟨by simp only;omega,hlt,?_⟩,by simp only;omega⟩,.refl,.cons .refl (.cons .refl (.cons .refl (.cons .refl .nil))),.nil⟩
     exact hst.symm
    ·have hie2:i=L.length:=by simp at h;omega
     rw[List.take_of_length_le (by omega)] at hw
     exact⟨_,_,.sub (List.nil_sublist _) .refl,by rw[htL,hw],rfl,rfl⟩
   ·have htL:=hcat [32] (by rw[c5];rfl)
    obtain⟨a0,ha0,hr0⟩:=row (i:=0) hL0
    refine IdxOb.mk a0 0 ha0 rfl (show 0 < os.n by omega) ?_
    refine LoadOb.mk _ (hr0.sub fun y hy=>hy) ?_
    refine LoopOb.inv (ι:=Nat×List UInt8) (fun x=>{ fl:=[(6,.val os.val),(9,.val (.string (strOf [32]))),(10,.val (.string (strOf x.2))),(11,.val (.int .i64 x.1))],gi:=I,mi:=os.blk 9 }) (fun x=>1≤x.1∧x.1≤os.n∧x.2=catL [32] (L.take x.1)) (fun x=>os.n - x.1) ?_ ?_
    ·refine⟨(1,L[0]),⟨Nat.le_refl _,by simp only;omega,?_⟩,.refl,.cons .refl (.cons .refl (.cons .refl (.cons .refl .nil))),.nil⟩
     simp only
     rw[List.take_succ_eq_append_getElem hL0]
     simp[catL]
    rintro⟨i,w⟩ ⟨hi1,hi2,hw⟩
    simp only at hi1 hi2 hw
    have hwl:=catL_take [32] L i
    have hcl:=hlen
    rw[htL] at hcl
    rw[←hw] at hwl
    refine CondOb.mk (fun h=>?_) (fun h=>?_)
    ·have hlt:i < os.n:=by simpa using h
     have hil:i < L.length:=by omega
     have hb:=hLk _ (List.getElem_mem hil)
     obtain⟨ai,hai,hri⟩:=row hil
     have hne:L.take i≠[]:=by
      intro h
      have:=congrArg List.length h
      rw[List.length_take_of_le (by omega)] at this
      simp at this
      omega
     have hst:=catL_snoc [32] (L.take i) hne L[i]
     rw[←List.take_succ_eq_append_getElem hil,←hw] at hst
     refine BinOb.concatL (a:=w) (by simp only[List.length_cons,List.length_nil];omega) ?_
     refine IdxOb.mk ai i hai rfl hlt ?_
     refine LoadOb.mk _ (hri.sub fun y hy=>hy) ?_
     refine BinOb.concatL (b:=L[i]) (by simp only[List.length_append,List.length_cons,List.length_nil];omega) ?_
     refine ArithOb.mk _ (next_wr (i:=i) (by omega)) ?_
     refine⟨(i+1,_),⟨⟨by simp only;omega,hlt,?_⟩,by simp only;omega⟩,.refl,.cons .refl (.cons .refl (.cons .refl (.cons .refl .nil))),.nil⟩
     exact hst.symm
    ·have hie2:i=L.length:=by simp at h;omega
     rw[List.take_of_length_le (by omega)] at hw
     exact⟨_,_,.sub (List.nil_sublist _) .refl,by rw[htL,hw],rfl,rfl⟩
end Go.V
namespace Go.V
open Go Go.Proofs
theorem countB_ne (lo:Nat) (hi:Int):countB lo hi≠[]:=by
 unfold countB repB
 cases (decide ((0:Int)=lo) && decide (1=hi))<;>cases (decide ((0:Int)=lo) && decide (-1=hi))<;>cases (decide ((1:Int)=lo) && decide (-1=hi))<;>cases decide (hi=lo)<;>cases decide (hi=-1)<;>simp
theorem classB_ne (deb:List Int) (a b c d:Int):classB deb a b c d≠[]:=by
 unfold classB
 cases (a == notV 0 && (b == notV 0 && (c == notV 0 && d == notV 0)))<;>simp
theorem fits_named {d:Nd} {n:Int} (h:fits d n=true) (h3:d.k=3):d.t≠⟨#[]⟩:=by
 unfold fits at h
 rw[h3] at h
 simp[cntLo,cntHi,countsL,mayName] at h
 intro e
 simp[e] at h
theorem nodeR_ne (deb:List Int) {d:Nd} (h0:0≤d.k) (h:fits d d.kids.length=true) {L:List (List UInt8)} (hL:L.length=d.kids.length):nodeR deb d L≠[]:=by
 have hs:=(fits_says h).k
 have hm:=fits_more h0 h
 have hk:d.k=0∨d.k=1∨d.k=2∨d.k=3∨d.k=4∨d.k=5∨d.k=6∨d.k=7∨d.k=8∨d.k=9:=by omega
 have two:d.k=4∨d.k=5→∃ x y zs,L=x::y::zs:=fun q=>by
  have:=hm.two q
  match L,hL with
  | x::y::zs,_=>exact⟨x,y,zs,rfl⟩
  | [],hL=>simp at hL;omega
  | [_],hL=>simp at hL;omega
 unfold nodeR
 rcases hk with e | e | e | e | e | e | e | e | e | e
 ·simp[e]
 ·simp only[e,decide_true,cond_true]
  exact classB_ne deb d.s0 d.s1 d.s2 d.s3
 ·simp[e,litB]
 ·have:=fits_named h e
  simp[e]
  intro q
  exact this (ByteArray.ext (by simpa using q))
 ·obtain⟨x,y,zs,rfl⟩:=two (.inl e)
  simp[e,catL]
 ·obtain⟨x,y,zs,rfl⟩:=two (.inr e)
  simp[e,catL]
 ·have:=countB_ne d.lo.toNat d.hi
  simp[e,this]
 ·simp[e]
 ·simp[e]
 ·simp[e]
theorem treeB_ne (deb:List Int) {I:GH} {t:Tr} (ht:t.ok I) (hr:right t=true):treeB deb t≠[]:=by
 obtain⟨g1,g2⟩:=right_root hr
 obtain⟨r,hr'⟩:=Int.eq_ofNat_of_zero_le g1
 have hrl:r < t.ns.length:=by omega
 have hfit:=right_fits hr hrl
 have h0:=(ht.ns _ (List.getElem_mem hrl)).k.1
 rw[treeB,hr,cond_true,hr',textOf_eq hr hrl,nodeT_eq deb t.ns h0 hfit]
 exact nodeR_ne deb h0 hfit (by simp)
theorem RTree_spec {I:GH} {deb:List Int} (hcl:ClsOk deb) {t:Tr} (ht:t.ok I) {W:Nat} (hf:Fit t W) (hW:W≤1099511627776):Spec Tryz.prog 188 [t.val] I [] fun r I' M'=>r=.string (strOf (treeB deb t))∧I'=I∧M'=[]:=by
 refine spec_of_V [] TryzEOK Tryz.func188 rfl rfl rfl ?_
 intro B h0
 refine CallOb.mk [] [] _ (.refl _) (RRight_gen ht W hf.w hf.b) ?_
 rintro v J N - ⟨rfl,hJ,rfl⟩
 subst J
 refine CondOb.mk (fun h=>?_) (fun h=>?_)
 ·have hr:right t=false:=by simpa using h
  exact⟨_,_,.refl,by rw[treeB,hr];rfl,rfl,rfl⟩
 ·have hr:right t=true:=by simpa using h
  obtain⟨g1,g2⟩:=right_root hr
  obtain⟨r,hr'⟩:=Int.eq_ofNat_of_zero_le g1
  have hn:=hf.n
  have htn:=ht.n
  have hlen:=treeB_len deb t
  have hsp:=Rtext_spec hcl ht hr (fun d hd=>by have:=hf.w d hd;omega) (r+1) r (by omega) (by omega) (by rw[treeB,hr,cond_true,hr'] at hlen;omega)
  rw[←hr'] at hsp
  refine CallOb.mk [] [] _ (.refl _) hsp ?_
  rintro v J N - ⟨rfl,hJ,rfl⟩
  subst J
  exact⟨_,_,.refl,by rw[treeB,hr];rfl,rfl,rfl⟩
theorem strOf_nil_iff (l:List UInt8):decide (strOf l=⟨#[]⟩)=decide (l=[]):=by
 congr 1
 rw[eq_iff_iff]
 constructor
 ·intro h
  have:=congrArg (fun b:ByteArray=>b.data.toList) h
  simpa[strOf] using this
 ·rintro rfl
  rfl
theorem RDef_spec {I:GH} {deb:List Int} (hcl:ClsOk deb) {d:Df} (hd:d.ok I) {W:Nat} (hf:Fit d.t W) (hW:W≤1099511627776):Spec Tryz.prog 145 [d.val] I [] fun r I' M'=>r=.string (strOf (defB deb d))∧I'=I∧M'=[]:=by
 refine spec_of_V [] TryzEOK Tryz.func145 rfl rfl rfl ?_
 intro B h0
 refine CallOb.mk [] [] _ (.refl _) (RMay_spec I d.name) ?_
 rintro v J N - ⟨rfl,hJ,rfl⟩
 subst J
 refine GuardOb.mk (fun h1=>?_) (fun h1=>?_)
 ·have hm:mayName d.name=true:=by simpa using h1
  refine CallOb.mk [] [] _ (.refl _) (RRight_gen hd.t W hf.w hf.b) ?_
  rintro v J N - ⟨rfl,hJ,rfl⟩
  subst J
  refine CondOb.mk (fun h2=>?_) (fun h2=>?_)
  ·have hr:right d.t=false:=by simpa using h2
   exact⟨_,_,.refl,by rw[defB,treeB,hr];rfl,rfl,rfl⟩
  ·have hr:right d.t=true:=by simpa using h2
   have hne:=treeB_ne deb hd.t hr
   have hl:=treeB_len deb d.t
   have hn:=hf.n
   have htn:=hd.t.n
   have hml:=mayName_len hm
   have hnl:d.name.data.toList.length=d.name.size:=rfl
   refine CodeOb.draw TryzEOK rfl rfl rfl ?_
   refine BinOb.concat (a:=d.name) (b:=strOf [32,60,45,32]) (by show _+4≤_;omega) ?_
   refine PCallOb.mk _ (RTree_spec hcl hd.t hf hW) ?_
   rintro v J N - ⟨rfl,hJ,rfl⟩
   subst J
   refine BinOb.concat (a:=d.name++strOf [32,60,45,32]) (b:=strOf (treeB deb d.t)) (by rw[ByteArray.size_append];show _+4+(treeB deb d.t).length≤_;omega) ?_
   refine BinOb.concat (a:=d.name++strOf [32,60,45,32]++strOf (treeB deb d.t)) (b:=strOf [10]) (by rw[ByteArray.size_append,ByteArray.size_append];show _+4+(treeB deb d.t).length+1≤_;omega) ?_
   refine⟨_,_,.refl,congrArg Value.string (bytes_eq ?_),rfl,rfl⟩
   rw[defB,strOf_nil_iff,decide_eq_false hne,hm]
   simp[strOf]
 ·have hm:mayName d.name=false:=by simpa using h1
  exact⟨_,_,.refl,by rw[defB,hm,Bool.not_false,Bool.or_true];rfl,rfl,rfl⟩
theorem RGrammar_spec {I:GH} {deb:List Int} (hcl:ClsOk deb) {g:Gr} (hg:g.ok I) (hn:g.n≤64) {W:Nat} (hf:∀ d∈g.ds,Fit d.t W∧d.t.n≤1024) (hW:W≤1099511627776):Spec Tryz.prog 103 [g.val] I [] fun r I' M'=>r=.string (strOf (gramB deb g.ds []))∧I'=I∧M'=[]:=by
 refine spec_of_V [] TryzEOK Tryz.func103 rfl rfl rfl ?_
 intro B h0
 have hgn:=hg.n
 have htl:∀ d∈g.ds,d.t.ns.length≤1024:=fun d hd=>by rw[(hg.ds d hd).t.n];exact(hf d hd).2
 refine LoopOb.inv (ι:=Nat×List UInt8) (fun p=>{ fl:=[(1,.ref 1 0),(3,.val (.string (strOf p.2))),(4,.val (.int .i64 p.1))],cl:=[(1,[.slice g.a g.n g.c])],gi:=I })
  (fun p=>p.1≤g.n∧p.2.length≤2500000 * p.1∧gramB deb g.ds []=gramB deb (g.ds.drop p.1) p.2) (fun p=>g.n - p.1) ?_ ?_
 ·exact⟨(0,[]),⟨by simp,by simp,rfl⟩,.refl,.cons .refl (.cons .refl (.cons .refl .nil)),.cons rfl .nil⟩
 rintro⟨i,w⟩ ⟨hi,hwl,hw⟩
 simp only at hi hwl hw
 refine CondOb.mk (fun h=>?_) (fun h=>?_)
 ·have hlt:i < g.n:=by simpa using h
  have hlt':i < g.ds.length:=by omega
  obtain⟨ad,had,hrd⟩:=hg.rs.row Df.cells_len hlt hlt'
  have hdm:g.ds[i]∈g.ds:=List.getElem_mem hlt'
  have hdl:=defB_len deb g.ds[i]
  have h9:=htl _ hdm
  have hdrop:g.ds.drop i=g.ds[i]::g.ds.drop (i+1):=List.drop_eq_getElem_cons hlt'
  refine IdxOb.mk ad i had rfl hlt ?_
  refine LoadOb.mk _ (hrd _) ?_
  refine CallOb.mk [] [] _ (.refl _) (RDef_spec hcl (hg.ds _ hdm) (hf _ hdm).1 hW) ?_
  rintro v J N - ⟨rfl,hJ,rfl⟩
  subst J
  refine CondOb.mk (fun h1=>?_) (fun h1=>?_)
  ·exact⟨_,_,.refl,by rw[hw,hdrop,gramB,h1];rfl,rfl,rfl⟩
  ·refine BinOb.concatL (a:=w) (by omega) ?_
   refine ArithOb.mk _ (next_wr (i:=i) (by omega)) ?_
   refine⟨(i+1,_),⟨⟨by simp only;omega,?_,?_⟩,by simp only;omega⟩,.refl,.cons .refl (.cons .refl (.cons .refl .nil)),.cons rfl .nil⟩
   ·simp only[List.length_append]
    omega
   ·simp only
    rw[hw,hdrop,gramB,h1]
    rfl
 ·have hge:g.n≤i:=by simpa using h
  have hdn:g.ds.drop i=[]:=List.drop_eq_nil_of_le (by omega)
  exact⟨_,_,.refl,by rw[hw,hdn];rfl,rfl,rfl⟩
end Go.V
namespace Go.V
open Go Go.Proofs
theorem findAt_shift (nm:ByteArray):∀ (ds:List Df) (i:Nat),findAt nm ds i=bif decide (findAt nm ds 0 < 0) then -1 else findAt nm ds 0+i
 | [],i=>rfl
 | d::ds,i=>by
  unfold findAt
  cases h:decide (d.name=nm) with
  | true=>
   have:decide ((((0:Nat):Int)) < 0)=false:=by decide
   simp[this]
  | false=>
   rw[cond_false,cond_false,findAt_shift nm ds (i+1),findAt_shift nm ds (0+1)]
   have hr:findAt nm ds 0 < 0∨0≤findAt nm ds 0:=by omega
   rcases hr with hr | hr
   ·rw[decide_eq_true hr]
    rfl
   ·have e:decide (findAt nm ds 0 < 0)=false:=decide_eq_false (by omega)
    rw[e,cond_false,cond_false]
    have e2:decide (findAt nm ds 0+((0+1:Nat):Int) < 0)=false:=decide_eq_false (by omega)
    rw[e2,cond_false]
    omega
theorem findAt_split (nm:ByteArray) (hs bs:List Df):findAt nm (hs++bs) 0=bif decide (findAt nm hs 0 < 0) then findAt nm bs hs.length else findAt nm hs 0:=by
 have key:∀ (hs:List Df) (i:Nat),findAt nm (hs++bs) i=bif decide (findAt nm hs i < 0) then findAt nm bs (i+hs.length) else findAt nm hs i:=by
  intro hs
  induction hs with
  | nil=>intro i;simp[findAt]
  | cons d hs ih=>
   intro i
   rw[List.cons_append,findAt,findAt]
   cases decide (d.name=nm) with
   | true=>
    have:decide ((i:Int) < 0)=false:=decide_eq_false (by omega)
    rw[cond_true,cond_true,this,cond_false]
   | false=>
    rw[cond_false,cond_false,ih (i+1),List.length_cons]
    rw[show i+1+hs.length=i+(hs.length+1) from by omega]
 have:=key hs 0
 rwa [Nat.zero_add] at this
structure SeenAs (hs:List Df) (acc:List (ByteArray×Int)):Prop where
 look:∀ nm,(lookM nm acc).isSome=decide (0≤findAt nm hs 0)
theorem lookM_app (nm:ByteArray) (p:ByteArray×Int):∀ acc:List (ByteArray×Int),(lookM nm (acc++[p])).isSome=((lookM nm acc).isSome || decide (nm=p.1))
 | []=>by
  show (bif decide (nm=p.1) then some p.2 else none:Option Int).isSome=_
  cases decide (nm=p.1)<;>rfl
 | q::acc=>by
  rw[List.cons_append,lookM,lookM]
  cases decide (nm=q.1) with
  | true=>rfl
  | false=>rw[cond_false,cond_false,lookM_app nm p acc]
theorem SeenAs.snoc {hs:List Df} {acc:List (ByteArray×Int)} (h:SeenAs hs acc) (d:Df) (v:Int):SeenAs (hs++[d]) (acc++[(d.name,v)]):=by
 refine⟨fun nm=>?_⟩
 rw[lookM_app,h.look,findAt_split]
 by_cases hr:findAt nm hs 0 < 0
 ·rw[decide_eq_true hr,cond_true,decide_eq_false (by omega:¬ 0≤findAt nm hs 0),Bool.false_or]
  unfold findAt
  have:decide (d.name=nm)=decide (nm=d.name):=decide_eq_decide.2 ⟨Eq.symm,Eq.symm⟩
  rw[this]
  cases decide (nm=d.name) with
  | true=>simp
  | false=>
   rw[cond_false]
   rfl
 ·rw[decide_eq_false hr,cond_false,decide_eq_true (by omega:0≤findAt nm hs 0),Bool.true_or]
def firstOf (ds:List Df) (i:Nat):Bool:=match ds[i]? with
 | some d=>decide (findAt d.name ds 0=i)
 | none=>true
theorem findAt_self (d:Df) (bs:List Df) (i:Nat):findAt d.name (d::bs) i=i:=by
 rw[findAt,decide_eq_true rfl]
 rfl
theorem dups_spec (bs:List Df):∀ (hs:List Df) (acc:List (ByteArray×Int)),SeenAs hs acc→(∀ i,i < hs.length→firstOf (hs++bs) i=true) →
  match dups acc hs.length bs with
  | none=>∃ i,i < (hs++bs).length∧firstOf (hs++bs) i=false∧∀ k,k < i→firstOf (hs++bs) k=true
  | some r=>SeenAs (hs++bs) r∧∀ i,i < (hs++bs).length→firstOf (hs++bs) i=true:=by
 induction bs with
 | nil=>
  intro hs acc h hf
  rw[List.append_nil] at *
  exact⟨h,hf⟩
 | cons d bs ih=>
  intro hs acc h hf
  have hat:(hs++d::bs)[hs.length]?=some d:=by simp
  have hfi:firstOf (hs++d::bs) hs.length=!(lookM d.name acc).isSome:=by
   unfold firstOf
   rw[hat,h.look]
   simp only
   rw[findAt_split]
   by_cases hr:findAt d.name hs 0 < 0
   ·rw[decide_eq_true hr,cond_true,findAt_self]
    simp;omega
   ·rw[decide_eq_false hr,cond_false]
    have hlt:findAt d.name hs 0 < hs.length:=by
     have:∀ (hs:List Df) (i:Nat),0≤findAt d.name hs i→findAt d.name hs i < i+hs.length:=by
      intro hs
      induction hs with
      | nil=>intro i h;simp[findAt] at h
      | cons e hs ih2=>
       intro i h
       unfold findAt at h ⊢
       cases hc:decide (e.name=d.name) with
       | true=>simp;omega
       | false=>
        rw[hc,cond_false] at h
        rw[cond_false]
        have:=ih2 (i+1) h
        simp
        omega
     have:=this hs 0 (by omega)
     omega
    have e1:decide (findAt d.name hs 0=(hs.length:Int))=false:=decide_eq_false (by omega)
    have e2:decide (0≤findAt d.name hs 0)=true:=decide_eq_true (by omega)
    rw[e1,e2]
    rfl
  rw[dups]
  cases hl:(lookM d.name acc).isSome with
  | true=>
   rw[hl] at hfi
   exact⟨hs.length,by simp,hfi,hf⟩
  | false=>
   rw[hl] at hfi
   have:=ih (hs++[d]) (acc++[(d.name,(hs.length:Int))]) (h.snoc d _) (fun i hi=>by
    rw[List.append_assoc]
    simp at hi
    rcases Nat.lt_or_eq_of_le (Nat.lt_succ_iff.1 (by omega:i < hs.length+1)) with h1 | h1
    ·exact hf i h1
    ·rw[h1];exact hfi)
   rw[List.length_append,List.append_assoc] at this
   exact this
theorem seen0:SeenAs [] []:=⟨fun nm=>by simp[lookM,findAt]⟩
def nodeOk2 (ds:List Df) (n:Nd):Bool:=!decide (n.k=3) || decide (0≤findAt n.t ds 0)
theorem nodePairs_all (p:Nd→Bool):∀ (ds:List Df) (i:Nat),((nodePairs i ds).all fun x=>p x.2)=ds.all fun d=>d.t.ns.all p
 | [],i=>rfl
 | d::ds,i=>by
  rw[nodePairs,List.all_append,List.all_cons,nodePairs_all p ds (i+1),List.all_map]
  rfl
def mayR (deb:List Int) (g:Gr):Int:=
 bif decide ((g.n:Int)=0) then 4 else bif !okDefs g.ds then 4 else bif largeG deb g then 40 else
 bif !(List.range g.ds.length).all (firstOf g.ds) then 6 else bif g.ds.all fun d=>d.t.ns.all (nodeOk2 g.ds) then 0 else 41
theorem mayR_eq (deb:List Int) (g:Gr):mayR deb g=mayG deb g:=by
 unfold mayR mayG
 have h:=dups_spec g.ds [] [] seen0 (fun i hi=>by simp at hi)
 simp only[List.length_nil,List.nil_append] at h
 cases hd:dups [] 0 g.ds with
 | none=>
  rw[hd] at h
  obtain⟨i,h1,h2,_⟩:=h
  have:(List.range g.ds.length).all (firstOf g.ds)=false:=by
   rw[Bool.eq_false_iff]
   intro hall
   rw[List.all_eq_true] at hall
   have:=hall i (List.mem_range.2 h1)
   rw[h2] at this
   cases this
  rw[this]
  rfl
 | some acc=>
  rw[hd] at h
  obtain⟨h1,h2⟩:=h
  have h3:(List.range g.ds.length).all (firstOf g.ds)=true:=by
   rw[List.all_eq_true]
   intro i hi
   exact h2 i (List.mem_range.1 hi)
  rw[h3]
  have h4:(g.ds.all fun d=>d.t.ns.all (nodeOk2 g.ds))=allNamed acc g.ds:=by
   unfold allNamed
   rw[nodePairs_all]
   congr 1
   funext d
   congr 1
   funext n
   unfold nodeOk nodeOk2
   rw[h1.look]
  rw[h4]
  rfl
end Go.V
namespace Go.V
open Go Go.Proofs
theorem RFind_spec {I:GH} {g:Gr} (hg:g.ok I) (name:ByteArray):Spec Tryz.prog 104 [g.val,.string name] I [] (fun v I' M'=>v=.int .i64 (findAt name g.ds 0)∧I'=I∧M'=[]):=by
 refine spec_of_V [] TryzEOK Tryz.func104 rfl rfl rfl ?_
 intro B h0
 have hgn:=hg.n
 have hcap:=hg.rs.cap
 refine LoopOb.inv (ι:=Nat) (fun i=>{ fl:=[(1,.val (.string name)),(2,.ref 2 0),(5,.val (.int .i64 i))],cl:=[(2,[.slice g.a g.n g.c])],gi:=I })
  (fun i=>i≤g.n∧findAt name g.ds 0=findAt name (g.ds.drop i) i) (fun i=>g.n - i) ?_ ?_
 ·exact⟨0,⟨by simp,rfl⟩,.refl,.cons .refl (.cons .refl (.cons .refl .nil)),.cons rfl .nil⟩
 rintro i ⟨hi,hf⟩
 refine CondOb.mk (fun h=>?_) (fun h=>?_)
 ·have hlt:i < g.n:=by simpa using h
  have hlt':i < g.ds.length:=by omega
  obtain⟨ad,had,hrd⟩:=hg.rs.row Df.cells_len hlt hlt'
  have hdrop:g.ds.drop i=g.ds[i]::g.ds.drop (i+1):=List.drop_eq_getElem_cons hlt'
  refine IdxOb.mk ad i had rfl hlt ?_
  refine LoadOb.mk _ (Rd.part (k:=0) (m:=1) (hrd _) (by decide)) ?_
  refine CondOb.mk (fun h2=>?_) (fun h2=>?_)
  ·exact⟨_,_,.refl,by rw[hf,hdrop,findAt,h2];rfl,rfl,rfl⟩
  ·refine ArithOb.mk _ (next_wr (i:=i) (by omega)) ?_
   refine⟨i+1,⟨⟨by omega,?_⟩,by omega⟩,.refl,.cons .refl (.cons .refl (.cons .refl .nil)),.cons rfl .nil⟩
   rw[hf,hdrop,findAt,h2]
   rfl
 ·have hge:g.n≤i:=by simpa using h
  have hdn:g.ds.drop i=[]:=List.drop_eq_nil_of_le (by omega)
  exact⟨_,_,.refl,by rw[hf,hdn];rfl,rfl,rfl⟩
theorem sizeT_le {t:Tr}:sizeT t≤t.n:=by
 unfold sizeT
 cases right t<;>simp
theorem RNodes_spec {I:GH} {g:Gr} (hg:g.ok I) {W:Nat} (hf:∀ d∈g.ds,Fit d.t W) (hn:g.n≤1000000):Spec Tryz.prog 101 [g.val] I [] (fun v I' M'=>v=.int .i64 (nodesG g:Nat)∧I'=I∧M'=[]):=by
 refine spec_of_V [] TryzEOK Tryz.func101 rfl rfl rfl ?_
 intro B h0
 have hgn:=hg.n
 refine LoopOb.inv (ι:=Nat×Nat) (fun x=>{ fl:=[(1,.ref 1 0),(3,.val (.int .i64 x.2)),(4,.val (.int .i64 x.1))],cl:=[(1,[.slice g.a g.n g.c])],gi:=I })
  (fun x=>x.1≤g.n∧x.2=((g.ds.take x.1).map fun d=>sizeT d.t).sum∧x.2≤1099511627776 * x.1) (fun x=>g.n - x.1) ?_ ?_
 ·exact⟨(0,0),⟨by simp,by simp,by simp⟩,.refl,.cons .refl (.cons .refl (.cons .refl .nil)),.cons rfl .nil⟩
 rintro⟨i,s⟩ ⟨hi,hs,hb⟩
 simp only at hi hs hb
 refine CondOb.mk (fun h=>?_) (fun h=>?_)
 ·have hlt:i < g.n:=by simpa using h
  have hlt':i < g.ds.length:=by omega
  obtain⟨ad,had,hrd⟩:=hg.rs.row Df.cells_len hlt hlt'
  have hdm:g.ds[i]∈g.ds:=List.getElem_mem hlt'
  have hfi:=hf _ hdm
  have hsz:=sizeT_le (t:=g.ds[i].t)
  have hfn:=hfi.n
  refine IdxOb.mk ad i had rfl hlt ?_
  refine LoadOb.mk _ (Rd.part (k:=1) (m:=2) (hrd _) (by decide)) ?_
  refine CallOb.mk [] [] _ (.refl _) (RSize_spec (hg.ds _ hdm).t hfi) ?_
  rintro v J N - ⟨rfl,hJ,rfl⟩
  subst J
  refine ArithOb.mk ((s+sizeT g.ds[i].t:Nat):Int) (wrap_i64 (x:=((s+sizeT g.ds[i].t:Nat):Int)) ⟨by omega,by omega⟩) ?_
  refine ArithOb.mk _ (next_wr (i:=i) (by omega)) ?_
  refine⟨(i+1,s+sizeT g.ds[i].t),⟨⟨by simp only;omega,?_,by simp only;omega⟩,by simp only;omega⟩,.refl,.cons .refl (.cons .refl (.cons .refl .nil)),.cons rfl .nil⟩
  simp only
  rw[hs,List.take_succ_eq_append_getElem hlt',List.map_append,List.sum_append]
  simp
 ·have hge:g.n≤i:=by simpa using h
  rw[List.take_of_length_le (by omega)] at hs
  exact⟨_,_,.refl,by rw[hs];rfl,rfl,rfl⟩
end Go.V
namespace Go.V
open Go Go.Proofs
structure GFit (g:Gr):Prop where
 n:g.n≤1000000
 ds:∀ d∈g.ds,Fit d.t 1000000
theorem okDefs_cons (d:Df) (ds:List Df):okDefs (d::ds)=((mayName d.name && normal d.t) && okDefs ds):=rfl
theorem large_of {deb:List Int} {g:Gr} (h:(decide (1024 < nodesG g) || !g.ds.all fun d=>mayTree d.t)=true):largeG deb g=true:=by
 unfold largeG
 generalize (g.ds.all fun d=>mayTree d.t)=a at *
 generalize decide (1024 < nodesG g)=c at *
 cases a<;>cases c<;>simp at h ⊢
theorem firstOf_lt {ds:List Df} {i:Nat} (h:i < ds.length):firstOf ds i=decide (findAt ds[i].name ds 0=i):=by
 unfold firstOf
 rw[List.getElem?_eq_getElem h]
theorem all_drop_lt {n i:Nat} (p:Nat→Bool) (h:i < n):((List.range n).drop i).all p=(p i && ((List.range n).drop (i+1)).all p):=by
 rw[List.drop_eq_getElem_cons (by simpa using h),List.all_cons]
 simp
theorem small_gram {deb:List Int} {ds:List Df} (h:∀ d∈ds,d.t.ns.length≤1024) (hn:ds.length≤64):(gramB deb ds []).length≤160000000:=by
 have:=gramB_len deb ds [] 0 h (by simp)
 omega
set_option maxRecDepth 100000 in
set_option maxHeartbeats 4000000 in
theorem RMay9_spec {I:GH} {deb:List Int} (hcl:ClsOk deb) {g:Gr} (hg:g.ok I) (hf:GFit g):Spec Tryz.prog 61 [g.val] I [] (fun v I' M'=>v=.int .i64 (mayR deb g)∧I'=I∧M'=[]):=by
 refine spec_of_V [] TryzEOK Tryz.func61 rfl rfl rfl ?_
 intro B h0
 have hgn:=hg.n
 have hfn:=hf.n
 refine CondOb.mk (fun e0=>?_) (fun e0=>?_)
 ·exact⟨_,_,.refl,by rw[mayR,e0];rfl,rfl,rfl⟩
 refine LoopOb.inv (ι:=Nat) (fun i=>{ fl:=[(1,.ref 1 0),(3,.val (.int .i64 i))],cl:=[(1,[.slice g.a g.n g.c])],gi:=I }) (fun i=>i≤g.n∧okDefs g.ds=okDefs (g.ds.drop i)) (fun i=>g.n - i) ?_ ?_
 ·exact⟨0,⟨Nat.zero_le _,rfl⟩,.refl,.cons .refl (.cons .refl .nil),.cons rfl .nil⟩
 rintro i ⟨hi,hok⟩
 refine CondOb.mk (fun h=>?_) (fun h=>?_)
 ·have hlt:i < g.n:=by simpa using h
  have hlt':i < g.ds.length:=by omega
  obtain⟨ad,had,hrd⟩:=hg.rs.row Df.cells_len hlt hlt'
  have hdm:g.ds[i]∈g.ds:=List.getElem_mem hlt'
  have hdrop:g.ds.drop i=g.ds[i]::g.ds.drop (i+1):=List.drop_eq_getElem_cons hlt'
  rw[hdrop,okDefs_cons] at hok
  refine IdxOb.mk ad i had rfl hlt ?_
  refine LoadOb.mk _ (Rd.part (k:=0) (m:=1) (hrd _) (by decide)) ?_
  refine CallOb.mk [] [] _ (.refl _) (RMay_spec I g.ds[i].name) ?_
  rintro v J N - ⟨rfl,hJ,rfl⟩
  subst J
  refine GuardOb.mk (fun h1=>?_) (fun h1=>?_)
  ·have hm:mayName g.ds[i].name=true:=by simpa using h1
   refine IdxOb.mk ad i had rfl hlt ?_
   refine LoadOb.mk _ (Rd.part (k:=1) (m:=2) (hrd _) (by decide)) ?_
   refine CallOb.mk [] [] _ (.refl _) (RNormal_spec (hg.ds _ hdm).t (hf.ds _ hdm)) ?_
   rintro v J N - ⟨rfl,hJ,rfl⟩
   subst J
   refine CondOb.mk (fun h2=>?_) (fun h2=>?_)
   ·have hno:normal g.ds[i].t=false:=by simpa using h2
    exact⟨_,_,.refl,by rw[mayR,e0,hok,hno,Bool.and_false];rfl,rfl,rfl⟩
   ·have hno:normal g.ds[i].t=true:=by simpa using h2
    refine ArithOb.mk _ (next_wr (i:=i) (by omega)) ?_
    refine⟨i+1,⟨⟨by omega,?_⟩,by omega⟩,.refl,.cons .refl (.cons .refl .nil),.cons rfl .nil⟩
    rw[hok,hm,hno]
    rfl
  ·have hm:mayName g.ds[i].name=false:=by simpa using h1
   exact⟨_,_,.refl,by rw[mayR,e0,hok,hm,Bool.false_and,Bool.false_and];rfl,rfl,rfl⟩
 have hie:i=g.n:=by simp at h;omega
 have hokt:okDefs g.ds=true:=by
  rw[hok,List.drop_of_length_le (by omega)]
  rfl
 have hmr:mayR deb g=bif largeG deb g then 40 else bif !(List.range g.ds.length).all (firstOf g.ds) then 6 else bif g.ds.all fun d=>d.t.ns.all (nodeOk2 g.ds) then 0 else 41:=by
  rw[mayR,e0,hokt]
  rfl
 have pos:0 < g.n:=by simp at e0;omega
 refine GuardOb.mk (fun h1=>?_) (fun h1=>?_)
 ·have hn64:g.n≤64:=by simp at h1;omega
  refine CallOb.mk [] [] _ (.refl _) (RNodes_spec hg hf.ds hfn) ?_
  rintro v J N - ⟨rfl,hJ,rfl⟩
  subst J
  refine LoopOb.inv (ι:=Nat×Bool) (fun x=>{ fl:=[(1,.ref 1 0),(4,.val (.bool x.2)),(5,.val (.int .i64 x.1))],cl:=[(1,[.slice g.a g.n g.c])],gi:=I })
   (fun x=>x.1≤g.n∧(decide (1024 < nodesG g) || !g.ds.all fun d=>mayTree d.t)=(x.2 || !(g.ds.drop x.1).all fun d=>mayTree d.t)) (fun x=>g.n - x.1) ?_ ?_
  ·exact⟨(0,decide (((1024:Nat):Int) < (nodesG g:Nat))),⟨Nat.zero_le _,by simp only[List.drop_zero];congr 1;exact decide_eq_decide.2 (by omega)⟩,.refl,.cons .refl (.cons .refl (.cons .refl .nil)),.cons rfl .nil⟩
  rintro⟨k,b⟩ ⟨hk,hb⟩
  simp only at hk hb
  refine GuardOb.mk (fun k1=>?_) (fun k1=>?_)
  ·have hkl:k < g.n:=by simpa using k1
   have hkl':k < g.ds.length:=by omega
   refine CondOb.mk (fun k2=>?_) (fun k2=>?_)
   ·have hbf:b=false:=by simpa using k2
    obtain⟨ad,had,hrd⟩:=hg.rs.row Df.cells_len hkl hkl'
    have hdm:g.ds[k]∈g.ds:=List.getElem_mem hkl'
    have hdrop:g.ds.drop k=g.ds[k]::g.ds.drop (k+1):=List.drop_eq_getElem_cons hkl'
    refine IdxOb.mk ad k had rfl hkl ?_
    refine LoadOb.mk _ (Rd.part (k:=1) (m:=2) (hrd _) (by decide)) ?_
    refine CallOb.mk [] [] _ (.refl _) (RTMay_spec (hg.ds _ hdm).t (hf.ds _ hdm)) ?_
    rintro v J N - ⟨rfl,hJ,rfl⟩
    subst J
    refine ArithOb.mk _ (next_wr (i:=k) (by omega)) ?_
    refine⟨(k+1,!mayTree g.ds[k].t),⟨⟨by simp only;omega,?_⟩,by simp only;omega⟩,.refl,.cons .refl (.cons .refl (.cons .refl .nil)),.cons rfl .nil⟩
    simp only
    rw[hb,hdrop,List.all_cons,hbf,Bool.false_or,Bool.not_and]
   ·have hbt:b=true:=by simpa using k2
    have hP:(decide (1024 < nodesG g) || !g.ds.all fun d=>mayTree d.t)=b:=by rw[hb,hbt,Bool.true_or]
    refine GuardOb.mk (fun k3=>?_) (fun k3=>?_)
    ·have hbf:b=false:=by simpa using k3
     rw[hbf,Bool.or_eq_false_iff,Bool.not_eq_false',List.all_eq_true] at hP
     have hall:∀ d∈g.ds,Fit d.t 1000000∧d.t.n≤1024:=fun d hd=>by
      have:=hP.2 d hd
      unfold mayTree at this
      simp only[Bool.and_eq_true,decide_eq_true_eq] at this
      exact⟨hf.ds d hd,this.1⟩
     have hgl:=small_gram (deb:=deb) (ds:=g.ds) (fun d hd=>by rw[(hg.ds d hd).t.n];exact(hall d hd).2) (by omega)
     refine CallOb.mk [] [] _ (.refl _) (RGrammar_spec hcl hg hn64 hall (by decide)) ?_
     rintro v J N - ⟨rfl,hJ,rfl⟩
     subst J
     have hlg:largeG deb g=decide (8192 < (gramB deb g.ds []).length):=by
      have e1:decide (64 < g.n)=false:=decide_eq_false (by omega)
      have e2:(g.ds.all fun d=>mayTree d.t)=true:=List.all_eq_true.2 hP.2
      rw[largeG,e1,e2,hP.1]
      rfl
     have hsz:((strOf (gramB deb g.ds [])).size:Int)=((gramB deb g.ds []).length:Int):=rfl
     refine CondOb.mk (fun k4=>?_) (fun k4=>?_)
     ·have:largeG deb g=true:=by
       rw[hlg]
       rw[hsz] at k4
       simp at k4 ⊢
       omega
      exact⟨_,_,.refl,by rw[hmr,this];rfl,rfl,rfl⟩
     have hlf:largeG deb g=false:=by
      rw[hlg]
      rw[hsz] at k4
      simp at k4 ⊢
      omega
     rw[hlf,cond_false] at hmr
     refine LoopOb.inv (ι:=Nat) (fun i=>{ fl:=[(1,.ref 1 0),(6,.val (.int .i64 i))],cl:=[(1,[.slice g.a g.n g.c])],gi:=I }) (fun i=>i≤g.n∧(List.range g.ds.length).all (firstOf g.ds)=((List.range g.ds.length).drop i).all (firstOf g.ds)) (fun i=>g.n - i) ?_ ?_
     ·exact⟨0,⟨Nat.zero_le _,rfl⟩,.refl,.cons .refl (.cons .refl .nil),.cons rfl .nil⟩
     rintro u ⟨hu,hfo⟩
     refine CondOb.mk (fun h=>?_) (fun h=>?_)
     ·have hlt:u < g.n:=by simpa using h
      have hlt':u < g.ds.length:=by omega
      obtain⟨ad,had,hrd⟩:=hg.rs.row Df.cells_len hlt hlt'
      rw[all_drop_lt _ hlt',firstOf_lt hlt'] at hfo
      refine CodeOb.draw TryzEOK rfl rfl rfl ?_
      refine IdxOb.mk ad u had rfl hlt ?_
      refine LoadOb.mk _ (Rd.part (k:=0) (m:=1) (hrd _) (by decide)) ?_
      refine PCallOb.mk _ (RFind_spec hg g.ds[u].name) ?_
      rintro v J N - ⟨rfl,hJ,rfl⟩
      subst J
      refine CondOb.mk (fun h2=>?_) (fun h2=>?_)
      ·have e:decide (findAt g.ds[u].name g.ds 0=(u:Int))=false:=by simpa using h2
       exact⟨_,_,.refl,by rw[hmr,hfo,e,Bool.false_and];rfl,rfl,rfl⟩
      ·have e:decide (findAt g.ds[u].name g.ds 0=(u:Int))=true:=by simpa using h2
       refine ArithOb.mk _ (next_wr (i:=u) (by omega)) ?_
       refine⟨u+1,⟨⟨by omega,?_⟩,by omega⟩,.refl,.cons .refl (.cons .refl .nil),.cons rfl .nil⟩
       rw[hfo,e,Bool.true_and]
     have hue:u=g.n:=by simp at h;omega
     rw[List.drop_of_length_le (by simp;omega)] at hfo
     rw[hfo,List.all_nil,Bool.not_true,cond_false] at hmr
     refine LoopOb.inv (ι:=Nat) (fun i=>{ fl:=[(1,.ref 1 0),(7,.val (.int .i64 i))],cl:=[(1,[.slice g.a g.n g.c])],gi:=I }) (fun i=>i≤g.n∧(g.ds.all fun d=>d.t.ns.all (nodeOk2 g.ds))=((g.ds.drop i).all fun d=>d.t.ns.all (nodeOk2 g.ds))) (fun i=>g.n - i) ?_ ?_
     ·exact⟨0,⟨Nat.zero_le _,rfl⟩,.refl,.cons .refl (.cons .refl .nil),.cons rfl .nil⟩
     rintro p ⟨hp,hpa⟩
     refine CondOb.mk (fun h=>?_) (fun h=>?_)
     ·have hlt:p < g.n:=by simpa using h
      have hlt':p < g.ds.length:=by omega
      obtain⟨ad,had,hrd⟩:=hg.rs.row Df.cells_len hlt hlt'
      have hdrop:g.ds.drop p=g.ds[p]::g.ds.drop (p+1):=List.drop_eq_getElem_cons hlt'
      have ht:=(hg.ds _ (List.getElem_mem hlt')).t
      rw[hdrop,List.all_cons] at hpa
      generalize g.ds[p]=d at hrd hpa ht
      have htn:=ht.n
      refine IdxOb.mk ad p had rfl hlt ?_
      refine LoadOb.mk _ (Rd.part (k:=0) (m:=1) (Rd.part (k:=1) (m:=2) (hrd _) (by decide)) (by decide)) ?_
      refine LoopOb.inv (ι:=Nat) (fun k=>{ fl:=[(1,.ref 1 0),(7,.val (.int .i64 p)),(8,.val (.slice d.t.a d.t.n d.t.c)),(9,.val (.int .i64 k))],cl:=[(1,[.slice g.a g.n g.c])],gi:=I }) (fun k=>k≤d.t.n∧d.t.ns.all (nodeOk2 g.ds)=(d.t.ns.drop k).all (nodeOk2 g.ds)) (fun k=>d.t.n - k) ?_ ?_
      ·exact⟨0,⟨Nat.zero_le _,rfl⟩,.refl,.cons .refl (.cons .refl (.cons .refl (.cons .refl .nil))),.cons rfl .nil⟩
      rintro w ⟨hw,hwa⟩
      refine CondOb.mk (fun h3=>?_) (fun h3=>?_)
      ·have hwl:w < d.t.n:=by simpa using h3
       have hwl':w < d.t.ns.length:=by omega
       obtain⟨aq,haq,hrq⟩:=ht.rs.row Nd.cells_len hwl hwl'
       have hcap:=ht.rs.cap
       have hdrop2:d.t.ns.drop w=d.t.ns[w]::d.t.ns.drop (w+1):=List.drop_eq_getElem_cons hwl'
       rw[hdrop2,List.all_cons,nodeOk2] at hwa
       refine CodeOb.draw TryzEOK rfl rfl rfl ?_
       refine IdxOb.mk aq w haq rfl hwl ?_
       refine LoadOb.mk _ (Rd.part (k:=0) (m:=1) (hrq _) (by decide)) ?_
       refine GuardOb.mk (fun c1=>?_) (fun c1=>?_)
       ·have e3:decide (d.t.ns[w].k=3)=true:=c1
        refine IdxOb.mk aq w haq rfl hwl ?_
        refine LoadOb.mk _ (Rd.part (k:=5) (m:=1) (hrq _) (by decide)) ?_
        refine CallOb.mk [] [] _ (.refl _) (RFind_spec hg d.t.ns[w].t) ?_
        rintro v J N - ⟨rfl,hJ,rfl⟩
        subst J
        refine CondOb.mk (fun c2=>?_) (fun c2=>?_)
        ·have e:decide (0≤findAt d.t.ns[w].t g.ds 0)=false:=by simp at c2 ⊢;omega
         exact⟨_,_,.refl,by rw[hmr,hpa,hwa,e3,e];rfl,rfl,rfl⟩
        ·have e:decide (0≤findAt d.t.ns[w].t g.ds 0)=true:=by simp at c2 ⊢;omega
         refine ArithOb.mk _ (next_wr (i:=w) (by omega)) ?_
         refine⟨w+1,⟨⟨by omega,?_⟩,by omega⟩,.refl,.cons .refl (.cons .refl (.cons .refl (.cons .refl .nil))),.cons rfl .nil⟩
         rw[hwa,e,Bool.or_true,Bool.true_and]
       ·have e3:decide (d.t.ns[w].k=3)=false:=c1
        refine ArithOb.mk _ (next_wr (i:=w) (by omega)) ?_
        refine⟨w+1,⟨⟨by omega,?_⟩,by omega⟩,.refl,.cons .refl (.cons .refl (.cons .refl (.cons .refl .nil))),.cons rfl .nil⟩
        rw[hwa,e3]
        rfl
      ·have hwe:w=d.t.n:=by simp at h3;omega
       rw[List.drop_of_length_le (by omega)] at hwa
       refine ArithOb.mk _ (next_wr (i:=p) (by omega)) ?_
       refine⟨p+1,⟨⟨by omega,?_⟩,by omega⟩,.refl,.cons .refl (.cons .refl .nil),.cons rfl .nil⟩
       rw[hpa,hwa,List.all_nil,Bool.true_and]
     ·have hpe:p=g.n:=by simp at h;omega
      rw[List.drop_of_length_le (by omega)] at hpa
      exact⟨_,_,.refl,by rw[hmr,hpa];rfl,rfl,rfl⟩
    ·have hbt:b=true:=by simpa using k3
     exact⟨_,_,.refl,by rw[hmr,large_of (deb:=deb) (hP.trans hbt)];rfl,rfl,rfl⟩
  ·have hke:k=g.n:=by simp at k1;omega
   have hP:(decide (1024 < nodesG g) || !g.ds.all fun d=>mayTree d.t)=b:=by
    rw[hb,hke,List.drop_of_length_le (by omega)]
    simp
   refine GuardOb.mk (fun k3=>?_) (fun k3=>?_)
   ·have hbf:b=false:=by simpa using k3
    rw[hbf,Bool.or_eq_false_iff,Bool.not_eq_false',List.all_eq_true] at hP
    have hall:∀ d∈g.ds,Fit d.t 1000000∧d.t.n≤1024:=fun d hd=>by
     have:=hP.2 d hd
     unfold mayTree at this
     simp only[Bool.and_eq_true,decide_eq_true_eq] at this
     exact⟨hf.ds d hd,this.1⟩
    have hgl:=small_gram (deb:=deb) (ds:=g.ds) (fun d hd=>by rw[(hg.ds d hd).t.n];exact(hall d hd).2) (by omega)
    refine CallOb.mk [] [] _ (.refl _) (RGrammar_spec hcl hg hn64 hall (by decide)) ?_
    rintro v J N - ⟨rfl,hJ,rfl⟩
    subst J
    have hlg:largeG deb g=decide (8192 < (gramB deb g.ds []).length):=by
     have e1:decide (64 < g.n)=false:=decide_eq_false (by omega)
     have e2:(g.ds.all fun d=>mayTree d.t)=true:=List.all_eq_true.2 hP.2
     rw[largeG,e1,e2,hP.1]
     rfl
    have hsz:((strOf (gramB deb g.ds [])).size:Int)=((gramB deb g.ds []).length:Int):=rfl
    refine CondOb.mk (fun k4=>?_) (fun k4=>?_)
    ·have:largeG deb g=true:=by
      rw[hlg]
      rw[hsz] at k4
      simp at k4 ⊢
      omega
     exact⟨_,_,.refl,by rw[hmr,this];rfl,rfl,rfl⟩
    have hlf:largeG deb g=false:=by
     rw[hlg]
     rw[hsz] at k4
     simp at k4 ⊢
     omega
    rw[hlf,cond_false] at hmr
    refine LoopOb.inv (ι:=Nat) (fun i=>{ fl:=[(1,.ref 1 0),(6,.val (.int .i64 i))],cl:=[(1,[.slice g.a g.n g.c])],gi:=I }) (fun i=>i≤g.n∧(List.range g.ds.length).all (firstOf g.ds)=((List.range g.ds.length).drop i).all (firstOf g.ds)) (fun i=>g.n - i) ?_ ?_
    ·exact⟨0,⟨Nat.zero_le _,rfl⟩,.refl,.cons .refl (.cons .refl .nil),.cons rfl .nil⟩
    rintro u ⟨hu,hfo⟩
    refine CondOb.mk (fun h=>?_) (fun h=>?_)
    ·have hlt:u < g.n:=by simpa using h
     have hlt':u < g.ds.length:=by omega
     obtain⟨ad,had,hrd⟩:=hg.rs.row Df.cells_len hlt hlt'
     rw[all_drop_lt _ hlt',firstOf_lt hlt'] at hfo
     refine CodeOb.draw TryzEOK rfl rfl rfl ?_
     refine IdxOb.mk ad u had rfl hlt ?_
     refine LoadOb.mk _ (Rd.part (k:=0) (m:=1) (hrd _) (by decide)) ?_
     refine PCallOb.mk _ (RFind_spec hg g.ds[u].name) ?_
     rintro v J N - ⟨rfl,hJ,rfl⟩
     subst J
     refine CondOb.mk (fun h2=>?_) (fun h2=>?_)
     ·have e:decide (findAt g.ds[u].name g.ds 0=(u:Int))=false:=by simpa using h2
      exact⟨_,_,.refl,by rw[hmr,hfo,e,Bool.false_and];rfl,rfl,rfl⟩
     ·have e:decide (findAt g.ds[u].name g.ds 0=(u:Int))=true:=by simpa using h2
      refine ArithOb.mk _ (next_wr (i:=u) (by omega)) ?_
      refine⟨u+1,⟨⟨by omega,?_⟩,by omega⟩,.refl,.cons .refl (.cons .refl .nil),.cons rfl .nil⟩
      rw[hfo,e,Bool.true_and]
    have hue:u=g.n:=by simp at h;omega
    rw[List.drop_of_length_le (by simp;omega)] at hfo
    rw[hfo,List.all_nil,Bool.not_true,cond_false] at hmr
    refine LoopOb.inv (ι:=Nat) (fun i=>{ fl:=[(1,.ref 1 0),(7,.val (.int .i64 i))],cl:=[(1,[.slice g.a g.n g.c])],gi:=I }) (fun i=>i≤g.n∧(g.ds.all fun d=>d.t.ns.all (nodeOk2 g.ds))=((g.ds.drop i).all fun d=>d.t.ns.all (nodeOk2 g.ds))) (fun i=>g.n - i) ?_ ?_
    ·exact⟨0,⟨Nat.zero_le _,rfl⟩,.refl,.cons .refl (.cons .refl .nil),.cons rfl .nil⟩
    rintro p ⟨hp,hpa⟩
    refine CondOb.mk (fun h=>?_) (fun h=>?_)
    ·have hlt:p < g.n:=by simpa using h
     have hlt':p < g.ds.length:=by omega
     obtain⟨ad,had,hrd⟩:=hg.rs.row Df.cells_len hlt hlt'
     have hdrop:g.ds.drop p=g.ds[p]::g.ds.drop (p+1):=List.drop_eq_getElem_cons hlt'
     have ht:=(hg.ds _ (List.getElem_mem hlt')).t
     rw[hdrop,List.all_cons] at hpa
     generalize g.ds[p]=d at hrd hpa ht
     have htn:=ht.n
     refine IdxOb.mk ad p had rfl hlt ?_
     refine LoadOb.mk _ (Rd.part (k:=0) (m:=1) (Rd.part (k:=1) (m:=2) (hrd _) (by decide)) (by decide)) ?_
     refine LoopOb.inv (ι:=Nat) (fun k=>{ fl:=[(1,.ref 1 0),(7,.val (.int .i64 p)),(8,.val (.slice d.t.a d.t.n d.t.c)),(9,.val (.int .i64 k))],cl:=[(1,[.slice g.a g.n g.c])],gi:=I }) (fun k=>k≤d.t.n∧d.t.ns.all (nodeOk2 g.ds)=(d.t.ns.drop k).all (nodeOk2 g.ds)) (fun k=>d.t.n - k) ?_ ?_
     ·exact⟨0,⟨Nat.zero_le _,rfl⟩,.refl,.cons .refl (.cons .refl (.cons .refl (.cons .refl .nil))),.cons rfl .nil⟩
     rintro w ⟨hw,hwa⟩
     refine CondOb.mk (fun h3=>?_) (fun h3=>?_)
     ·have hwl:w < d.t.n:=by simpa using h3
      have hwl':w < d.t.ns.length:=by omega
      obtain⟨aq,haq,hrq⟩:=ht.rs.row Nd.cells_len hwl hwl'
      have hcap:=ht.rs.cap
      have hdrop2:d.t.ns.drop w=d.t.ns[w]::d.t.ns.drop (w+1):=List.drop_eq_getElem_cons hwl'
      rw[hdrop2,List.all_cons,nodeOk2] at hwa
      refine CodeOb.draw TryzEOK rfl rfl rfl ?_
      refine IdxOb.mk aq w haq rfl hwl ?_
      refine LoadOb.mk _ (Rd.part (k:=0) (m:=1) (hrq _) (by decide)) ?_
      refine GuardOb.mk (fun c1=>?_) (fun c1=>?_)
      ·have e3:decide (d.t.ns[w].k=3)=true:=c1
       refine IdxOb.mk aq w haq rfl hwl ?_
       refine LoadOb.mk _ (Rd.part (k:=5) (m:=1) (hrq _) (by decide)) ?_
       refine CallOb.mk [] [] _ (.refl _) (RFind_spec hg d.t.ns[w].t) ?_
       rintro v J N - ⟨rfl,hJ,rfl⟩
       subst J
       refine CondOb.mk (fun c2=>?_) (fun c2=>?_)
       ·have e:decide (0≤findAt d.t.ns[w].t g.ds 0)=false:=by simp at c2 ⊢;omega
        exact⟨_,_,.refl,by rw[hmr,hpa,hwa,e3,e];rfl,rfl,rfl⟩
       ·have e:decide (0≤findAt d.t.ns[w].t g.ds 0)=true:=by simp at c2 ⊢;omega
        refine ArithOb.mk _ (next_wr (i:=w) (by omega)) ?_
        refine⟨w+1,⟨⟨by omega,?_⟩,by omega⟩,.refl,.cons .refl (.cons .refl (.cons .refl (.cons .refl .nil))),.cons rfl .nil⟩
        rw[hwa,e,Bool.or_true,Bool.true_and]
      ·have e3:decide (d.t.ns[w].k=3)=false:=c1
       refine ArithOb.mk _ (next_wr (i:=w) (by omega)) ?_
       refine⟨w+1,⟨⟨by omega,?_⟩,by omega⟩,.refl,.cons .refl (.cons .refl (.cons .refl (.cons .refl .nil))),.cons rfl .nil⟩
       rw[hwa,e3]
       rfl
     ·have hwe:w=d.t.n:=by simp at h3;omega
      rw[List.drop_of_length_le (by omega)] at hwa
      refine ArithOb.mk _ (next_wr (i:=p) (by omega)) ?_
      refine⟨p+1,⟨⟨by omega,?_⟩,by omega⟩,.refl,.cons .refl (.cons .refl .nil),.cons rfl .nil⟩
      rw[hpa,hwa,List.all_nil,Bool.true_and]
    ·have hpe:p=g.n:=by simp at h;omega
     rw[List.drop_of_length_le (by omega)] at hpa
     exact⟨_,_,.refl,by rw[hmr,hpa];rfl,rfl,rfl⟩
   ·have hbt:b=true:=by simpa using k3
    exact⟨_,_,.refl,by rw[hmr,large_of (deb:=deb) (hP.trans hbt)];rfl,rfl,rfl⟩
 ·have hn64:64 < g.n:=by simp at h1;omega
  refine LoopOb.inv (ι:=Nat×Bool) (fun x=>{ fl:=[(1,.ref 1 0),(4,.val (.bool x.2)),(5,.val (.int .i64 x.1))],cl:=[(1,[.slice g.a g.n g.c])],gi:=I })
   (fun x=>x.1≤g.n∧true=(x.2 || !(g.ds.drop x.1).all fun d=>mayTree d.t)) (fun x=>g.n - x.1) ?_ ?_
  ·exact⟨(0,true),⟨Nat.zero_le _,rfl⟩,.refl,.cons .refl (.cons .lit (.cons .refl .nil)),.cons rfl .nil⟩
  rintro⟨k,b⟩ ⟨hk,hb⟩
  simp only at hk hb
  refine GuardOb.mk (fun k1=>?_) (fun k1=>?_)
  ·have hkl:k < g.n:=by simpa using k1
   have hkl':k < g.ds.length:=by omega
   refine CondOb.mk (fun k2=>?_) (fun k2=>?_)
   ·have hbf:b=false:=by simpa using k2
    obtain⟨ad,had,hrd⟩:=hg.rs.row Df.cells_len hkl hkl'
    have hdm:g.ds[k]∈g.ds:=List.getElem_mem hkl'
    have hdrop:g.ds.drop k=g.ds[k]::g.ds.drop (k+1):=List.drop_eq_getElem_cons hkl'
    refine IdxOb.mk ad k had rfl hkl ?_
    refine LoadOb.mk _ (Rd.part (k:=1) (m:=2) (hrd _) (by decide)) ?_
    refine CallOb.mk [] [] _ (.refl _) (RTMay_spec (hg.ds _ hdm).t (hf.ds _ hdm)) ?_
    rintro v J N - ⟨rfl,hJ,rfl⟩
    subst J
    refine ArithOb.mk _ (next_wr (i:=k) (by omega)) ?_
    refine⟨(k+1,!mayTree g.ds[k].t),⟨⟨by simp only;omega,?_⟩,by simp only;omega⟩,.refl,.cons .refl (.cons .refl (.cons .refl .nil)),.cons rfl .nil⟩
    simp only
    rw[hb,hdrop,List.all_cons,hbf,Bool.false_or,Bool.not_and]
   ·have hbt:b=true:=by simpa using k2
    have hP:true=b:=by rw[hb,hbt,Bool.true_or]
    refine GuardOb.mk (fun k3=>?_) (fun k3=>?_)
    ·have hbf:b=false:=by simpa using k3
     rw[hbf] at hP
     cases hP
    ·have hbt:b=true:=by simpa using k3
     exact⟨_,_,.refl,by rw[hmr,show largeG deb g=true from by rw[largeG,decide_eq_true hn64,Bool.true_or]];rfl,rfl,rfl⟩
  ·have hke:k=g.n:=by simp at k1;omega
   have hP:true=b:=by
    rw[hb,hke,List.drop_of_length_le (by omega)]
    simp
   refine GuardOb.mk (fun k3=>?_) (fun k3=>?_)
   ·have hbf:b=false:=by simpa using k3
    rw[hbf] at hP
    cases hP
   ·have hbt:b=true:=by simpa using k3
    exact⟨_,_,.refl,by rw[hmr,show largeG deb g=true from by rw[largeG,decide_eq_true hn64,Bool.true_or]];rfl,rfl,rfl⟩
end Go.V
namespace Go.V
open Go Go.Proofs
theorem firstAt_find (nm:ByteArray):∀ (ds:List Df) (i:Nat),firstAt nm ds i=bif decide (findAt nm ds i < 0) then none else some (findAt nm ds i)
 | [],i=>rfl
 | d::ds,i=>by
  unfold firstAt findAt
  rw[show decide (nm=d.name)=decide (d.name=nm) by rw[Bool.eq_iff_iff];simp[eq_comm]]
  cases decide (d.name=nm) with
  | true=>
   rw[cond_true,cond_true,decide_eq_false (by omega)]
   rfl
  | false=>
   rw[cond_false,cond_false]
   exact firstAt_find nm ds (i+1)
theorem look_find (nm:ByteArray) (ds:List Df):lookM nm (placesL ds)=bif decide (findAt nm ds 0 < 0) then none else some (findAt nm ds 0):=by
 rw[places_first,firstAt_find]
theorem nodesF_app (pl:List (ByteArray×Int)) (fl:List Fl):∀ (ds es:List Nd) (acc:List Fl),nodesF pl fl (ds++es) acc=nodesF pl fl es (nodesF pl fl ds acc)
 | [],es,acc=>rfl
 | d::ds,es,acc=>by
  rw[List.cons_append,nodesF,nodesF,nodesF_app]
set_option maxRecDepth 100000 in
set_option maxHeartbeats 16000000 in
theorem RFNodes_spec {I:GH} {M0:List Blk} {g:Gr} (hg:g.ok I) {t:Tr} (ht:t.ok I) {W:Nat} (hf:Fit t W) {la:Option Addr} {ln lc:Nat} {fl:List Fl} (hfl:FsAt I M0 la ln fl) :
  Spec Tryz.prog 146 [g.val,.slice la ln lc,t.val] I M0 fun v I' M'=>I'=I ∧
   ((nodesP g fl t=none∧v=.tuple #[.slice none 0 0,.bool false]∧M'=M0)∨∃ (r:List Fl) (os:OS),nodesP g fl t=some r∧os.ok 3 (r.flatMap Fl.cells)∧v=.tuple #[os.val,.bool true]∧M'=os.blk 161++M0):=by
 refine spec_of_V [] TryzEOK Tryz.func146 rfl rfl rfl ?_
 intro B h0
 have hgn:=hg.n
 have htn:=ht.n
 have hcap:=ht.rs.cap
 have hfn:=hfl.n
 have hfnn:=hf.n
 refine CallOb.mk [] M0 _ (.refl _) (RRight_gen ht W hf.w hf.b) ?_
 rintro v I1 M1 - ⟨rfl,rfl,rfl⟩
 rw[List.nil_append]
 refine GuardOb.mk (fun hr=>?_) (fun hr=>?_)
 rotate_left
 ·refine⟨_,_,.refl,rfl,.inl ⟨?_,rfl,rfl⟩⟩
  have:right t=false:=by simpa using hr
  simp[nodesP,this]
 have hr:right t=true:=by simpa using hr
 refine CondOb.mk (fun h=>?_) (fun h=>?_)
 ·refine⟨_,_,.refl,rfl,.inl ⟨?_,rfl,rfl⟩⟩
  have hne:¬ (ln:Int)=(g.n:Int):=by simpa using h
  have:decide (fl.length=g.n)=false:=decide_eq_false (by omega)
  simp[nodesP,this]
 have hln:ln=g.n:=by
  have:(ln:Int)=(g.n:Int):=by simpa using h
  omega
 have hd1:decide (fl.length=g.n)=true:=decide_eq_true (by omega)
 refine LoopOb.inv (ι:=Nat×OS) (fun x=>{ fl:=[(1,.val (.slice la ln lc)),(3,.ref 3 0),(5,.ref 5 0),(8,.val x.2.val),(9,.val (.int .i64 x.1))],cl:=[(3,[.slice g.a g.n g.c]),(5,t.cells)],gi:=I1,mi:=x.2.blk 161++M0 })
  (fun x=>x.1≤t.n∧x.2.ok 3 ((nodesF (placesL g.ds) fl (t.ns.take x.1) []).flatMap Fl.cells)∧∀ d∈t.ns.take x.1,(!decide (d.k=3) || (lookM d.t (placesL g.ds)).isSome)=true) (fun x=>t.n - x.1) ?_ ?_
 ·exact⟨(0,OS0),⟨Nat.zero_le _,OS0_ok 3,fun d hd=>by simp at hd⟩,.refl,.cons .refl (.cons .refl (.cons .refl (.cons .refl (.cons .refl (.nil))))),.cons rfl (.cons rfl (.nil))⟩
 rintro⟨i,os⟩ ⟨hi,hos,hnm⟩
 simp only at hi hos hnm
 refine CondOb.mk (fun h=>?_) (fun h=>?_)
 rotate_left
 ·have hge:i=t.n:=by have:¬ (i:Int) < (t.n:Int):=of_decide_eq_false h;omega
  rw[List.take_of_length_le (by omega)] at hnm hos
  have hno:namedOk (placesL g.ds) t.ns=true:=List.all_eq_true.2 hnm
  exact⟨_,_,.refl,rfl,.inr ⟨_,os,by rw[nodesP,hd1,hr,hno];rfl,hos,rfl,rfl⟩⟩
 have hlt:i < t.n:=by have:(i:Int) < (t.n:Int):=of_decide_eq_true h;omega
 have hlt':i < t.ns.length:=by omega
 obtain⟨ad,had,hrd⟩:=ht.rs.row Nd.cells_len hlt hlt'
 have hdm:=List.getElem_mem hlt'
 have hd:=ht.ns _ hdm
 have hkn:=hd.kn
 have hkc:=hd.rs.cap
 have hkv:=right_kids hr i hlt'
 have hft:=right_fits hr hlt'
 have hacl:=nodesF_len (placesL g.ds) fl (t.ns.take i) []
 rw[List.length_take_of_le (by omega),List.length_nil,Nat.zero_add] at hacl
 have hsn:nodesF (placesL g.ds) fl (t.ns.take (i+1)) []=nodesF (placesL g.ds) fl (t.ns.take i) []++[comeFl t.ns[i] (kidsF (placesL g.ds) fl (nodesF (placesL g.ds) fl (t.ns.take i) []) t.ns[i])]:=by
  rw[List.take_succ_eq_append_getElem hlt',nodesF_app,nodesF,nodesF]
 generalize nodesF (placesL g.ds) fl (t.ns.take i) []=acc at hos hacl hsn
 have hosn:os.n=acc.length:=by have:=hos.len;rw[fl_len] at this;omega
 have hnext:(!decide (t.ns[i].k=3) || (lookM t.ns[i].t (placesL g.ds)).isSome)=true→∀ d∈t.ns.take (i+1),(!decide (d.k=3) || (lookM d.t (placesL g.ds)).isSome)=true:=fun h d hd=>by
  rw[List.take_succ_eq_append_getElem hlt'] at hd
  rcases List.mem_append.1 hd with hd | hd
  ·exact hnm d hd
  ·simp only[List.mem_singleton] at hd
   rw[hd]
   exact h
 have hbad:decide (t.ns[i].k=3)=true→(lookM t.ns[i].t (placesL g.ds)).isSome=false→nodesP g fl t=none:=fun e1 e2=>by
  have h5:namedOk (placesL g.ds) t.ns=false:=by
   rw[namedOk,List.all_eq_false]
   exact⟨_,hdm,by rw[e1,e2];simp⟩
  simp[nodesP,h5]
 generalize t.ns[i]=d at hrd hd hkn hkc hkv hft hsn hnext hbad
 have hk0:=hd.k.1
 have hk10:=fits_k hft
 refine IdxOb.mk ad i had rfl hlt ?_
 refine LoadOb.mk _ (hrd _) ?_
 refine CondOb.mk (fun h3=>?_) (fun h3=>?_)
 ·have e3:d.k=3:=by simpa using h3
  refine CallOb.mk [] (os.blk 161++M0) _ (.refl _) (RFind_spec hg d.t) ?_
  rintro v I2 M2 - ⟨rfl,rfl,rfl⟩
  rw[List.nil_append]
  have hlk:=look_find d.t g.ds
  refine CondOb.mk (fun h4=>?_) (fun h4=>?_)
  ·refine⟨_,M0,.sub (List.sublist_append_right _ _) .refl,rfl,.inl ⟨hbad (decide_eq_true e3) ?_,rfl,rfl⟩⟩
   rw[hlk,show decide (findAt d.t g.ds 0 < 0)=true from h4]
   rfl
  ·have h4':¬ findAt d.t g.ds 0 < 0:=of_decide_eq_false h4
   rw[show decide (findAt d.t g.ds 0 < 0)=false from h4,cond_false] at hlk
   obtain⟨q,hq⟩:=Int.eq_ofNat_of_zero_le (by omega:0≤findAt d.t g.ds 0)
   have hlk':=hlk
   rw[places_first] at hlk'
   obtain⟨j,hj1,hj2⟩:=firstAt_lt hlk'
   have hql:q < fl.length:=by omega
   obtain⟨al,hal,hrl⟩:=hfl.rd q hql
   refine IdxOb.mk al q hal hq (by omega) ?_
   refine LoadOb.mk _ (hrl.sub fun x hx=>by simp[hx]) ?_
   obtain⟨rule,hrule⟩:∃ rule:Fl,rule=fl[q]:=⟨_,rfl⟩
   have hcome:∀ kl:List Fl,kl=d.kids.map (fun k=>acc.getD k.toNat fl0)→comeR d kl rule=comeFl d (kidsF (placesL g.ds) fl acc d):=fun kl hkl=>by
    have h0:d.kids=[]:=by
     have:=(fits_more hk0 hft).leaf (by omega)
     exact List.eq_nil_of_length_eq_zero (by omega)
    rw[comeR,e3,kidsF,h0,e3,hlk,hq]
    simp[comeFl,e3,hrule,List.getD_eq_getElem?_getD,hql]
   have hnx:=hnext (by rw[hlk];simp)
   have hcell:fl[q].cells=rule.cells:=by rw[hrule]
   have hsn':=hsn
   clear hsn hnext hbad hlk hlk' hq hrl hal
   refine LoopOb.inv (ι:=Nat×OS×List Fl) (fun x=>{ fl:=[(1,.val (.slice la ln lc)),(3,.ref 3 0),(5,.ref 5 0),(8,.val os.val),(9,.val (.int .i64 i)),(10,.ref 10 0),(11,.ref 11 0),(13,.val x.2.1.val),(14,.val (.int .i64 x.1))],cl:=[(3,[.slice g.a g.n g.c]),(5,t.cells),(10,d.cells),(11,rule.cells)],gi:=I2,mi:=x.2.1.blk 161++(os.blk 161++M0) })
    (fun x=>x.1≤d.kn∧x.2.1.ok 3 (x.2.2.flatMap Fl.cells)∧x.2.2=(d.kids.take x.1).map fun k=>acc.getD k.toNat fl0) (fun x=>d.kn - x.1) ?_ ?_
   ·exact⟨(0,OS0,[]),⟨Nat.zero_le _,OS0_ok 3,rfl⟩,.refl,.cons .refl (.cons .refl (.cons .refl (.cons .refl (.cons .refl (.cons .refl (.cons .refl (.cons .refl (.cons .refl (.nil))))))))),.cons rfl (.cons rfl (.cons rfl (.cons (congrArg some hcell) .nil)))⟩
   rintro⟨k,kl',kl⟩ ⟨hk,hk2,hkl⟩
   simp only at hk hk2 hkl
   have hk2n:kl'.n=kl.length:=by have:=hk2.len;rw[fl_len] at this;omega
   have hkll:kl.length≤k:=by rw[hkl,List.length_map];exact List.length_take_le _ _
   refine CondOb.mk (fun h=>?_) (fun h=>?_)
   ·have hkk:k < d.kn:=by have:(k:Int) < (d.kn:Int):=of_decide_eq_true h;omega
    have hkk':k < d.kids.length:=by omega
    obtain⟨ak,hak,hrk⟩:=hd.rs.one hkk hkk'
    have hq:=hkv _ (List.getElem_mem hkk')
    have hql:d.kids[k].toNat < acc.length:=by omega
    obtain⟨ao,hao,hro⟩:=OS.ok.row (I:=I2) (M:=kl'.blk 161++(os.blk 161++M0)) (e:=161) Fl.cells_len (by decide) hos (fun x hx=>by simp[hx]) hql
    refine IdxOb.mk ak k hak rfl hkk ?_
    refine LoadOb.mk _ (hrk _) ?_
    refine IdxOb.mk ao d.kids[k].toNat hao (by omega) (by omega) ?_
    refine LoadOb.mk _ hro ?_
    refine AllocOb.mk fun b9 hb9 hbM9=>?_
    refine OtherOb.app1 TryzEOK rfl (by simp) (e:=161) rfl rfl rfl kl' hk2 rfl (cs:=acc[d.kids[k].toNat].cells) rfl rfl rfl [] (os.blk 161++M0) rfl (by omega) (by show (kl'.n+1) * 3≤_;omega) ?_
    intro os2 hn2 hI2 hok2
    refine ArithOb.mk _ (next_wr (i:=k) (by omega)) ?_
    refine⟨(k+1,os2,kl++[acc[d.kids[k].toNat]]),⟨⟨by simp only;omega,?_,?_⟩,by simp only;omega⟩,.refl,.cons .refl (.cons .refl (.cons .refl (.cons .refl (.cons .refl (.cons .refl (.cons .refl (.cons .refl (.cons .refl (.nil))))))))),.cons rfl (.cons rfl (.cons rfl (.cons rfl (.nil))))⟩
    ·simp only
     rw[flat_snoc]
     exact hok2
    ·simp only
     rw[List.take_succ_eq_append_getElem hkk',List.map_append,←hkl]
     simp[List.getD_eq_getElem?_getD,hql]
   ·have hge:d.kn≤k:=by have:¬ (k:Int) < (d.kn:Int):=of_decide_eq_false h;omega
    rw[List.take_of_length_le (by omega)] at hkl
    have hkln:kl.length=d.kids.length:=by rw[hkl,List.length_map]
    have hks:=OS.fsAt (I:=I2) (M:=kl'.blk 161++(os.blk 161++M0)) (e:=161) hk2 (fun x hx=>by simp[hx])
    refine CallOb.mk (kl'.blk 161++(os.blk 161++M0)) [] _ perm_nil (rNode_spec ⟨hk0,hk10⟩ hks (by omega) (fun h6=>by have:=fits_kid hk0 hft h6;omega) rule) ?_
    rintro v I3 M3 - ⟨rfl,rfl,rfl⟩
    rw[List.append_nil]
    refine AllocOb.mk fun b9 hb9 hbM9=>?_
    refine OtherOb.app1 TryzEOK rfl (by simp) (e:=161) rfl rfl rfl os hos rfl (cs:=(comeR d kl rule).cells) rfl rfl rfl (kl'.blk 161) M0 rfl (by omega) (by show (os.n+1) * 3≤_;omega) ?_
    intro os2 hn2 hI2 hok2
    refine ArithOb.mk _ (next_wr (i:=i) (by omega)) ?_
    refine⟨(i+1,os2),⟨⟨by simp only;omega,?_,hnx⟩,by simp only;omega⟩,.sub (List.sublist_append_right _ _) .refl,.cons .refl (.cons .refl (.cons .refl (.cons .refl (.cons .refl (.nil))))),.cons rfl (.cons rfl (.nil))⟩
    simp only
    rw[hsn',flat_snoc,←hcome kl hkl]
    exact hok2
 ·have e3:¬ d.k=3:=by simpa using h3
  obtain⟨rule,hrule⟩:∃ rule:Fl,rule=fl0:=⟨_,rfl⟩
  have hcome:∀ kl:List Fl,kl=d.kids.map (fun k=>acc.getD k.toNat fl0)→comeR d kl rule=comeFl d (kidsF (placesL g.ds) fl acc d):=fun kl hkl=>by
   rw[comeR,kidsF,decide_eq_false e3,cond_false,cond_false,List.append_nil,hkl]
  have hnx:=hnext (by rw[decide_eq_false e3];rfl)
  have hcell:fl0.cells=rule.cells:=by rw[hrule]
  have hsn':=hsn
  clear hsn hnext hbad
  refine LoopOb.inv (ι:=Nat×OS×List Fl) (fun x=>{ fl:=[(1,.val (.slice la ln lc)),(3,.ref 3 0),(5,.ref 5 0),(8,.val os.val),(9,.val (.int .i64 i)),(10,.ref 10 0),(11,.ref 11 0),(13,.val x.2.1.val),(14,.val (.int .i64 x.1))],cl:=[(3,[.slice g.a g.n g.c]),(5,t.cells),(10,d.cells),(11,rule.cells)],gi:=I1,mi:=x.2.1.blk 161++(os.blk 161++M0) })
   (fun x=>x.1≤d.kn∧x.2.1.ok 3 (x.2.2.flatMap Fl.cells)∧x.2.2=(d.kids.take x.1).map fun k=>acc.getD k.toNat fl0) (fun x=>d.kn - x.1) ?_ ?_
  ·exact⟨(0,OS0,[]),⟨Nat.zero_le _,OS0_ok 3,rfl⟩,.refl,.cons .refl (.cons .refl (.cons .refl (.cons .refl (.cons .refl (.cons .refl (.cons .refl (.cons .refl (.cons .refl (.nil))))))))),.cons rfl (.cons rfl (.cons rfl (.cons (congrArg some hcell) .nil)))⟩
  rintro⟨k,kl',kl⟩ ⟨hk,hk2,hkl⟩
  simp only at hk hk2 hkl
  have hk2n:kl'.n=kl.length:=by have:=hk2.len;rw[fl_len] at this;omega
  have hkll:kl.length≤k:=by rw[hkl,List.length_map];exact List.length_take_le _ _
  refine CondOb.mk (fun h=>?_) (fun h=>?_)
  ·have hkk:k < d.kn:=by have:(k:Int) < (d.kn:Int):=of_decide_eq_true h;omega
   have hkk':k < d.kids.length:=by omega
   obtain⟨ak,hak,hrk⟩:=hd.rs.one hkk hkk'
   have hq:=hkv _ (List.getElem_mem hkk')
   have hql:d.kids[k].toNat < acc.length:=by omega
   obtain⟨ao,hao,hro⟩:=OS.ok.row (I:=I1) (M:=kl'.blk 161++(os.blk 161++M0)) (e:=161) Fl.cells_len (by decide) hos (fun x hx=>by simp[hx]) hql
   refine IdxOb.mk ak k hak rfl hkk ?_
   refine LoadOb.mk _ (hrk _) ?_
   refine IdxOb.mk ao d.kids[k].toNat hao (by omega) (by omega) ?_
   refine LoadOb.mk _ hro ?_
   refine AllocOb.mk fun b9 hb9 hbM9=>?_
   refine OtherOb.app1 TryzEOK rfl (by simp) (e:=161) rfl rfl rfl kl' hk2 rfl (cs:=acc[d.kids[k].toNat].cells) rfl rfl rfl [] (os.blk 161++M0) rfl (by omega) (by show (kl'.n+1) * 3≤_;omega) ?_
   intro os2 hn2 hI2 hok2
   refine ArithOb.mk _ (next_wr (i:=k) (by omega)) ?_
   refine⟨(k+1,os2,kl++[acc[d.kids[k].toNat]]),⟨⟨by simp only;omega,?_,?_⟩,by simp only;omega⟩,.refl,.cons .refl (.cons .refl (.cons .refl (.cons .refl (.cons .refl (.cons .refl (.cons .refl (.cons .refl (.cons .refl (.nil))))))))),.cons rfl (.cons rfl (.cons rfl (.cons rfl (.nil))))⟩
   ·simp only
    rw[flat_snoc]
    exact hok2
   ·simp only
    rw[List.take_succ_eq_append_getElem hkk',List.map_append,←hkl]
    simp[List.getD_eq_getElem?_getD,hql]
  ·have hge:d.kn≤k:=by have:¬ (k:Int) < (d.kn:Int):=of_decide_eq_false h;omega
   rw[List.take_of_length_le (by omega)] at hkl
   have hkln:kl.length=d.kids.length:=by rw[hkl,List.length_map]
   have hks:=OS.fsAt (I:=I1) (M:=kl'.blk 161++(os.blk 161++M0)) (e:=161) hk2 (fun x hx=>by simp[hx])
   refine CallOb.mk (kl'.blk 161++(os.blk 161++M0)) [] _ perm_nil (rNode_spec ⟨hk0,hk10⟩ hks (by omega) (fun h6=>by have:=fits_kid hk0 hft h6;omega) rule) ?_
   rintro v I3 M3 - ⟨rfl,rfl,rfl⟩
   rw[List.append_nil]
   refine AllocOb.mk fun b9 hb9 hbM9=>?_
   refine OtherOb.app1 TryzEOK rfl (by simp) (e:=161) rfl rfl rfl os hos rfl (cs:=(comeR d kl rule).cells) rfl rfl rfl (kl'.blk 161) M0 rfl (by omega) (by show (os.n+1) * 3≤_;omega) ?_
   intro os2 hn2 hI2 hok2
   refine ArithOb.mk _ (next_wr (i:=i) (by omega)) ?_
   refine⟨(i+1,os2),⟨⟨by simp only;omega,?_,hnx⟩,by simp only;omega⟩,.sub (List.sublist_append_right _ _) .refl,.cons .refl (.cons .refl (.cons .refl (.cons .refl (.cons .refl (.nil))))),.cons rfl (.cons rfl (.nil))⟩
   simp only
   rw[hsn',flat_snoc,←hcome kl hkl]
   exact hok2
theorem RFTree_spec {I:GH} {M0:List Blk} {g:Gr} (hg:g.ok I) {t:Tr} (ht:t.ok I) {W:Nat} (hf:Fit t W) {la:Option Addr} {ln lc:Nat} {fl:List Fl} (hfl:FsAt I M0 la ln fl) :
  Spec Tryz.prog 105 [g.val,.slice la ln lc,t.val] I M0 fun v I' M'=>I'=I∧M'=M0 ∧
   v=.tuple #[((treeP g fl t).getD fl0).val,.bool (treeP g fl t).isSome]:=by
 refine spec_of_V [] TryzEOK Tryz.func105 rfl rfl rfl ?_
 intro B h0
 have htn:=ht.n
 refine CallOb.mk M0 [] _ perm_nil (RFNodes_spec hg ht hf hfl) ?_
 rintro v I1 M1 - ⟨rfl,⟨hn,rfl,rfl⟩ | ⟨r,os,hn,hos,rfl,rfl⟩⟩
 ·rw[List.append_nil]
  refine CondOb.mk (fun _=>?_) (fun h=>by simp at h)
  exact⟨_,_,.refl,rfl,rfl,by rw[treeP,hn];rfl⟩
 ·obtain⟨hr,hrl⟩:=nodesP_len hn
  have hroot:=right_root hr
  rw[List.append_nil]
  refine CondOb.mk (fun h=>by simp at h) (fun _=>?_)
  have hrl':t.root.toNat < r.length:=by omega
  have hosn:os.n=r.length:=by have:=hos.len;rw[fl_len] at this;omega
  obtain⟨ad,had,hrd⟩:=OS.ok.row (I:=I1) (M:=os.blk 161++M0) Fl.cells_len (by decide) hos (fun x hx=>List.mem_append.2 (.inl hx)) hrl'
  refine IdxOb.mk ad t.root.toNat had (by omega) (by omega) ?_
  refine LoadOb.mk _ hrd ?_
  refine⟨_,M0,.sub (List.sublist_append_right _ _) .refl,rfl,rfl,?_⟩
  rw[treeP,hn]
  simp only[Option.map_some,Option.getD_some,Option.isSome_some,List.getD_eq_getElem?_getD,List.getElem?_eq_getElem hrl']
  rfl
end Go.V
