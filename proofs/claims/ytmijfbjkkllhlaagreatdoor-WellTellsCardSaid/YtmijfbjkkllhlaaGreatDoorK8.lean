/-
  Part 8 of what the proofs of this seat share: the executor, data in memory, walks.
-/
import Derived.Test.YtmijfbjkkllhlaaGreatDoorK7
import Derived.Test.YtmijfbjkkllhlaaGreatDoorK3
import Derived.Test.YtmijfbjkkllhlaaGreatDoorK6
import Derived.Test.YtmijfbjkkllhlaaGreatDoorK4
import Derived.Lib.TrailingZeros
import Derived.Test.YtmijfbjkkllhlaaGreatDoorK5
set_option linter.all false
namespace Go.V
open Go Go.Proofs
def refLefts (ds:List Df) (F:List Fl) (i:Nat):List Nat:=(List.range ds.length).filter fun k=>(rawL ds F i).contains k
theorem range_filter_succ (p:Nat→Bool) (i:Nat):(List.range (i+1)).filter p=(List.range i).filter p++bif p i then [i] else []:=by
 rw[List.range_succ,List.filter_append]
 cases h:p i<;>simp[h]
theorem range_filter_len (p:Nat→Bool) (i:Nat):((List.range i).filter p).length≤i:=by
 have:=List.length_filter_le p (List.range i)
 simpa using this
set_option maxRecDepth 100000 in
set_option maxHeartbeats 8000000 in
theorem RLefts_spec {I:GH} {M0:List Blk} {deb:List Int} (hcl:ClsOk deb) {g:Gr} (hg:g.ok I) (hf:GFit g) (r:Int):Spec Tryz.prog 27 [g.val,.int .i64 r] I M0 fun v I' M'=>(∀ b o,I b=some o→I' b=some o) ∧
  ∃ (os:OS) (l:List Nat),os.ok 1 (intsV l)∧v=os.val∧M'=os.blk 3++M0∧(((mayG deb g≠0∨r < 0∨(g.n:Int)≤r)∧l=[])∨(mayG deb g=0∧∃ F k,r=(k:Nat)∧k < g.n∧IsFlow g.ds F∧l=refLefts g.ds F k)):=by
 refine spec_of_V [] TryzEOK Tryz.func27 rfl rfl rfl ?_
 intro B h0
 have hgn:=hg.n
 have hfn:=hf.n
 have hcap:=hg.rs.cap
 refine CallOb.whole _ (RFOf_fr hcl hg hf) ?_
 rintro v J N - ⟨hJ,⟨hm,rfl,rfl⟩ | ⟨hm,bf,F,rfl,rfl,hF⟩⟩
 ·subst J
  refine GuardOb.mk (fun h=>?_) (fun h=>?_)
  ·exact absurd h (by simp[hm])
  exact⟨_,N,.refl,fun _ _ h=>h,OS0,[],OS0_ok 1,rfl,rfl,.inl ⟨.inl hm,rfl⟩⟩
 subst J
 refine GuardOb.mk (fun _=>?_) (fun h=>by cases h)
 refine GuardOb.mk (fun h1=>?_) (fun h1=>?_)
 rotate_left
 ·have h1':r < 0:=by have:decide (r < 0)=true:=h1;simpa using this
  exact⟨_,M0,.sub (.cons _ (.refl _)) .refl,fun _ _ h=>h,OS0,[],OS0_ok 1,rfl,rfl,.inl ⟨.inr (.inl h1'),rfl⟩⟩
 have h1':¬ r < 0:=by have:decide (r < 0)=false:=h1;simpa using this
 refine CondOb.mk (fun h2=>?_) (fun h2=>?_)
 ·have h2':(g.n:Int)≤r:=of_decide_eq_true h2
  exact⟨_,M0,.sub (.cons _ (.refl _)) .refl,fun _ _ h=>h,OS0,[],OS0_ok 1,rfl,rfl,.inl ⟨.inr (.inr h2'),rfl⟩⟩
 have h2':¬ (g.n:Int)≤r:=of_decide_eq_false h2
 obtain⟨k,rfl⟩:∃ k:Nat,r=k:=⟨r.toNat,by omega⟩
 have hk:k < g.n:=by omega
 have hk':k < g.ds.length:=by omega
 have hM:=mayF_of hgn hm
 have hFn:F.length=g.n:=by rw[hF.len,hgn]
 have hdm:=List.getElem_mem hk'
 obtain⟨ad,had,hrd⟩:=hg.rs.row Df.cells_len hk hk'
 have hd:=hg.ds _ hdm
 have hr:=hM.right _ hdm
 have hno:=hM.named _ hdm
 have hft:=hf.ds _ hdm
 have hraw:rawL g.ds F k=(leftAt (placesL g.ds) F g.ds[k].t.ns g.ds[k].t.root).2:=by
  rw[rawL,List.getElem?_eq_getElem hk']
 generalize g.ds[k]=d at *
 have hFs:FsAt I (flRowR bf F::M0) (some ⟨bf,0,none⟩) g.n F:=by
  have:=flRowR_at (I:=I) (M:=flRowR bf F::M0) (b:=bf) (l:=F) (by simp)
  rwa [hFn] at this
 have hsp:=RLefts_rec (g:=g) (F:=F) hFn (W:=1000000) d.t.ns.length (M0:=flRowR bf F::M0) hg hd.t hr hft hno (fc:=g.n) hFs (Nat.le_refl _)
 have hlen:=left_root (pl:=placesL g.ds) (F:=F) hr
 have hfn2:=hft.n
 have htn:=hd.t.n
 rw[←hraw] at hsp hlen
 refine CodeOb.draw TryzEOK rfl rfl rfl ?_
 refine IdxOb.mk ad k had rfl hk ?_
 refine LoadOb.mk d.t.cells ((hrd _).part (k:=1) (m:=2) (by decide)) ?_
 refine CallOb.whole _ hsp ?_
 rintro v K N - ⟨hK,op,hop,rfl,hN⟩
 subst N
 have hbn:(rawL g.ds F k).length≤140737488355328:=by omega
 generalize hrw:rawL g.ds F k=raw at hop hbn
 refine LoopOb.inv (ι:=Nat×OS) (fun x=>{ fl:=[(2,.ref 2 0),(7,.val op.val),(8,.val x.2.val),(9,.val (.int .i64 x.1))],cl:=[(2,[.slice g.a g.n g.c])],gi:=K,mi:=x.2.blk 3++(op.blk 3++(flRowR bf F::M0)) })
  (fun x=>x.1≤g.n∧x.2.ok 1 (intsV ((List.range x.1).filter fun q=>raw.contains q))) (fun x=>g.n - x.1) ?_ ?_
 ·exact⟨(0,OS0),⟨Nat.zero_le _,OS0_ok 1⟩,.refl,aF4,.cons rfl (.nil)⟩
 rintro⟨i,oq⟩ ⟨hi,hoq⟩
 simp only at hi hoq
 have hp:=OS.pos hoq
 have hpl:=range_filter_len (fun q=>raw.contains q) i
 refine CondOb.mk (fun h=>?_) (fun h=>?_)
 rotate_left
 ·have hge:i=g.n:=by have:¬ (i:Int) < (g.n:Int):=of_decide_eq_false h;omega
  refine⟨_,oq.blk 3++M0,.sub (List.Sublist.append (.refl _) ((List.sublist_cons_self _ _).trans (List.sublist_append_right _ _))) .refl,hK,oq,_,hoq,rfl,rfl,.inr ⟨hm,F,k,rfl,hk,hF,?_⟩⟩
  rw[refLefts,hrw,hge,hgn]
 have hlt:i < g.n:=by have:(i:Int) < (g.n:Int):=of_decide_eq_true h;omega
 refine CallOb.whole _ (RIn_spec i hop (fun z hz=>List.mem_append_right _ (List.mem_append_left _ hz)) hbn) ?_
 rintro v K2 N - ⟨rfl,hK2,hN⟩
 subst K2
 subst N
 refine CondOb.mk (fun he=>?_) (fun he=>?_)
 ·have he':raw.contains i=true:=he
  refine AllocOb.mk fun b9 hb9 hbM9=>?_
  refine OtherOb.app1 TryzEOK rfl (by simp) (e:=3) rfl rfl rfl oq hoq rfl (cs:=[.int .i64 i]) rfl rfl rfl [] (op.blk 3++(flRowR bf F::M0)) rfl (by omega) (by show (oq.n+1) * 8≤_;omega) ?_
  intro os2 hn2 hI2 hok2
  refine ArithOb.mk _ (next_wr (i:=i) (by omega)) ?_
  refine⟨(i+1,os2),⟨⟨hlt,?_⟩,by simp only;omega⟩,.refl,aF4,.cons rfl (.nil)⟩
  simp only
  rw[range_filter_succ,he',cond_true,intsV_app]
  exact hok2
 ·have he':raw.contains i=false:=he
  refine ArithOb.mk _ (next_wr (i:=i) (by omega)) ?_
  refine⟨(i+1,oq),⟨⟨hlt,?_⟩,by simp only;omega⟩,.refl,aF4,.cons rfl (.nil)⟩
  simp only
  rw[range_filter_succ,he',cond_false,List.append_nil]
  exact hoq
def endL (ds:List Df) (F:List Fl) (i:Nat):Bool:=match ds[i]? with
 | some d=>(endAt (placesL ds) F d.t.ns d.t.root).2
 | none=>false
def refLoops (ds:List Df) (F:List Fl):List Nat:=(List.range ds.length).filter (endL ds F)
set_option maxRecDepth 100000 in
set_option maxHeartbeats 8000000 in
theorem RLoops_spec {I:GH} {M0:List Blk} {deb:List Int} (hcl:ClsOk deb) {g:Gr} (hg:g.ok I) (hf:GFit g):Spec Tryz.prog 19 [g.val] I M0 fun v I' M'=>(∀ b o,I b=some o→I' b=some o) ∧
  ∃ (os:OS) (l:List Nat),os.ok 1 (intsV l)∧v=os.val∧M'=os.blk 3++M0∧((mayG deb g≠0∧l=[])∨(mayG deb g=0∧∃ F,IsFlow g.ds F∧l=refLoops g.ds F)):=by
 refine spec_of_V [] TryzEOK Tryz.func19 rfl rfl rfl ?_
 intro B h0
 have hgn:=hg.n
 have hfn:=hf.n
 have hcap:=hg.rs.cap
 refine CallOb.whole _ (RFOf_fr hcl hg hf) ?_
 rintro v J N - ⟨hJ,⟨hm,rfl,rfl⟩ | ⟨hm,bf,F,rfl,rfl,hF⟩⟩
 ·subst J
  refine LoopOb.unroll 1 ?_
  refine GuardOb.mk (fun h=>?_) (fun h=>?_)
  ·refine CondOb.mk (fun h=>absurd h (by simp[hm])) (fun h=>?_)
   exact⟨_,N,.refl,fun _ _ h=>h,OS0,[],OS0_ok 1,rfl,rfl,.inl ⟨hm,rfl⟩⟩
  ·exact⟨_,N,.refl,fun _ _ h=>h,OS0,[],OS0_ok 1,rfl,rfl,.inl ⟨hm,rfl⟩⟩
 subst J
 have hM:=mayF_of hgn hm
 have hFn:F.length=g.n:=by rw[hF.len,hgn]
 refine LoopOb.inv (ι:=Nat×OS×GH) (fun x=>{ fl:=[(1,.ref 1 0),(3,.val (.slice (some ⟨bf,0,none⟩) g.n g.n)),(4,.val (.int .i64 0)),(5,.val x.2.1.val),(6,.val (.int .i64 x.1))],cl:=[(1,[.slice g.a g.n g.c])],gi:=x.2.2,mi:=x.2.1.blk 3++(flRowR bf F::M0) })
  (fun x=>x.1≤g.n∧x.2.1.ok 1 (intsV ((List.range x.1).filter (endL g.ds F)))∧∀ b o,I b=some o→x.2.2 b=some o) (fun x=>g.n - x.1) ?_ ?_
 ·exact⟨(0,OS0,I),⟨Nat.zero_le _,OS0_ok 1,fun _ _ h=>h⟩,.refl,aF5,.cons rfl (.nil)⟩
 rintro⟨i,oq,K⟩ ⟨hi,hoq,hK⟩
 simp only at hi hoq hK
 have hp:=OS.pos hoq
 have hpl:=range_filter_len (endL g.ds F) i
 refine GuardOb.mk (fun h=>?_) (fun h=>?_)
 rotate_left
 ·have hge:i=g.n:=by
   have:decide ((i:Int) < (g.n:Int))=false:=h
   have:=of_decide_eq_false this
   omega
  refine⟨_,oq.blk 3++M0,.sub (List.Sublist.append (.refl _) (List.sublist_cons_self _ _)) .refl,hK,oq,_,hoq,rfl,rfl,.inr ⟨hm,F,hF,?_⟩⟩
  rw[refLoops,hge,hgn]
 have hlt:i < g.n:=by
  have:decide ((i:Int) < (g.n:Int))=true:=h
  have:=of_decide_eq_true this
  omega
 refine CondOb.mk (fun _=>?_) (fun h=>absurd h (by simp))
 have hlt':i < g.ds.length:=by omega
 have hgK:=hg.mono hK
 have hdm:=List.getElem_mem hlt'
 obtain⟨ad,had,hrd⟩:=hgK.rs.row Df.cells_len hlt hlt'
 have hd:=hgK.ds _ hdm
 have hr:=hM.right _ hdm
 have hno:=hM.named _ hdm
 have hft:=hf.ds _ hdm
 have hend:endL g.ds F i=(endAt (placesL g.ds) F g.ds[i].t.ns g.ds[i].t.root).2:=by
  rw[endL,List.getElem?_eq_getElem hlt']
 generalize g.ds[i]=d at *
 have hFs:FsAt K (oq.blk 3++(flRowR bf F::M0)) (some ⟨bf,0,none⟩) g.n F:=by
  have:=flRowR_at (I:=K) (M:=oq.blk 3++(flRowR bf F::M0)) (b:=bf) (l:=F) (by simp)
  rwa [hFn] at this
 have hsp:=REndless_rec (g:=g) (F:=F) hFn (W:=1000000) d.t.ns.length (M0:=oq.blk 3++(flRowR bf F::M0)) hgK hd.t hr hft hno (fc:=g.n) hFs (Nat.le_refl _)
 rw[←hend] at hsp
 refine CodeOb.draw TryzEOK rfl rfl rfl ?_
 refine IdxOb.mk ad i had rfl hlt ?_
 refine LoadOb.mk d.t.cells ((hrd _).part (k:=1) (m:=2) (by decide)) ?_
 refine CallOb.whole _ hsp ?_
 rintro v K2 N - ⟨hK2,rfl,hN⟩
 subst N
 have hK12:∀ b o,I b=some o→K2 b=some o:=fun b o h=>hK2 _ _ (hK _ _ h)
 refine CondOb.mk (fun he=>?_) (fun he=>?_)
 ·have he':endL g.ds F i=true:=he
  refine AllocOb.mk fun b9 hb9 hbM9=>?_
  refine OtherOb.app1 TryzEOK rfl (by simp) (e:=3) rfl rfl rfl oq hoq rfl (cs:=[.int .i64 i]) rfl rfl rfl [] (flRowR bf F::M0) rfl (by omega) (by show (oq.n+1) * 8≤_;omega) ?_
  intro os2 hn2 hI2 hok2
  refine ArithOb.mk _ (next_wr (i:=i) (by omega)) ?_
  refine⟨(i+1,os2,K2),⟨⟨hlt,?_,hK12⟩,by simp only;omega⟩,.refl,aF5,.cons rfl (.nil)⟩
  simp only
  rw[range_filter_succ,he',cond_true,intsV_app]
  exact hok2
 ·have he':endL g.ds F i=false:=he
  refine ArithOb.mk _ (next_wr (i:=i) (by omega)) ?_
  refine⟨(i+1,oq,K2),⟨⟨hlt,?_,hK12⟩,by simp only;omega⟩,.refl,aF5,.cons rfl (.nil)⟩
  simp only
  rw[range_filter_succ,he',cond_false,List.append_nil]
  exact hoq
inductive ComesL (A:Nat→List Nat):Nat→Nat→Prop
 | one {i k} (h:k∈A i):ComesL A i k
 | step {i j k} (h:j∈A i) (t:ComesL A j k):ComesL A i k
theorem ComesL.snoc {A:Nat→List Nat} {i j k:Nat} (h:ComesL A i j) (hk:k∈A j):ComesL A i k:=by
 induction h with
 | one h=>exact .step h (.one hk)
 | step h t ih=>exact .step h (ih hk)
def addAll:List Nat→List Nat→List Nat
 | [],l=>l
 | x::r,l=>addAll r (bif l.contains x then l else l++[x])
theorem addAll_mem:∀ (r l:List Nat) (x:Nat),x∈addAll r l ↔ x∈l∨x∈r
 | [],l,x=>by simp[addAll]
 | y::r,l,x=>by
  rw[addAll,addAll_mem r]
  cases h:l.contains y with
  | true=>
   have hy:y∈l:=by simpa using h
   rw[cond_true]
   constructor
   ·rintro(a | a)
    ·exact .inl a
    ·exact .inr (.tail _ a)
   ·rintro(a | a)
    ·exact .inl a
    ·rcases List.mem_cons.1 a with rfl | a
     ·exact .inl hy
     ·exact .inr a
  | false=>
   rw[cond_false]
   rw[List.mem_append,List.mem_singleton,List.mem_cons]
   constructor
   ·rintro((a | a) | a)
    ·exact .inl a
    ·exact .inr (.inl a)
    ·exact .inr (.inr a)
   ·rintro(a | a | a)
    ·exact .inl (.inl a)
    ·exact .inl (.inr a)
    ·exact .inr a
theorem addAll_pre:∀ (r l:List Nat),∃ s,addAll r l=l++s
 | [],l=>⟨[],by simp[addAll]⟩
 | y::r,l=>by
  obtain⟨s,hs⟩:=addAll_pre r (bif l.contains y then l else l++[y])
  rw[addAll,hs]
  cases l.contains y with
  | true=>exact⟨s,rfl⟩
  | false=>exact⟨[y]++s,by simp⟩
theorem addAll_nodup:∀ (r l:List Nat),l.Nodup→(addAll r l).Nodup
 | [],l,h=>h
 | y::r,l,h=>by
  rw[addAll]
  apply addAll_nodup r
  cases hc:l.contains y with
  | true=>exact h
  | false=>
   have hy:y ∉ l:=by simpa using hc
   rw[cond_false,List.nodup_append]
   refine⟨h,by simp,fun a ha b hb e=>?_⟩
   have:b=y:=by simpa using hb
   subst this
   subst e
   exact hy ha
theorem below_len:∀ (n:Nat) (l:List Nat),l.Nodup→(∀ x∈l,x < n)→l.length≤n
 | 0,[],_,_=>Nat.le_refl _
 | 0,a::l,_,h=>absurd (h a (.head _)) (Nat.not_lt_zero _)
 | n+1,l,hd,h=>by
  have h1:=below_len n (l.erase n) (hd.erase n) fun x hx=>by
   have h2:=h x (List.mem_of_mem_erase hx)
   have h3:x≠n:=(hd.mem_erase_iff.1 hx).1
   omega
  have h4:=List.length_erase (a:=n) (l:=l)
  split at h4<;>omega
def workGo (A:Nat→List Nat):Nat→Nat→List Nat→List Nat
 | 0,_,l=>l
 | f+1,k,l=>match l[k]? with
  | some x=>workGo A f (k+1) (addAll (A x) l)
  | none=>l
structure Work (A:Nat→List Nat) (n k:Nat) (l0 l:List Nat):Prop where
 nd:l.Nodup
 lt:∀ x∈l,x < n
 sub:∀ x∈l0,x∈l
 src:∀ x∈l,x∈l0∨∃ y∈l0,ComesL A y x
 dn:∀ j x,j < k→l[j]?=some x→∀ y∈A x,y∈l
 k:k≤l.length
theorem Work.len {A:Nat→List Nat} {n k:Nat} {l0 l:List Nat} (h:Work A n k l0 l):l.length≤n:=below_len n l h.nd h.lt
theorem Work.next {A:Nat→List Nat} {n k:Nat} {l0 l:List Nat} (hA:∀ x,∀ y∈A x,y < n) (h:Work A n k l0 l) {x:Nat} (hx:l[k]?=some x):Work A n (k+1) l0 (addAll (A x) l):=by
 obtain⟨s,hs⟩:=addAll_pre (A x) l
 have hk:k < l.length:=by
  rcases Nat.lt_or_ge k l.length with h1 | h1
  ·exact h1
  ·rw[List.getElem?_eq_none h1] at hx
   cases hx
 have hxl:x∈l:=List.mem_of_getElem? hx
 refine⟨addAll_nodup _ _ h.nd,fun z hz=>?_,fun z hz=>(addAll_mem _ _ _).2 (.inl (h.sub z hz)),fun z hz=>?_,fun j z hj hz y hy=>?_,by rw[hs];simp;omega⟩
 ·rcases(addAll_mem _ _ _).1 hz with a | a
  ·exact h.lt z a
  ·exact hA x z a
 ·rcases(addAll_mem _ _ _).1 hz with a | a
  ·exact h.src z a
  ·rcases h.src x hxl with b | ⟨w,hw,b⟩
   ·exact .inr ⟨x,b,.one a⟩
   ·exact .inr ⟨w,hw,b.snoc a⟩
 ·have hz':l[j]?=some z:=by
   rw[hs,List.getElem?_append_left (by omega)] at hz
   exact hz
  by_cases e:j=k
  ·subst e
   rw[hx] at hz'
   obtain rfl:=Option.some.inj hz'
   exact(addAll_mem _ _ _).2 (.inr hy)
  ·exact(addAll_mem _ _ _).2 (.inl (h.dn j z (by omega) hz' y hy))
theorem Work.done {A:Nat→List Nat} {n:Nat} {i:Nat} {l:List Nat} (h:Work A n l.length (A i) l) (x:Nat):x∈l ↔ ComesL A i x:=by
 constructor
 ·intro hx
  rcases h.src x hx with a | ⟨y,hy,a⟩
  ·exact .one a
  ·exact .step hy a
 ·have cl:∀ {y z:Nat},ComesL A y z→y∈l→z∈l:=fun {y z} hc=>by
   induction hc with
   | one hk=>
    intro hy
    obtain⟨j,hj,e⟩:=List.getElem_of_mem hy
    exact h.dn j _ hj (by rw[List.getElem?_eq_getElem hj,e]) _ hk
   | step hj t ih=>
    intro hy
    refine ih ?_
    obtain⟨q,hq,e⟩:=List.getElem_of_mem hy
    exact h.dn q _ hq (by rw[List.getElem?_eq_getElem hq,e]) _ hj
  intro hc
  cases hc with
  | one hk=>exact h.sub x hk
  | step hj t=>exact cl t (h.sub _ hj)
theorem endF_at {pl:List (ByteArray×Int)} {F:List Fl} {t:Tr} (hr:right t=true) {j:Nat} (hj:j < t.ns.length):(endAt pl F t.ns j).2=true ↔ ∃ k∈t.ns[j].kids,(t.ns[j].k=6∧t.ns[j].hi=-1∧(nodesF pl F t.ns []).getD k.toNat fl0=(nodesF pl F t.ns []).getD k.toNat fl0∧((nodesF pl F t.ns []).getD k.toNat fl0).z=true)∨(endAt pl F t.ns k).2=true:=by
 have hfl:∀ k∈t.ns[j].kids,(endAt pl F t.ns k).1.1=(nodesF pl F t.ns []).getD k.toNat fl0:=fun k hk=>by
  obtain⟨h1,h2⟩:=right_kids hr j hj k hk
  obtain⟨q,rfl⟩:=Int.eq_ofNat_of_zero_le h1
  rw[end_left hr (q+1) q (by omega) (by omega),left_flow]
 rw[end_eq hr hj]
 show endF pl F t.ns[j] _=true ↔ _
 unfold endF
 rw[List.any_eq_true]
 constructor
 ·rintro⟨x,hx,h⟩
  obtain⟨k,hk,rfl⟩:=List.mem_map.1 hx
  refine⟨k,hk,?_⟩
  rw[hfl k hk] at h
  simp only[Bool.or_eq_true,Bool.and_eq_true,decide_eq_true_eq] at h
  rcases h with ⟨a,b,c⟩ | h
  ·exact .inl ⟨a,b,rfl,c⟩
  ·exact .inr h
 ·rintro⟨k,hk,h⟩
  refine⟨_,List.mem_map.2 ⟨k,hk,rfl⟩,?_⟩
  rw[hfl k hk]
  simp only[Bool.or_eq_true,Bool.and_eq_true,decide_eq_true_eq]
  rcases h with ⟨a,b,-,c⟩ | h
  ·exact .inl ⟨a,b,c⟩
  ·exact .inr h
theorem end_up {pl:List (ByteArray×Int)} {F:List Fl} {t:Tr} (hr:right t=true):∀ (m j:Nat),j < t.ns.length→t.ns.length - j≤m→(endAt pl F t.ns j).2=true→(endAt pl F t.ns t.root).2=true
 | 0,j,hj,hm,_=>by omega
 | m+1,j,hj,hm,h=>by
  by_cases e:(j:Int)=t.root
  ·rw[←e]
   exact h
  ·obtain⟨p,hp,hk,hlt⟩:=right_parent hr hj e
   exact end_up hr m p hp (by omega) ((endF_at hr hp).2 ⟨_,hk,.inr h⟩)
theorem headD_mem1 {l:List Int} {k:Int} (hk:k∈l) (h:l.length=1):l.headD 0=k:=by
 match l,h with
 | [a],_=>exact(List.mem_singleton.1 hk).symm
theorem end_down {pl:List (ByteArray×Int)} {F:List Fl} {t:Tr} (hr:right t=true) (h1:∀ d∈t.ns,d.k=6→d.kids.length=1):∀ (m j:Nat),j < m→∀ (hj:j < t.ns.length),(endAt pl F t.ns j).2=true→endlessN t.ns (nodesF pl F t.ns [])=true
 | 0,j,h,_,_=>absurd h (Nat.not_lt_zero _)
 | m+1,j,hm,hj,h=>by
  obtain⟨k,hk,⟨a,b,-,c⟩ | h⟩:=(endF_at hr hj).1 h
  ·refine List.any_eq_true.2 ⟨t.ns[j],List.getElem_mem hj,?_⟩
   simp only[Bool.and_eq_true,decide_eq_true_eq]
   refine⟨a,b,?_⟩
   rw[headD_mem1 hk (h1 _ (List.getElem_mem hj) a)]
   exact c
  ·obtain⟨h2,h3⟩:=right_kids hr j hj k hk
   obtain⟨q,rfl⟩:=Int.eq_ofNat_of_zero_le h2
   exact end_down hr h1 m q (by omega) (by omega) h
theorem end_any {pl:List (ByteArray×Int)} {F:List Fl} {t:Tr} (hr:right t=true) (h1:∀ d∈t.ns,d.k=6→d.kids.length=1):(endAt pl F t.ns t.root).2=endlessN t.ns (nodesF pl F t.ns []):=by
 obtain⟨r0,r1⟩:=right_root hr
 obtain⟨r,hrr⟩:=Int.eq_ofNat_of_zero_le r0
 apply Bool.eq_iff_iff.2
 constructor
 ·intro h
  rw[hrr] at h
  exact end_down hr h1 (r+1) r (by omega) (by omega) h
 ·intro h
  obtain⟨d,hd,h⟩:=List.any_eq_true.1 h
  obtain⟨j,hj,rfl⟩:=List.getElem_of_mem hd
  simp only[Bool.and_eq_true,decide_eq_true_eq] at h
  obtain⟨a,b,c⟩:=h
  have hl:=h1 _ hd a
  have hk:t.ns[j].kids.headD 0∈t.ns[j].kids:=by
   match hx:t.ns[j].kids,hl with
   | [q],_=>simp
  exact end_up hr t.ns.length j hj (by omega) ((endF_at hr hj).2 ⟨_,hk,.inl ⟨a,b,rfl,c⟩⟩)
theorem rows_eq {ds:List Df} {F:List Fl} (hn:ds.length≤64) {i:Nat} (hlt:∀ k∈rawL ds F i,k < ds.length):refLefts ds F i=wLefts (syOf ds F) i:=by
 unfold refLefts wLefts bitsOf
 have h64:(List.range 64)=List.range ds.length++(List.range' ds.length (64 - ds.length)):=by
  rw[List.range_eq_range',List.range_eq_range',show 64=ds.length+(64 - ds.length) by omega,←List.range'_append_1]
  simp
 have hp:∀ k,k < 64→((syOf ds F).m.getD i 0).getLsbD k=(rawL ds F i).contains k:=fun k hk=>syOf_m hn hk
 rw[h64,List.filter_append]
 have h2:(List.range' ds.length (64 - ds.length)).filter (fun k=>((syOf ds F).m.getD i 0).getLsbD k)=[]:=by
  rw[List.filter_eq_nil_iff]
  intro k hk
  rw[List.mem_range'_1] at hk
  rw[hp k (by omega)]
  intro hc
  have:=hlt k (by simpa using hc)
  omega
 rw[h2,List.append_nil]
 apply List.filter_congr
 intro k hk
 have:k < ds.length:=by simpa using hk
 rw[hp k (by omega)]
theorem cutL_mem {b:Bool} {x:Nat}:∀ {xs:List (Fl×List Nat)},x∈cutL b xs→∃ y∈xs,x∈y.2
 | [],h=>by rw[cutL_nil] at h;cases h
 | y::xs,h=>by
  rw[cutL_cons] at h
  rcases List.mem_append.1 h with h | h
  ·exact⟨y,.head _,h⟩
  ·cases hb:b && !y.1.z with
   | true=>rw[hb] at h;cases h
   | false=>
    rw[hb] at h
    obtain⟨z,hz,hx⟩:=cutL_mem (xs:=xs) h
    exact⟨z,.tail _ hz,hx⟩
theorem left_lt {ds:List Df} {F:List Fl} {t:Tr} (hr:right t=true) (hno:namedOk (placesL ds) t.ns=true):∀ (m j:Nat),j < m→j < t.ns.length→∀ x∈(leftAt (placesL ds) F t.ns j).2,x < ds.length
 | 0,j,h,_=>absurd h (Nat.not_lt_zero _)
 | m+1,j,hm,hj=>by
  intro x hx
  rw[left_eq hr hj] at hx
  have hx:x∈leftsD (placesL ds) t.ns[j] (t.ns[j].kids.map (leftAt (placesL ds) F t.ns)):=hx
  have hnm:=List.all_eq_true.1 hno _ (List.getElem_mem hj)
  by_cases h3:t.ns[j].k=3
  ·obtain⟨q,hq1,hq2,hq3⟩:=findAt_of (nm:=t.ns[j].t) (ds:=ds) (by simpa[h3] using hnm)
   rw[leftsD,decide_eq_true h3,cond_true,hq3] at hx
   have:x=q:=by simpa using hx
   omega
  by_cases h6:t.ns[j].k=6∧t.ns[j].hi=0
  ·rw[leftsD,decide_eq_false h3,cond_false,decide_eq_false (show ¬ t.ns[j].k=4 by omega),cond_false,decide_eq_true h6.1,decide_eq_true h6.2] at hx
   cases hx
  ·rw[leftsD_cut h3 h6] at hx
   obtain⟨y,hy,hxy⟩:=cutL_mem hx
   obtain⟨k,hk,rfl⟩:=List.mem_map.1 hy
   obtain⟨h1,h2⟩:=right_kids hr j hj k hk
   obtain⟨q,rfl⟩:=Int.eq_ofNat_of_zero_le h1
   exact left_lt hr hno m q (by omega) (by omega) x hxy
theorem rawL_lt {g:Gr} (hM:MayF g) {F:List Fl} (i:Nat):∀ k∈rawL g.ds F i,k < g.ds.length:=by
 intro k hk
 unfold rawL at hk
 by_cases h:i < g.ds.length
 ·rw[List.getElem?_eq_getElem h] at hk
  have hdm:=List.getElem_mem h
  have hr:=hM.right _ hdm
  obtain⟨r0,r1⟩:=right_root hr
  obtain⟨r,hrr⟩:=Int.eq_ofNat_of_zero_le r0
  have hk:k∈(leftAt (placesL g.ds) F g.ds[i].t.ns g.ds[i].t.root).2:=hk
  rw[hrr] at hk
  exact left_lt hr (hM.named _ hdm) (r+1) r (by omega) (by omega) k hk
 ·rw[List.getElem?_eq_none (by omega)] at hk
  cases hk
theorem comes_iff {g:Gr} (hM:MayF g) (h64:g.ds.length≤64) {F:List Fl} {i k:Nat} (hi:i < 64):ComesM (syOf g.ds F).m i k ↔ ComesL (rawL g.ds F) i k:=by
 constructor
 ·intro h
  induction h with
  | one hk h=>rw[syOf_m h64 hk] at h;exact .one (by simpa using h)
  | step h hj t ih=>rw[syOf_m h64 hj] at h;exact .step (by simpa using h) (ih hj)
 ·intro h
  induction h with
  | one h=>
   have:=rawL_lt hM _ _ h
   exact .one (by omega) (by rw[syOf_m h64 (by omega)];simpa using h)
  | step h t ih=>
   have:=rawL_lt hM _ _ h
   exact .step (by rw[syOf_m h64 (by omega)];simpa using h) (by omega) (ih (by omega))
theorem range64 {n:Nat} (hn:n≤64) (p q:Nat→Bool) (h1:∀ k,k < n→p k=q k) (h2:∀ k,n≤k→k < 64→p k=false):(List.range 64).filter p=(List.range n).filter q:=by
 have h64:(List.range 64)=List.range n++(List.range' n (64 - n)):=by
  rw[List.range_eq_range',List.range_eq_range',show 64=n+(64 - n) by omega,←List.range'_append_1]
  simp
 have h3:(List.range' n (64 - n)).filter p=[]:=by
  rw[List.filter_eq_nil_iff]
  intro k hk
  rw[List.mem_range'_1] at hk
  rw[h2 k (by omega) (by omega)]
  simp
 rw[h64,List.filter_append,h3,List.append_nil]
 apply List.filter_congr
 intro k hk
 exact h1 k (by simpa using hk)
theorem endL_raw {I:GH} {g:Gr} (hg:g.ok I) (hM:MayF g) (F:List Fl) (i:Nat):endL g.ds F i=rawE g.ds F i:=by
 unfold endL rawE
 by_cases h:i < g.ds.length
 ·rw[List.getElem?_eq_getElem h]
  have hdm:=List.getElem_mem h
  have hr:=hM.right _ hdm
  have ht:=(hg.ds _ hdm).t
  refine end_any hr fun d hd hk=>?_
  obtain⟨j,hj,rfl⟩:=List.getElem_of_mem hd
  have hnd:=ht.ns _ hd
  have:=(fits_more hnd.k.1 (right_fits hr hj)).one (by omega)
  omega
 ·rw[List.getElem?_eq_none (by omega)]
theorem loops_eq {I:GH} {g:Gr} (hg:g.ok I) (hM:MayF g) (h64:g.ds.length≤64) (F:List Fl):wLoops (syOf g.ds F)=refLoops g.ds F:=by
 unfold wLoops refLoops bitsOf
 refine range64 h64 _ _ (fun k hk=>?_) (fun k hk hk2=>?_)
 ·rw[syOf_w h64 (by omega),endL_raw hg hM]
 ·rw[syOf_w h64 hk2,rawE,List.getElem?_eq_none hk]
open Classical in
noncomputable def refLeft (ds:List Df) (F:List Fl):List Nat:=(List.range ds.length).filter fun i=>decide (ComesL (rawL ds F) i i)
theorem rawL_none {ds:List Df} {F:List Fl} {i:Nat} (h:ds.length≤i):rawL ds F i=[]:=by
 rw[rawL,List.getElem?_eq_none h]
open Classical in
theorem lefts_eq {g:Gr} (hM:MayF g) (h64:g.ds.length≤64) (F:List Fl):wLeft (syOf g.ds F)=refLeft g.ds F:=by
 unfold wLeft refLeft
 refine range64 h64 _ _ (fun k hk=>?_) (fun k hk hk2=>?_)
 ·exact decide_eq_decide.2 (comes_iff hM h64 (by omega))
 ·refine decide_eq_false fun hc=>?_
  have hc:=(comes_iff hM h64 hk2).1 hc
  have hn:=rawL_none (F:=F) hk
  cases hc with
  | one h=>rw[hn] at h;cases h
  | step h t=>rw[hn] at h;cases h
structure Ns11 (d:Nd):Prop where
 kn:d.kn < 400
 t:d.t.size < 8020
structure Ts11 (t:Tr):Prop where
 n:t.n < 400
 ns:∀ nd∈t.ns,Ns11 nd
structure Ds11 (d:Df):Prop where
 name:d.name.size < 8020
 t:Ts11 d.t
structure Gs11 (g:Gr):Prop where
 n:g.n < 400
 ds:∀ d∈g.ds,Ds11 d
theorem NdW.ok11 {I:GH} {d:Nd} (h:NdW I d) (hs:Ns11 d):d.ok I:=
 ⟨h.k,h.s0,h.s1,h.s2,h.s3,h.ts,h.lo,h.hi,h.rs.big (by have:=hs.kn;omega),h.kids⟩
theorem TrW.ok11 {I:GH} {t:Tr} (h:TrW I t) (hs:Ts11 t):t.ok I:=
 ⟨h.rs.big (by have:=hs.n;omega),fun nd hnd=>(h.ns nd hnd).ok11 (hs.ns nd hnd),h.root⟩
theorem GrW.ok11 {I:GH} {g:Gr} (h:GrW I g) (hs:Gs11 g):g.ok I:=
 ⟨h.rs.big (by have:=hs.n;omega),fun d hd=>⟨by have:=(hs.ds d hd).name;omega,(h.ds d hd).t.ok11 (hs.ds d hd).t⟩⟩
structure N2 (g:Gr) (x:Nat×Nat):Prop where
 k:x.2≤g.n
 n:x.1≤2000
 small:x.1 < 400→x.2≤x.1∧∀ i (h:i < g.ds.length),i < x.2→Ds11 g.ds[i]
structure N3 (g:Gr) (t:Tr) (k:Nat) (x:Nat×Nat):Prop where
 j:x.2≤t.n
 n:x.1≤2000
 small:x.1 < 400→t.n < 400∧k+1≤x.1∧(∀ i (h:i < g.ds.length),i < k→Ds11 g.ds[i])∧(∀ h:k < g.ds.length,g.ds[k].name.size < 8020)∧∀ i (h:i < t.ns.length),i < x.2→Ns11 t.ns[i]
set_option maxRecDepth 100000 in
set_option maxHeartbeats 4000000 in
theorem large13_spec {I:GH} {g:Gr} (hg:GrW I g) :
  Spec Tryz.prog 15 [g.val] I [] fun v I' M'=>(∃ r,v=.bool r∧(r=false→Gs11 g))∧I'=I∧M'=[]:=by
 refine spec_of_V [] TryzEOK Tryz.func15 rfl rfl rfl ?_
 intro B h0
 have hgn:=hg.n
 refine LoopOb.inv (ι:=Nat×Nat) (fun x=>{ fl:=[(1,.ref 1 0),(3,.val (.int .i64 x.1)),(4,.val (.int .i64 x.2))],cl:=[(1,[.slice g.a g.n g.c])],gi:=I }) (fun x=>N2 g x∧0≤x.1) (fun x=>g.n - x.2) ?_ ?_
 ·exact⟨(0,0),⟨⟨Nat.zero_le _,Nat.zero_le _,fun _=>⟨Nat.zero_le _,fun i _ h=>by simp at h⟩⟩,Nat.le_refl _⟩,.refl,aF3,.cons rfl (.nil)⟩
 rintro⟨m,k⟩ ⟨⟨hk,hm,hsm2⟩,hge⟩
 simp only at hk hm hsm2 hge
 have fin:(m < 400→k=g.n)→∀ c,c=decide ((400:Int)≤(m:Int))→(c=false→Gs11 g):=fun h1 c hc hcf=>by
  rw[hc] at hcf
  have hm4:m < 400:=by have:=of_decide_eq_false hcf;omega
  obtain⟨s1,s2⟩:=hsm2 hm4
  have h3:=h1 hm4
  refine⟨by omega,fun d hd=>?_⟩
  obtain⟨y,hy,rfl⟩:=List.getElem_of_mem hd
  exact s2 y hy (by omega)
 refine GuardOb.mk (fun h3=>CondOb.mk (fun h4=>?_) (fun h4=>?_)) (fun h3=>?_)
 ·have hkl:k < g.n:=by simpa using h3
  have hm2:m < 400:=by have:=of_decide_eq_true h4;omega
  obtain⟨s1,s2⟩:=hsm2 hm2
  have hkl':k < g.ds.length:=by omega
  obtain⟨ad,had,hrd⟩:=hg.rs.row Df.cells_len hkl hkl'
  have hd:=hg.ds _ (List.getElem_mem hkl')
  have hnm:=hd.name
  have hW:=hd.t
  have hWn:=hW.n
  have r1:∀ M,Rd I M ((ad.add (k * 3)).add 0) 1 [.string g.ds[k].name]:=fun M=>(hrd M).part (k:=0) (m:=1) (by decide)
  have r2:∀ M,Rd I M ((ad.add (k * 3)).add 1) 2 g.ds[k].t.cells:=fun M=>(hrd M).part (k:=1) (m:=2) (by decide)
  have hname:∀ (q:Nat),q < 8020→g.ds[k].name.size=q→∀ h:k < g.ds.length,g.ds[k].name.size < 8020:=fun q hq e h=>by rw[e];exact hq
  generalize hdn:g.ds[k].name=nm at hnm r1 hname
  generalize htt:g.ds[k].t=u at hW hWn r2
  refine IdxOb.mk ad k had rfl hkl ?_
  refine LoadOb.mk _ (r2 _) ?_
  refine CodeOb.draw TryzEOK rfl rfl rfl ?_
  refine ArithOb.mk ((m+1:Nat):Int) (wr_eq (by omega) (by omega)) ?_
  refine ArithOb.mk ((m+1+min 400 u.n:Nat):Int) (wr_eq (by omega) (by omega)) ?_
  refine IdxOb.mk ad k had rfl hkl ?_
  refine LoadOb.mk _ (r1 _) ?_
  refine DivOb.mk (by decide) ?_
  refine ArithOb.mk ((nm.size / 20:Nat):Int) (wr_eq (by rw[Int.tdiv_eq_ediv_of_nonneg (by omega)];omega) (by omega)) ?_
  refine ArithOb.mk ((m+1+min 400 u.n+min 400 (nm.size / 20):Nat):Int) (wr_eq (by omega) (by omega)) ?_
  refine LoopOb.inv (ι:=Nat×Nat) (fun x=>{ fl:=[(1,.ref 1 0),(3,.val (.int .i64 x.1)),(4,.val (.int .i64 k)),(5,.ref 5 0),(6,.val (.int .i64 x.2))],cl:=[(1,[.slice g.a g.n g.c]),(5,u.cells)],gi:=I }) (fun x=>N3 g u k x∧0≤x.1) (fun x=>u.n - x.2) ?_ ?_
  ·exact⟨(_,0),⟨⟨Nat.zero_le _,by simp only;omega,fun h=>by simp only at h;exact⟨by omega,by simp only;omega,s2,fun h=>hname nm.size (by omega) rfl h,fun i _ h=>by simp at h⟩⟩,by simp only;omega⟩,.refl,aF5,.cons rfl (.cons rfl (.nil))⟩
  rintro⟨p,q⟩ ⟨⟨hq,hp,hsm3⟩,hpe⟩
  simp only at hq hp hpe hsm3
  have out:(p < 400→q=u.n)→N2 g (p,k+1):=fun h1=>by
   refine⟨by simp only;omega,hp,fun h2=>?_⟩
   simp only at h2
   obtain⟨u1,u2,u3,u4,u5⟩:=hsm3 h2
   have u6:=h1 h2
   refine⟨u2,fun i hi hi2=>?_⟩
   by_cases e:i=k
   ·subst e
    refine⟨u4 hi,?_⟩
    rw[htt]
    exact⟨u1,fun nd hnd=>by
     obtain⟨y,hy,rfl⟩:=List.getElem_of_mem hnd
     exact u5 y hy (by omega)⟩
   ·exact u3 i hi (by simp only at hi2;omega)
  refine GuardOb.mk (fun h5=>CondOb.mk (fun h6=>?_) (fun h6=>?_)) (fun h5=>?_)
  ·have hql:q < u.n:=by simpa using h5
   have hp2:p < 400:=by have:=of_decide_eq_true h6;omega
   obtain⟨u1,u2,u3,u4,u5⟩:=hsm3 hp2
   have hql':q < u.ns.length:=by omega
   obtain⟨bd,hbd,hrb⟩:=hW.rs.row Nd.cells_len hql hql'
   have hnd:=hW.ns _ (List.getElem_mem hql')
   have hts:=hnd.ts
   have r3:∀ M,Rd I M ((bd.add (q * 9)).add 8) 1 [.slice u.ns[q].ka u.ns[q].kn u.ns[q].kc]:=fun M=>(hrb M).part (k:=8) (m:=1) (by decide)
   have r4:∀ M,Rd I M ((bd.add (q * 9)).add 5) 1 [.string u.ns[q].t]:=fun M=>(hrb M).part (k:=5) (m:=1) (by decide)
   generalize hxx:u.ns[q]=nd at hnd hts r3 r4
   refine CodeOb.draw TryzEOK rfl rfl rfl ?_
   refine IdxOb.mk bd q hbd rfl hql ?_
   refine LoadOb.mk _ (r3 _) ?_
   refine ArithOb.mk ((p+min 400 nd.kn:Nat):Int) (wr_eq (by omega) (by omega)) ?_
   refine IdxOb.mk bd q hbd rfl hql ?_
   refine LoadOb.mk _ (r4 _) ?_
   refine DivOb.mk (by decide) ?_
   refine ArithOb.mk ((nd.t.size / 20:Nat):Int) (wr_eq (by rw[Int.tdiv_eq_ediv_of_nonneg (by omega)];omega) (by omega)) ?_
   refine ArithOb.mk ((p+min 400 nd.kn+min 400 (nd.t.size / 20):Nat):Int) (wr_eq (by omega) (by omega)) ?_
   refine ArithOb.mk _ (next_wr (i:=q) (by omega)) ?_
   refine⟨(_,q+1),⟨⟨⟨by simp only;omega,by simp only;omega,fun h7=>?_⟩,by simp only;omega⟩,by simp only;omega⟩,.refl,aF5,.cons rfl (.cons rfl (.nil))⟩
   simp only at h7 ⊢
   refine⟨u1,by omega,u3,u4,fun i hi hi2=>?_⟩
   by_cases e:i=q
   ·subst e
    rw[hxx]
    exact⟨by omega,by omega⟩
   ·exact u5 i hi (by omega)
  ·have hp2:400≤p:=by have:=of_decide_eq_false h6;omega
   refine ArithOb.mk _ (next_wr (i:=k) (by omega)) ?_
   exact⟨(p,k+1),⟨⟨out fun h=>by omega,hpe⟩,by simp only;omega⟩,.refl,aF3,.cons rfl (.nil)⟩
  ·have hql:u.n≤q:=by simpa using h5
   refine ArithOb.mk _ (next_wr (i:=k) (by omega)) ?_
   exact⟨(p,k+1),⟨⟨out fun h=>by omega,hpe⟩,by simp only;omega⟩,.refl,aF3,.cons rfl (.nil)⟩
 ·have hm2:400≤m:=by have:=of_decide_eq_false h4;omega
  exact⟨_,_,.refl,⟨_,rfl,fin (fun h=>by omega) _ rfl⟩,rfl,rfl⟩
 ·have hge2:g.n≤k:=by simpa using h3
  exact⟨_,_,.refl,⟨_,rfl,fin (fun h=>by omega) _ rfl⟩,rfl,rfl⟩
def iv (z:Int):List Value:=[.int .i64 z]
theorem intsV_iv (l:List Nat):intsV l=(l.map fun n:Nat=>(n:Int)).flatMap iv:=by
 unfold intsV
 induction l with
 | nil=>rfl
 | cons a l ih=>rw[List.map_cons,List.map_cons,List.flatMap_cons,ih];rfl
structure Ints (oa:OS) (la lb:List Nat) (x:Nat×OS×List Int):Prop where
 i:x.1≤la.length
 a:x.2.1.a=oa.a
 ok:x.2.1.ok 1 (x.2.2.flatMap iv)
 len:x.2.2.length=la.length
 rest:∀ j (h:j < la.length) (h':j < x.2.2.length),x.1≤j→x.2.2[j]=(la[j]:Int)
 eq:la.take x.1=lb.take x.1
set_option maxRecDepth 100000 in
set_option maxHeartbeats 4000000 in
theorem ints13_spec {I:GH} {M0:List Blk} {oa ob:OS} {la lb:List Nat} (ha:oa.ok 1 (intsV la)) (hb:ob.ok 1 (intsV lb)) (hc:la.length≤140737488355328) :
  Spec Tryz.prog 23 [oa.val,ob.val] I (oa.blk 3++(ob.blk 3++M0)) fun v I' M'=>v=.bool (decide (la=lb))∧I'=I∧∃ oz:OS,M'=oz.blk 3++(ob.blk 3++M0):=by
 refine spec_of_V [] TryzEOK Tryz.func23 rfl rfl rfl ?_
 intro B h0
 have hpa:=OS.pos ha
 have hpb:=OS.pos hb
 refine CondOb.mk (fun h=>?_) (fun h=>?_)
 ·have hne:¬ (oa.n:Int)=(ob.n:Int):=by
   have:(!decide ((oa.n:Int)=(ob.n:Int)))=true:=h
   simpa using this
  refine⟨_,_,.refl,?_,rfl,oa,rfl⟩
  rw[decide_eq_false fun e=>hne (by rw[←hpa,←hpb,e])]
 have hlen:la.length=lb.length:=by
  have:(!decide ((oa.n:Int)=(ob.n:Int)))=false:=h
  have:(oa.n:Int)=(ob.n:Int):=by simpa using this
  omega
 refine LoopOb.inv (ι:=Nat×OS×List Int) (fun x=>{ fl:=[(0,.val oa.val),(1,.val ob.val),(5,.val (.int .i64 x.1))],gi:=I,mi:=x.2.1.blk 3++(ob.blk 3++M0) }) (Ints oa la lb) (fun x=>la.length - x.1) ?_ ?_
 ·exact⟨(0,oa,la.map fun n:Nat=>(n:Int)),⟨Nat.zero_le _,rfl,by rw[←intsV_iv];exact ha,by simp,fun j h h' _=>by simp,rfl⟩,.refl,aF3,.nil⟩
 rintro⟨i,oq,cur⟩ ⟨hi,hqa,hok,hln,hrest,heq⟩
 simp only at hi hqa hok hln hrest heq
 refine CondOb.mk (fun h=>?_) (fun h=>?_)
 rotate_left
 ·have hge:la.length≤i:=by have:¬ (i:Int) < (oa.n:Int):=of_decide_eq_false h;omega
  rw[List.take_of_length_le hge,List.take_of_length_le (by omega)] at heq
  exact⟨_,_,.refl,by rw[decide_eq_true heq],rfl,oq,rfl⟩
 have hlt:i < la.length:=by have:(i:Int) < (oa.n:Int):=of_decide_eq_true h;omega
 have hltb:i < lb.length:=by omega
 obtain⟨ad,had,hrd⟩:=OS.ok.row (I:=I) (M:=oq.blk 3++(ob.blk 3++M0)) (e:=3) (f:=iv) (size:=1) (fun _=>rfl) (by decide) hok (fun z hz=>by simp[hz]) (show i < cur.length by omega)
 rw[hrest i hlt (by omega) (Nat.le_refl _)] at hrd
 have had2:=had
 rw[hqa] at had
 obtain⟨bd,hbd,hrb⟩:=os_ints (I:=I) (M:=oq.blk 3++(ob.blk 3++M0)) (e:=3) hb (fun z hz=>by simp[hz]) hltb
 refine CodeOb.draw TryzEOK rfl rfl rfl ?_
 refine IdxOb.mk ad i had rfl (by omega) ?_
 refine LoadOb.mk [.int .i64 la[i]] hrd ?_
 refine IdxOb.mk bd i hbd rfl (by omega) ?_
 refine LoadOb.mk _ hrb ?_
 refine CondOb.mk (fun hn=>?_) (fun hn=>?_)
 ·have hne:¬ (la[i]:Int)=(lb[i]:Int):=by
   have:(!decide ((la[i]:Int)=(lb[i]:Int)))=true:=hn
   simpa using this
  refine⟨_,_,.refl,?_,rfl,oq,rfl⟩
  rw[decide_eq_false fun e=>hne (by subst e;rfl)]
 have he:la[i]=lb[i]:=by
  have:(!decide ((la[i]:Int)=(lb[i]:Int)))=false:=hn
  have:(la[i]:Int)=(lb[i]:Int):=by simpa using this
  omega
 refine IdxOb.mk ad i had rfl (by omega) ?_
 refine OS.putI iv 1 (fun _=>rfl) (e:=3) hok (show i < cur.length by omega) (-7) rfl [] (ob.blk 3++M0) rfl had2 ?_
 intro oq2 hv2 ha2 hn2 hok2
 refine ArithOb.mk _ (next_wr (i:=i) (by omega)) ?_
 refine⟨(i+1,oq2,cur.set i (-7)),⟨⟨hlt,by simp only;rw[ha2,hqa],hok2,by simpa using hln,fun j h h' hj=>?_,?_⟩,by simp only;omega⟩,.refl,aF3,.nil⟩
 ·simp only at hj ⊢
  rw[List.getElem_set_ne (by omega)]
  exact hrest j h (by omega) (by omega)
 ·simp only
  rw[List.take_succ_eq_append_getElem hlt,List.take_succ_eq_append_getElem hltb,heq,he]
theorem may64 {deb:List Int} {g:Gr} (h:mayG deb g=0):g.n≤64:=by
 unfold mayG at h
 cases h1:decide ((g.n:Int)=0) with
 | true=>rw[h1] at h;simp at h
 | false=>
  rw[h1,cond_false] at h
  cases h2:okDefs g.ds with
  | false=>rw[h2] at h;simp at h
  | true=>
   rw[h2] at h
   cases h3:largeG deb g with
   | true=>rw[h3] at h;simp at h
   | false=>
    unfold largeG at h3
    simp only[Bool.or_eq_false_iff,decide_eq_false_iff_not] at h3
    omega
def IsLefts (deb:List Int) (g:Gr) (r:Int) (l:List Nat):Prop:=((mayG deb g≠0∨r < 0∨(g.n:Int)≤r)∧l=[])∨(mayG deb g=0∧∃ F k,r=(k:Nat)∧k < g.n∧IsFlow g.ds F∧l=refLefts g.ds F k)
def IsLoops (deb:List Int) (g:Gr) (l:List Nat):Prop:=(mayG deb g≠0∧l=[])∨(mayG deb g=0∧∃ F,IsFlow g.ds F∧l=refLoops g.ds F)
def IsLeft (deb:List Int) (g:Gr) (l:List Nat):Prop:=(mayG deb g≠0∧l=[])∨(mayG deb g=0∧∃ F,IsFlow g.ds F∧l=refLeft g.ds F)
theorem IsLefts.eq {deb:List Int} {g:Gr} {r:Int} {l m:List Nat} (h:IsLefts deb g r l) (h':IsLefts deb g r m):l=m:=by
 rcases h with ⟨a,rfl⟩ | ⟨a,F,k,b,c,d,rfl⟩<;>rcases h' with ⟨a',rfl⟩ | ⟨a',F',k',b',c',d',rfl⟩
 ·rfl
 ·rcases a with a | a | a
  ·exact absurd a' a
  ·omega
  ·omega
 ·rcases a' with a' | a' | a'
  ·exact absurd a a'
  ·omega
  ·omega
 ·obtain rfl:=d.unique d'
  obtain rfl:k=k':=by omega
  rfl
theorem IsLoops.eq {deb:List Int} {g:Gr} {l m:List Nat} (h:IsLoops deb g l) (h':IsLoops deb g m):l=m:=by
 rcases h with ⟨a,rfl⟩ | ⟨a,F,d,rfl⟩<;>rcases h' with ⟨a',rfl⟩ | ⟨a',F',d',rfl⟩
 ·rfl
 ·exact absurd a' a
 ·exact absurd a a'
 ·rw[d.unique d']
theorem IsLeft.eq {deb:List Int} {g:Gr} {l m:List Nat} (h:IsLeft deb g l) (h':IsLeft deb g m):l=m:=by
 rcases h with ⟨a,rfl⟩ | ⟨a,F,d,rfl⟩<;>rcases h' with ⟨a',rfl⟩ | ⟨a',F',d',rfl⟩
 ·rfl
 ·exact absurd a' a
 ·exact absurd a a'
 ·rw[d.unique d']
theorem WLefts_is {I:GH} {deb:List Int} (hT:Tabs I deb) {g:Gr} (hg:g.ok I) (hkb:∀ d∈g.ds,KB d.t) (r:Int):Spec Tryz.prog 26 [g.val,.int .i64 r] I [] fun v I' M'=>(∀ b o,I b=some o→I' b=some o) ∧
  ∃ (os:OS) (l:List Nat),os.ok 1 (intsV l)∧v=os.val∧M'=os.blk 3++[]∧IsLefts deb g r l:=
 Spec.weakK (WLefts_spec hT hg hkb may64 r) fun v I' M' h=>by
  obtain⟨h1,os,l,h2,h3,h4,h5⟩:=h
  refine⟨h1,os,l,h2,h3,h4,?_⟩
  rcases h5 with h5 | ⟨hm,F,k,a,b,c,d⟩
  ·exact .inl h5
  ·have hM:=mayF_of hg.n hm
   have h64:=may64 hm
   have hgn:=hg.n
   exact .inr ⟨hm,F,k,a,b,c,by rw[d,rows_eq (by omega) (rawL_lt hM k)]⟩
theorem WLoops_is {I:GH} {deb:List Int} (hT:Tabs I deb) {g:Gr} (hg:g.ok I) (hkb:∀ d∈g.ds,KB d.t):Spec Tryz.prog 25 [g.val] I [] fun v I' M'=>(∀ b o,I b=some o→I' b=some o) ∧
  ∃ (os:OS) (l:List Nat),os.ok 1 (intsV l)∧v=os.val∧M'=os.blk 3++[]∧IsLoops deb g l:=
 Spec.weakK (WLoops_spec hT hg hkb may64) fun v I' M' h=>by
  obtain⟨h1,os,l,h2,h3,h4,h5⟩:=h
  refine⟨h1,os,l,h2,h3,h4,?_⟩
  rcases h5 with h5 | ⟨hm,F,c,d⟩
  ·exact .inl h5
  ·have hM:=mayF_of hg.n hm
   have h64:=may64 hm
   have hgn:=hg.n
   exact .inr ⟨hm,F,c,by rw[d,loops_eq hg hM (by omega)]⟩
theorem WLeft_is {I:GH} {deb:List Int} (hT:Tabs I deb) {g:Gr} (hg:g.ok I) (hkb:∀ d∈g.ds,KB d.t):Spec Tryz.prog 24 [g.val] I [] fun v I' M'=>(∀ b o,I b=some o→I' b=some o) ∧
  ∃ (os:OS) (l:List Nat),os.ok 1 (intsV l)∧v=os.val∧M'=os.blk 3++[]∧IsLeft deb g l:=
 Spec.weakK (WLeft_spec hT hg hkb may64) fun v I' M' h=>by
  obtain⟨h1,os,l,h2,h3,h4,h5⟩:=h
  refine⟨h1,os,l,h2,h3,h4,?_⟩
  rcases h5 with h5 | ⟨hm,F,c,d⟩
  ·exact .inl h5
  ·have hM:=mayF_of hg.n hm
   have h64:=may64 hm
   have hgn:=hg.n
   exact .inr ⟨hm,F,c,by rw[d,lefts_eq hM (by omega)]⟩
theorem filter_lt (p:Nat→Bool):∀ (n m:Nat),m≤n→((List.range n).filter p).filter (fun x=>decide (x < m))=(List.range m).filter p
 | 0,m,h=>by
  obtain rfl:m=0:=by omega
  rfl
 | n+1,m,h=>by
  by_cases e:m=n+1
  ·subst e
   rw[List.filter_eq_self]
   intro x hx
   have:=List.mem_range.1 (List.mem_filter.1 hx).1
   exact decide_eq_true this
  ·rw[range_filter_succ,List.filter_append,filter_lt p n m (by omega)]
   cases hp:p n with
   | false=>simp
   | true=>
    have:¬ n < m:=by omega
    simp[this]
open Classical in
theorem refLeft_step {ds:List Df} {F:List Fl} {q:Nat} {b:Bool} (hq:q < ds.length) (hb:b=true ↔ ComesL (rawL ds F) q q) :
  (refLeft ds F).filter (fun x=>decide (x < q+1))=(refLeft ds F).filter (fun x=>decide (x < q))++bif b then [q] else []:=by
 unfold refLeft
 rw[filter_lt _ _ _ (by omega),filter_lt _ _ _ (by omega),range_filter_succ]
 congr 2
 cases b with
 | true=>exact decide_eq_true (hb.1 rfl)
 | false=>exact decide_eq_false fun h=>by cases hb.2 h
theorem workGo_ok {A:Nat→List Nat} {n:Nat} {l0:List Nat} (hA:∀ x,∀ y∈A x,y < n):∀ (f k:Nat) (l:List Nat),Work A n k l0 l→n+1≤f+k→Work A n (workGo A f k l).length l0 (workGo A f k l)
 | 0,k,l,h,hf=>by
  have:=h.len
  have:=h.k
  omega
 | f+1,k,l,h,hf=>by
  rw[workGo]
  cases hx:l[k]? with
  | none=>
   have h1:k=l.length:=by
    have:=h.k
    have:=List.getElem?_eq_none_iff.1 hx
    omega
   subst h1
   exact h
  | some x=>exact workGo_ok hA f (k+1) _ (h.next hA hx) (by omega)
theorem ComesL.congr {A B:Nat→List Nat} (h:∀ i k,k∈A i→k∈B i) {i k:Nat} (hc:ComesL A i k):ComesL B i k:=by
 induction hc with
 | one h1=>exact .one (h _ _ h1)
 | step h1 t ih=>exact .step (h _ _ h1) ih
theorem ComesL.trans {A:Nat→List Nat} {i j k:Nat} (h:ComesL A i j) (h':ComesL A j k):ComesL A i k:=by
 induction h with
 | one h=>exact .step h h'
 | step h t ih=>exact .step h (ih h')
theorem refLefts_mem {g:Gr} (hM:MayF g) {F:List Fl} {i k:Nat}:k∈refLefts g.ds F i ↔ k∈rawL g.ds F i:=by
 unfold refLefts
 rw[List.mem_filter]
 constructor
 ·rintro⟨-,h⟩
  simpa using h
 ·intro h
  exact⟨by simpa using rawL_lt hM i k h,by simpa using h⟩
theorem refLefts_comes {g:Gr} (hM:MayF g) {F:List Fl} {i k:Nat}:ComesL (refLefts g.ds F) i k ↔ ComesL (rawL g.ds F) i k:=
 ⟨ComesL.congr fun _ _ h=>(refLefts_mem hM).1 h,ComesL.congr fun _ _ h=>(refLefts_mem hM).2 h⟩
theorem refLefts_lt {ds:List Df} {F:List Fl} {i k:Nat} (h:k∈refLefts ds F i):k < ds.length:=by
 unfold refLefts at h
 simpa using (List.mem_filter.1 h).1
theorem refLefts_nodup (ds:List Df) (F:List Fl) (i:Nat):(refLefts ds F i).Nodup:=List.Nodup.sublist List.filter_sublist List.nodup_range
theorem Work.start {ds:List Df} {F:List Fl} (i:Nat):Work (refLefts ds F) ds.length 0 (refLefts ds F i) (refLefts ds F i):=
 ⟨refLefts_nodup ds F i,fun x hx=>refLefts_lt hx,fun _ h=>h,fun _ h=>.inl h,fun j x hj=>absurd hj (Nat.not_lt_zero _),Nat.zero_le _⟩
def leftC (ds:List Df) (F:List Fl):List Nat:=(List.range ds.length).filter fun i=>(workGo (refLefts ds F) (ds.length+1) 0 (refLefts ds F i)).contains i
open Classical in
theorem leftC_eq {g:Gr} (hM:MayF g) (F:List Fl):leftC g.ds F=refLeft g.ds F:=by
 unfold leftC refLeft
 refine List.filter_congr fun i _=>?_
 have h1:=workGo_ok (fun x y hy=>refLefts_lt hy) (g.ds.length+1) 0 _ (Work.start (ds:=g.ds) (F:=F) i) (by omega)
 have h2:=(h1.done i).trans (refLefts_comes hM)
 cases hc:(workGo (refLefts g.ds F) (g.ds.length+1) 0 (refLefts g.ds F i)).contains i with
 | true=>exact(decide_eq_true (h2.1 (by simpa using hc))).symm
 | false=>
  refine(decide_eq_false fun h=>?_).symm
  have:=h2.2 h
  rw[←List.contains_iff_mem,hc] at this
  cases this
theorem getD_set_true (s:List Bool) (i k:Nat) (hi:i < s.length):(s.set i true).getD k false=(decide (k=i) || s.getD k false):=by
 simp only[List.getD_eq_getElem?_getD,List.getElem?_set]
 by_cases e:i=k
 ·subst e
  simp[hi]
 ·have:¬ k=i:=fun h=>e h.symm
  simp[e,this]
structure RowIn (A:Nat→List Nat) (n:Nat) (s:List Bool):Prop where
 len:s.length=n
 acyc:∀ i,s.getD i false=true→∀ x,(x=i∨ComesL A i x)→¬ ComesL A x x
theorem RowIn.put {A:Nat→List Nat} {n:Nat} {s:List Bool} (h:RowIn A n s) {i:Nat} (hi:i < n) (hf:s.getD i false=false) (hl:∀ k∈A i,s.getD k false=true):RowIn A n (s.set i true):=by
 refine⟨by rw[List.length_set];exact h.len,fun j hj x hx=>?_⟩
 rw[getD_set_true _ _ _ (by rw[h.len];exact hi)] at hj
 by_cases e:j=i
 ·subst e
  have key:∀ y,ComesL A j y→¬ ComesL A y y:=fun y hy=>by
   cases hy with
   | one h1=>exact h.acyc y (hl _ h1) y (.inl rfl)
   | step h1 t=>exact h.acyc _ (hl _ h1) y (.inr t)
  rcases hx with rfl | hx
  ·intro hc
   exact key _ hc hc
  ·exact key _ hx
 ·rw[decide_eq_false e,Bool.false_or] at hj
  exact h.acyc j hj x hx
structure Round (A:Nat→List Nat) (n:Nat) (s0 s:List Bool) (i:Nat):Prop where
 sub:∀ k,s0.getD k false=true→s.getD k false=true
 got:∀ j,j < i→j < n→(∀ k∈A j,s0.getD k false=true)→s.getD j false=true
theorem Round.put {A:Nat→List Nat} {n:Nat} {s0 s:List Bool} {i:Nat} (h:Round A n s0 s i) (hi:i < s.length):Round A n s0 (s.set i true) (i+1):=by
 refine⟨fun k hk=>?_,fun j hj hn hl=>?_⟩
 ·rw[getD_set_true _ _ _ hi,h.sub k hk,Bool.or_true]
 ·rw[getD_set_true _ _ _ hi]
  by_cases e:j=i
  ·simp[e]
  ·rw[h.got j (by omega) hn hl,Bool.or_true]
open Classical in
noncomputable def flowG (ds:List Df):List Fl:=if h:∃ F,IsFlow ds F then h.choose else []
theorem flowG_eq {ds:List Df} {F:List Fl} (h:IsFlow ds F):flowG ds=F:=by
 have hx:∃ F,IsFlow ds F:=⟨F,h⟩
 unfold flowG
 rw[dif_pos hx]
 exact hx.choose_spec.unique h
theorem may_pos {deb:List Int} {g:Gr} (h:mayG deb g=0):0 < g.n:=by
 rcases Nat.eq_zero_or_pos g.n with e | e
 ·unfold mayG at h
  rw[e] at h
  simp at h
 ·exact e
structure RowsI (K:GH) (ds:List Df) (i:Nat) (vs:List Value):Prop where
 len:vs.length=i
 fl:0 < i→IsFlow ds (flowG ds)
 row:∀ j (h:j < vs.length),∃ os:OS,vs[j]=os.val∧os.ok 1 (intsV (refLefts ds (flowG ds) j))∧∀ z∈os.blk 3,K z.num=some z.obj
theorem Rd.frozen {K:GH} {M M':List Blk} {a:Addr} {n:Nat} {vs:List Value} (h:Rd K M a n vs) (hM:∀ z∈M,K z.num=some z.obj):Rd K M' a n vs:=by
 obtain⟨h1,cs,T,fr,h2,h3⟩:=h
 refine⟨h1,cs,T,fr,?_,h3⟩
 rcases h2 with h2 | ⟨z,hz,h4,h5⟩
 ·exact .inl h2
 ·left
  have:=hM z hz
  rw[h4,h5] at this
  exact this
theorem addAll_snoc (y:Nat):∀ (r l:List Nat),addAll (r++[y]) l=bif (addAll r l).contains y then addAll r l else addAll r l++[y]
 | [],l=>rfl
 | z::r,l=>by rw[List.cons_append,addAll,addAll,addAll_snoc y r]
theorem RLeft_none {I:GH} {M0:List Blk} {deb:List Int} (hcl:ClsOk deb) {g:Gr} (hg:g.ok I) (hf:GFit g) (hm:mayG deb g≠0):Spec Tryz.prog 18 [g.val] I M0 fun v I' M'=>I'=I∧v=OS0.val∧M'=M0:=by
 refine spec_of_V [] TryzEOK Tryz.func18 rfl rfl rfl ?_
 intro B h0
 refine LoopOb.unroll 1 ?_
 refine GuardOb.mk (fun h=>?_) (fun h=>?_)
 ·refine CallOb.whole _ (RMay_fr hcl hg hf) ?_
  rintro v J N - ⟨rfl,hJ,hN⟩
  subst J
  subst N
  refine CondOb.mk (fun h=>absurd h (by simp[hm])) (fun h=>?_)
  refine LoopOb.unroll 1 ?_
  refine CondOb.mk (fun h=>absurd h (by simp)) (fun _=>?_)
  exact⟨_,_,.refl,rfl,rfl,rfl⟩
 ·refine LoopOb.unroll 1 ?_
  refine CondOb.mk (fun h=>absurd h (by simp)) (fun _=>?_)
  exact⟨_,_,.refl,rfl,rfl,rfl⟩
set_option maxRecDepth 100000 in
set_option maxHeartbeats 4000000 in
theorem RLeft_some {I:GH} {deb:List Int} (hcl:ClsOk deb) {g:Gr} (hg:g.ok I) (hf:GFit g) (hm:mayG deb g=0):Spec Tryz.prog 18 [g.val] I [] fun v I' M'=>(∀ b o,I b=some o→I' b=some o) ∧
  ∃ os:OS,os.ok 1 (intsV (refLeft g.ds (flowG g.ds)))∧v=os.val∧M'=os.blk 3++[]∧IsFlow g.ds (flowG g.ds):=by
 refine spec_of_V [] TryzEOK Tryz.func18 rfl rfl rfl ?_
 intro B h0
 have hgn:=hg.n
 have hfn:=hf.n
 refine LoopOb.invF (ι:=Nat×OS×GH×List Value) (fun x=>{ fl:=[(1,.ref 1 0),(3,.val x.2.1.val),(4,.val (.int .i64 x.1))],cl:=[(1,[.slice g.a g.n g.c])],gi:=x.2.2.1,mi:=x.2.1.blk 30++[] }) (fun x=>(x.1≤g.n∧∀ b o,I b=some o→x.2.2.1 b=some o)∧x.2.1.ok 1 x.2.2.2∧RowsI x.2.2.1 g.ds x.1 x.2.2.2) (fun x=>g.n - x.1) ?_ ?_
 ·exact fun _=>⟨(0,OS0,I,[]),⟨⟨Nat.zero_le _,fun _ _ h=>h⟩,OS0_ok 1,rfl,fun h=>absurd h (Nat.lt_irrefl 0),fun j h=>absurd h (by simp)⟩,.refl,aF3,.cons rfl (.nil)⟩
 rintro⟨i,oa,K,vs⟩ ⟨⟨hi,hK⟩,hoa,hR⟩
 simp only at hi hK hoa hR
 have hRl:=hR.len
 have hol:=hoa.len
 refine GuardOb.mk (fun h=>?_) (fun h=>?_)
 ·have hlt:i < g.n:=by
   have:decide ((i:Int) < (g.n:Int))=true:=h
   have:=of_decide_eq_true this
   omega
  refine CallOb.whole _ (RMay_fr hcl (hg.mono hK) hf) ?_
  rintro v J N - ⟨rfl,hJ,hN⟩
  subst J
  subst N
  refine CondOb.mk (fun _=>?_) (fun h=>absurd h (by simp[hm]))
  refine CallOb.whole _ (RLefts_spec hcl (hg.mono hK) hf i) ?_
  rintro v K2 N - ⟨hK2,op,l,hop,rfl,hN,hl⟩
  subst N
  refine AllocOb.mk fun b9 hb9 hbM9=>?_
  refine OtherOb.app1 TryzEOK rfl (by simp) (e:=30) rfl rfl rfl oa hoa rfl (cs:=[op.val]) rfl rfl rfl (op.blk 3) [] rfl (by omega) (by show (oa.n+1) * 24≤_;omega) ?_
  intro oa2 hn2 hI2 hok2
  refine ArithOb.mk _ (next_wr (i:=i) (by omega)) ?_
  intro hfa
  have hK12:∀ b o,I b=some o→K2 b=some o:=fun b o h=>hK2 _ _ (hK _ _ h)
  have hl':l=refLefts g.ds (flowG g.ds) i∧IsFlow g.ds (flowG g.ds):=by
   rcases hl with ⟨a | a | a,-⟩ | ⟨-,F,k,a,b,c,d⟩
   ·exact absurd hm a
   ·omega
   ·omega
   ·obtain rfl:i=k:=by omega
    rw[flowG_eq c]
    exact⟨d,c⟩
  obtain⟨hl',hfl⟩:=hl'
  subst hl'
  have hrow:∀ (K3:GH),(∀ b o,K2 b=some o→K3 b=some o)→(∀ z∈op.blk 3,K3 z.num=some z.obj)→RowsI K3 g.ds (i+1) (vs++[op.val]):=fun K3 h1 h2=>by
   refine⟨by simp[hRl],fun _=>hfl,fun j hj=>?_⟩
   by_cases e:j < vs.length
   ·obtain⟨os,q1,q2,q3⟩:=hR.row j e
    exact⟨os,by rw[List.getElem_append_left e];exact q1,q2,fun z hz=>h1 _ _ (hK2 _ _ (q3 z hz))⟩
   ·have e2:j=i:=by simp at hj;omega
    subst e2
    exact⟨op,by simp[←hRl],hop,h2⟩
  cases ha:op.a with
  | none=>
   have hb0:op.blk 3=[]:=by unfold OS.blk;rw[ha]
   refine⟨(i+1,oa2,K2,vs++[op.val]),⟨⟨⟨hlt,hK12⟩,hok2,hrow K2 (fun _ _ h=>h) (by rw[hb0];intro z hz;cases hz)⟩,by simp only;omega⟩,.eqM (by rw[hb0];rfl),aF3,.cons rfl (.nil)⟩
  | some b=>
   have hb1:op.blk 3=[⟨b,.cells op.cur.toArray 3 (0,0)⟩]:=by unfold OS.blk;rw[ha]
   rw[hb1] at hrow
   have hbn:=hfa.d ⟨b,.cells op.cur.toArray 3 (0,0)⟩ (by rw[hb1];exact .head _)
   refine⟨(i+1,oa2,ins K2 b (.cells op.cur.toArray 3 (0,0)),vs++[op.val]),⟨⟨⟨hlt,fun c o h=>ins_le hbn _ _ (hK12 _ _ h)⟩,hok2,hrow _ (fun c o h=>ins_le hbn _ _ h) (fun z hz=>by
    rw[List.mem_singleton.1 hz]
    exact ins_self ..)⟩,by simp only;omega⟩,.prom (b:=b) (o:=.cells op.cur.toArray 3 (0,0)) (post:=oa2.blk 30++[]) (by rw[hb1];rfl) (by simp) .refl,aF3,.cons rfl (.nil)⟩
 have hge:i=g.n:=by
  have:decide ((i:Int) < (g.n:Int))=false:=h
  have:=of_decide_eq_false this
  omega
 subst hge
 refine LoopOb.invF (ι:=Nat×OS) (fun x=>{ fl:=[(3,.val oa.val),(5,.val x.2.val),(6,.val (.int .i64 x.1))],cl:=[],gi:=K,mi:=x.2.blk 3++(oa.blk 30++[]) }) (fun x=>x.1≤g.n∧x.2.ok 1 (intsV ((refLeft g.ds (flowG g.ds)).filter fun q=>decide (q < x.1)))) (fun x=>g.n - x.1) ?_ ?_
 ·refine fun _=>⟨(0,OS0),⟨Nat.zero_le _,?_⟩,.refl,aF3,.nil⟩
  have:(refLeft g.ds (flowG g.ds)).filter (fun q=>decide (q < 0))=[]:=by simp
  simp only
  rw[this]
  exact OS0_ok 1
 rintro⟨q,oo⟩ ⟨hq,hoo⟩
 simp only at hq hoo
 refine CondOb.mk (fun h2=>?_) (fun h2=>?_)
 rotate_left
 ·have hge:g.n≤q:=by
   have:=of_decide_eq_false h2
   have h3:¬ (q:Int) < (oa.n:Int):=this
   omega
  have hall:(refLeft g.ds (flowG g.ds)).filter (fun x=>decide (x < q))=refLeft g.ds (flowG g.ds):=by
   rw[List.filter_eq_self]
   intro x hx
   have:x < g.ds.length:=by simpa using (List.mem_filter.1 hx).1
   exact decide_eq_true (by omega)
  rw[hall] at hoo
  exact⟨_,oo.blk 3++[],.sub (List.Sublist.append (.refl _) (List.sublist_append_right _ _)) .refl,hK,oo,hoo,rfl,rfl,hR.fl (may_pos hm)⟩
 have hlt:q < g.n:=by
  have h3:(q:Int) < (oa.n:Int):=of_decide_eq_true h2
  omega
 have hvl:q < vs.length:=by omega
 obtain⟨oi,ho1,ho2,ho3⟩:=hR.row q hvl
 refine AllocOb.mk fun b34 hb34 hbM34=>?_
 have hat:oa.ok 1 (vs.flatMap fun v=>[v]):=by
  have:vs.flatMap (fun v=>[v])=vs:=by simp
  rw[this]
  exact hoa
 obtain⟨ad,had,hrd⟩:=OS.ok.row (I:=K) (M:=⟨b34,.cells #[] 3 (0,0)⟩::(oo.blk 3++(oa.blk 30++[]))) (e:=30) (f:=fun v:Value=>[v]) (size:=1) (fun _=>rfl) (by decide) hat (fun z hz=>by simp[hz]) hvl
 rw[ho1] at hrd
 refine IdxOb.mk ad q had rfl (by omega) ?_
 refine LoadOb.mk _ hrd ?_
 have hpi:=OS.pos ho2
 have hrl:=range_filter_len (fun k=>(rawL g.ds (flowG g.ds) q).contains k) g.ds.length
 have hrl2:(refLefts g.ds (flowG g.ds) q).length≤g.n:=by rw[←hgn];exact hrl
 refine OtherOb.appL TryzEOK rfl (by simp) (e:=3) rfl rfl rfl ⟨some b34,0,0,[]⟩ (xs:=[]) ⟨rfl,(fun h=>by cases h),(fun g h=>⟨rfl,Nat.le_refl _,Nat.zero_le _,rfl⟩)⟩ rfl (sa:=oi.a.map fun g=>(⟨g,0,none⟩:Addr)) (m:=oi.n) (c':=oi.c) (news:=intsV (refLefts g.ds (flowG g.ds) q)) rfl (by rw[intsV_len];show _=oi.n * 1;omega) (fun h0=>?_) (intsV_one _) [] (oo.blk 3++(oa.blk 30++[])) rfl (by simp only;omega) (by show (0+oi.n) * 8≤_;omega) ?_
 ·cases hia:oi.a with
  | none=>have:=(ho2.nil hia).1;omega
  | some b=>
   obtain⟨c1,c2,c3,c4⟩:=ho2.cap b hia
   refine⟨⟨b,0,none⟩,rfl,rfl,_,_,_,.inl (ho3 ⟨b,.cells oi.cur.toArray 3 (0,0)⟩ (by unfold OS.blk;rw[hia];exact .head _)),?_,ho2.len⟩
   simp only[List.drop_zero]
   exact c4
 intro ol hnl hIl hokl
 have hM:=mayF_of hgn hm
 generalize hFF:flowG g.ds=F at *
 have hokl:ol.ok 1 (intsV (refLefts g.ds F q)):=by rw[List.nil_append] at hokl;exact hokl
 clear hnl hIl
 refine LoopOb.inv (ι:=Nat×OS×List Nat) (fun x=>{ fl:=[(3,.val oa.val),(5,.val oo.val),(6,.val (.int .i64 q)),(7,.val x.2.1.val),(8,.val (.int .i64 x.1))],cl:=[],gi:=K,mi:=x.2.1.blk 3++(oo.blk 3++(oa.blk 30++[])) }) (fun x=>Work (refLefts g.ds F) g.ds.length x.1 (refLefts g.ds F q) x.2.2∧x.2.1.ok 1 (intsV x.2.2)) (fun x=>g.n - x.1) ?_ ?_
 ·exact⟨(0,ol,refLefts g.ds F q),⟨Work.start q,hokl⟩,.refl,aF5,.nil⟩
 clear hokl
 rintro⟨k,ol,l⟩ ⟨hw,hol⟩
 simp only at hw hol
 have hpl:=OS.pos hol
 have hll:=hw.len
 have hkl:=hw.k
 refine CondOb.mk (fun h3=>?_) (fun h3=>?_)
 rotate_left
 ·have hge3:l.length≤k:=by have:¬ (k:Int) < (ol.n:Int):=of_decide_eq_false h3;omega
  obtain rfl:k=l.length:=by omega
  have hdone:=hw.done q
  rw[refLefts_comes hM] at hdone
  refine CallOb.whole _ (RIn_spec q hol (fun z hz=>List.mem_append_left _ hz) (by omega)) ?_
  rintro v J N - ⟨rfl,hJ,hN⟩
  subst J
  subst N
  have hstep:(refLeft g.ds F).filter (fun x=>decide (x < q+1))=(refLeft g.ds F).filter (fun x=>decide (x < q))++bif l.contains q then [q] else []:=refLeft_step (by omega) (by rw[←hdone];simp)
  refine CondOb.mk (fun he=>?_) (fun he=>?_)
  ·have he':l.contains q=true:=he
   have hpo:=OS.pos hoo
   have hf1:=List.length_filter_le (fun x=>decide (x < q)) (refLeft g.ds F)
   have hf2:(refLeft g.ds F).length≤g.ds.length:=by
    have:=List.length_filter_le (fun i=>(Classical.propDecidable (ComesL (rawL g.ds F) i i)).decide) (List.range g.ds.length)
    rw[List.length_range] at this
    exact this
   refine AllocOb.mk fun b9 hb9 hbM9=>?_
   refine OtherOb.app1 TryzEOK rfl (by simp) (e:=3) rfl rfl rfl oo hoo rfl (cs:=[.int .i64 q]) rfl rfl rfl (ol.blk 3) (oa.blk 30++[]) rfl (by omega) (by show (oo.n+1) * 8≤_;omega) ?_
   intro oo2 hn2 hI2 hok2
   refine ArithOb.mk _ (next_wr (i:=q) (by omega)) ?_
   intro hfa
   refine⟨(q+1,oo2),⟨⟨hlt,?_⟩,by simp only;omega⟩,.sub (List.sublist_append_right _ _) .refl,aF3,.nil⟩
   simp only
   rw[hstep,he',cond_true,intsV_app]
   exact hok2
  ·have he':l.contains q=false:=he
   refine ArithOb.mk _ (next_wr (i:=q) (by omega)) ?_
   intro hfa
   refine⟨(q+1,oo),⟨⟨hlt,?_⟩,by simp only;omega⟩,.sub (List.sublist_append_right _ _) .refl,aF3,.nil⟩
   simp only
   rw[hstep,he',cond_false,List.append_nil]
   exact hoo
 have hlt3:k < l.length:=by have:(k:Int) < (ol.n:Int):=of_decide_eq_true h3;omega
 have hxn:l[k] < g.n:=by have:=hw.lt _ (List.getElem_mem hlt3);omega
 have hlk:l[k]?=some l[k]:=List.getElem?_eq_getElem hlt3
 generalize l[k]=x at hxn hlk
 have hxv:x < vs.length:=by omega
 obtain⟨ox,hx1,hx2,hx3⟩:=hR.row x hxv
 rw[hFF] at hx2
 have hpx:=OS.pos hx2
 have hxl:(refLefts g.ds F x).length≤g.n:=by rw[←hgn];exact range_filter_len (fun k=>(rawL g.ds F x).contains k) g.ds.length
 refine LoopOb.inv (ι:=Nat×OS×List Nat) (fun x=>{ fl:=[(3,.val oa.val),(5,.val oo.val),(6,.val (.int .i64 q)),(7,.val x.2.1.val),(8,.val (.int .i64 k)),(9,.val (.int .i64 x.1))],cl:=[],gi:=K,mi:=x.2.1.blk 3++(oo.blk 3++(oa.blk 30++[])) }) (fun y=>y.1≤ox.n∧y.2.2=addAll ((refLefts g.ds F x).take y.1) l∧y.2.1.ok 1 (intsV y.2.2)) (fun y=>ox.n - y.1) ?_ ?_
 ·exact⟨(0,ol,l),⟨Nat.zero_le _,rfl,hol⟩,.refl,aF6,.nil⟩
 clear hol hpl
 rintro⟨j,ol,l'⟩ ⟨hj,hl',hol⟩
 simp only at hj hl' hol
 have hpl:=OS.pos hol
 have hll':l'.length≤g.ds.length:=by
  refine below_len _ _ (by rw[hl'];exact addAll_nodup _ _ hw.nd) fun y hy=>?_
  rw[hl',addAll_mem] at hy
  rcases hy with hy | hy
  ·exact hw.lt y hy
  ·exact refLefts_lt (List.mem_of_mem_take hy)
 obtain⟨pre,hpre⟩:=addAll_pre ((refLefts g.ds F x).take j) l
 have hkl':k < l'.length:=by rw[hl',hpre,List.length_append];omega
 have hlk':l'[k]=x:=by
  have h5:l'[k]?=some x:=by rw[hl',hpre,List.getElem?_append_left hlt3];exact hlk
  rw[List.getElem?_eq_getElem hkl'] at h5
  exact Option.some.inj h5
 have hrL:∀ M,(∀ z∈ol.blk 3,z∈M)→∃ ad,ol.a.map (fun g=>(⟨g,0,none⟩:Addr))=some ad∧Rd K M (ad.add (k * 1)) 1 [.int .i64 x]:=fun M hM=>by
  have:=os_ints (I:=K) (M:=M) (e:=3) hol hM hkl'
  rwa [hlk'] at this
 obtain⟨aL,haL,hrdL⟩:=hrL (ol.blk 3++(oo.blk 3++(oa.blk 30++[]))) (fun z hz=>List.mem_append_left _ hz)
 have hrA:∀ M,(∀ z∈oa.blk 30,z∈M)→∃ ad,oa.a.map (fun g=>(⟨g,0,none⟩:Addr))=some ad∧Rd K M (ad.add (x * 1)) 1 [ox.val]:=fun M hM=>by
  have:=OS.ok.row (I:=K) (M:=M) (e:=30) (f:=fun v:Value=>[v]) (size:=1) (fun _=>rfl) (by decide) hat hM hxv
  rwa [hx1] at this
 obtain⟨aA,haA,hrdA⟩:=hrA (ol.blk 3++(oo.blk 3++(oa.blk 30++[]))) (fun z hz=>List.mem_append_right _ (List.mem_append_right _ (List.mem_append_left _ hz)))
 refine IdxOb.mk aL k haL rfl (show k < ol.n by omega) ?_
 refine LoadOb.mk _ hrdL ?_
 refine IdxOb.mk aA x haA rfl (by omega) ?_
 refine LoadOb.mk _ hrdA ?_
 refine CondOb.mk (fun h4=>?_) (fun h4=>?_)
 rotate_left
 ·have hge4:ox.n≤j:=by have:¬ (j:Int) < (ox.n:Int):=of_decide_eq_false h4;omega
  rw[List.take_of_length_le (by omega)] at hl'
  have hw2:=hw.next (fun z y hy=>refLefts_lt hy) hlk
  refine ArithOb.mk _ (next_wr (i:=k) (by omega)) ?_
  refine⟨(k+1,ol,l'),⟨⟨by rw[hl'];exact hw2,hol⟩,by simp only;omega⟩,.refl,aF5,.nil⟩
 have hlt4:j < ox.n:=by have:(j:Int) < (ox.n:Int):=of_decide_eq_true h4;omega
 have hjx:j < (refLefts g.ds F x).length:=by omega
 have hrX:∀ M,∃ ad,ox.a.map (fun g=>(⟨g,0,none⟩:Addr))=some ad∧Rd K M (ad.add (j * 1)) 1 [.int .i64 (refLefts g.ds F x)[j]]:=fun M=>by
  obtain⟨ad,h5,h6⟩:=os_ints (I:=K) (M:=ox.blk 3) (e:=3) hx2 (fun z hz=>hz) hjx
  exact⟨ad,h5,h6.frozen hx3⟩
 obtain⟨aX,haX,hrdX⟩:=hrX (ol.blk 3++(oo.blk 3++(oa.blk 30++[])))
 have hyn:(refLefts g.ds F x)[j] < g.ds.length:=refLefts_lt (List.getElem_mem hjx)
 have hsn:addAll ((refLefts g.ds F x).take (j+1)) l=bif l'.contains (refLefts g.ds F x)[j] then l' else l'++[(refLefts g.ds F x)[j]]:=by
  rw[List.take_succ_eq_append_getElem hjx,addAll_snoc,←hl']
 generalize (refLefts g.ds F x)[j]=y at hyn hsn hrX hrdX
 refine IdxOb.mk aL k haL rfl (show k < ol.n by omega) ?_
 refine LoadOb.mk _ hrdL ?_
 refine IdxOb.mk aA x haA rfl (by omega) ?_
 refine LoadOb.mk _ hrdA ?_
 refine IdxOb.mk aX j haX rfl hlt4 ?_
 refine LoadOb.mk _ hrdX ?_
 refine CallOb.whole _ (RIn_spec y hol (fun z hz=>List.mem_append_left _ hz) (by omega)) ?_
 rintro v J N - ⟨rfl,hJ,hN⟩
 subst J
 subst N
 refine CondOb.mk (fun he=>?_) (fun he=>?_)
 ·have he':l'.contains y=false:=by
   have:(!l'.contains y)=true:=he
   simpa using this
  rw[he',cond_false] at hsn
  refine IdxOb.mk aL k haL rfl (show k < ol.n by omega) ?_
  refine LoadOb.mk _ hrdL ?_
  refine IdxOb.mk aA x haA rfl (by omega) ?_
  refine LoadOb.mk _ hrdA ?_
  refine IdxOb.mk aX j haX rfl hlt4 ?_
  refine LoadOb.mk _ hrdX ?_
  refine AllocOb.mk fun b9 hb9 hbM9=>?_
  refine OtherOb.app1 TryzEOK rfl (by simp) (e:=3) rfl rfl rfl ol hol rfl (cs:=[.int .i64 y]) rfl rfl rfl [] (oo.blk 3++(oa.blk 30++[])) rfl (by omega) (by show (ol.n+1) * 8≤_;omega) ?_
  intro oo2 hn2 hI2 hok2
  refine ArithOb.mk _ (next_wr (i:=j) (by omega)) ?_
  refine⟨(j+1,oo2,l'++[y]),⟨⟨hlt4,hsn.symm,?_⟩,by simp only;omega⟩,.refl,aF6,.nil⟩
  simp only
  rw[intsV_app]
  exact hok2
 ·have he':l'.contains y=true:=by
   have:(!l'.contains y)=false:=he
   simpa using this
  rw[he',cond_true] at hsn
  refine ArithOb.mk _ (next_wr (i:=j) (by omega)) ?_
  exact⟨(j+1,ol,l'),⟨⟨hlt4,hsn.symm,hol⟩,by simp only;omega⟩,.refl,aF6,.nil⟩
def IsWhere (deb:List Int) (g:Gr) (r:Int×Int):Prop:=(mayG deb g≠0∧r=(0,mayG deb g))∨(mayG deb g=0∧∃ F,IsFlow g.ds F∧r=if 0 < (refLeft g.ds F).length then ((((refLeft g.ds F).headD 0:Nat):Int),42) else if 0 < (refLoops g.ds F).length then ((((refLoops g.ds F).headD 0:Nat):Int),43) else (0,0))
theorem IsWhere.eq {deb:List Int} {g:Gr} {l m:Int×Int} (h:IsWhere deb g l) (h':IsWhere deb g m):l=m:=by
 rcases h with ⟨a,rfl⟩ | ⟨a,F,d,rfl⟩<;>rcases h' with ⟨a',rfl⟩ | ⟨a',F',d',rfl⟩
 ·rfl
 ·exact absurd a' a
 ·exact absurd a a'
 ·rw[d.unique d']
theorem WWhere_is {I:GH} {deb:List Int} (hT:Tabs I deb) {g:Gr} (hg:g.ok I) (hkb:∀ d∈g.ds,KB d.t):Spec Tryz.prog 20 [g.val] I [] fun v I' M'=>(∀ b o,I b=some o→I' b=some o)∧M'=[] ∧
  ∃ r:Int×Int,v=.tuple #[.int .i64 r.1,.int .i64 r.2]∧IsWhere deb g r:=
 Spec.weakK (WWhere_spec hT hg hkb may64) fun v I' M' h=>by
  obtain⟨h1,h2,r,h3,h5⟩:=h
  refine⟨h1,h2,r,h3,?_⟩
  rcases h5 with h5 | ⟨hm,F,c,d⟩
  ·exact .inl h5
  ·have hM:=mayF_of hg.n hm
   have h64:=may64 hm
   have hgn:=hg.n
   refine .inr ⟨hm,F,c,?_⟩
   rw[d,whereW,if_neg (by simp),lefts_eq hM (by omega),loops_eq hg hM (by omega)]
theorem WCheck_is {I:GH} {deb:List Int} (hT:Tabs I deb) {g:Gr} (hg:g.ok I) (hkb:∀ d∈g.ds,KB d.t):Spec Tryz.prog 21 [g.val] I [] fun v I' M'=>(∀ b o,I b=some o→I' b=some o)∧M'=[] ∧
  ∃ r:Int×Int,v=.int .i64 r.2∧IsWhere deb g r:=by
 refine spec_of_V [] TryzEOK Tryz.func21 rfl rfl rfl ?_
 intro B h0
 refine CallOb.mk [] [] _ (.refl _) (WWhere_is hT hg hkb) ?_
 rintro v I1 N - ⟨hI1,rfl,r,rfl,h⟩
 exact⟨_,_,.refl,hI1,rfl,r,rfl,h⟩
set_option maxHeartbeats 4000000 in
theorem RWhere_of {I:GH} {M0:List Blk} {deb:List Int} (hcl:ClsOk deb) {g:Gr} (hg:g.ok I) (hf:GFit g)
  (hL:Spec Tryz.prog 18 [g.val] I M0 fun v I' M'=>(∀ b o,I b=some o→I' b=some o)∧∃ (os:OS) (l:List Nat),os.ok 1 (intsV l)∧v=os.val∧M'=os.blk 3++M0∧IsLeft deb g l) :
  Spec Tryz.prog 17 [g.val] I M0 fun v I' M'=>(∀ b o,I b=some o→I' b=some o)∧M'=M0∧∃ r:Int×Int,v=.tuple #[.int .i64 r.1,.int .i64 r.2]∧IsWhere deb g r:=by
 refine spec_of_V [] TryzEOK Tryz.func17 rfl rfl rfl ?_
 intro B h0
 refine CallOb.whole _ (RMay_fr hcl hg hf) ?_
 rintro v J N - ⟨rfl,hJ,hN⟩
 subst J
 subst N
 refine CondOb.mk (fun h=>?_) (fun h=>?_)
 ·have hm:mayG deb g≠0:=by
   have:(!decide (mayG deb g=0))=true:=h
   simpa using this
  exact⟨_,_,.refl,fun _ _ h=>h,rfl,(0,mayG deb g),rfl,.inl ⟨hm,rfl⟩⟩
 have hm:mayG deb g=0:=by
  have:(!decide (mayG deb g=0))=false:=h
  simpa using this
 refine CallOb.whole _ hL ?_
 rintro v J N - ⟨hJ,os,l,hos,rfl,rfl,⟨hm',-⟩ | ⟨-,F,hF,rfl⟩⟩
 ·exact absurd hm hm'
 have hp:=OS.pos hos
 refine CondOb.mk (fun h=>?_) (fun h=>?_)
 ·have h':0 < (refLeft g.ds F).length:=by have:(0:Int) < (os.n:Int):=of_decide_eq_true h;omega
  obtain⟨ad,had,hrd⟩:=os_head (I:=J) (e:=3) (M0:=M0) hos h' rfl
  refine IdxOb.mk ad 0 had rfl (by omega) ?_
  refine LoadOb.mk _ hrd ?_
  exact⟨_,M0,.sub (List.sublist_append_right _ _) .refl,hJ,rfl,(((refLeft g.ds F).headD 0:Nat),42),rfl,.inr ⟨hm,F,hF,by rw[if_pos h']⟩⟩
 have h':¬ 0 < (refLeft g.ds F).length:=by have:¬ (0:Int) < (os.n:Int):=of_decide_eq_false h;omega
 refine CallOb.whole _ (RLoops_spec hcl (hg.mono hJ) hf) ?_
 rintro v K N - ⟨hK,ot,l2,hot,rfl,rfl,⟨hm',-⟩ | ⟨-,F2,hF2,rfl⟩⟩
 ·exact absurd hm hm'
 obtain rfl:=hF.unique hF2
 have hp2:=OS.pos hot
 have hIK:∀ b o,I b=some o→K b=some o:=fun b o h=>hK _ _ (hJ _ _ h)
 refine CondOb.mk (fun h=>?_) (fun h=>?_)
 ·have h2:0 < (refLoops g.ds F).length:=by have:(0:Int) < (ot.n:Int):=of_decide_eq_true h;omega
  obtain⟨ad,had,hrd⟩:=os_head (I:=K) (e:=3) (M0:=os.blk 3++M0) hot h2 rfl
  refine IdxOb.mk ad 0 had rfl (by omega) ?_
  refine LoadOb.mk _ hrd ?_
  exact⟨_,M0,.sub ((List.sublist_append_right _ _).trans (List.sublist_append_right _ _)) .refl,hIK,rfl,(((refLoops g.ds F).headD 0:Nat),43),rfl,.inr ⟨hm,F,hF,by rw[if_neg h',if_pos h2]⟩⟩
 have h2:¬ 0 < (refLoops g.ds F).length:=by have:¬ (0:Int) < (ot.n:Int):=of_decide_eq_false h;omega
 exact⟨_,M0,.sub ((List.sublist_append_right _ _).trans (List.sublist_append_right _ _)) .refl,hIK,rfl,(0,0),rfl,.inr ⟨hm,F,hF,by rw[if_neg h',if_neg h2]⟩⟩
theorem RCheck_of {I:GH} {M0:List Blk} {deb:List Int} {g:Gr}
  (hW:Spec Tryz.prog 17 [g.val] I M0 fun v I' M'=>(∀ b o,I b=some o→I' b=some o)∧M'=M0∧∃ r:Int×Int,v=.tuple #[.int .i64 r.1,.int .i64 r.2]∧IsWhere deb g r) :
  Spec Tryz.prog 22 [g.val] I M0 fun v I' M'=>(∀ b o,I b=some o→I' b=some o)∧M'=M0∧∃ r:Int×Int,v=.int .i64 r.2∧IsWhere deb g r:=by
 refine spec_of_V [] TryzEOK Tryz.func22 rfl rfl rfl ?_
 intro B h0
 refine CallOb.whole _ hW ?_
 rintro v I1 N - ⟨hI1,rfl,r,rfl,h⟩
 exact⟨_,_,.refl,hI1,rfl,r,rfl,h⟩
section
variable {I:GH} {M0:List Blk} {deb:List Int}
theorem RLeft_spec (hcl:ClsOk deb) {g:Gr} (hg:g.ok I) (hf:GFit g):Spec Tryz.prog 18 [g.val] I M0 fun v I' M'=>(∀ b o,I b=some o→I' b=some o)∧∃ (os:OS) (l:List Nat),os.ok 1 (intsV l)∧v=os.val∧M'=os.blk 3++M0∧IsLeft deb g l:=by
 by_cases hm:mayG deb g=0
 ·refine Spec.weakK (Spec.frame (RLeft_some hcl hg hf hm)) ?_
  rintro v J M ⟨M',rfl,-,h1,-,os,hos,rfl,rfl,hF⟩
  exact⟨h1,os,_,hos,rfl,by rw[List.append_nil],.inr ⟨hm,_,hF,rfl⟩⟩
 ·refine Spec.weakK (RLeft_none hcl hg hf hm) ?_
  rintro v J M ⟨rfl,rfl,rfl⟩
  exact⟨fun _ _ h=>h,OS0,[],OS0_ok 1,rfl,rfl,.inl ⟨hm,rfl⟩⟩
theorem RWhere_spec (hcl:ClsOk deb) {g:Gr} (hg:g.ok I) (hf:GFit g):Spec Tryz.prog 17 [g.val] I M0 fun v I' M'=>(∀ b o,I b=some o→I' b=some o)∧M'=M0∧∃ r:Int×Int,v=.tuple #[.int .i64 r.1,.int .i64 r.2]∧IsWhere deb g r:=
 RWhere_of hcl hg hf (RLeft_spec hcl hg hf)
theorem RCheck_spec (hcl:ClsOk deb) {g:Gr} (hg:g.ok I) (hf:GFit g):Spec Tryz.prog 22 [g.val] I M0 fun v I' M'=>(∀ b o,I b=some o→I' b=some o)∧M'=M0∧∃ r:Int×Int,v=.int .i64 r.2∧IsWhere deb g r:=
 RCheck_of (RWhere_spec hcl hg hf)
theorem WWhere_own (hT:Tabs I deb) {g:Gr} (hg:g.ok I) (hkb:∀ d∈g.ds,KB d.t):Spec Tryz.prog 20 [g.val] I M0 fun v I' M'=>(∀ b o,I b=some o→I' b=some o)∧M'=M0∧∃ r:Int×Int,v=.tuple #[.int .i64 r.1,.int .i64 r.2]∧IsWhere deb g r:=by
 refine Spec.weakK (Spec.frame (WWhere_is hT hg hkb)) ?_
 rintro v J M ⟨M',rfl,-,h1,-,rfl,r,rfl,h2⟩
 exact⟨h1,rfl,r,rfl,h2⟩
theorem WCheck_own (hT:Tabs I deb) {g:Gr} (hg:g.ok I) (hkb:∀ d∈g.ds,KB d.t):Spec Tryz.prog 21 [g.val] I M0 fun v I' M'=>(∀ b o,I b=some o→I' b=some o)∧M'=M0∧∃ r:Int×Int,v=.int .i64 r.2∧IsWhere deb g r:=by
 refine Spec.weakK (Spec.frame (WCheck_is hT hg hkb)) ?_
 rintro v J M ⟨M',rfl,-,h1,-,rfl,r,rfl,h2⟩
 exact⟨h1,rfl,r,rfl,h2⟩
theorem WLefts_own (hT:Tabs I deb) {g:Gr} (hg:g.ok I) (hkb:∀ d∈g.ds,KB d.t) (r:Int):Spec Tryz.prog 26 [g.val,.int .i64 r] I M0 fun v I' M'=>(∀ b o,I b=some o→I' b=some o) ∧
  ∃ (os:OS) (l:List Nat),os.ok 1 (intsV l)∧v=os.val∧M'=os.blk 3++M0∧IsLefts deb g r l:=by
 refine Spec.weakK (Spec.frame (WLefts_is hT hg hkb r)) ?_
 rintro v J M ⟨M',rfl,-,h1,-,os,l,h2,rfl,rfl,h3⟩
 exact⟨h1,os,l,h2,rfl,by rw[List.append_nil],h3⟩
theorem WLoops_own (hT:Tabs I deb) {g:Gr} (hg:g.ok I) (hkb:∀ d∈g.ds,KB d.t):Spec Tryz.prog 25 [g.val] I M0 fun v I' M'=>(∀ b o,I b=some o→I' b=some o) ∧
  ∃ (os:OS) (l:List Nat),os.ok 1 (intsV l)∧v=os.val∧M'=os.blk 3++M0∧IsLoops deb g l:=by
 refine Spec.weakK (Spec.frame (WLoops_is hT hg hkb)) ?_
 rintro v J M ⟨M',rfl,-,h1,-,os,l,h2,rfl,rfl,h3⟩
 exact⟨h1,os,l,h2,rfl,by rw[List.append_nil],h3⟩
theorem WLeft_own (hT:Tabs I deb) {g:Gr} (hg:g.ok I) (hkb:∀ d∈g.ds,KB d.t):Spec Tryz.prog 24 [g.val] I M0 fun v I' M'=>(∀ b o,I b=some o→I' b=some o) ∧
  ∃ (os:OS) (l:List Nat),os.ok 1 (intsV l)∧v=os.val∧M'=os.blk 3++M0∧IsLeft deb g l:=by
 refine Spec.weakK (Spec.frame (WLeft_is hT hg hkb)) ?_
 rintro v J M ⟨M',rfl,-,h1,-,os,l,h2,rfl,rfl,h3⟩
 exact⟨h1,os,l,h2,rfl,by rw[List.append_nil],h3⟩
theorem RLefts_is (hcl:ClsOk deb) {g:Gr} (hg:g.ok I) (hf:GFit g) (r:Int):Spec Tryz.prog 27 [g.val,.int .i64 r] I M0 fun v I' M'=>(∀ b o,I b=some o→I' b=some o) ∧
  ∃ (os:OS) (l:List Nat),os.ok 1 (intsV l)∧v=os.val∧M'=os.blk 3++M0∧IsLefts deb g r l:=RLefts_spec hcl hg hf r
theorem RLoops_is (hcl:ClsOk deb) {g:Gr} (hg:g.ok I) (hf:GFit g):Spec Tryz.prog 19 [g.val] I M0 fun v I' M'=>(∀ b o,I b=some o→I' b=some o) ∧
  ∃ (os:OS) (l:List Nat),os.ok 1 (intsV l)∧v=os.val∧M'=os.blk 3++M0∧IsLoops deb g l:=RLoops_spec hcl hg hf
end
structure NdC where
 k:Int
 s0:Int
 s1:Int
 s2:Int
 s3:Int
 t:List UInt8
 lo:Int
 hi:Int
 kids:List Int
def NdC.nd (c:NdC) (a:Option Addr) (n k:Nat):Nd:=⟨c.k,c.s0,c.s1,c.s2,c.s3,⟨c.t.toArray⟩,c.lo,c.hi,a,n,k,c.kids⟩
inductive NdsR:List NdC→List Nd→Prop
 | nil:NdsR [] []
 | cons {c cs ns} (a:Option Addr) (n k:Nat) (t:NdsR cs ns):NdsR (c::cs) (c.nd a n k::ns)
structure TrC where
 ns:List NdC
 root:Int
structure TrR (c:TrC) (t:Tr):Prop where
 ns:NdsR c.ns t.ns
 root:t.root=c.root
structure DfC where
 name:List UInt8
 t:TrC
inductive DfsR:List DfC→List Df→Prop
 | nil:DfsR [] []
 | cons {c cs ds} {t:Tr} (h:TrR c.t t) (k:DfsR cs ds):DfsR (c::cs) (⟨⟨c.name.toArray⟩,t⟩::ds)
def okIk:Int→Bool
 | .ofNat k=>Nat.ble k 9223372036854775807
 | .negSucc k=>Nat.ble k 9223372036854775807
def okU:Int→Bool
 | .ofNat k=>Nat.ble k 18446744073709551615
 | .negSucc _=>false
def okB:Int→Bool
 | .ofNat k=>Nat.ble k 255
 | .negSucc _=>false
theorem okIk_eq {x:Int} (h:okIk x=true):i64ok x:=by
 cases x with
 | ofNat k=>
  have:=Nat.le_of_ble_eq_true h
  exact⟨by simp only[Int.ofNat_eq_natCast];omega,by simp only[Int.ofNat_eq_natCast];omega⟩
 | negSucc k=>
  have:=Nat.le_of_ble_eq_true h
  exact⟨by omega,by omega⟩
theorem okU_eq {x:Int} (h:okU x=true):u64ok x:=by
 cases x with
 | ofNat k=>
  have:=Nat.le_of_ble_eq_true h
  exact⟨by simp,by simp;omega⟩
 | negSucc k=>cases h
theorem okB_eq {x:Int} (h:okB x=true):0≤x∧x < 256:=by
 cases x with
 | ofNat k=>
  have:=Nat.le_of_ble_eq_true h
  exact⟨by simp,by simp;omega⟩
 | negSucc k=>cases h
noncomputable def asU8:EV→Option Int
 | .i .u8 n=>cnd (okB n) (some n) none
 | _=>none
noncomputable def asU64:EV→Option Int
 | .i .u64 n=>cnd (okU n) (some n) none
 | _=>none
noncomputable def asI64:EV→Option Int
 | .i .i64 n=>cnd (okIk n) (some n) none
 | _=>none
noncomputable def asS:EV→Option (List UInt8)
 | .s l=>cnd (Nat.ble l.length 140737488355328) (some l) none
 | _=>none
section
variable {D:Nm} {v:EV} {u:Value}
theorem asU8_ok {n:Int} (h:asU8 v=some n) (hv:VR D v u):u=.int .u8 n∧0≤n∧n < 256:=by
 unfold asU8 at h
 split at h
 ·obtain⟨h1,h2⟩:=cnd_some h
  cases h2
  simp only[VR] at hv
  exact⟨hv,okB_eq h1⟩
 ·cases h
theorem asU64_ok {n:Int} (h:asU64 v=some n) (hv:VR D v u):u=.int .u64 n∧u64ok n:=by
 unfold asU64 at h
 split at h
 ·obtain⟨h1,h2⟩:=cnd_some h
  cases h2
  simp only[VR] at hv
  exact⟨hv,okU_eq h1⟩
 ·cases h
theorem asI64_ok {n:Int} (h:asI64 v=some n) (hv:VR D v u):u=.int .i64 n∧i64ok n:=by
 unfold asI64 at h
 split at h
 ·obtain⟨h1,h2⟩:=cnd_some h
  cases h2
  simp only[VR] at hv
  exact⟨hv,okIk_eq h1⟩
 ·cases h
theorem asS_ok {l:List UInt8} (h:asS v=some l) (hv:VR D v u):u=.string ⟨l.toArray⟩∧(⟨l.toArray⟩:ByteArray).size≤140737488355328:=by
 unfold asS at h
 split at h
 ·obtain⟨h1,h2⟩:=cnd_some h
  cases h2
  simp only[VR] at hv
  exact⟨hv,Nat.le_of_ble_eq_true h1⟩
 ·cases h
end
noncomputable def readS {R:Type} (G:GT) (m:Tri Ent) (x:EV) (size b:Nat) (K:List EV→Option R):Option R:=match x with
 | .sn=>K []
 | .so=>K []
 | .sl id off n c=>cnd (Nat.ble n c) (cnd (Nat.ble (Nat.mul n b) 140737488355328) (loadE G m (.p id off) (Nat.mul n size) K) none) none
 | .sx id off e n=>cnd (Nat.ble (Nat.mul n b) 140737488355328) (loadE G m (.p id off) (Nat.mul n size) K) none
 | _=>none
noncomputable def ints:List EV→Option (List Int)
 | []=>some []
 | v::l=>opn (asI64 v) none fun n=>opn (ints l) none fun r=>some (n::r)
noncomputable def readNds (G:GT) (m:Tri Ent):List EV→Option (List NdC)
 | []=>some []
 | a::b::c::d::e::f::g::h::x::l=>opn (asU8 a) none fun a=>opn (asU64 b) none fun b=>opn (asU64 c) none fun c=>opn (asU64 d) none fun d=>opn (asU64 e) none fun e=>opn (asS f) none fun f=>opn (asI64 g) none fun g=>opn (asI64 h) none fun h=>
  opn (readS G m x 1 8 ints) none fun ks=>opn (readNds G m l) none fun ns=>some (⟨a,b,c,d,e,f,g,h,ks⟩::ns)
 | _=>none
noncomputable def readTr (G:GT) (m:Tri Ent) (x r:EV):Option TrC:=opn (readS G m x 9 96 (readNds G m)) none fun ns=>opn (asI64 r) none fun r=>some ⟨ns,r⟩
noncomputable def readDfs (G:GT) (m:Tri Ent):List EV→Option (List DfC)
 | []=>some []
 | a::x::r::l=>opn (asS a) none fun a=>opn (readTr G m x r) none fun t=>opn (readDfs G m l) none fun ds=>some (⟨a,t⟩::ds)
 | _=>none
noncomputable def readGr (G:GT) (m:Tri Ent):EV→Option (List DfC)
 | .a [x]=>readS G m x 3 48 (readDfs G m)
 | _=>none
section
variable {Y:RK} {D:Nm} {m:Me} {I J:GH} {M:List Blk}
theorem readS_ok {R:Type} (h:MS Y D m I M) (hJ:Frz I M J) {x:EV} {u:Value} (hx:VR D x u) {size b:Nat} {K:List EV→Option R} {r:R} (hr:readS Y.G m.t x size b K=some r) :
  ∃ a n c l vs,u=.slice a n c∧RS J a n c size b vs∧VRs D l vs∧K l=some r:=by
 unfold readS at hr
 split at hr
 ·simp only[VR] at hx
  exact⟨none,0,0,[],[],hx,⟨by simp,⟨Nat.le_refl _,by omega⟩,.inl rfl⟩,by simp[VRs],hr⟩
 ·simp only[VR] at hx
  obtain⟨a,c,hx⟩:=hx
  exact⟨some a,0,c,[],[],hx,⟨by simp,⟨Nat.zero_le _,by omega⟩,.inl rfl⟩,by simp[VRs],hr⟩
 ·rename_i id off n c
  obtain⟨h1,hr⟩:=cnd_some hr
  obtain⟨h2,hr⟩:=cnd_some hr
  simp only[VR] at hx
  obtain⟨a,ha,hx⟩:=hx
  obtain⟨ad,l,vs,e1,e2,e3,e4⟩:=loadE_ok h (x:=.p id off) (u:=.pointer (some ⟨a.b,a.o+off,none⟩)) (by simp only[VR];exact⟨a,ha,rfl⟩) hr
  cases e1
  obtain⟨g1,cs,T,f,g2,g3,g4⟩:=e2
  exact⟨_,n,c,l,vs,hx,⟨g4,⟨Nat.le_of_ble_eq_true h1,Nat.le_of_ble_eq_true h2⟩,.inr ⟨_,rfl,rfl,cs,T,f,hJ.kn _ _ g2,g3⟩⟩,e3,e4⟩
 ·rename_i id off e n
  obtain⟨h2,hr⟩:=cnd_some hr
  simp only[VR] at hx
  obtain⟨a,ha,hc,hx⟩:=hx
  obtain⟨ad,l,vs,e1,e2,e3,e4⟩:=loadE_ok h (x:=.p id off) (u:=.pointer (some ⟨a.b,a.o+off,none⟩)) (by simp only[VR];exact⟨a,ha,rfl⟩) hr
  cases e1
  obtain⟨g1,cs,T,f,g2,g3,g4⟩:=e2
  exact⟨_,n,a.c - e,l,vs,hx,⟨g4,⟨by omega,Nat.le_of_ble_eq_true h2⟩,.inr ⟨_,rfl,rfl,cs,T,f,hJ.kn _ _ g2,g3⟩⟩,e3,e4⟩
 ·cases hr
theorem ints_ok:∀ {l:List EV} {vs:List Value} {ks:List Int},ints l=some ks→VRs D l vs→vs=ks.map (Value.int .i64 ·)∧∀ x∈ks,i64ok x
 | [],vs,ks,h,hv=>by
  cases h
  simp only[VRs] at hv
  exact⟨hv,by simp⟩
 | v::l,vs,ks,h,hv=>by
  unfold ints at h
  obtain⟨n,h1,h⟩:=opn_eq h
  obtain⟨r,h2,h⟩:=opn_eq h
  cases h
  simp only[VRs] at hv
  obtain⟨x,xs,g1,g2,rfl⟩:=hv
  obtain⟨rfl,e1⟩:=asI64_ok h1 g1
  obtain⟨rfl,e2⟩:=ints_ok h2 g2
  exact⟨rfl,fun x hx=>(List.mem_cons.1 hx).elim (fun e=>e ▸ e1) (e2 x)⟩
theorem readNds_ok (h:MS Y D m I M) (hJ:Frz I M J):∀ (l:List EV) {vs:List Value} {cs:List NdC},readNds Y.G m.t l=some cs→VRs D l vs→∃ ns:List Nd,vs=ns.flatMap Nd.cells∧NdsR cs ns∧∀ d∈ns,d.ok J
 | [],vs,cs,hr,hv=>by
  cases hr
  simp only[VRs] at hv
  exact⟨[],hv,.nil,by simp⟩
 | a::b::c::d::e::f::g::i::x::l,vs,cs,hr,hv=>by
  unfold readNds at hr
  obtain⟨a',h1,hr⟩:=opn_eq hr
  obtain⟨b',h2,hr⟩:=opn_eq hr
  obtain⟨c',h3,hr⟩:=opn_eq hr
  obtain⟨d',h4,hr⟩:=opn_eq hr
  obtain⟨e',h5,hr⟩:=opn_eq hr
  obtain⟨f',h6,hr⟩:=opn_eq hr
  obtain⟨g',h7,hr⟩:=opn_eq hr
  obtain⟨i',h8,hr⟩:=opn_eq hr
  obtain⟨ks,h9,hr⟩:=opn_eq hr
  obtain⟨ns',h10,hr⟩:=opn_eq hr
  cases hr
  simp only[VRs] at hv
  obtain⟨_,_,k1,⟨_,_,k2,⟨_,_,k3,⟨_,_,k4,⟨_,_,k5,⟨_,_,k6,⟨_,_,k7,⟨_,_,k8,⟨_,_,k9,k10,rfl⟩,rfl⟩,rfl⟩,rfl⟩,rfl⟩,rfl⟩,rfl⟩,rfl⟩,rfl⟩:=hv
  obtain⟨rfl,e1⟩:=asU8_ok h1 k1
  obtain⟨rfl,e2⟩:=asU64_ok h2 k2
  obtain⟨rfl,e3⟩:=asU64_ok h3 k3
  obtain⟨rfl,e4⟩:=asU64_ok h4 k4
  obtain⟨rfl,e5⟩:=asU64_ok h5 k5
  obtain⟨rfl,e6⟩:=asS_ok h6 k6
  obtain⟨rfl,e7⟩:=asI64_ok h7 k7
  obtain⟨rfl,e8⟩:=asI64_ok h8 k8
  obtain⟨ka,kn,kc,li,vi,rfl,e9,e10,e11⟩:=readS_ok h hJ k9 h9
  obtain⟨rfl,e12⟩:=ints_ok e11 e10
  obtain⟨ns,rfl,e13,e14⟩:=readNds_ok h hJ l h10 k10
  refine⟨NdC.nd ⟨a',b',c',d',e',f',g',i',ks⟩ ka kn kc::ns,rfl,.cons ka kn kc e13,fun y hy=>?_⟩
  rcases List.mem_cons.1 hy with rfl | hy
  ·exact⟨e1,e2,e3,e4,e5,Nat.le_trans e6 (by decide),e7,e8,e9,e12⟩
  ·exact e14 y hy
theorem readTr_ok (h:MS Y D m I M) (hJ:Frz I M J) {x r:EV} {u w:Value} {c:TrC} (hr:readTr Y.G m.t x r=some c) (hx:VR D x u) (hw:VR D r w):∃ t:Tr,u=.slice t.a t.n t.c∧w=.int .i64 t.root∧t.ok J∧TrR c t:=by
 unfold readTr at hr
 obtain⟨ns,h1,hr⟩:=opn_eq hr
 obtain⟨k,h2,hr⟩:=opn_eq hr
 cases hr
 obtain⟨rfl,e1⟩:=asI64_ok h2 hw
 obtain⟨a,n,c,l,vs,rfl,e2,e3,e4⟩:=readS_ok h hJ hx h1
 obtain⟨ds,rfl,e5,e6⟩:=readNds_ok h hJ l e4 e3
 exact⟨⟨ds,a,n,c,k⟩,rfl,rfl,⟨e2,e6,e1⟩,⟨e5,rfl⟩⟩
theorem readDfs_ok (h:MS Y D m I M) (hJ:Frz I M J):∀ (l:List EV) {vs:List Value} {cs:List DfC},readDfs Y.G m.t l=some cs→VRs D l vs→∃ ds:List Df,vs=ds.flatMap Df.cells∧DfsR cs ds∧∀ d∈ds,d.ok J
 | [],vs,cs,hr,hv=>by
  cases hr
  simp only[VRs] at hv
  exact⟨[],hv,.nil,by simp⟩
 | a::x::r::l,vs,cs,hr,hv=>by
  unfold readDfs at hr
  obtain⟨a',h1,hr⟩:=opn_eq hr
  obtain⟨t',h2,hr⟩:=opn_eq hr
  obtain⟨ds',h3,hr⟩:=opn_eq hr
  cases hr
  simp only[VRs] at hv
  obtain⟨_,_,k1,⟨_,_,k2,⟨_,_,k3,k4,rfl⟩,rfl⟩,rfl⟩:=hv
  obtain⟨rfl,e1⟩:=asS_ok h1 k1
  obtain⟨t,rfl,rfl,e2,e3⟩:=readTr_ok h hJ h2 k2 k3
  obtain⟨ds,rfl,e4,e5⟩:=readDfs_ok h hJ l h3 k4
  refine⟨⟨⟨a'.toArray⟩,t⟩::ds,rfl,.cons (c:=⟨a',t'⟩) e3 e4,fun y hy=>?_⟩
  rcases List.mem_cons.1 hy with rfl | hy
  ·exact⟨e1,e2⟩
  ·exact e5 y hy
theorem readGr_ok (h:MS Y D m I M) (hJ:Frz I M J) {x:EV} {u:Value} {cs:List DfC} (hr:readGr Y.G m.t x=some cs) (hx:VR D x u):∃ g:Gr,u=g.val∧g.ok J∧DfsR cs g.ds:=by
 unfold readGr at hr
 split at hr
 ·simp only[VR,VRs] at hx
  obtain⟨_,⟨y,_,hx,rfl,rfl⟩,rfl⟩:=hx
  obtain⟨a,n,c,l,vs,rfl,e2,e3,e4⟩:=readS_ok h hJ hx hr
  obtain⟨ds,rfl,e5,e6⟩:=readDfs_ok h hJ l e4 e3
  exact⟨⟨ds,a,n,c⟩,rfl,⟨e2,e6⟩,e5⟩
 ·cases hr
end
noncomputable def grOf (f g:Nat) (text:List UInt8):Option (List DfC×Int×IntKind×Int):=opn (callF YK (E_code YK f) g [.s text] ⟨.nil,0⟩) none fun p=>match p.1 with
 | .t [x,.i .i64 a,.i k e]=>opn (readGr GTs p.2.t x) none fun c=>some (c,a,k,e)
 | _=>none
theorem grOf_spec {I:GH} (hT:Tabs I debL) {f g:Nat} {text:List UInt8} {c:List DfC} {a:Int} {k:IntKind} {e:Int} (h:grOf f g text=some (c,a,k,e)) :
  Spec Tryz.prog g [.string ⟨text.toArray⟩] I [] fun r J M''=>M''=[]∧(∀ b o,I b=some o→J b=some o)∧∃ G:Gr,r=.tuple #[G.val,.int .i64 a,.int k e]∧G.ok J∧DfsR c G.ds:=by
 unfold grOf at h
 obtain⟨⟨v,m'⟩,h1,h⟩:=opn_eq h
 refine Spec.weakK (reckonX hT h1 (us:=[.string ⟨text.toArray⟩]) (by simp[VRs,VR])) ?_
 rintro r J M'' ⟨rfl,hle,I',M',D',hv,hm,hJ⟩
 refine⟨rfl,hle,?_⟩
 simp only at h
 split at h
 ·obtain⟨c',h2,h⟩:=opn_eq h
  cases h
  simp only[VR,VRs] at hv
  obtain⟨_,⟨u,_,hu,⟨_,_,rfl,⟨_,_,rfl,rfl,rfl⟩,rfl⟩,rfl⟩,rfl⟩:=hv
  obtain⟨G,rfl,g1,g2⟩:=readGr_ok hm hJ h2 hu
  exact⟨G,rfl,g1,g2⟩
 ·cases h
def NdC.pl (c:NdC):Nd:=c.nd none 0 0
def TrC.tr (c:TrC):Tr:=⟨c.ns.map NdC.pl,none,c.ns.length,0,c.root⟩
def DfC.df (c:DfC):Df:=⟨⟨c.name.toArray⟩,c.t.tr⟩
def grC (cs:List DfC):Gr:=⟨cs.map DfC.df,none,cs.length,0⟩
theorem NdsR.ct {cs:List NdC} {ns:List Nd} (h:NdsR cs ns):ns.map Nd.ct=cs.map NdC.pl:=by
 induction h with
 | nil=>rfl
 | cons a n k t ih=>rw[List.map_cons,List.map_cons,ih];rfl
theorem NdsR.len {cs:List NdC} {ns:List Nd} (h:NdsR cs ns):ns.length=cs.length:=by
 induction h with
 | nil=>rfl
 | cons a n k t ih=>simp[ih]
theorem TrR.ct {I:GH} {c:TrC} {t:Tr} (h:TrR c t) (ht:t.ok I):t.ct=c.tr:=by
 unfold Tr.ct TrC.tr
 rw[h.ns.ct,h.root,←ht.n,h.ns.len]
theorem DfsR.ct {I:GH} {cs:List DfC} {ds:List Df} (h:DfsR cs ds) (hd:∀ d∈ds,d.ok I):ds.map Df.ct=cs.map DfC.df:=by
 induction h with
 | nil=>rfl
 | cons h k ih=>
  rw[List.map_cons,List.map_cons,ih fun d hd'=>hd d (.tail _ hd')]
  congr 1
  unfold Df.ct DfC.df
  rw[h.ct (hd _ (.head _)).t]
theorem DfsR.len {cs:List DfC} {ds:List Df} (h:DfsR cs ds):ds.length=cs.length:=by
 induction h with
 | nil=>rfl
 | cons h k ih=>simp[ih]
theorem gr_ct {I:GH} {cs:List DfC} {g:Gr} (h:DfsR cs g.ds) (hg:g.ok I):g.ct=grC cs:=by
 unfold Gr.ct grC
 rw[h.ct hg.ds,←hg.n,h.len]
def kbC (c:TrC):Bool:=c.ns.all fun n=>decide (n.kids.length≤1000)
theorem kb_of {I:GH} {c:TrC} {t:Tr} (h:TrR c t) (ht:t.ok I) (hk:kbC c=true):KB t:=fun n hn=>by
 have h1:=(ht.ns n hn).kn
 have h2:n.ct∈c.ns.map NdC.pl:=by
  rw[←h.ns.ct]
  exact List.mem_map.2 ⟨n,hn,rfl⟩
 obtain⟨x,hx,e⟩:=List.mem_map.1 h2
 have h3:=of_decide_eq_true (List.all_eq_true.1 hk x hx)
 have h4:x.kids=n.kids:=congrArg Nd.kids e
 rw[h4] at h3
 omega
theorem kbs_of {I:GH} {cs:List DfC} {ds:List Df} (h:DfsR cs ds) (hd:∀ d∈ds,d.ok I) (hk:(cs.all fun d=>d.t.ns.all fun n=>decide (n.kids.length≤1000))=true):∀ d∈ds,KB d.t:=by
 induction h with
 | nil=>intro d hd;cases hd
 | cons h k ih=>
  simp only[List.all_cons,Bool.and_eq_true] at hk
  intro d hm
  rcases List.mem_cons.1 hm with rfl | hm
  ·exact kb_of h (hd _ (.head _)).t hk.1
  ·exact ih (fun d hd'=>hd d (.tail _ hd')) (by simpa using hk.2) d hm
theorem rawL_ct (ds:List Df) (F:List Fl) (i:Nat):rawL (ds.map Df.ct) F i=rawL ds F i:=by
 unfold rawL
 rw[List.getElem?_map,placesL_ct]
 cases ds[i]? with
 | none=>rfl
 | some d=>
  show (leftAt (placesL ds) F (d.t.ns.map Nd.ct) d.t.root).2=_
  rw[left_ct]
theorem endL_ct (ds:List Df) (F:List Fl) (i:Nat):endL (ds.map Df.ct) F i=endL ds F i:=by
 unfold endL
 rw[List.getElem?_map,placesL_ct]
 cases ds[i]? with
 | none=>rfl
 | some d=>
  show (endAt (placesL ds) F (d.t.ns.map Nd.ct) d.t.root).2=_
  rw[end_ct]
theorem refLefts_ct (ds:List Df) (F:List Fl):refLefts (ds.map Df.ct) F=refLefts ds F:=by
 funext i
 unfold refLefts
 rw[List.length_map,rawL_ct]
theorem refLoops_ct (ds:List Df) (F:List Fl):refLoops (ds.map Df.ct) F=refLoops ds F:=by
 unfold refLoops
 rw[List.length_map]
 exact List.filter_congr fun i _=>endL_ct ds F i
theorem leftC_ct (ds:List Df) (F:List Fl):leftC (ds.map Df.ct) F=leftC ds F:=by
 unfold leftC
 rw[List.length_map,refLefts_ct]
theorem isFlow_of_ct {ds:List Df} {l:List Fl} (h:IsFlow (ds.map Df.ct) l):IsFlow ds l:=by
 refine⟨by rw[h.len,List.length_map],fun i hi=>?_,fun m hm hc=>?_⟩
 ·have:=h.fix i (by simpa using hi)
  rwa [placesL_ct,List.getElem_map,bodyF_ct] at this
 ·refine h.least m (by rw[hm,List.length_map]) fun i hi=>?_
  rw[placesL_ct,List.getElem_map,bodyF_ct]
  exact hc i (by simpa using hi)
def whereC (ds:List Df) (F:List Fl):Int×Int:=bif decide (0 < (leftC ds F).length) then ((((leftC ds F).headD 0:Nat):Int),42) else bif decide (0 < (refLoops ds F).length) then ((((refLoops ds F).headD 0:Nat):Int),43) else (0,0)
structure Known13 (cs:List DfC) (F:List Fl):Prop where
 may:mayG debL (grC cs)=0
 flow:IsFlow (grC cs).ds F
 kb:(cs.all fun d=>d.t.ns.all fun n=>decide (n.kids.length≤1000))=true
theorem Known13.of {I:GH} {cs:List DfC} {F:List Fl} (hK:Known13 cs F) {g:Gr} (hg:g.ok I) (hR:DfsR cs g.ds):mayG debL g=0∧IsFlow g.ds F∧(∀ d∈g.ds,KB d.t):=by
 have hct:=gr_ct hR hg
 have hds:g.ds.map Df.ct=(grC cs).ds:=congrArg Gr.ds hct
 have hm:mayG debL g=0:=by rw[←mayG_ct,hct];exact hK.may
 refine⟨hm,?_,kbs_of hR hg.ds hK.kb⟩
 have:=hK.flow
 rw[←hds] at this
 exact isFlow_of_ct this
theorem known_where {I:GH} {cs:List DfC} {F:List Fl} (hK:Known13 cs F) {g:Gr} (hg:g.ok I) (hR:DfsR cs g.ds) {r:Int×Int} (h:IsWhere debL g r):r=whereC (grC cs).ds F:=by
 obtain⟨hm,hF,-⟩:=hK.of hg hR
 have hds:g.ds.map Df.ct=(grC cs).ds:=congrArg Gr.ds (gr_ct hR hg)
 have hM:=mayF_of hg.n hm
 rcases h with ⟨a,-⟩ | ⟨-,F',hF',rfl⟩
 ·exact absurd hm a
 ·obtain rfl:=hF.unique hF'
  rw[←hds,whereC,leftC_ct,refLoops_ct,leftC_eq hM]
  by_cases h1:0 < (refLeft g.ds F).length
  ·rw[if_pos h1,decide_eq_true h1,cond_true]
  ·rw[if_neg h1,decide_eq_false h1,cond_false]
   by_cases h2:0 < (refLoops g.ds F).length
   ·rw[if_pos h2,decide_eq_true h2,cond_true]
   ·rw[if_neg h2,decide_eq_false h2,cond_false]
def itF (ds:List Df):Nat→List Fl→List Fl
 | 0,L=>L
 | k+1,L=>itF ds k (ds.map (bodyF (placesL ds) L))
theorem itF_ok {ds:List Df}:∀ (k:Nat) {L:List Fl},PreF ds L→ds.map (bodyF (placesL ds) (itF ds k L))=itF ds k L→IsFlow ds (itF ds k L)
 | 0,L,hp,h=>by
  refine⟨hp.len,fun i hi=>?_,hp.least⟩
  have:=map_getD (f:=bodyF (placesL ds) L) hi
  have h1:ds.map (bodyF (placesL ds) L)=L:=h
  rw[h1] at this
  exact this
 | k+1,L,hp,h=>itF_ok k hp.all.1 h
def flC (cs:List DfC) (k:Nat):List Fl:=itF (grC cs).ds k (List.replicate (grC cs).ds.length fl0)
def chk13 (cs:List DfC) (F:List Fl) (k:Nat):Bool:=decide (mayG debL (grC cs)=0) && (decide (flC cs k=F) && (decide ((grC cs).ds.map (bodyF (placesL (grC cs).ds) F)=F) && cs.all fun d=>d.t.ns.all fun n=>decide (n.kids.length≤1000)))
theorem known13_of {cs:List DfC} {F:List Fl} {k:Nat} (h:chk13 cs F k=true):Known13 cs F:=by
 simp only[chk13,Bool.and_eq_true,decide_eq_true_eq] at h
 obtain⟨h1,h2,h3,h4⟩:=h
 refine⟨h1,?_,by simpa using h4⟩
 have:=itF_ok k (PreF.start (grC cs).ds)
 unfold flC at h2
 rw[h2] at this
 exact this h3
def WhOk (c:List UInt8×Int×Int):Prop:=∀ {I:GH} (hT:Tabs I debL),Spec Tryz.prog 30 [.string ⟨c.1.toArray⟩,.int .i64 c.2.1,.int .i64 c.2.2] I [] fun v J M''=>v=.bool true∧(∀ b o,I b=some o→J b=some o)∧M''=[]
set_option maxHeartbeats 4000000 in
theorem whOk {fu:Nat} {s:List UInt8} {cs:List DfC} {a1:Int} (hgr:grOf fu 32 s=some (cs,a1,.i64,0)) {F:List Fl} {k:Nat} (hc:chk13 cs F k=true) {r1 r2:Int} (hr:whereC (grC cs).ds F=(r1,r2)):WhOk (s,r1,r2):=by
 intro I hT
 have hK:=known13_of hc
 refine spec_of_V [] TryzEOK Tryz.func30 rfl rfl rfl ?_
 intro B h0
 refine CallOb.mk [] [] _ (.refl _) (grOf_spec hT hgr) ?_
 rintro v J1 N - ⟨rfl,hJ1,g,rfl,hg,hR⟩
 have hT1:=hT.mono hJ1
 obtain⟨hm,hF,hkb⟩:=hK.of hg hR
 refine CallOb.whole _ (WWhere_own hT1 hg hkb) ?_
 rintro v J2 N - ⟨hJ2,hN,r,rfl,hw⟩
 obtain rfl:r=(r1,r2):=(known_where hK hg hR hw).trans hr
 refine GuardOb.mk (fun _=>?_) (fun h=>absurd h (by simp))
 refine GuardOb.mk (fun _=>?_) (fun h=>absurd h (by simp))
 refine GuardOb.mk (fun _=>?_) (fun h=>absurd h (by simp))
 refine CallOb.whole _ (WCheck_own (hT1.mono hJ2) (hg.mono hJ2) hkb) ?_
 rintro v J3 N3 - ⟨hJ3,hN3,r',rfl,hw'⟩
 obtain rfl:r'=(r1,r2):=(known_where hK (hg.mono hJ2) hR hw').trans hr
 exact⟨_,_,.refl,by simp,fun b o h=>hJ3 _ _ (hJ2 _ _ (hJ1 _ _ h)),by rw[hN3,hN];rfl⟩
def wc13_0:List DfC:=[⟨[97],⟨[⟨3,0,0,0,0,[97],0,0,[]⟩,⟨2,0,0,0,0,[120],0,0,[]⟩,⟨4,0,0,0,0,[],0,0,[0,1]⟩,⟨2,0,0,0,0,[121],0,0,[]⟩,⟨5,0,0,0,0,[],0,0,[2,3]⟩],4⟩⟩]
theorem wg13_0:grOf 100000 32 [97,32,60,45,32,97,32,34,120,34,32,47,32,34,121,34]=some (wc13_0,0,.i64,0):=by kernel_rfl
theorem wh13_0:WhOk ([97,32,60,45,32,97,32,34,120,34,32,47,32,34,121,34],0,42):=whOk wg13_0 (F:=flC wc13_0 4) (k:=4) (by kernel_rfl) (by kernel_rfl)
def wc13_1:List DfC:=[⟨[97],⟨[⟨3,0,0,0,0,[98],0,0,[]⟩],0⟩⟩,⟨[98],⟨[⟨2,0,0,0,0,[120],0,0,[]⟩,⟨6,0,0,0,0,[],0,1,[0]⟩,⟨3,0,0,0,0,[97],0,0,[]⟩,⟨4,0,0,0,0,[],0,0,[1,2]⟩],3⟩⟩]
theorem wg13_1:grOf 100000 32 [97,32,60,45,32,98,32,98,32,60,45,32,34,120,34,63,32,97]=some (wc13_1,0,.i64,0):=by kernel_rfl
theorem wh13_1:WhOk ([97,32,60,45,32,98,32,98,32,60,45,32,34,120,34,63,32,97],0,42):=whOk wg13_1 (F:=flC wc13_1 4) (k:=4) (by kernel_rfl) (by kernel_rfl)
def wc13_2:List DfC:=[⟨[97],⟨[⟨3,0,0,0,0,[98],0,0,[]⟩],0⟩⟩,⟨[98],⟨[⟨2,0,0,0,0,[120],0,0,[]⟩,⟨3,0,0,0,0,[97],0,0,[]⟩,⟨4,0,0,0,0,[],0,0,[0,1]⟩],2⟩⟩]
theorem wg13_2:grOf 100000 32 [97,32,60,45,32,98,32,98,32,60,45,32,34,120,34,32,97]=some (wc13_2,0,.i64,0):=by kernel_rfl
theorem wh13_2:WhOk ([97,32,60,45,32,98,32,98,32,60,45,32,34,120,34,32,97],0,0):=whOk wg13_2 (F:=flC wc13_2 4) (k:=4) (by kernel_rfl) (by kernel_rfl)
def wc13_3:List DfC:=[⟨[97],⟨[⟨2,0,0,0,0,[120],0,0,[]⟩,⟨6,0,0,0,0,[],0,1,[0]⟩,⟨6,0,0,0,0,[],0,(-1),[1]⟩],2⟩⟩]
theorem wg13_3:grOf 100000 32 [97,32,60,45,32,40,34,120,34,63,41,42]=some (wc13_3,0,.i64,0):=by kernel_rfl
theorem wh13_3:WhOk ([97,32,60,45,32,40,34,120,34,63,41,42],0,43):=whOk wg13_3 (F:=flC wc13_3 4) (k:=4) (by kernel_rfl) (by kernel_rfl)
def wc13_4:List DfC:=[⟨[97],⟨[⟨2,0,0,0,0,[120],0,0,[]⟩,⟨6,0,0,0,0,[],0,1,[0]⟩,⟨6,0,0,0,0,[],0,9,[1]⟩],2⟩⟩]
theorem wg13_4:grOf 100000 32 [97,32,60,45,32,40,34,120,34,63,41,123,48,44,57,125]=some (wc13_4,0,.i64,0):=by kernel_rfl
theorem wh13_4:WhOk ([97,32,60,45,32,40,34,120,34,63,41,123,48,44,57,125],0,0):=whOk wg13_4 (F:=flC wc13_4 4) (k:=4) (by kernel_rfl) (by kernel_rfl)
def wc13_5:List DfC:=[⟨[97],⟨[⟨3,0,0,0,0,[97],0,0,[]⟩,⟨8,0,0,0,0,[],0,0,[0]⟩,⟨2,0,0,0,0,[120],0,0,[]⟩,⟨4,0,0,0,0,[],0,0,[1,2]⟩],3⟩⟩]
theorem wg13_5:grOf 100000 32 [97,32,60,45,32,33,97,32,34,120,34]=some (wc13_5,0,.i64,0):=by kernel_rfl
theorem wh13_5:WhOk ([97,32,60,45,32,33,97,32,34,120,34],0,42):=whOk wg13_5 (F:=flC wc13_5 4) (k:=4) (by kernel_rfl) (by kernel_rfl)
def wc13_6:List DfC:=[⟨[97],⟨[⟨2,0,0,0,0,[120],0,0,[]⟩,⟨3,0,0,0,0,[97],0,0,[]⟩,⟨4,0,0,0,0,[],0,0,[0,1]⟩,⟨0,0,0,0,0,[],0,0,[]⟩,⟨5,0,0,0,0,[],0,0,[2,3]⟩],4⟩⟩]
theorem wg13_6:grOf 100000 32 [97,32,60,45,32,34,120,34,32,97,32,47,32,34,34]=some (wc13_6,0,.i64,0):=by kernel_rfl
theorem wh13_6:WhOk ([97,32,60,45,32,34,120,34,32,97,32,47,32,34,34],0,0):=whOk wg13_6 (F:=flC wc13_6 4) (k:=4) (by kernel_rfl) (by kernel_rfl)
theorem awake13_spec {I:GH} (hT:Tabs I debL):Spec Tryz.prog 16 [] I [] fun v J M''=>v=.bool true∧(∀ b o,I b=some o→J b=some o)∧M''=[]:=by
 refine spec_of_V [] TryzEOK Tryz.func16 rfl rfl rfl ?_
 intro B h0
 refine CallOb.mk [] [] _ (.refl _) (wh13_0 hT) ?_
 rintro v I1 M1 - ⟨rfl,hI1,rfl⟩
 have hT1:=hT.mono hI1
 refine GuardOb.mk (fun _=>?_) (fun h=>by cases h)
 refine CallOb.mk [] [] _ (.refl _) (wh13_1 hT1) ?_
 rintro v I2 M2 - ⟨rfl,hI2,rfl⟩
 have hT2:=hT1.mono hI2
 refine GuardOb.mk (fun _=>?_) (fun h=>by cases h)
 refine CallOb.mk [] [] _ (.refl _) (wh13_2 hT2) ?_
 rintro v I3 M3 - ⟨rfl,hI3,rfl⟩
 have hT3:=hT2.mono hI3
 refine GuardOb.mk (fun _=>?_) (fun h=>by cases h)
 refine CallOb.mk [] [] _ (.refl _) (wh13_3 hT3) ?_
 rintro v I4 M4 - ⟨rfl,hI4,rfl⟩
 have hT4:=hT3.mono hI4
 refine GuardOb.mk (fun _=>?_) (fun h=>by cases h)
 refine CallOb.mk [] [] _ (.refl _) (wh13_4 hT4) ?_
 rintro v I5 M5 - ⟨rfl,hI5,rfl⟩
 have hT5:=hT4.mono hI5
 refine GuardOb.mk (fun _=>?_) (fun h=>by cases h)
 refine CallOb.mk [] [] _ (.refl _) (wh13_5 hT5) ?_
 rintro v I6 M6 - ⟨rfl,hI6,rfl⟩
 have hT6:=hT5.mono hI6
 refine GuardOb.mk (fun _=>?_) (fun h=>by cases h)
 refine CallOb.mk [] [] _ (.refl _) (wh13_6 hT6) ?_
 rintro v I7 M7 - ⟨rfl,hI7,rfl⟩
 have hT7:=hT6.mono hI7
 exact⟨_,_,.refl,rfl,fun b o h=>hI7 _ _ (hI6 _ _ (hI5 _ _ (hI4 _ _ (hI3 _ _ (hI2 _ _ (hI1 _ _ h)))))),rfl⟩
theorem filter_first {p:Nat→Bool} {k:Nat}:∀ {l:List Nat},l.Pairwise (· < ·)→k∈l→p k=true→(∀ j∈l,j < k→p j=false)→l.filter p=k::l.filter fun j=>p j && !decide (j=k)
 | x::xs,hs,hk,hp,hb=>by
  obtain⟨h1,h2⟩:=List.pairwise_cons.1 hs
  rcases List.mem_cons.1 hk with rfl | hk
  ·have e:(k::xs).filter (fun j=>p j && !decide (j=k))=xs.filter p:=by
    rw[List.filter_cons]
    simp
    apply List.filter_congr
    intro j hj
    have:=h1 j hj
    have:¬ j=k:=by omega
    simp[this]
   rw[e,List.filter_cons,hp]
   rfl
  ·have hx:=h1 k hk
   have hpx:=hb x (by simp) hx
   rw[List.filter_cons,hpx,List.filter_cons,hpx]
   simp only[Bool.false_and,Bool.false_eq_true,if_false]
   exact filter_first h2 hk hp fun j hj hjk=>hb j (by simp[hj]) hjk
theorem low_bits {n:Nat} (h0:n≠0) (h:n < 2 ^ 64):∃ k,k < 64∧n &&& (2 ^ 64 - n)=2 ^ k∧n.testBit k=true∧(∀ j,j < k→n.testBit j=false)∧∀ j,(n &&& (n - 1)).testBit j=(n.testBit j && !decide (j=k)):=by
 obtain⟨m,hm,hk⟩:=Lib.ctzFrom_spec 64 n (by omega) h
 generalize Lib.ctzFrom 64 n=k at hm hk
 have e1:n=2 ^ (k+1) * m+2 ^ k:=by
  rw[hm,Nat.pow_succ,Nat.mul_add,Nat.mul_one,Nat.mul_assoc]
 have hp:=Nat.two_pow_pos k
 have e2:n - 1=2 ^ (k+1) * m+(2 ^ k - 1):=by omega
 have hb1:2 ^ k < 2 ^ (k+1):=by rw[Nat.pow_succ];omega
 have t1:∀ j,n.testBit j=if j < k+1 then decide (k=j) else m.testBit (j - (k+1)):=fun j=>by
  rw[e1,Nat.testBit_two_pow_mul_add _ hb1,Nat.testBit_two_pow]
 have t2:∀ j,(n - 1).testBit j=if j < k+1 then decide (j < k) else m.testBit (j - (k+1)):=fun j=>by
  rw[e2,Nat.testBit_two_pow_mul_add _ (by omega),Nat.testBit_two_pow_sub_one]
 refine⟨k,hk,?_,?_,fun j hj=>?_,fun j=>?_⟩
 ·have:=Lib.and_neg 64 k m (by rw[←hm];exact h)
  rwa [←hm] at this
 ·rw[t1];simp
 ·rw[t1,if_pos (by omega)]
  simp
  omega
 ·rw[Nat.testBit_and,t1,t2]
  by_cases hj:j < k+1
  ·rw[if_pos hj,if_pos hj]
   by_cases hjk:j=k
   ·subst hjk;simp
   ·have:¬ k=j:=fun e=>hjk e.symm
    simp[this]
  ·rw[if_neg hj,if_neg hj]
   have:¬ j=k:=by omega
   simp[this]
theorem debL_at:∀ k:Fin 64,debL.getD (2 ^ k.val * 285870213051353865 % 18446744073709551616 / 288230376151711744) 0=(k.val:Int):=by decide +kernel
theorem tz_low {n k:Nat} (h0:n≠0) (h:n < 2 ^ 64) (hk:k < 64) (hl:n &&& (2 ^ 64 - n)=2 ^ k):tz64 debL (n:Int)=k:=by
 have e0:decide ((n:Int)=0)=false:=decide_eq_false (by omega)
 have hw:IntKind.u64.wrap (0 - (n:Int))=((2 ^ 64 - n:Nat):Int):=by
  simp[IntKind.wrap,IntKind.signed,IntKind.bits]
  omega
 have ha:andV (n:Int) ((2 ^ 64 - n:Nat):Int)=((2 ^ k:Nat):Int):=by
  rw[andV_nat ⟨by omega,by omega⟩ ⟨by omega,by omega⟩,Int.toNat_natCast,Int.toNat_natCast,hl]
 have ht:(tzA (n:Int)).toNat=2 ^ k * 285870213051353865 % 18446744073709551616:=by
  unfold tzA
  rw[hw,ha]
  have:((2 ^ k:Nat):Int) * 285870213051353865=((2 ^ k * 285870213051353865:Nat):Int):=by simp
  rw[this]
  generalize 2 ^ k * 285870213051353865=q
  simp[IntKind.wrap,IntKind.signed,IntKind.bits]
  omega
 unfold tz64
 rw[e0,cond_false,ht]
 exact debL_at ⟨k,hk⟩
theorem nxt_nat {n:Nat} (h0:n≠0) (h:n < 2 ^ 64):nxtV (n:Int)=((n &&& (n - 1):Nat):Int):=by
 have hs:u64ok ((n:Int) - 1):=⟨by omega,by omega⟩
 unfold nxtV
 rw[wrap_u64_id hs,andV_nat ⟨by omega,by omega⟩ hs]
 congr 2
 omega
theorem bits_eq (i:Nat) (hi:i < 4):∀ (f n:Nat),n < 2 ^ 64→((List.range 64).filter n.testBit).length≤f→bitsL debL i f (n:Int)=((List.range 64).filter n.testBit).map fun j=>UInt8.ofNat (i * 64+j)
 | 0,n,h,hf=>by
  rw[List.eq_nil_of_length_eq_zero (Nat.le_zero.1 hf)]
  rfl
 | f+1,n,h,hf=>by
  unfold bitsL
  by_cases h0:n=0
  ·subst h0
   simp
  ·have e0:decide ((n:Int)=0)=false:=decide_eq_false (by omega)
   obtain⟨k,hk,hl,hb,hlt,hnx⟩:=low_bits h0 h
   have hff:(List.range 64).filter n.testBit=k::(List.range 64).filter (n &&& (n - 1)).testBit:=by
    rw[filter_first List.pairwise_lt_range (List.mem_range.2 hk) hb fun j _ hj=>hlt j hj]
    congr 1
    apply List.filter_congr
    intro j _
    rw[hnx]
   rw[hff] at hf ⊢
   have hle:n &&& (n - 1)≤n - 1:=Nat.and_le_right
   rw[e0,cond_false,nxt_nat h0 h,bits_eq i hi f _ (by omega) (by simp at hf;omega),List.map_cons]
   congr 1
   unfold byteOf
   rw[tz_low h0 h hk hl]
   have:IntKind.u8.wrap ((i:Int) * 64+(k:Int))=((i * 64+k:Nat):Int):=by
    simp[IntKind.wrap,IntKind.signed,IntKind.bits]
    omega
   rw[this,Int.toNat_natCast]
theorem each_eq {a b c d:Int} (hws:∀ x∈[a,b,c,d],u64ok x):eachFrom debL 0 [a,b,c,d]=((List.range 256).filter (hasR [a,b,c,d])).map UInt8.ofNat:=by
 have nat:∀ x∈[a,b,c,d],∃ n:Nat,x=n∧n < 2 ^ 64:=fun x hx=>by
  have:=hws x hx
  obtain⟨n,rfl⟩:=Int.eq_ofNat_of_zero_le this.1
  exact⟨n,rfl,by have:=this.2;omega⟩
 obtain⟨a,rfl,ha⟩:=nat a (by simp)
 obtain⟨b,rfl,hb⟩:=nat b (by simp)
 obtain⟨c,rfl,hc⟩:=nat c (by simp)
 obtain⟨d,rfl,hd⟩:=nat d (by simp)
 have len:∀ n:Nat,((List.range 64).filter n.testBit).length≤64:=fun n=>by
  have:=List.length_filter_le n.testBit (List.range 64)
  simpa using this
 unfold eachFrom eachFrom eachFrom eachFrom eachFrom
 rw[bits_eq 0 (by decide) 64 a ha (len _),bits_eq (0+1) (by decide) 64 b hb (len _),bits_eq (0+1+1) (by decide) 64 c hc (len _),bits_eq (0+1+1+1) (by decide) 64 d hd (len _)]
 have hr:List.range 256=(List.range 64).map (0 * 64+·)++((List.range 64).map (1 * 64+·)++((List.range 64).map (2 * 64+·)++(List.range 64).map (3 * 64+·))):=by decide +kernel
 have part:∀ (i:Nat) (n:Nat),i < 4→([(a:Int),b,c,d].getD i 0)=n→(((List.range 64).map (i * 64+·)).filter (hasR [(a:Int),b,c,d]))=((List.range 64).filter n.testBit).map (i * 64+·):=fun i n hi hn=>by
  rw[List.filter_map]
  congr 1
  apply List.filter_congr
  intro j hj
  have hj:=List.mem_range.1 hj
  simp only[Function.comp,hasR]
  rw[show (i * 64+j) / 64=i by omega,show (i * 64+j) % 64=j by omega,hn,Int.toNat_natCast]
 rw[hr]
 simp only[List.filter_append,List.map_append]
 rw[part 0 a (by decide) rfl,part 1 b (by decide) rfl,part 2 c (by decide) rfl,part 3 d (by decide) rfl]
 simp only[List.map_map,List.append_nil]
 rfl
def bytesTo (p:Nat→Bool) (n:Nat):List UInt8:=((List.range n).filter p).map UInt8.ofNat
theorem bytesTo_succ (p:Nat→Bool) (n:Nat):bytesTo p (n+1)=bytesTo p n++(bif p n then [UInt8.ofNat n] else []):=by
 unfold bytesTo
 rw[List.range_succ,List.filter_append,List.map_append]
 cases h:p n<;>simp[h]
theorem runStep_last (l:List (UInt8×UInt8)) (b:UInt8):((runStep l b).getLast?).map (·.2)=some b:=by
 unfold runStep
 split
 ·rename_i p h
  cases decide ((p.2.toNat:Int)+1=b.toNat)<;>simp
 ·rfl
theorem runsOf_last (l:List UInt8):((runsOf l).getLast?).map (·.2)=l.getLast?:=by
 rcases List.eq_nil_or_concat l with h | ⟨m,b,h⟩
 ·subst h;rfl
 ·rw[h,List.concat_eq_append,runsOf_snoc,runStep_last]
  simp
theorem bytesTo_last (p:Nat→Bool):∀ (n:Nat),n≤256→∀ x,(bytesTo p n).getLast?=some x→∃ j,j < n∧p j=true∧x.toNat=j
 | 0,_,x,h=>by simp[bytesTo] at h
 | n+1,hn,x,h=>by
  rw[bytesTo_succ] at h
  cases hp:p n with
  | true=>
   rw[hp,cond_true] at h
   simp at h
   exact⟨n,by omega,hp,by rw[←h];exact u8nat (by omega)⟩
  | false=>
   rw[hp,cond_false,List.append_nil] at h
   obtain⟨j,h1,h2,h3⟩:=bytesTo_last p n (by omega) x h
   exact⟨j,by omega,h2,h3⟩
theorem run_start (p:Nat→Bool) {n:Nat} (hn:n < 256) (hp:n=0∨p (n - 1)=false):runStep (runsOf (bytesTo p n)) (UInt8.ofNat n)=runsOf (bytesTo p n)++[(UInt8.ofNat n,UInt8.ofNat n)]:=by
 unfold runStep
 split
 ·rename_i q h
  have hl:=runsOf_last (bytesTo p n)
  rw[h] at hl
  obtain⟨j,h1,h2,h3⟩:=bytesTo_last p n (by omega) q.2 hl.symm
  have hne:decide ((q.2.toNat:Int)+1=(UInt8.ofNat n).toNat)=false:=by
   rw[u8nat hn,h3]
   apply decide_eq_false
   intro e
   have:j=n - 1:=by omega
   rcases hp with hp | hp
   ·omega
   ·rw[this,hp] at h2
    cases h2
  rw[hne]
  rfl
 ·rename_i h
  have:runsOf (bytesTo p n)=[]:=List.getLast?_eq_none_iff.1 h
  rw[this]
  rfl
theorem run_grow (p:Nat→Bool) {n:Nat} (hs:n=0∨p (n - 1)=false):∀ t,n≤t→t < 256→(∀ j,n≤j→j≤t→p j=true)→runsOf (bytesTo p (t+1))=runsOf (bytesTo p n)++[(UInt8.ofNat n,UInt8.ofNat t)]:=by
 intro t
 induction t with
 | zero=>
  intro h1 h2 h3
  have:n=0:=by omega
  subst this
  rw[bytesTo_succ,h3 0 (Nat.le_refl _) (Nat.le_refl _),cond_true,runsOf_snoc]
  exact run_start p h2 hs
 | succ t ih=>
  intro h1 h2 h3
  rw[bytesTo_succ,h3 (t+1) h1 (Nat.le_refl _),cond_true,runsOf_snoc]
  by_cases hn:n=t+1
  ·subst hn
   exact run_start p h2 hs
  ·rw[ih (by omega) (by omega) (fun j a b=>h3 j a (by omega))]
   unfold runStep
   rw[List.getLast?_concat]
   simp only
   have:decide (((UInt8.ofNat t).toNat:Int)+1=(UInt8.ofNat (t+1)).toNat)=true:=by
    rw[u8nat (by omega),u8nat (by omega)]
    simp
   rw[this,cond_true,List.dropLast_concat]
theorem endR_run (p:Nat→Bool):∀ (f t:Nat),t≤endR p f t∧endR p f t≤t+f∧(∀ j,t < j→j≤endR p f t→p j=true)∧(endR p f t < t+f→p (endR p f t+1)=false)
 | 0,t=>⟨Nat.le_refl _,Nat.le_refl _,fun j a b=>by simp[endR] at b;omega,fun h=>by simp[endR] at h⟩
 | f+1,t=>by
  unfold endR
  cases h:p (t+1) with
  | false=>exact⟨Nat.le_refl _,by simp,fun j a b=>by simp at b;omega,fun _=>h⟩
  | true=>
   obtain⟨h1,h2,h3,h4⟩:=endR_run p f (t+1)
   refine⟨by simp;omega,by simp;omega,fun j a b=>?_,fun q=>?_⟩
   ·simp at b
    by_cases e:j=t+1
    ·rw[e];exact h
    ·exact h3 j (by omega) b
   ·simp at q ⊢
    exact h4 (by omega)
def curTo (p:Nat→Bool) (n:Nat):Nat:=bif decide (0 < n) && p (n - 1) then endR p (256 - n) (n - 1)+1 else n
theorem runs_to (p:Nat→Bool):∀ n,n≤256→runsR p n=runsOf (bytesTo p (curTo p n))
 | 0,_=>rfl
 | n+1,hn=>by
  have ih:=runs_to p n (by omega)
  have hc1:curTo p (n+1)=bif p n then endR p (255 - n) n+1 else n+1:=by
   unfold curTo
   simp only[Nat.add_sub_cancel,show 256 - (n+1)=255 - n by omega]
   have:decide (0 < n+1)=true:=decide_eq_true (by omega)
   rw[this,Bool.true_and]
  rw[runsR_succ,hc1,ih]
  cases hp:p n with
  | false=>
   have hs:startR p n=false:=by rw[startR,hp];rfl
   have hcn:curTo p n=n:=by
    unfold curTo
    cases hb:decide (0 < n) && p (n - 1) with
    | false=>rfl
    | true=>
     simp at hb
     have e:endR p (256 - n) (n - 1)=n - 1:=by
      rw[show 256 - n=(255 - n)+1 by omega,endR,show n - 1+1=n by omega,hp]
      rfl
     rw[cond_true,e]
     omega
   rw[hs,cond_false,List.append_nil,hcn,cond_false,bytesTo_succ,hp]
   simp
  | true=>
   rw[cond_true]
   cases hb:decide (0 < n) && p (n - 1) with
   | true=>
    have hb':=hb
    simp at hb'
    have hs:startR p n=false:=by
     have:decide (n=0)=false:=decide_eq_false (by omega)
     rw[startR,hp,hb'.2,this]
     rfl
    have hcn:curTo p n=endR p (255 - n) n+1:=by
     unfold curTo
     rw[hb,cond_true,show 256 - n=(255 - n)+1 by omega,endR,show n - 1+1=n by omega,hp,cond_true]
    rw[hs,cond_false,List.append_nil,hcn]
   | false=>
    have hst:n=0∨p (n - 1)=false:=by
     simp at hb
     by_cases h:n=0
     ·exact .inl h
     ·exact .inr (hb (by omega))
    have hs:startR p n=true:=by
     rw[startR,hp]
     rcases hst with h | h
     ·simp[h]
     ·simp[h]
    have hcn:curTo p n=n:=by
     unfold curTo
     rw[hb]
     rfl
    obtain⟨h1,h2,h3,_⟩:=endR_run p (255 - n) n
    rw[hs,cond_true,hcn,run_grow p hst _ h1 (by omega) fun j a b=>by
     by_cases e:j=n
     ·rw[e];exact hp
     ·exact h3 j (by omega) b]
theorem runs_eq (p:Nat→Bool):runsR p 256=runsOf (bytesTo p 256):=by
 rw[runs_to p 256 (Nat.le_refl _)]
 congr 2
 unfold curTo
 simp[endR]
theorem runR_eq {x y:UInt8} (h:x.toNat≤y.toNat):runR (x,y)=runB (x,y):=by
 have hx:=x.toNat_lt
 have hy:=y.toNat_lt
 have e1:IntKind.u8.wrap ((y.toNat:Int) - x.toNat)=(y.toNat:Int) - x.toNat:=by
  simp[IntKind.wrap,IntKind.signed,IntKind.bits]
  omega
 unfold runR runB
 simp only
 rw[e1]
 have d1:decide ((x.toNat:Int)+1 < y.toNat)=decide (1 < (y.toNat:Int) - x.toNat):=decide_eq_decide.2 (by omega)
 have d2:decide ((x.toNat:Int) < y.toNat)=!decide ((y.toNat:Int)=x.toNat):=by
  rw[←decide_not]
  exact decide_eq_decide.2 (by omega)
 rw[d1,d2]
theorem runs_pair (p:Nat→Bool) (n:Nat) (hn:n≤256):∀ q∈runsR p n,q.1.toNat≤q.2.toNat:=by
 intro q hq
 obtain⟨i,hi,rfl⟩:=List.mem_map.1 hq
 have hi:=List.mem_range.1 (List.mem_filter.1 hi).1
 obtain⟨h1,h2,_⟩:=endR_run p (255 - i) i
 simp only
 rw[u8nat (by omega),u8nat (by omega)]
 exact h1
theorem isAll_eq {a b c d:Int} (hws:∀ x∈[a,b,c,d],u64ok x):isAll (runsR (hasR [a,b,c,d]) 256)=(a == notV 0 && (b == notV 0 && (c == notV 0 && d == notV 0))):=by
 have hn0:notV 0=18446744073709551615:=by decide
 rw[Bool.eq_iff_iff]
 simp only[Bool.and_eq_true,beq_iff_eq,hn0]
 constructor
 ·intro h
  have hall:∀ n,n < 256→hasR [a,b,c,d] n=true:=by
   generalize hp:hasR [a,b,c,d]=p at h
   match hr:runsR p 256,h with
   | [q],h=>
    simp[isAll] at h
    have hq:q∈runsR p 256:=by rw[hr];simp
    obtain⟨i,hi,hqe⟩:=List.mem_map.1 hq
    have hst:=(List.mem_filter.1 hi).2
    have hi:=List.mem_range.1 (List.mem_filter.1 hi).1
    obtain⟨h1,h2,h3,_⟩:=endR_run p (255 - i) i
    have hq1:q.1.toNat=i:=by rw[←hqe];exact u8nat (by omega)
    have hq2:q.2.toNat=endR p (255 - i) i:=by rw[←hqe];exact u8nat (by omega)
    have hi0:i=0:=by have:=h.1;omega
    have he:endR p (255 - i) i=255:=by have:=h.2;omega
    intro n hn
    by_cases e:n=0
    ·subst hi0
     rw[e]
     unfold startR at hst
     simp at hst
     exact hst
    ·exact h3 n (by omega) (by omega)
  have word:∀ (i:Nat) (x:Int),i < 4→[a,b,c,d].getD i 0=x→u64ok x→x=18446744073709551615:=fun i x hi hx hu=>by
   obtain⟨n,rfl⟩:=Int.eq_ofNat_of_zero_le hu.1
   have hn:n < 2 ^ 64:=by have:=hu.2;omega
   have:n=2 ^ 64 - 1:=by
    apply Nat.eq_of_testBit_eq
    intro j
    rw[Nat.testBit_two_pow_sub_one]
    by_cases hj:j < 64
    ·have:=hall (i * 64+j) (by omega)
     unfold hasR at this
     rw[show (i * 64+j) / 64=i by omega,show (i * 64+j) % 64=j by omega,hx,Int.toNat_natCast] at this
     rw[this]
     simp[hj]
    ·rw[Nat.testBit_lt_two_pow (Nat.lt_of_lt_of_le hn (Nat.pow_le_pow_right (by omega) (by omega)))]
     simp[hj]
   omega
  exact⟨word 0 a (by decide) rfl (hws a (by simp)),word 1 b (by decide) rfl (hws b (by simp)),word 2 c (by decide) rfl (hws c (by simp)),word 3 d (by decide) rfl (hws d (by simp))⟩
 ·rintro⟨rfl,rfl,rfl,rfl⟩
  have:isAll (runsR (hasR [18446744073709551615,18446744073709551615,18446744073709551615,18446744073709551615]) 256)=true:=by kernel_rfl
  exact this
theorem clsOk:ClsOk debL:=fun a b c d hws=>by
 unfold classR classB
 rw[isAll_eq hws]
 congr 1
 congr 1
 congr 1
 rw[each_eq hws,runs_eq]
 have h:=runs_pair (hasR [a,b,c,d]) 256 (Nat.le_refl _)
 rw[runs_eq] at h
 unfold bytesTo at h ⊢
 generalize runsOf _=rs at *
 clear hws
 induction rs with
 | nil=>rfl
 | cons q rs ih=>
  rw[List.flatMap_cons,List.flatMap_cons,ih fun q hq=>h q (by simp[hq])]
  congr 1
  exact runR_eq (x:=q.1) (y:=q.2) (h q (by simp))
structure IA where
 l:List Fi
 a:Option Addr
 n:Nat
 c:Nat
def IA.val (x:IA):Value:=.slice x.a x.n x.c
structure IsW (I:GH) (x:IA):Prop where
 at':IsAt I [] x.a x.n x.l
 n:x.n≤9223372036854775807
section
variable {H:Type} {enc:TypeId×Value→H} {W:World} {base:Nat} {sp:Nat→Bool} {held:Bool}
end
theorem IsW.mono {I I':GH} {x:IA} (h:IsW I x) (hI:∀ b o,I b=some o→I' b=some o):IsW I' x:=⟨h.at'.mono hI,h.n⟩
noncomputable def gives (f g:Nat) (args:List EV):Option EV:=opn (callF YK (E_code YK f) g args ⟨.nil,0⟩) none fun p=>some p.1
def FirRel (g:Gr) (l:List Fi):Prop:=(mayG debL g=0∧∃ F,IsFlow g.ds F∧IsFirst g.ds F l)∨(mayG debL g≠0∧l=[])
theorem FirRel.len {g:Gr} {l:List Fi} (h:FirRel g l):l.length≤g.ds.length:=by
 rcases h with ⟨a,F,hF,h⟩ | ⟨a,h⟩
 ·rw[h.len];exact Nat.le_refl _
 ·rw[h];exact Nat.zero_le _
def NodRel (g:Gr) (l:List Fi) (t:Tr) (r:List Fi):Prop:=(okI debL g l t=true∧∃ F,IsFlow g.ds F∧r=nodesI (placesL g.ds) l (nodesF (placesL g.ds) F t.ns []) t.ns [])∨(okI debL g l t=false∧r=[])
theorem NodRel.len {g:Gr} {l:List Fi} {t:Tr} {r:List Fi} (h:NodRel g l t r):r.length≤t.ns.length:=by
 rcases h with ⟨a,F,hF,rfl⟩ | ⟨a,rfl⟩
 ·rw[nodesI_len];simp
 ·exact Nat.zero_le _
section
variable {I:GH} {M0:List Blk}
end
theorem Gs11.fit {I:GH} {g:Gr} (h:Gs11 g) (hg:g.ok I):GFit g:=by
 refine⟨by have:=h.n;omega,fun d hd=>?_⟩
 have hs:=(h.ds d hd).t
 have hn:=hs.n
 refine⟨fun nd hnd=>by have:=(hs.ns nd hnd).kn;omega,by omega,by omega⟩
theorem IsLefts.len {deb:List Int} {g:Gr} {r:Int} {l:List Nat} (h:IsLefts deb g r l):l.length≤g.ds.length:=by
 rcases h with ⟨-,rfl⟩ | ⟨-,F,k,-,-,-,rfl⟩
 ·exact Nat.zero_le _
 ·exact range_filter_len _ _
theorem IsLoops.len {deb:List Int} {g:Gr} {l:List Nat} (h:IsLoops deb g l):l.length≤g.ds.length:=by
 rcases h with ⟨-,rfl⟩ | ⟨-,F,-,rfl⟩
 ·exact Nat.zero_le _
 ·exact range_filter_len _ _
theorem IsLeft.len {deb:List Int} {g:Gr} {l:List Nat} (h:IsLeft deb g l):l.length≤g.ds.length:=by
 rcases h with ⟨-,rfl⟩ | ⟨-,F,-,rfl⟩
 ·exact Nat.zero_le _
 ·exact range_filter_len _ _
theorem perm_last {α:Type} (A B C:List α):(A++(B++C)).Perm ((A++C)++B):=by
 rw[List.append_assoc]
 exact List.perm_append_comm.append_left _
theorem perm_two {α:Type} (A B C:List α):(B++(A++C)).Perm ((A++(B++[]))++C):=by
 rw[List.append_nil,List.append_assoc]
 exact List.perm_append_comm_assoc _ _ _
theorem ints_same {I:GH} {oa ob:OS} {l:List Nat} (ha:oa.ok 1 (intsV l)) (hb:ob.ok 1 (intsV l)) (hc:l.length≤140737488355328) :
  Spec Tryz.prog 23 [oa.val,ob.val] I (oa.blk 3++(ob.blk 3++[])) fun v I' M'=>v=.bool true∧I'=I∧∃ oz:OS,M'=oz.blk 3++(ob.blk 3++[]):=by
 have:=ints13_spec (I:=I) (M0:=[]) ha hb hc
 rwa [decide_eq_true (rfl:l=l)] at this
theorem ints_eq {I:GH} {oa ob:OS} {l m:List Nat} (ha:oa.ok 1 (intsV l)) (hb:ob.ok 1 (intsV m)) (e:m=l) (hc:l.length≤140737488355328) :
  Spec Tryz.prog 23 [oa.val,ob.val] I (oa.blk 3++(ob.blk 3++[])) fun v I' M'=>v=.bool true∧I'=I∧∃ oz:OS,M'=oz.blk 3++(ob.blk 3++[]):=by
 subst e
 exact ints_same ha hb hc
set_option maxRecDepth 100000 in
set_option maxHeartbeats 16000000 in
theorem wellTells_V {I:GH} (hT:Tabs I debL) {g:Gr} (hgw:GrW I g) {rule:Int} (hrule:i64ok rule):SpecE Tryz.prog 3 [g.val,.int .i64 rule] I [] fun v I' M'=>v=.bool true:=by
 refine specE_of_V [] TryzEOK Tryz.func3 rfl rfl rfl ?_
 intro B h0
 refine CallOb.mk [] [] _ (.refl _) (large13_spec hgw) ?_
 rintro v J N - ⟨⟨r,rfl,hr⟩,hJ',hN'⟩
 subst J
 subst N
 cases r with
 | true=>
  refine CondOb.mk (fun _=>?_) (fun h=>by cases h)
  refine CallOb.mk [] [] _ (.refl _) (awake13_spec hT) ?_
  rintro v J1 N - ⟨rfl,hJ1,rfl⟩
  exact⟨_,_,.refl,rfl⟩
 | false=>
 refine CondOb.mk (fun h=>by cases h) (fun _=>?_)
 have hgs:=hr rfl
 have hg:=hgw.ok11 hgs
 have hgn:=hg.n
 have hg400:=hgs.n
 have hgf:=hgs.fit hg
 clear hgw hr
 have hkg:∀ d∈g.ds,KB d.t:=fun d hd n hn=>by have:=((hgs.ds d hd).t.ns n hn).kn;omega
 refine CallOb.whole _ (RWhere_spec clsOk hg hgf) ?_
 rintro v J1 N - ⟨hJ1,hN,ra,rfl,hra⟩
 subst N
 refine CodeOb.draw TryzEOK rfl rfl rfl ?_
 refine PCallOb.whole _ (RLeft_spec clsOk (hg.mono hJ1) hgf) (fun v I' M' h x hx=>by cases hx) ?_
 rintro v J2 N - ⟨hJ2',ol,ll,hol,rfl,hN,hll⟩
 subst N
 have hJ2:∀ b o,I b=some o→J2 b=some o:=fun b o h=>hJ2' _ _ (hJ1 _ _ h)
 refine CallOb.whole _ (RLoops_is clsOk (hg.mono hJ2) hgf) ?_
 rintro v J3 N - ⟨hJ3',op,lp,hop,rfl,hN,hlp⟩
 subst N
 have hJ3:∀ b o,I b=some o→J3 b=some o:=fun b o h=>hJ3' _ _ (hJ2 _ _ h)
 have hll1:=hll.len
 have hlp1:=hlp.len
 have hll2:=OS.pos hol
 have hlp2:=OS.pos hop
 refine LoopOb.inv (ι:=Nat×GH) (fun s=>{ fl:=[(1,.val (.int .i64 rule)),(2,.ref 2 0),(5,.val (.int .i64 ra.1)),(6,.val (.int .i64 ra.2)),(7,.val ol.val),(8,.val op.val),(9,.val (.int .i64 s.1))],cl:=[(2,[.slice g.a g.n g.c])],gi:=s.2,mi:=(op.blk 3++[])++(ol.blk 3++[]) }) (fun s=>s.1≤2∧∀ b o,I b=some o→s.2 b=some o) (fun s=>2 - s.1) ?_ ?_
 ·exact⟨(0,J3),⟨by simp,hJ3⟩,.eqM (by simp),aF7,.cons rfl (.nil)⟩
 rintro⟨rd,J⟩ ⟨hrd,hJ⟩
 simp only at hrd hJ
 refine CondOb.mk (fun h=>?_) (fun h=>?_)
 rotate_left
 ·refine CallOb.mk [] _ _ (.refl _) (awake13_spec (hT.mono hJ)) ?_
  rintro v J1 N - ⟨rfl,hJ1,rfl⟩
  exact⟨_,_,.refl,rfl⟩
 have hrl:rd < 2:=by have:(rd:Int) < 2:=of_decide_eq_true h;omega
 refine CallOb.whole _ (WWhere_own (hT.mono hJ) (hg.mono hJ) hkg) ?_
 rintro v K1 N - ⟨hK1',hN,rb,rfl,hrb⟩
 subst N
 obtain rfl:=hra.eq hrb
 have hK1:∀ b o,I b=some o→K1 b=some o:=fun b o h=>hK1' _ _ (hJ _ _ h)
 refine CodeOb.draw TryzEOK rfl rfl rfl ?_
 refine GuardOb.mk (fun _=>?_) (fun h=>absurd h (by simp))
 refine GuardOb.mk (fun _=>?_) (fun h=>absurd h (by simp))
 refine PCallOb.whole _ (WCheck_own (hT.mono hK1) (hg.mono hK1) hkg) (fun v I' M' h x hx=>by rw[h.2.1];exact hx) ?_
 rintro v K2 N - ⟨hK2',hN,rb,rfl,hrb2⟩
 subst N
 obtain rfl:=hra.eq hrb2
 have hK2:∀ b o,I b=some o→K2 b=some o:=fun b o h=>hK2' _ _ (hK1 _ _ h)
 refine CallOb.whole _ (RCheck_spec clsOk (hg.mono hK2) hgf) ?_
 rintro v K3 N - ⟨hK3',hN,rb,rfl,hrb3⟩
 subst N
 obtain rfl:=hra.eq hrb3
 have hK3:∀ b o,I b=some o→K3 b=some o:=fun b o h=>hK3' _ _ (hK2 _ _ h)
 refine GuardOb.mk (fun _=>?_) (fun h=>absurd h (by simp))
 refine PCallOb.whole _ (WLeft_own (hT.mono hK3) (hg.mono hK3) hkg) (fun v I' M' h x hx=>by obtain⟨-,o,l,-,-,e,-⟩:=h;rw[e];exact List.mem_append.2 (.inr hx)) ?_
 rintro v K4 N - ⟨hK4',oa,la,hoa,rfl,hN,hla⟩
 subst N
 have hla1:=hla.len
 have hK4:∀ b o,I b=some o→K4 b=some o:=fun b o h=>hK4' _ _ (hK3 _ _ h)
 refine CallOb.mk (oa.blk 3++(ol.blk 3++[])) (op.blk 3++[]) _ (perm_last _ _ _) (ints_eq hoa hol (hll.eq hla) (by omega)) ?_
 rintro v K5 N - ⟨rfl,hK5,oz,hN⟩
 subst K5
 subst N
 refine GuardOb.mk (fun _=>?_) (fun h=>absurd h (by simp))
 refine PCallOb.whole _ (WLoops_own (hT.mono hK4) (hg.mono hK4) hkg) (fun v I' M' h x hx=>by obtain⟨-,o,l,-,-,e,-⟩:=h;rw[e];exact List.mem_append.2 (.inr hx)) ?_
 rintro v K5 N - ⟨hK5',ob,lb,hob,rfl,hN,hlb⟩
 subst N
 have hlb1:=hlb.len
 have hK5:∀ b o,I b=some o→K5 b=some o:=fun b o h=>hK5' _ _ (hK4 _ _ h)
 refine CallOb.mk (ob.blk 3++(op.blk 3++[])) (oz.blk 3++(ol.blk 3++[])) _ (perm_last _ _ _) (ints_eq hob hop (hlp.eq hlb) (by omega)) ?_
 rintro v K6 N - ⟨rfl,hK6,oz2,hN⟩
 subst K6
 subst N
 refine GuardOb.mk (fun _=>?_) (fun h=>absurd h (by simp))
 refine PCallOb.whole _ (WLefts_own (hT.mono hK5) (hg.mono hK5) hkg rule) (fun v I' M' h x hx=>by obtain⟨-,o,l,-,-,e,-⟩:=h;rw[e];exact List.mem_append.2 (.inr hx)) ?_
 rintro v K6 N - ⟨hK6',oc,lc,hoc,rfl,hN,hlc⟩
 subst N
 have hK6:∀ b o,I b=some o→K6 b=some o:=fun b o h=>hK6' _ _ (hK5 _ _ h)
 refine CallOb.whole _ (RLefts_is clsOk (hg.mono hK6) hgf rule) ?_
 rintro v K7 N - ⟨hK7',od,ld,hod,rfl,hN,hld⟩
 subst N
 have hlc1:=hlc.len
 have hK7:∀ b o,I b=some o→K7 b=some o:=fun b o h=>hK7' _ _ (hK6 _ _ h)
 refine CallOb.mk (oc.blk 3++(od.blk 3++[])) ((oz2.blk 3++(op.blk 3++[]))++(oz.blk 3++(ol.blk 3++[]))) _ (perm_two _ _ _) (ints_eq hoc hod (hlc.eq hld).symm (by omega)) ?_
 rintro v K8 N - ⟨rfl,hK8,oz3,hN⟩
 subst K8
 subst N
 refine CondOb.mk (fun h=>by cases h) (fun _=>?_)
 refine LoopOb.inv (ι:=Nat×GH) (fun s=>{ fl:=[(1,.val (.int .i64 rule)),(2,.ref 2 0),(5,.val (.int .i64 ra.1)),(6,.val (.int .i64 ra.2)),(7,.val ol.val),(8,.val op.val),(9,.val (.int .i64 rd)),(12,.val (.int .i64 s.1))],cl:=[(2,[.slice g.a g.n g.c])],gi:=s.2,mi:=(op.blk 3++[])++(ol.blk 3++[]) }) (fun s=>s.1≤8∧∀ b o,I b=some o→s.2 b=some o) (fun s=>8 - s.1) ?_ ?_
 ·exact⟨(0,K7),⟨by simp,hK7⟩,.sub (((List.sublist_append_right _ _).append (List.sublist_append_right _ _)).trans (List.sublist_append_right _ _)) .refl,aF8,.cons rfl (.nil)⟩
 rintro⟨i,J9⟩ ⟨hi,hJ9⟩
 simp only at hi hJ9
 have out:∀ (h:rd < 2) ,True:=fun _=>trivial
 refine GuardOb.mk (fun h1=>?_) (fun h1=>?_)
 ·refine CondOb.mk (fun h2=>?_) (fun h2=>?_)
  ·have hi8:i < 8:=by have:(i:Int) < 8:=of_decide_eq_true h2;omega
   refine CodeOb.draw TryzEOK rfl rfl rfl ?_
   refine PCallOb.whole _ (WLefts_own (hT.mono hJ9) (hg.mono hJ9) hkg i) (fun v I' M' h x hx=>by obtain⟨-,o,l,-,-,e,-⟩:=h;rw[e];exact List.mem_append.2 (.inr hx)) ?_
   rintro v L1 N - ⟨hL1',oe,le,hoe,rfl,hN,hle⟩
   subst N
   have hL1:∀ b o,I b=some o→L1 b=some o:=fun b o h=>hL1' _ _ (hJ9 _ _ h)
   refine CallOb.whole _ (RLefts_is clsOk (hg.mono hL1) hgf i) ?_
   rintro v L2 N - ⟨hL2',of',lf,hof,rfl,hN,hlf⟩
   subst N
   have hle1:=hle.len
   have hL2:∀ b o,I b=some o→L2 b=some o:=fun b o h=>hL2' _ _ (hL1 _ _ h)
   refine CallOb.mk (oe.blk 3++(of'.blk 3++[])) ((op.blk 3++[])++(ol.blk 3++[])) _ (perm_two _ _ _) (ints_eq hoe hof (hle.eq hlf).symm (by omega)) ?_
   rintro v L3 N - ⟨rfl,hL3,oz4,hN⟩
   subst L3
   subst N
   refine CondOb.mk (fun h=>by cases h) (fun _=>?_)
   refine ArithOb.mk _ (next_wr (i:=i) (by omega)) ?_
   exact⟨(i+1,L2),⟨⟨hi8,hL2⟩,by simp only;omega⟩,.sub (List.sublist_append_right _ _) .refl,aF8,.cons rfl (.nil)⟩
  ·refine ArithOb.mk _ (next_wr (i:=rd) (by omega)) ?_
   exact⟨(rd+1,J9),⟨⟨hrl,hJ9⟩,by simp only;omega⟩,.refl,aF7,.cons rfl (.nil)⟩
 ·refine ArithOb.mk _ (next_wr (i:=rd) (by omega)) ?_
  exact⟨(rd+1,J9),⟨⟨hrl,hJ9⟩,by simp only;omega⟩,.refl,aF7,.cons rfl (.nil)⟩
end Go.V
