/-
  Part 8 of what the proofs of this seat share: the executor, data in memory, walks.
-/
import Derived.Test.YtmijfbjkkllhlaaGreatDoorK7
import Derived.Test.YtmijfbjkkllhlaaGreatDoorK6
import Derived.Test.YtmijfbjkkllhlaaGreatDoorK3
import Derived.Lib.TrailingZeros
import Derived.Test.YtmijfbjkkllhlaaGreatDoorK5
set_option linter.unusedVariables false
set_option linter.unusedSimpArgs false
set_option linter.unusedSectionVars false
namespace Go.V
open Go Go.Proofs
def stepR (k:Int) (s:Ws×Bool×Bool) (x:Fi):Ws×Bool×Bool:=(bif decide (k=5) || s.2.1 then s.1.or x.w else s.1,s.2.1 && x.f,s.2.2 || x.f)
theorem stepR_ch {k:Int} (hk:decide (k=5)=true):∀ (ks:List Fi) (w:Ws) (a o:Bool),ks.foldl Fi.choice ⟨w,o⟩=⟨(ks.foldl (stepR k) (w,a,o)).1,(ks.foldl (stepR k) (w,a,o)).2.2⟩
 | [],w,a,o=>rfl
 | x::ks,w,a,o=>by
  rw[List.foldl_cons,List.foldl_cons]
  have e:stepR k (w,a,o) x=(w.or x.w,a && x.f,o || x.f):=by
   unfold stepR
   rw[hk]
   rfl
  rw[e]
  exact stepR_ch hk ks (w.or x.w) (a && x.f) (o || x.f)
theorem stepR_sq {k:Int} (hk:decide (k=5)=false):∀ (ks:List Fi) (w:Ws) (a o:Bool),ks.foldl Fi.seq ⟨w,a⟩=⟨(ks.foldl (stepR k) (w,a,o)).1,(ks.foldl (stepR k) (w,a,o)).2.1⟩
 | [],w,a,o=>rfl
 | x::ks,w,a,o=>by
  rw[List.foldl_cons,List.foldl_cons]
  have e:stepR k (w,a,o) x=(bif a then w.or x.w else w,a && x.f,o || x.f):=by
   unfold stepR
   rw[hk]
   rfl
  rw[e]
  have e2:Fi.seq ⟨w,a⟩ x=⟨bif a then w.or x.w else w,a && x.f⟩:=by
   cases a<;>rfl
  rw[e2]
  exact stepR_sq hk ks _ (a && x.f) (o || x.f)
def kidsR (k:Int) (ks:List Fi):Fi:=⟨(ks.foldl (stepR k) (.zero,true,false)).1,bif decide (k=5) then (ks.foldl (stepR k) (.zero,true,false)).2.2 else (ks.foldl (stepR k) (.zero,true,false)).2.1⟩
theorem kidsR_eq (k:Int) (ks:List Fi):kidsR k ks=bif decide (k=5) then chFi ks else seqFi ks:=by
 unfold kidsR
 cases hk:decide (k=5) with
 | true=>exact(stepR_ch hk ks .zero true false).symm
 | false=>exact(stepR_sq hk ks .zero true false).symm
theorem textFi_one {t:ByteArray} (h:0 < t.size):textFi t=⟨byteW t[0],false⟩:=by
 unfold textFi
 have h0:0 < t.data.toList.length:=by
  rw[Array.length_toList]
  exact h
 have e:t.data.toList.take 1=[t[0]]:=by
  rw[List.take_succ_eq_append_getElem h0,List.take_zero,List.nil_append,Array.getElem_toList]
  rfl
 rw[e]
 simp[ofW,Ws.zero_or]
theorem findAt_of {nm:ByteArray} {ds:List Df} (h:(lookM nm (placesL ds)).isSome=true):∃ q:Nat,findAt nm ds 0=q∧q < ds.length∧((lookM nm (placesL ds)).getD 0).toNat=q:=by
 have hlk:=look_find nm ds
 cases hd:decide (findAt nm ds 0 < 0) with
 | true=>
  rw[hd,cond_true] at hlk
  rw[hlk] at h
  cases h
 | false=>
  rw[hd,cond_false] at hlk
  have h4:¬ findAt nm ds 0 < 0:=of_decide_eq_false hd
  obtain⟨q,hq⟩:=Int.eq_ofNat_of_zero_le (by omega:0≤findAt nm ds 0)
  have hlk':=hlk
  rw[places_first] at hlk'
  obtain⟨j,hj1,hj2⟩:=firstAt_lt hlk'
  refine⟨q,hq,by omega,?_⟩
  rw[hlk,hq]
  rfl
theorem RFind_fr {I:GH} {M0:List Blk} {g:Gr} (hg:g.ok I) (name:ByteArray) {q:Nat} (hq:findAt name g.ds 0=q):Spec Tryz.prog 104 [g.val,.string name] I M0 (fun v I' M'=>v=.int .i64 q∧I'=I∧M'=M0):=by
 refine Spec.weakK (Spec.frame (RFind_spec hg name)) ?_
 rintro v J M ⟨M',rfl,-,-,rfl,rfl,rfl⟩
 rw[hq]
 exact⟨rfl,rfl,rfl⟩
theorem ROr_fr {I:GH} {M0:List Blk} (x y:Ws):Spec Tryz.prog 89 [x.val,y.val] I M0 fun v I' M'=>v=(x.or y).val∧I'=I∧M'=M0:=by
 refine Spec.weakK (Spec.frame (ROr_spec x y)) ?_
 rintro v J M ⟨M',rfl,-,-,rfl,rfl,rfl⟩
 exact⟨rfl,rfl,rfl⟩
theorem RRange_fr {I:GH} {M0:List Blk} (b:UInt8):Spec Tryz.prog 119 [.int .u8 b.toNat,.int .u8 b.toNat] I M0 fun v I' M'=>v=(byteW b).val∧I'=I∧M'=M0:=by
 refine Spec.weakK (Spec.frame (RRange_spec b)) ?_
 rintro v J M ⟨M',rfl,-,-,rfl,rfl,rfl⟩
 exact⟨rfl,rfl,rfl⟩
set_option maxRecDepth 100000 in
set_option maxHeartbeats 8000000 in
theorem RIfirst_spec {g:Gr} {F:List Fl} {l:List Fi} (hFn:F.length=g.n) (hln:l.length=g.n) {W:Nat}:∀ (m:Nat) {I:GH} {M0:List Blk} (hg:g.ok I) {t:Tr} (ht:t.ok I) (hr:right t=true) (hf:Fit t W) (hno:namedOk (placesL g.ds) t.ns=true) {fa:Option Addr} {fn fc:Nat} (hF:FsAt I M0 fa fn F) {la:Option Addr} {lc:Nat} (hl:IsAt I M0 la g.n l),t.ns.length≤m →
  Spec Tryz.prog 76 [g.val,.slice fa fn fc,.slice la g.n lc,t.val] I M0 fun v I' M'=>(∀ b o,I b=some o→I' b=some o)∧M'=M0∧v=(pairAt (placesL g.ds) F l t.ns t.root).2.val
 | 0,_,_,_,t,_,hr,_,_,_,_,_,_,_,_,_,hm=>by
  have:=right_root hr
  omega
 | m+1,I,M0,hg,t,ht,hr,hf,hno,fa,fn,fc,hF,la,lc,hl,hm=>by
  have ih:=@RIfirst_spec g F l hFn hln W m
  have htn:=ht.n
  have hgn:=hg.n
  have hnF:=hF.n
  obtain⟨hr0,hr1⟩:=right_root hr
  obtain⟨r,hrr⟩:=Int.eq_ofNat_of_zero_le hr0
  have hrl:r < t.ns.length:=by omega
  have hdm:=List.getElem_mem hrl
  have hd:=ht.ns _ hdm
  have hfit:=right_fits hr hrl
  have hfm:=fits_more hd.k.1 hfit
  have hk10:=fits_k hfit
  have hkv:=right_kids hr r hrl
  have htx:=fun h2=>fits_text hfit h2
  have hnm:=List.all_eq_true.1 hno _ hdm
  have hpe:pairAt (placesL g.ds) F l t.ns t.root=pairF (placesL g.ds) F l t.ns[r] (t.ns[r].kids.map (pairAt (placesL g.ds) F l t.ns)):=by
   rw[hrr]
   exact pair_eq hr hrl
  have hsz:=szOf_eq hr hrl
  have hsl:=sz_le hr t.ns.length r hrl (by omega)
  have hkids:=RKids_spec (M0:=M0) ht hr hf
  have hroot:=RRoot_spec (M0:=M0) ht hr hf
  have hna:nodeAt t.ns t.root.toNat=t.ns[r]:=by
   rw[hrr]
   exact nodeAt_eq hrl
  rw[hna] at hkids hroot
  have hpA:=pair_at (placesL g.ds) F l t.ns t.root
  have htp:treeP g F t=some (pairAt (placesL g.ds) F l t.ns t.root).1:=by
   rw[treeP,nodesP,decide_eq_true hFn,hr,hno,hpA]
   rfl
  rw[hpe] at htp ⊢
  clear hpA
  generalize t.ns[r]=d at *
  refine spec_of_V [] TryzEOK Tryz.func76 rfl rfl rfl ?_
  intro B h0
  refine CallOb.whole _ hroot ?_
  rintro v J N - ⟨rfl,hJ,hN⟩
  subst J
  subst N
  refine CallOb.whole _ hkids ?_
  rintro v J N - ⟨hJ,os,L,hos,rfl,hN,hLl,hL⟩
  subst N
  have hgJ:=hg.mono hJ
  have htJ:=ht.mono hJ
  have hks:d.kids.map (pairAt (placesL g.ds) F l t.ns)=L.map fun t'=>pairAt (placesL g.ds) F l t'.ns t'.root:=by
   apply List.ext_getElem
   ·simp[hLl]
   ·intro q h1 h2
    have hq:q < d.kids.length:=by simpa using h1
    have hql:q < L.length:=by omega
    obtain⟨-,hS⟩:=hL q hql
    have e:d.kids.getD q 0=d.kids[q]:=by simp[List.getD_eq_getElem?_getD,hq]
    rw[e] at hS
    have hv:=hkv _ (List.getElem_mem hq)
    obtain⟨k,hk⟩:=Int.eq_ofNat_of_zero_le hv.1
    rw[hk] at hS
    have:=subAt_pair (pl:=placesL g.ds) (F:=F) (l:=l) hr (j:=k) (by omega) hS
    simp only[List.getElem_map]
    rw[this,hk]
  have hkid:∀ q (h:q < L.length),(L[q]).ok J∧right L[q]=true∧Fit L[q] W∧namedOk (placesL g.ds) L[q].ns=true∧L[q].ns.length≤m:=fun q hql=>by
   obtain⟨hok,hS⟩:=hL q hql
   have hq:q < d.kids.length:=by omega
   have e:d.kids.getD q 0=d.kids[q]:=by simp[List.getD_eq_getElem?_getD,hq]
   have hmem:=List.getElem_mem hq
   rw[e] at hS
   have hv:=hkv _ hmem
   obtain⟨k,hk⟩:=Int.eq_ofNat_of_zero_le hv.1
   have hs1:=sumOf_mem (g:=szOf t.ns) hmem
   rw[hk] at hS hs1
   have hkl:k < t.ns.length:=by omega
   have h1:=subAt_right hr hkl hS
   have h2:=subAt_fit hr hf ht hkl hS hok
   have h3:=subAt_named hr hno hkl hS
   have h4:=subAt_len hr hkl hS
   exact⟨hok,h1,h2,h3,by omega⟩
  rw[hks] at htp ⊢
  have hon:os.n=L.length:=by
   have:=hos.len
   rw[flat_len Tr.cells 2 (fun _=>rfl)] at this
   omega
  have hcall:∀ {K:GH} {M:List Blk} q (h:q < L.length),(∀ b o,J b=some o→K b=some o)→(∀ z∈M0,z∈M)→Spec Tryz.prog 76 [g.val,.slice fa fn fc,.slice la g.n lc,L[q].val] K M fun v I' M'=>(∀ b o,K b=some o→I' b=some o)∧M'=M∧v=(pairAt (placesL g.ds) F l L[q].ns L[q].root).2.val:=fun {K M} q hq hK hM=>by
   obtain⟨h1,h2,h3,h4,h5⟩:=hkid q hq
   exact ih (hgJ.mono hK) (h1.mono hK) h2 h3 h4 (((hF.mono hJ).mono hK).sub hM) (((hl.mono hJ).mono hK).sub hM) h5
  have hrow:∀ {K:GH} {M:List Blk} q (h:q < L.length),(∀ z∈os.blk 43,z∈M)→∃ ad,(os.a.map fun g=>(⟨g,0,none⟩:Addr))=some ad∧Rd K M (ad.add (q * 2)) 2 L[q].cells:=fun {K M} q hq hM=>
   OS.ok.row (I:=K) (M:=M) (e:=43) (f:=Tr.cells) (size:=2) (fun _=>rfl) (by decide) hos hM hq
  have fin:∀ {M:List Blk} {K:GH} {v:Value},(∀ b o,J b=some o→K b=some o)→M=M0→v=(pairF (placesL g.ds) F l d (L.map fun t'=>pairAt (placesL g.ds) F l t'.ns t'.root)).2.val→(∀ b o,I b=some o→K b=some o)∧M=M0∧v=(pairF (placesL g.ds) F l d (L.map fun t'=>pairAt (placesL g.ds) F l t'.ns t'.root)).2.val:=fun h1 h2 h3=>⟨fun b o h=>h1 _ _ (hJ _ _ h),h2,h3⟩
  have hnil:d.k≤3→L=[]:=fun h=>by
   have:=hfm.leaf h
   exact List.eq_nil_of_length_eq_zero (by omega)
  have hone:6≤d.k→0 < L.length:=fun h=>by
   have:=hfm.one h
   omega
  refine CondOb.mk (fun e=>?_) (fun e0=>?_)
  ·have e:d.k=0:=of_decide_eq_true e
   refine⟨_,M0,.sub (List.sublist_append_right _ _) .refl,fin (fun _ _ h=>h) rfl ?_⟩
   simp[pairF,comeFi,comeFl,e,Fl.suc]
   rfl
  have e0:¬ d.k=0:=of_decide_eq_false e0
  refine CondOb.mk (fun e=>?_) (fun e1=>?_)
  ·have e:d.k=1:=of_decide_eq_true e
   refine⟨_,M0,.sub (List.sublist_append_right _ _) .refl,fin (fun _ _ h=>h) rfl ?_⟩
   have hv:(pairF (placesL g.ds) F l d (L.map fun t'=>pairAt (placesL g.ds) F l t'.ns t'.root)).2=⟨d.ws,false⟩:=by simp[pairF,comeFi,e]
   rw[hv]
   simp only[Fi.val,Nd.ws,bv_int hd.s0,bv_int hd.s1,bv_int hd.s2,bv_int hd.s3]
   rfl
  have e1:¬ d.k=1:=of_decide_eq_false e1
  refine CondOb.mk (fun e=>?_) (fun e2=>?_)
  ·have e:d.k=2:=of_decide_eq_true e
   have ht0:0 < d.t.size:=htx e
   refine CodeOb.draw TryzEOK rfl rfl rfl ?_
   refine StrOb.mk 0 rfl ht0 ?_
   refine StrOb.mk 0 rfl ht0 ?_
   refine CallOb.whole _ (RRange_fr d.t[0]) ?_
   rintro v K N - ⟨rfl,hK,hN⟩
   subst K
   subst N
   refine⟨_,M0,.sub (List.sublist_append_right _ _) .refl,fin (fun _ _ h=>h) rfl ?_⟩
   have hv:(pairF (placesL g.ds) F l d (L.map fun t'=>pairAt (placesL g.ds) F l t'.ns t'.root)).2=⟨byteW d.t[0],false⟩:=by simp[pairF,comeFi,e,textFi_one ht0]
   rw[hv]
   rfl
  have e2:¬ d.k=2:=of_decide_eq_false e2
  refine CondOb.mk (fun e=>?_) (fun e3=>?_)
  ·have e:d.k=3:=of_decide_eq_true e
   obtain⟨q,hq1,hq2,hq3⟩:=findAt_of (nm:=d.t) (ds:=g.ds) (by simpa[e] using hnm)
   have hql:q < l.length:=by omega
   obtain⟨al,hal,hrdl⟩:=(hl.mono hJ).rd q hql
   refine CallOb.whole _ (RFind_fr hgJ d.t hq1) ?_
   rintro v K N - ⟨rfl,hK,hN⟩
   subst K
   subst N
   refine IdxOb.mk al q hal rfl (by omega) ?_
   refine LoadOb.mk _ (hrdl.sub fun x hx=>by simp[hx]) ?_
   refine⟨_,M0,.sub (List.sublist_append_right _ _) .refl,fin (fun _ _ h=>h) rfl ?_⟩
   have hv:(pairF (placesL g.ds) F l d (L.map fun t'=>pairAt (placesL g.ds) F l t'.ns t'.root)).2=l[q]:=by
    have hn:=hnil (by omega)
    simp[pairF,comeFi,e,hn,hq3,List.getD_eq_getElem?_getD,hql]
   rw[hv]
   rfl
  have e3:¬ d.k=3:=of_decide_eq_false e3
  have hpF:∀ xs:List (Fl×Fi),pairF (placesL g.ds) F l d xs=(comeFl d (xs.map (·.1)),comeFi d (comeFl d (xs.map (·.1))) (xs.map (·.2))):=fun xs=>by simp[pairF,e3]
  rw[hpF,List.map_map,List.map_map] at fin htp ⊢
  obtain⟨xs,hxs⟩:∃ xs:List Fi,xs=L.map ((fun p:Fl×Fi=>p.2) ∘ fun t'=>pairAt (placesL g.ds) F l t'.ns t'.root):=⟨_,rfl⟩
  have hxl:xs.length=L.length:=by rw[hxs,List.length_map]
  have hxq:∀ q (h:q < L.length),(pairAt (placesL g.ds) F l L[q].ns L[q].root).2=xs[q]'(by omega):=fun q hq=>by simp[hxs]
  rw[←hxs] at fin ⊢
  obtain⟨y,hy⟩:∃ y:Fl,y=comeFl d (L.map ((fun p:Fl×Fi=>p.1) ∘ fun t'=>pairAt (placesL g.ds) F l t'.ns t'.root)):=⟨_,rfl⟩
  rw[←hy] at fin htp ⊢
  have hcall':∀ {K:GH} {M:List Blk} q (h:q < L.length),(∀ b o,J b=some o→K b=some o)→(∀ z∈M0,z∈M)→Spec Tryz.prog 76 [g.val,.slice fa fn fc,.slice la g.n lc,L[q].val] K M fun v I' M'=>(∀ b o,K b=some o→I' b=some o)∧M'=M∧v=(xs[q]'(by omega)).val:=fun {K M} q hq hK hM=>by
   have:=hcall q hq hK hM
   rw[hxq q hq] at this
   exact this
  have hAN:d.k=7∨d.k=8→comeFi d y xs=⟨.zero,y.suc⟩:=fun h=>by rcases h with h | h<;>simp[comeFi,h]
  refine CondOb.mk (fun e=>CondOb.mk (fun _=>?a1) (fun h=>?x1)) (fun e7=>CondOb.mk (fun e=>?a2) (fun e8=>?rest))
  case x1=>exact absurd (h.symm.trans e) (by simp)
  case' a1=>have hk78:d.k=7∨d.k=8:=.inl (of_decide_eq_true e)
  case' a2=>have hk78:d.k=7∨d.k=8:=.inr (of_decide_eq_true e)
  case rest=>
   have e7:¬ d.k=7:=of_decide_eq_false e7
   have e8:¬ d.k=8:=of_decide_eq_false e8
   refine CondOb.mk (fun e=>?_) (fun e9=>?_)
   ·have e:d.k=9:=of_decide_eq_true e
    have hL0:=hone (by omega)
    obtain⟨ao,hao,hro⟩:=hrow (K:=J) (M:=os.blk 43++M0) 0 hL0 (fun z hz=>by simp[hz])
    refine CodeOb.draw TryzEOK rfl rfl rfl ?_
    refine IdxOb.mk ao 0 hao rfl (by omega) ?_
    refine LoadOb.mk _ hro ?_
    refine CallOb.whole _ (hcall' 0 hL0 (fun _ _ h=>h) (fun z hz=>by simp[hz])) ?_
    rintro v K N - ⟨hK,hN,rfl⟩
    subst N
    refine⟨_,M0,.sub (List.sublist_append_right _ _) .refl,fin hK rfl ?_⟩
    have hv:comeFi d y xs=xs[0]'(by omega):=by
     have:xs.headD fi0=xs[0]'(by omega):=by
      cases xs with
      | nil=>simp at hxl;omega
      | cons a r=>rfl
     unfold comeFi
     rw[e]
     exact this
    rw[hv]
    rfl
   have e9:¬ d.k=9:=of_decide_eq_false e9
   refine CondOb.mk (fun e=>?_) (fun e6=>?_)
   ·have e:d.k=6:=of_decide_eq_true e
    have hL0:=hone (by omega)
    have hx0:0 < xs.length:=by omega
    have hh:xs.headD fi0=xs[0]:=by
     cases xs with
     | nil=>simp at hx0
     | cons a r=>rfl
    have hv:comeFi d y xs=repFi d xs[0]:=by
     unfold comeFi
     rw[e]
     exact congrArg (repFi d) hh
    rw[hv] at fin ⊢
    refine CondOb.mk (fun hh=>?_) (fun hh=>?_)
    ·refine⟨_,M0,.sub (List.sublist_append_right _ _) .refl,fin (fun _ _ h=>h) rfl ?_⟩
     have hh':decide (d.hi=0)=true:=hh
     rw[repFi,hh']
     rfl
    have hh':decide (d.hi=0)=false:=hh
    have hre:repFi d xs[0]=⟨xs[0].w,xs[0].f || decide (d.lo=0)⟩:=by rw[repFi,hh'];rfl
    rw[hre] at fin ⊢
    obtain⟨ao,hao,hro⟩:=hrow (K:=J) (M:=os.blk 43++M0) 0 hL0 (fun z hz=>by simp[hz])
    refine CodeOb.drawC TryzEOK rfl rfl rfl (ι:=Nat×GH) (fun s=>{ fl:=[(8,.ref 8 0),(9,.ref 9 0),(13,.val (ptr s.1))],cl:=[(8,fi0.cells),(9,(d.withKids []).cells)],gi:=s.2,mi:=⟨s.1,.cells xs[0].cells.toArray 70 (0,0)⟩::(os.blk 43++M0) }) (fun s=>∀ b o,J b=some o→s.2 b=some o) ?_ ?_
    ·refine IdxOb.mk ao 0 hao rfl (by omega) ?_
     refine LoadOb.mk _ hro ?_
     refine⟨?_,?_⟩
     ·refine CallOb.whole _ (hcall' 0 hL0 (fun _ _ h=>h) (fun z hz=>by simp[hz])) ?_
      rintro v K N - ⟨hK,rfl,rfl⟩
      refine AllocOb.mk fun s hs hsM=>?_
      refine StoreOb.to [] _ _ _ rfl rfl rfl rfl xs[0].cells rfl ?_
      exact⟨(s,K),hK,.refl,.cons .refl (.cons .refl (.cons .refl (.nil))),.cons rfl (.cons rfl (.nil))⟩
     ·refine AllocOb.mk fun s hs hsM=>?_
      refine PCallOb.whole _ (hcall' 0 hL0 (fun _ _ h=>h) (fun z hz=>by simp[hz])) (fun v I' M' h x hx=>by rw[h.2.1];exact hx) ?_
      rintro v K N - ⟨hK,rfl,rfl⟩
      refine StoreOb.to [] _ _ _ rfl rfl rfl rfl xs[0].cells rfl ?_
      exact⟨(s,K),hK,.refl,.cons .refl (.cons .refl (.cons .refl (.nil))),.cons rfl (.cons rfl (.nil))⟩
    rintro⟨s13,K⟩ hK
    simp only at hK
    have r13:∀ {K:GH} {M:List Blk} {c:Fi},(⟨s13,.cells c.cells.toArray 70 (0,0)⟩:Blk)∈M→Rd K M ((⟨s13,0,none⟩:Addr).add 4) 1 [.bool c.f]:=fun hM=>blk_rd (cs:=Fi.cells _) (k:=4) (n:=1) hM (by simp[Fi.cells])
    have r13':∀ {K:GH} {M:List Blk} {c:Fi},(⟨s13,.cells c.cells.toArray 70 (0,0)⟩:Blk)∈M→Rd K M (⟨s13,0,none⟩:Addr) 5 c.cells:=fun hM=>⟨rfl,_,_,_,.inr ⟨_,hM,rfl,rfl⟩,rfl,rfl⟩
    refine LoadOb.mk _ (r13 (.head _)) ?_
    refine GuardOb.mk (fun hg=>?_) (fun hg=>?_)
    ·refine StoreOb.addTo [] (os.blk 43++M0) xs[0].cells _ rfl rfl rfl (⟨xs[0].w,decide (d.lo=0)⟩:Fi).cells rfl ?_
     refine LoadOb.mk _ (r13' (c:=⟨xs[0].w,decide (d.lo=0)⟩) (.head _)) ?_
     refine⟨_,M0,.sub (.cons _ (List.sublist_append_right _ _)) .refl,fin hK rfl ?_⟩
     have hg':xs[0].f=false:=hg
     rw[hg',Bool.false_or]
     rfl
    ·refine StoreOb.addTo [] (os.blk 43++M0) xs[0].cells _ rfl rfl rfl (⟨xs[0].w,true⟩:Fi).cells rfl ?_
     refine LoadOb.mk _ (r13' (c:=⟨xs[0].w,true⟩) (.head _)) ?_
     refine⟨_,M0,.sub (.cons _ (List.sublist_append_right _ _)) .refl,fin hK rfl ?_⟩
     have hg':xs[0].f=true:=hg
     rw[hg',Bool.true_or]
     rfl
   have e6:¬ d.k=6:=of_decide_eq_false e6
   have hk0:=hd.k.1
   have hv:comeFi d y xs=kidsR d.k xs:=by
    have h45:d.k=4∨d.k=5:=by omega
    rcases h45 with h | h<;>simp[comeFi,kidsR_eq,h]
   rw[hv] at fin ⊢
   have hLn:L.length≤1099511627776:=by
    have h1:=hf.n
    have h3:d.kids.length≤sumOf (szOf t.ns) d.kids:=len_le_sum hr fun k hk=>by
     have:=hkv k hk
     omega
    omega
   refine LoopOb.inv (ι:=Nat×(Ws×Bool×Bool)×GH) (fun s=>{ fl:=[(1,.val (.slice fa fn fc)),(2,.val (.slice la g.n lc)),(4,.ref 4 0),(8,.ref 8 0),(9,.ref 9 0),(10,.val os.val),(14,.ref 14 0),(15,.val (.bool s.2.1.2.1)),(16,.val (.bool s.2.1.2.2)),(17,.val (.int .i64 s.1))],cl:=[(4,[.slice g.a g.n g.c]),(8,fi0.cells),(9,(d.withKids []).cells),(14,(⟨s.2.1.1,false⟩:Fi).cells)],gi:=s.2.2,mi:=os.blk 43++M0 })
    (fun s=>s.1≤L.length∧(xs.take s.1).foldl (stepR d.k) (.zero,true,false)=s.2.1∧∀ b o,J b=some o→s.2.2 b=some o) (fun s=>L.length - s.1) ?_ ?_
   ·exact⟨(0,(.zero,true,false),J),⟨Nat.zero_le _,rfl,fun _ _ h=>h⟩,.refl,.cons .refl (.cons .refl (.cons .refl (.cons .refl (.cons .refl (.cons .refl (.cons .refl (.cons .lit (.cons .lit (.cons .refl .nil))))))))),.cons rfl (.cons rfl (.cons rfl (.cons rfl (.nil))))⟩
   rintro⟨i,⟨w,al,on⟩,K⟩ ⟨hi,hinv,hK⟩
   simp only at hi hinv hK
   refine CondOb.mk (fun h=>?_) (fun h=>?_)
   rotate_left
   ·have hge:i=L.length:=by have:¬ (i:Int) < (os.n:Int):=of_decide_eq_false h;omega
    rw[hge,List.take_of_length_le (by omega)] at hinv
    refine CondOb.mk (fun h5=>?_) (fun h5=>?_)
    ·have h5':decide (d.k=5)=true:=h5
     refine⟨_,M0,.sub (List.sublist_append_right _ _) .refl,fin hK rfl ?_⟩
     rw[kidsR,hinv,h5']
     rfl
    ·have h5':decide (d.k=5)=false:=h5
     refine⟨_,M0,.sub (List.sublist_append_right _ _) .refl,fin hK rfl ?_⟩
     rw[kidsR,hinv,h5']
     rfl
   have hlt:i < L.length:=by have:(i:Int) < (os.n:Int):=of_decide_eq_true h;omega
   have hix:i < xs.length:=by omega
   obtain⟨ao,hao,hro⟩:=hrow (K:=K) (M:=os.blk 43++M0) i hlt (fun z hz=>by simp[hz])
   have hcl:=fun {M:List Blk} (hM:∀ z∈M0,z∈M)=>hcall' (K:=K) (M:=M) i hlt hK hM
   have hst:∀ w':Ws,(bif decide (d.k=5) || al then w.or xs[i].w else w)=w'→(xs.take (i+1)).foldl (stepR d.k) (.zero,true,false)=(w',al && xs[i].f,on || xs[i].f):=fun w' hw=>by
    rw[List.take_succ_eq_append_getElem hix,List.foldl_append,hinv,←hw]
    rfl
   generalize xs[i]=x at hcl hst
   refine CodeOb.drawC TryzEOK rfl rfl rfl (ι:=Nat×GH) (fun s=>{ fl:=[(1,.val (.slice fa fn fc)),(2,.val (.slice la g.n lc)),(4,.ref 4 0),(8,.ref 8 0),(9,.ref 9 0),(10,.val os.val),(14,.ref 14 0),(15,.val (.bool al)),(16,.val (.bool on)),(17,.val (.int .i64 i)),(18,.val (ptr s.1))],cl:=[(4,[.slice g.a g.n g.c]),(8,fi0.cells),(9,(d.withKids []).cells),(14,(⟨w,false⟩:Fi).cells)],gi:=s.2,mi:=⟨s.1,.cells x.cells.toArray 70 (0,0)⟩::(os.blk 43++M0) }) (fun s=>∀ b o,J b=some o→s.2 b=some o) ?_ ?_
   ·refine IdxOb.mk ao i hao rfl (by omega) ?_
    refine LoadOb.mk _ hro ?_
    refine⟨?_,?_⟩
    ·refine CallOb.whole _ (hcl (fun z hz=>by simp[hz])) ?_
     rintro v K2 N - ⟨hK2,rfl,rfl⟩
     refine AllocOb.mk fun s hs hsM=>?_
     refine StoreOb.to [] _ _ _ rfl rfl rfl rfl x.cells rfl ?_
     exact⟨(s,K2),fun b o h=>hK2 _ _ (hK _ _ h),.refl,.cons .refl (.cons .refl (.cons .refl (.cons .refl (.cons .refl (.cons .refl (.cons .refl (.cons .refl (.cons .refl (.cons .refl (.cons .refl (.nil))))))))))),.cons rfl (.cons rfl (.cons rfl (.cons rfl (.nil))))⟩
    ·refine AllocOb.mk fun s hs hsM=>?_
     refine PCallOb.whole _ (hcl (fun z hz=>by simp[hz])) (fun v I' M' h x hx=>by rw[h.2.1];exact hx) ?_
     rintro v K2 N - ⟨hK2,rfl,rfl⟩
     refine StoreOb.to [] _ _ _ rfl rfl rfl rfl x.cells rfl ?_
     exact⟨(s,K2),fun b o h=>hK2 _ _ (hK _ _ h),.refl,.cons .refl (.cons .refl (.cons .refl (.cons .refl (.cons .refl (.cons .refl (.cons .refl (.cons .refl (.cons .refl (.cons .refl (.cons .refl (.nil))))))))))),.cons rfl (.cons rfl (.cons rfl (.cons rfl (.nil))))⟩
   rintro⟨s18,K2⟩ hK2
   simp only at hK2
   have rF:∀ {K:GH} {M:List Blk},(⟨s18,.cells x.cells.toArray 70 (0,0)⟩:Blk)∈M→Rd K M ((⟨s18,0,none⟩:Addr).add 4) 1 [.bool x.f]:=fun hM=>blk_rd (cs:=x.cells) (k:=4) (n:=1) hM (by simp[Fi.cells])
   have rW:∀ {K:GH} {M:List Blk},(⟨s18,.cells x.cells.toArray 70 (0,0)⟩:Blk)∈M→Rd K M ((⟨s18,0,none⟩:Addr).add 0) 4 x.w.cells:=fun hM=>blk_rd (cs:=x.cells) (k:=0) (n:=4) hM (by simp[Fi.cells])
   cases hk5:decide (d.k=5)<;>cases al<;>cases on
   ·refine GuardOb.mk (fun _=>?_) (fun h=>absurd (h.symm.trans hk5) (by simp))
    refine CondOb.mk (fun h=>absurd h (by simp)) (fun _=>?_)
    refine GuardOb.mk (fun h=>absurd h (by simp)) (fun _=>?_)
    refine GuardOb.mk (fun _=>?_) (fun h=>absurd h (by simp))
    refine LoadOb.mk _ (rF (.head _)) ?_
    refine ArithOb.mk _ (next_wr (i:=i) (by omega)) ?_
    exact⟨(i+1,(w,false && x.f,false || x.f),K2),⟨⟨hlt,hst _ (by rw[hk5];rfl),hK2⟩,by simp only;omega⟩,.sub (.cons _ (.refl _)) .refl,.cons .refl (.cons .refl (.cons .refl (.cons .refl (.cons .refl (.cons .refl (.cons .refl (.cons .lit (.cons .refl (.cons .refl .nil))))))))),.cons rfl (.cons rfl (.cons rfl (.cons rfl (.nil))))⟩
   ·refine GuardOb.mk (fun _=>?_) (fun h=>absurd (h.symm.trans hk5) (by simp))
    refine CondOb.mk (fun h=>absurd h (by simp)) (fun _=>?_)
    refine GuardOb.mk (fun h=>absurd h (by simp)) (fun _=>?_)
    refine GuardOb.mk (fun h=>absurd h (by simp)) (fun _=>?_)
    refine ArithOb.mk _ (next_wr (i:=i) (by omega)) ?_
    exact⟨(i+1,(w,false && x.f,true || x.f),K2),⟨⟨hlt,hst _ (by rw[hk5];rfl),hK2⟩,by simp only;omega⟩,.sub (.cons _ (.refl _)) .refl,.cons .refl (.cons .refl (.cons .refl (.cons .refl (.cons .refl (.cons .refl (.cons .refl (.cons .lit (.cons .lit (.cons .refl .nil))))))))),.cons rfl (.cons rfl (.cons rfl (.cons rfl (.nil))))⟩
   ·refine GuardOb.mk (fun _=>?_) (fun h=>absurd (h.symm.trans hk5) (by simp))
    refine CondOb.mk (fun _=>?_) (fun h=>absurd h (by simp))
    refine LoadOb.mk _ (rW (.head _)) ?_
    refine CallOb.whole _ (ROr_fr w x.w) ?_
    rintro v K5 N5 - ⟨rfl,hK5,hN5⟩
    subst K5
    subst N5
    refine GuardOb.mk (fun _=>?_) (fun h=>absurd h (by simp))
    refine LoadOb.mk _ (rF (.head _)) ?_
    refine GuardOb.mk (fun _=>?_) (fun h=>absurd h (by simp))
    refine LoadOb.mk _ (rF (.head _)) ?_
    refine ArithOb.mk _ (next_wr (i:=i) (by omega)) ?_
    exact⟨(i+1,(w.or x.w,true && x.f,false || x.f),K2),⟨⟨hlt,hst _ (by rw[hk5];rfl),hK2⟩,by simp only;omega⟩,.sub (.cons _ (.refl _)) .refl,.cons .refl (.cons .refl (.cons .refl (.cons .refl (.cons .refl (.cons .refl (.cons .refl (.cons .refl (.cons .refl (.cons .refl .nil))))))))),.cons rfl (.cons rfl (.cons rfl (.cons rfl (.nil))))⟩
   ·refine GuardOb.mk (fun _=>?_) (fun h=>absurd (h.symm.trans hk5) (by simp))
    refine CondOb.mk (fun _=>?_) (fun h=>absurd h (by simp))
    refine LoadOb.mk _ (rW (.head _)) ?_
    refine CallOb.whole _ (ROr_fr w x.w) ?_
    rintro v K5 N5 - ⟨rfl,hK5,hN5⟩
    subst K5
    subst N5
    refine GuardOb.mk (fun _=>?_) (fun h=>absurd h (by simp))
    refine LoadOb.mk _ (rF (.head _)) ?_
    refine GuardOb.mk (fun h=>absurd h (by simp)) (fun _=>?_)
    refine ArithOb.mk _ (next_wr (i:=i) (by omega)) ?_
    exact⟨(i+1,(w.or x.w,true && x.f,true || x.f),K2),⟨⟨hlt,hst _ (by rw[hk5];rfl),hK2⟩,by simp only;omega⟩,.sub (.cons _ (.refl _)) .refl,.cons .refl (.cons .refl (.cons .refl (.cons .refl (.cons .refl (.cons .refl (.cons .refl (.cons .refl (.cons .lit (.cons .refl .nil))))))))),.cons rfl (.cons rfl (.cons rfl (.cons rfl (.nil))))⟩
   ·refine GuardOb.mk (fun h=>absurd (h.symm.trans hk5) (by simp)) (fun _=>?_)
    refine LoadOb.mk _ (rW (.head _)) ?_
    refine CallOb.whole _ (ROr_fr w x.w) ?_
    rintro v K5 N5 - ⟨rfl,hK5,hN5⟩
    subst K5
    subst N5
    refine GuardOb.mk (fun h=>absurd h (by simp)) (fun _=>?_)
    refine GuardOb.mk (fun _=>?_) (fun h=>absurd h (by simp))
    refine LoadOb.mk _ (rF (.head _)) ?_
    refine ArithOb.mk _ (next_wr (i:=i) (by omega)) ?_
    exact⟨(i+1,(w.or x.w,false && x.f,false || x.f),K2),⟨⟨hlt,hst _ (by rw[hk5];rfl),hK2⟩,by simp only;omega⟩,.sub (.cons _ (.refl _)) .refl,.cons .refl (.cons .refl (.cons .refl (.cons .refl (.cons .refl (.cons .refl (.cons .refl (.cons .lit (.cons .refl (.cons .refl .nil))))))))),.cons rfl (.cons rfl (.cons rfl (.cons rfl (.nil))))⟩
   ·refine GuardOb.mk (fun h=>absurd (h.symm.trans hk5) (by simp)) (fun _=>?_)
    refine LoadOb.mk _ (rW (.head _)) ?_
    refine CallOb.whole _ (ROr_fr w x.w) ?_
    rintro v K5 N5 - ⟨rfl,hK5,hN5⟩
    subst K5
    subst N5
    refine GuardOb.mk (fun h=>absurd h (by simp)) (fun _=>?_)
    refine GuardOb.mk (fun h=>absurd h (by simp)) (fun _=>?_)
    refine ArithOb.mk _ (next_wr (i:=i) (by omega)) ?_
    exact⟨(i+1,(w.or x.w,false && x.f,true || x.f),K2),⟨⟨hlt,hst _ (by rw[hk5];rfl),hK2⟩,by simp only;omega⟩,.sub (.cons _ (.refl _)) .refl,.cons .refl (.cons .refl (.cons .refl (.cons .refl (.cons .refl (.cons .refl (.cons .refl (.cons .lit (.cons .lit (.cons .refl .nil))))))))),.cons rfl (.cons rfl (.cons rfl (.cons rfl (.nil))))⟩
   ·refine GuardOb.mk (fun h=>absurd (h.symm.trans hk5) (by simp)) (fun _=>?_)
    refine LoadOb.mk _ (rW (.head _)) ?_
    refine CallOb.whole _ (ROr_fr w x.w) ?_
    rintro v K5 N5 - ⟨rfl,hK5,hN5⟩
    subst K5
    subst N5
    refine GuardOb.mk (fun _=>?_) (fun h=>absurd h (by simp))
    refine LoadOb.mk _ (rF (.head _)) ?_
    refine GuardOb.mk (fun _=>?_) (fun h=>absurd h (by simp))
    refine LoadOb.mk _ (rF (.head _)) ?_
    refine ArithOb.mk _ (next_wr (i:=i) (by omega)) ?_
    exact⟨(i+1,(w.or x.w,true && x.f,false || x.f),K2),⟨⟨hlt,hst _ (by rw[hk5];rfl),hK2⟩,by simp only;omega⟩,.sub (.cons _ (.refl _)) .refl,.cons .refl (.cons .refl (.cons .refl (.cons .refl (.cons .refl (.cons .refl (.cons .refl (.cons .refl (.cons .refl (.cons .refl .nil))))))))),.cons rfl (.cons rfl (.cons rfl (.cons rfl (.nil))))⟩
   ·refine GuardOb.mk (fun h=>absurd (h.symm.trans hk5) (by simp)) (fun _=>?_)
    refine LoadOb.mk _ (rW (.head _)) ?_
    refine CallOb.whole _ (ROr_fr w x.w) ?_
    rintro v K5 N5 - ⟨rfl,hK5,hN5⟩
    subst K5
    subst N5
    refine GuardOb.mk (fun _=>?_) (fun h=>absurd h (by simp))
    refine LoadOb.mk _ (rF (.head _)) ?_
    refine GuardOb.mk (fun h=>absurd h (by simp)) (fun _=>?_)
    refine ArithOb.mk _ (next_wr (i:=i) (by omega)) ?_
    exact⟨(i+1,(w.or x.w,true && x.f,true || x.f),K2),⟨⟨hlt,hst _ (by rw[hk5];rfl),hK2⟩,by simp only;omega⟩,.sub (.cons _ (.refl _)) .refl,.cons .refl (.cons .refl (.cons .refl (.cons .refl (.cons .refl (.cons .refl (.cons .refl (.cons .refl (.cons .lit (.cons .refl .nil))))))))),.cons rfl (.cons rfl (.cons rfl (.cons rfl (.nil))))⟩
  all_goals
   have hsp:=RFTree_spec (lc:=fc) (M0:=os.blk 43++M0) hgJ htJ hf ((hF.mono hJ).sub fun z hz=>by simp[hz])
   rw[htp] at hsp
   refine CallOb.whole _ hsp ?_
   rintro v K N - ⟨hK,hN,rfl⟩
   subst K
   subst N
   rw[hAN hk78] at fin ⊢
   refine GuardOb.mk (fun hz=>?_) (fun hz=>?_)
   ·refine⟨_,M0,.sub (List.sublist_append_right _ _) .refl,fin (fun _ _ h=>h) rfl ?_⟩
    have hz':y.z=false:=hz
    refine congrArg (fun b=>Fi.val ⟨.zero,b⟩) (?_:y.s=y.suc)
    simp[Fl.suc,hz']
   ·refine⟨_,M0,.sub (List.sublist_append_right _ _) .refl,fin (fun _ _ h=>h) rfl ?_⟩
    have hz':y.z=true:=hz
    refine congrArg (fun b=>Fi.val ⟨.zero,b⟩) (?_:true=y.suc)
    simp[Fl.suc,hz']
end Go.V
namespace Go.V
open Go
def allR {α:Type} (n:Nat) (body:List α→Nat→α) (l:List α):List α:=(List.range n).map (body l)
theorem allR_len {α:Type} (n:Nat) (body:List α→Nat→α) (l:List α):(allR n body l).length=n:=by simp[allR]
theorem allR_get {α:Type} {n:Nat} (body:List α→Nat→α) (l:List α) (b:α) {i:Nat} (h:i < n):(allR n body l).getD i b=body l i:=by simp[allR,List.getD_eq_getElem?_getD,h]
def jacR {α:Type} (O:OrdB α) (n:Nat) (body:List α→Nat→α):Nat→List α
 | 0=>List.replicate n O.bot
 | k+1=>allR n body (jacR O n body k)
section
variable {α:Type} {O:OrdB α} {n:Nat} {body:List α→Nat→α} (hmono:∀ {l m:List α},LeR O l m→∀ i,i < n→O.le (body l i) (body m i))
include hmono
theorem PreR.all {l:List α} (h:PreR O n body l):PreR O n body (allR n body l)∧LeR O l (allR n body l):=by
 have hle:LeR O l (allR n body l):=.of (by rw[allR_len,h.len]) fun i hi=>by
  rw[allR_get _ _ _ (by rw[←h.len];exact hi)]
  exact h.up i (by rw[←h.len];exact hi)
 refine⟨⟨allR_len _ _ _,fun i hi=>?_,fun m hm hc=>?_⟩,hle⟩
 ·rw[allR_get _ _ _ hi]
  exact hmono hle i hi
 ·refine .of (by rw[allR_len,hm]) fun i hi=>?_
  rw[allR_len] at hi
  rw[allR_get _ _ _ hi]
  exact O.trans (hmono (h.least m hm hc) i hi) (hc i hi)
theorem jacR_pre:∀ k,PreR O n body (jacR O n body k)
 | 0=>PreR.start n body
 | k+1=>((jacR_pre k).all hmono).1
theorem jacR_up (k:Nat):LeR O (jacR O n body k) (jacR O n body (k+1)):=((jacR_pre hmono k).all hmono).2
theorem jacR_done {k:Nat} (h:jacR O n body (k+1)=jacR O n body k):IsR O n body (jacR O n body k):=
 ⟨(jacR_pre hmono k).len,fun i hi=>by
  have:=allR_get body (jacR O n body k) O.bot hi
  rw[←this]
  exact congrArg (fun l=>l.getD i O.bot) h.symm,(jacR_pre hmono k).least⟩
end
theorem offsI_rep (n:Nat):offsI (List.replicate n fi0)=257 * n:=by
 induction n with
 | zero=>rfl
 | succ n ih=>
  rw[List.replicate_succ]
  simp only[offsI,List.map_cons,List.sum_cons] at ih ⊢
  rw[ih,show offI fi0=257 by decide +kernel]
  omega
section
variable {n:Nat} {body:List Fi→Nat→Fi} (hmono:∀ {l m:List Fi},LeR OI l m→∀ i,i < n→OI.le (body l i) (body m i))
include hmono
theorem jacI_stable:∀ k,jacR OI n body (k+1)=jacR OI n body k∨offsI (jacR OI n body k)+k≤257 * n
 | 0=>.inr (by
  have:jacR OI n body 0=List.replicate n fi0:=rfl
  rw[this,offsI_rep]
  omega)
 | k+1=>by
  rcases jacI_stable k with h | h
  ·left
   rw[jacR,h]
   exact h
  ·by_cases e:jacR OI n body (k+1)=jacR OI n body k
   ·left
    rw[jacR,e]
    exact e
   ·right
    have:=offsI_lt (jacR_up hmono k) e
    omega
theorem jacI_is {k:Nat} (hk:257 * n < k):IsR OI n body (jacR OI n body k):=by
 refine jacR_done hmono ?_
 rcases jacI_stable hmono k with h | h
 ·exact h
 ·omega
end
end Go.V
namespace Go.V
open Go Go.Proofs
structure FA where
 l:List Fl
 a:Option Addr
 n:Nat
 c:Nat
def FA.val (x:FA):Value:=.slice x.a x.n x.c
theorem treeP_body {g:Gr} (h:MayF g) {m:List Fl} (hm:m.length=g.n) {d:Df} (hd:d∈g.ds):treeP g m d.t=some (bodyF (placesL g.ds) m d):=by
 unfold treeP nodesP bodyF
 rw[h.right d hd,h.named d hd]
 simp[hm]
end Go.V
namespace Go.V
open Go Go.Proofs
def jacF (ds:List Df):Nat→List Fl
 | 0=>List.replicate ds.length fl0
 | n+1=>ds.map (bodyF (placesL ds) (jacF ds n))
theorem map_getD {ds:List Df} {f:Df→Fl} {i:Nat} (h:i < ds.length):(ds.map f).getD i fl0=f ds[i]:=by simp[List.getD_eq_getElem?_getD,h]
theorem PreF.all {ds:List Df} {l:List Fl} (h:PreF ds l):PreF ds (ds.map (bodyF (placesL ds) l))∧LeL l (ds.map (bodyF (placesL ds) l)):=by
 have hle:LeL l (ds.map (bodyF (placesL ds) l)):=LeL.of (by simp[h.len]) fun i hi=>by
  rw[map_getD (by rw[←h.len];exact hi)]
  exact h.up i _
 refine⟨⟨by simp,fun i hi=>?_,fun m hm hc=>LeL.of (by simp[hm]) fun i hi=>?_⟩,hle⟩
 ·rw[map_getD hi]
  exact body_mono hle _
 ·have hi':i < ds.length:=by simpa using hi
  rw[map_getD hi']
  exact(body_mono (h.least m hm hc) _).trans (hc i hi')
theorem jacF_pre (ds:List Df):∀ n,PreF ds (jacF ds n)
 | 0=>.start ds
 | n+1=>(jacF_pre ds n).all.1
theorem offs_rep (n:Nat):offs (List.replicate n fl0)=3 * n:=by
 induction n with
 | zero=>rfl
 | succ n ih=>
  rw[List.replicate_succ]
  simp only[offs,List.map_cons,List.sum_cons] at ih ⊢
  rw[ih,show offF fl0=3 from rfl]
  omega
theorem jacF_stable (ds:List Df):∀ n,jacF ds (n+1)=jacF ds n∨offs (jacF ds n)+n≤3 * ds.length
 | 0=>.inr (by rw[jacF,offs_rep];omega)
 | n+1=>by
  rcases jacF_stable ds n with h | h
  ·left
   rw[jacF,h]
   exact h
  ·by_cases e:jacF ds (n+1)=jacF ds n
   ·left
    rw[jacF,e]
    exact e
   ·right
    have:=offs_lt (jacF_pre ds n).all.2 e
    have e2:ds.map (bodyF (placesL ds) (jacF ds n))=jacF ds (n+1):=rfl
    rw[e2] at this
    omega
theorem jacF_flow (ds:List Df) {n:Nat} (hn:3 * ds.length < n):IsFlow ds (jacF ds n):=by
 have h:jacF ds (n+1)=jacF ds n:=by
  rcases jacF_stable ds n with h | h
  ·exact h
  ·omega
 have hp:=jacF_pre ds n
 refine⟨hp.len,fun i hi=>?_,hp.least⟩
 have:(jacF ds (n+1)).getD i fl0=(jacF ds n).getD i fl0:=by rw[h]
 rw[←this,jacF,map_getD hi]
def flRowR (b:Nat) (l:List Fl):Blk:=⟨b,.cells (l.flatMap Fl.cells).toArray 161 (0,0)⟩
theorem flRowR_at {I:GH} {M:List Blk} {b:Nat} {l:List Fl} (hM:flRowR b l∈M):FsAt I M (some ⟨b,0,none⟩) l.length l:=
 ⟨rfl,fun j hj=>⟨_,rfl,by
  have:=blk_rd (I:=I) (cs:=l.flatMap Fl.cells) (k:=j * 3) (n:=3) hM (by rw[fl_len];omega)
  rwa [flat_at Fl.cells 3 Fl.cells_len l j hj] at this⟩⟩
theorem jac_set (f:Df→Fl) (ds:List Df) (i:Nat) (hi:i < ds.length):((ds.take i).map f++List.replicate (ds.length - i) fl0).set i (f ds[i])=(ds.take (i+1)).map f++List.replicate (ds.length - (i+1)) fl0:=by
 rw[rep_at _ ds.length i (by simp;omega) hi,List.take_succ_eq_append_getElem hi,List.map_append]
 rfl
set_option maxHeartbeats 8000000 in
theorem ROf_spec {I:GH} {deb:List Int} (hcl:ClsOk deb) {g:Gr} (hg:g.ok I) (hf:GFit g):Spec Tryz.prog 63 [g.val] I [] fun v I' M'=>I'=I ∧
  ((mayG deb g≠0∧v=.tuple #[.slice none 0 0,.int .i64 (mayG deb g)]∧M'=[])∨(mayG deb g=0∧∃ b l,v=.tuple #[.slice (some ⟨b,0,none⟩) g.n g.n,.int .i64 0]∧M'=[flRowR b l]∧IsFlow g.ds l)):=by
 refine spec_of_V [] TryzEOK Tryz.func63 rfl rfl rfl ?_
 intro B h0
 have hgn:=hg.n
 have hcap:=hg.rs.cap
 have hfn:=hf.n
 refine CallOb.mk [] [] _ (.refl _) (RMay9_spec hcl hg hf) ?_
 rintro v I1 M1 - ⟨rfl,rfl,rfl⟩
 have hme:mayR deb g=mayG deb g:=mayR_eq deb g
 refine CondOb.mk (fun h=>?_) (fun h=>?_)
 ·have hm:mayR deb g≠0:=by simpa using h
  rw[hme] at hm
  exact⟨_,_,.refl,rfl,.inl ⟨hm,by rw[←hme],rfl⟩⟩
 have hm:mayG deb g=0:=by rw[←hme];simpa using h
 have hM:=mayF_of hgn hm
 refine MakeOb.mk g.n g.n rfl rfl (Nat.le_refl _) (by show 3 * g.n≤_;omega) (by omega) ?_
 refine AllocOb.mk fun b0 hb0 hbM0=>?_
 have e:rowOf fl0.cells (g.n * 3)=(List.replicate g.ds.length fl0).flatMap Fl.cells:=by rw[hgn];exact rowOf_fl g.n
 refine LoopOb.inv (ι:=Nat×Nat) (fun x=>{ fl:=[(1,.ref 1 0),(5,.val (.slice (some ⟨x.2,0,none⟩) g.n g.n)),(6,.val (.int .i64 x.1))],cl:=[(1,[.slice g.a g.n g.c])],gi:=I1,mi:=[flRowR x.2 (jacF g.ds x.1)] })
  (fun x=>x.1≤3 * g.n+1) (fun x=>3 * g.n+1 - x.1) ?_ ?_
 ·refine⟨(0,b0),Nat.zero_le _,.eqM ?_,.cons .refl (.cons .refl (.cons .refl (.nil))),.cons rfl (.nil)⟩
  simp only[flRowR,jacF]
  rw[←e]
  rfl
 rintro⟨k,b⟩ hk
 simp only at hk
 refine ArithOb.mk ((3 * g.n:Nat):Int) (wr_eq (by simp) (by omega)) ?_
 refine CondOb.mk (fun h=>?_) (fun h=>?_)
 rotate_left
 ·have hge:k=3 * g.n+1:=by have:¬ (k:Int)≤((3 * g.n:Nat):Int):=of_decide_eq_false h;omega
  exact⟨_,_,.refl,rfl,.inr ⟨hm,b,_,rfl,rfl,jacF_flow g.ds (by omega)⟩⟩
 have hlt:k≤3 * g.n:=by have:(k:Int)≤((3 * g.n:Nat):Int):=of_decide_eq_true h;omega
 have hjl:(jacF g.ds k).length=g.n:=by rw[(jacF_pre g.ds k).len,hgn]
 refine MakeOb.mk g.n g.n rfl rfl (Nat.le_refl _) (by show 3 * g.n≤_;omega) (by omega) ?_
 refine AllocOb.mk fun b2 hb2 hbM2=>?_
 refine LoopOb.inv (ι:=Nat) (fun i=>{ fl:=[(1,.ref 1 0),(5,.val (.slice (some ⟨b,0,none⟩) g.n g.n)),(6,.val (.int .i64 k)),(7,.val (.slice (some ⟨b2,0,none⟩) g.n g.n)),(8,.val (.int .i64 i))],cl:=[(1,[.slice g.a g.n g.c])],gi:=I1,mi:=[flRowR b2 ((g.ds.take i).map (bodyF (placesL g.ds) (jacF g.ds k))++List.replicate (g.ds.length - i) fl0),flRowR b (jacF g.ds k)] })
  (fun i=>i≤g.n) (fun i=>g.n - i) ?_ ?_
 ·refine⟨0,Nat.zero_le _,.eqM ?_,.cons .refl (.cons .refl (.cons .refl (.cons .refl (.cons .refl (.nil))))),.cons rfl (.nil)⟩
  simp only[List.take_zero,List.map_nil,List.nil_append,Nat.sub_zero]
  unfold flRowR
  rw[←e]
  rfl
 rintro i hi
 refine CondOb.mk (fun h=>?_) (fun h=>?_)
 rotate_left
 ·have hge:i=g.n:=by have:¬ (i:Int) < (g.n:Int):=of_decide_eq_false h;omega
  refine ArithOb.mk _ (next_wr (i:=k) (by omega)) ?_
  refine⟨(k+1,b2),⟨by simp only;omega,by simp only;omega⟩,.sub (.cons_cons _ (List.nil_sublist _)) (.eqM ?_),.cons .refl (.cons .refl (.cons .refl (.nil))),.cons rfl (.nil)⟩
  rw[hge,←hgn,List.take_length,Nat.sub_self,List.replicate_zero,List.append_nil]
  rfl
 have hil:i < g.n:=by have:(i:Int) < (g.n:Int):=of_decide_eq_true h;omega
 have hil':i < g.ds.length:=by omega
 obtain⟨ad,had,hrd⟩:=hg.rs.row Df.cells_len hil hil'
 have hdm:=List.getElem_mem hil'
 have htb:=treeP_body hM hjl hdm
 refine CodeOb.draw TryzEOK rfl rfl rfl ?_
 refine IdxOb.mk ad i had rfl hil ?_
 refine LoadOb.mk _ ((hrd _).part (k:=1) (m:=2) (by decide)) ?_
 have hfs:=flRowR_at (I:=I1) (M:=[flRowR b2 ((g.ds.take i).map (bodyF (placesL g.ds) (jacF g.ds k))++List.replicate (g.ds.length - i) fl0),flRowR b (jacF g.ds k)]) (b:=b) (l:=jacF g.ds k) (.tail _ (.head _))
 rw[hjl] at hfs
 have hsp:=RFTree_spec hg (hg.ds _ hdm).t (hf.ds _ hdm) (lc:=g.n) hfs
 rw[htb] at hsp
 refine PCallOb.mkR _ [] _ perm_nil hsp (fun v I' M' h x hx=>by rw[h.2.1];exact hx) ?_
 rintro v I2 M2 - ⟨rfl,rfl,rfl⟩
 rw[List.append_nil]
 refine IdxOb.mk ⟨b2,0,none⟩ i rfl rfl hil ?_
 refine StoreOb.addTo [] [flRowR b (jacF g.ds k)] (((g.ds.take i).map (bodyF (placesL g.ds) (jacF g.ds k))++List.replicate (g.ds.length - i) fl0).flatMap Fl.cells) _ rfl ?_ rfl (((g.ds.take (i+1)).map (bodyF (placesL g.ds) (jacF g.ds k))++List.replicate (g.ds.length - (i+1)) fl0).flatMap Fl.cells) ?_ ?_
 ·exact ble_fl (by simp;omega) hil' (bodyF (placesL g.ds) (jacF g.ds k) g.ds[i])
 ·rw[Nat.zero_add]
  have:=flRow_set ((g.ds.take i).map (bodyF (placesL g.ds) (jacF g.ds k))++List.replicate (g.ds.length - i) fl0) i (by simp;omega) (bodyF (placesL g.ds) (jacF g.ds k) g.ds[i])
  rw[jac_set _ _ _ hil'] at this
  exact this
 refine ArithOb.mk _ (next_wr (i:=i) (by omega)) ?_
 exact⟨i+1,⟨by omega,by omega⟩,.refl,.cons .refl (.cons .refl (.cons .refl (.cons .refl (.cons .refl (.nil))))),.cons rfl (.nil)⟩
end Go.V
namespace Go.V
open Go Go.Proofs
theorem RMay_fr {I:GH} {M0:List Blk} {deb:List Int} (hcl:ClsOk deb) {g:Gr} (hg:g.ok I) (hf:GFit g):Spec Tryz.prog 61 [g.val] I M0 (fun v I' M'=>v=.int .i64 (mayG deb g)∧I'=I∧M'=M0):=by
 refine Spec.weakK (Spec.frame (RMay9_spec hcl hg hf)) ?_
 rintro v J M ⟨M',rfl,-,-,rfl,rfl,rfl⟩
 rw[mayR_eq]
 exact⟨rfl,rfl,rfl⟩
theorem namedOk_snoc (pl:List (ByteArray×Int)) (l:List Nd) (d:Nd):namedOk pl (l++[d])=(namedOk pl l && (!decide (d.k=3) || (lookM d.t pl).isSome)):=by
 simp[namedOk]
theorem namedOk_pre {pl:List (ByteArray×Int)} {l:List Nd} {i:Nat} (h:namedOk pl (l.take i)=false):namedOk pl l=false:=by
 cases hb:namedOk pl l with
 | false=>rfl
 | true=>
  have:namedOk pl (l.take i)=true:=List.all_eq_true.2 fun d hd=>List.all_eq_true.1 hb d (List.mem_of_mem_take hd)
  rw[this] at h
  cases h
set_option maxRecDepth 100000 in
set_option maxHeartbeats 4000000 in
theorem RIfits_spec {I:GH} {M0:List Blk} {deb:List Int} (hcl:ClsOk deb) {g:Gr} (hg:g.ok I) (hf:GFit g) {t:Tr} (ht:t.ok I) {W:Nat} (hft:Fit t W) {la:Option Addr} {ln lc:Nat} {l:List Fi} (hln:l.length=ln) {r:Bool} (hok:okI deb g l t=r) :
  Spec Tryz.prog 79 [g.val,.slice la ln lc,t.val] I M0 fun v I' M'=>v=.bool r∧I'=I∧M'=M0:=by
 refine spec_of_V [] TryzEOK Tryz.func79 rfl rfl rfl ?_
 intro B h0
 have hgn:=hg.n
 have htn:=ht.n
 have hcap:=ht.rs.cap
 have hfn:=hft.n
 refine CallOb.whole _ (RMay_fr hcl hg hf) ?_
 rintro v J N - ⟨rfl,hJ,hN⟩
 subst J
 subst N
 obtain⟨rr,hrr⟩:∃ rr,right t=rr:=⟨_,rfl⟩
 refine GuardOb.mk (fun hm=>?_) (fun hm=>?_)
 rotate_left
 ·have hm':¬ mayG deb g=0:=by simpa using hm
  refine⟨_,_,.refl,?_,rfl,rfl⟩
  rw[←hok,okI,decide_eq_false hm']
  simp
 have hm':mayG deb g=0:=by simpa using hm
 refine GuardOb.mk (fun hl=>?_) (fun hl=>?_)
 rotate_left
 ·have hl':¬ l.length=g.n:=by
   have:¬ (ln:Int)=(g.n:Int):=by simpa using hl
   omega
  refine⟨_,_,.refl,?_,rfl,rfl⟩
  rw[←hok,okI,decide_eq_false hl']
  simp
 have hl':l.length=g.n:=by
  have:(ln:Int)=(g.n:Int):=by simpa using hl
  omega
 refine CallOb.whole _ (RRight_fr ht hft hrr) ?_
 rintro v J N - ⟨rfl,hJ,hN⟩
 subst J
 subst N
 have hok2:okI deb g l t=(rr && namedOk (placesL g.ds) t.ns):=by
  rw[okI,decide_eq_true hl',decide_eq_true hm',hrr]
  simp
 rw[hok2] at hok
 refine CondOb.mk (fun hb=>?_) (fun hb=>?_)
 ·have hb':rr=false:=by simpa using hb
  refine⟨_,_,.refl,?_,rfl,rfl⟩
  rw[←hok,hb']
  rfl
 have hb':rr=true:=by simpa using hb
 rw[hb',Bool.true_and] at hok
 refine LoopOb.inv (ι:=Nat) (fun i=>{ fl:=[(3,.ref 3 0),(5,.ref 5 0),(7,.val (.int .i64 i))],cl:=[(3,[.slice g.a g.n g.c]),(5,t.cells)],gi:=I,mi:=M0 }) (fun i=>i≤t.n∧namedOk (placesL g.ds) (t.ns.take i)=true) (fun i=>t.n - i) ?_ ?_
 ·exact⟨0,⟨Nat.zero_le _,rfl⟩,.refl,.cons .refl (.cons .refl (.cons .refl (.nil))),.cons rfl (.cons rfl (.nil))⟩
 rintro i ⟨hi,hnm⟩
 refine CondOb.mk (fun h=>?_) (fun h=>?_)
 rotate_left
 ·have hge:i=t.n:=by have:¬ (i:Int) < (t.n:Int):=of_decide_eq_false h;omega
  rw[List.take_of_length_le (by omega)] at hnm
  refine⟨_,_,.refl,?_,rfl,rfl⟩
  rw[←hok,hnm]
 have hlt:i < t.n:=by have:(i:Int) < (t.n:Int):=of_decide_eq_true h;omega
 have hlt':i < t.ns.length:=by omega
 obtain⟨ad,had,hrd⟩:=ht.rs.row Nd.cells_len hlt hlt'
 have hsn:namedOk (placesL g.ds) (t.ns.take (i+1))=(!decide (t.ns[i].k=3) || (lookM t.ns[i].t (placesL g.ds)).isSome):=by
  rw[List.take_succ_eq_append_getElem hlt',namedOk_snoc,hnm,Bool.true_and]
 generalize t.ns[i]=d at hrd hsn
 refine CodeOb.draw TryzEOK rfl rfl rfl ?_
 refine IdxOb.mk ad i had rfl hlt ?_
 refine LoadOb.mk _ ((hrd _).part (k:=0) (m:=1) (by decide)) ?_
 refine GuardOb.mk (fun h3=>?_) (fun h3=>?_)
 rotate_left
 ·have h3':¬ d.k=3:=of_decide_eq_false h3
  rw[decide_eq_false h3'] at hsn
  refine ArithOb.mk _ (next_wr (i:=i) (by omega)) ?_
  exact⟨i+1,⟨⟨hlt,hsn⟩,by omega⟩,.refl,.cons .refl (.cons .refl (.cons .refl (.nil))),.cons rfl (.cons rfl (.nil))⟩
 have h3':d.k=3:=of_decide_eq_true h3
 rw[decide_eq_true h3'] at hsn
 have hlk:=look_find d.t g.ds
 have hsp:Spec Tryz.prog 104 [g.val,.string d.t] I M0 (fun v I' M'=>v=.int .i64 (findAt d.t g.ds 0)∧I'=I∧M'=M0):=by
  refine Spec.weakK (Spec.frame (RFind_spec hg d.t)) ?_
  rintro v J M ⟨M',rfl,-,-,rfl,rfl,rfl⟩
  exact⟨rfl,rfl,rfl⟩
 refine IdxOb.mk ad i had rfl hlt ?_
 refine LoadOb.mk _ ((hrd _).part (k:=5) (m:=1) (by decide)) ?_
 refine CallOb.whole _ hsp ?_
 rintro v J N - ⟨rfl,hJ,hN⟩
 subst J
 subst N
 refine CondOb.mk (fun h4=>?_) (fun h4=>?_)
 ·have h4':decide (findAt d.t g.ds 0 < 0)=true:=h4
  rw[h4'] at hlk
  refine⟨_,_,.refl,?_,rfl,rfl⟩
  rw[←hok,namedOk_pre (i:=i+1) (by rw[hsn,hlk];rfl)]
 ·have h4':decide (findAt d.t g.ds 0 < 0)=false:=h4
  rw[h4'] at hlk
  refine ArithOb.mk _ (next_wr (i:=i) (by omega)) ?_
  exact⟨i+1,⟨⟨hlt,by rw[hsn,hlk];rfl⟩,by omega⟩,.refl,.cons .refl (.cons .refl (.cons .refl (.nil))),.cons rfl (.cons rfl (.nil))⟩
def fiRowR (b:Nat) (l:List Fi):Blk:=⟨b,.cells (l.flatMap Fi.cells).toArray 70 (0,0)⟩
theorem fiRowR_rd {I:GH} {M:List Blk} {b:Nat} {l:List Fi} (hM:fiRowR b l∈M) {j:Nat} (hj:j < l.length):Rd I M ((⟨b,0,none⟩:Addr).add (j * 5)) 5 l[j].cells:=by
 have:=blk_rd (I:=I) (cs:=l.flatMap Fi.cells) (k:=j * 5) (n:=5) hM (by rw[fi_len];omega)
 rwa [flat_at Fi.cells 5 Fi.cells_len l j hj] at this
theorem fiRowR_at {I:GH} {M:List Blk} {b:Nat} {l:List Fi} (hM:fiRowR b l∈M):IsAt I M (some ⟨b,0,none⟩) l.length l:=
 ⟨rfl,fun j hj=>⟨_,rfl,fiRowR_rd hM hj⟩⟩
theorem RFOf_fr {I:GH} {M0:List Blk} {deb:List Int} (hcl:ClsOk deb) {g:Gr} (hg:g.ok I) (hf:GFit g):Spec Tryz.prog 63 [g.val] I M0 fun v I' M'=>I'=I ∧
  ((mayG deb g≠0∧v=.tuple #[.slice none 0 0,.int .i64 (mayG deb g)]∧M'=M0)∨(mayG deb g=0∧∃ b F,v=.tuple #[.slice (some ⟨b,0,none⟩) g.n g.n,.int .i64 0]∧M'=flRowR b F::M0∧IsFlow g.ds F)):=by
 refine Spec.weakK (Spec.frame (ROf_spec hcl hg hf)) ?_
 rintro v J M ⟨M',rfl,-,-,rfl,⟨h1,rfl,rfl⟩ | ⟨h1,b,F,rfl,rfl,h2⟩⟩
 ·exact⟨rfl,.inl ⟨h1,rfl,rfl⟩⟩
 ·exact⟨rfl,.inr ⟨h1,b,F,rfl,rfl,h2⟩⟩
theorem nodes_pair {pl:List (ByteArray×Int)} {F:List Fl} {l:List Fi} (ns:List Nd):(List.range ns.length).map (fun i:Nat=>(pairAt pl F l ns i).2)=nodesI pl l (nodesF pl F ns []) ns []:=by
 have hl:=nodesI_len pl l (nodesF pl F ns []) ns []
 apply List.ext_getElem
 ·simp[hl]
 ·intro i h1 h2
  simp only[List.getElem_map,List.getElem_range,pair_at,Int.toNat_natCast]
  simp[List.getD_eq_getElem?_getD,h2]
set_option maxRecDepth 100000 in
set_option maxHeartbeats 8000000 in
theorem RINodes_spec {I:GH} {M0:List Blk} {deb:List Int} (hcl:ClsOk deb) {g:Gr} (hg:g.ok I) (hf:GFit g) {t:Tr} (ht:t.ok I) {W:Nat} (hft:Fit t W) {la:Option Addr} {ln lc:Nat} {l:List Fi} (hl:IsAt I M0 la ln l) :
  Spec Tryz.prog 40 [g.val,.slice la ln lc,t.val] I M0 fun v I' M'=>(∀ b o,I b=some o→I' b=some o) ∧
   ((okI deb g l t=false∧v=.tuple #[.slice none 0 0,.bool false]∧M'=M0)∨(okI deb g l t=true∧∃ F,∃ os:OS,IsFlow g.ds F∧os.ok 5 ((nodesI (placesL g.ds) l (nodesF (placesL g.ds) F t.ns []) t.ns []).flatMap Fi.cells)∧v=.tuple #[os.val,.bool true]∧M'=os.blk 70++M0)):=by
 refine spec_of_V [] TryzEOK Tryz.func40 rfl rfl rfl ?_
 intro B h0
 have hgn:=hg.n
 have htn:=ht.n
 have hcap:=ht.rs.cap
 have hfn:=hft.n
 have hln:=hl.n
 obtain⟨ok,hok⟩:∃ ok,okI deb g l t=ok:=⟨_,rfl⟩
 refine CallOb.whole _ (RIfits_spec hcl hg hf ht hft hln hok) ?_
 rintro v J N - ⟨rfl,hJ,hN⟩
 subst J
 subst N
 rw[hok]
 refine CondOb.mk (fun h=>?_) (fun h=>?_)
 ·have h':ok=false:=by simpa using h
  exact⟨_,_,.refl,fun _ _ h=>h,.inl ⟨h',rfl,rfl⟩⟩
 have h':ok=true:=by simpa using h
 have hok2:=hok
 rw[h',okI] at hok2
 simp only[Bool.and_eq_true,decide_eq_true_eq] at hok2
 obtain⟨hlg,hm,hr,hno⟩:=hok2
 refine CallOb.whole _ (RFOf_fr hcl hg hf) ?_
 rintro v J N - ⟨hJ,⟨hm',-⟩ | ⟨-,bf,F,rfl,rfl,hF⟩⟩
 ·exact(hm' hm).elim
 subst J
 have hFn:F.length=g.n:=by rw[hF.len,hgn]
 obtain rfl:ln=g.n:=by omega
 refine LoopOb.inv (ι:=Nat×OS×GH) (fun x=>{ fl:=[(1,.val (.slice la g.n lc)),(3,.ref 3 0),(5,.ref 5 0),(8,.val (.slice (some ⟨bf,0,none⟩) g.n g.n)),(10,.val x.2.1.val),(11,.val (.int .i64 x.1))],cl:=[(3,[.slice g.a g.n g.c]),(5,t.cells)],gi:=x.2.2,mi:=x.2.1.blk 70++(flRowR bf F::M0) })
  (fun x=>x.1≤t.n∧x.2.1.ok 5 (((List.range x.1).map (fun i:Nat=>(pairAt (placesL g.ds) F l t.ns i).2)).flatMap Fi.cells)∧∀ b o,I b=some o→x.2.2 b=some o) (fun x=>t.n - x.1) ?_ ?_
 ·exact⟨(0,OS0,I),⟨Nat.zero_le _,OS0_ok 5,fun _ _ h=>h⟩,.refl,.cons .refl (.cons .refl (.cons .refl (.cons .refl (.cons .refl (.cons .refl (.nil)))))),.cons rfl (.cons rfl (.nil))⟩
 rintro⟨i,os,K⟩ ⟨hi,hos,hK⟩
 simp only at hi hos hK
 have hosn:os.n=i:=by
  have:=hos.len
  rw[fi_len,List.length_map,List.length_range] at this
  omega
 refine CondOb.mk (fun h=>?_) (fun h=>?_)
 rotate_left
 ·have hge:i=t.n:=by have:¬ (i:Int) < (t.n:Int):=of_decide_eq_false h;omega
  rw[hge,←htn,nodes_pair] at hos
  exact⟨_,os.blk 70++M0,.sub (List.Sublist.append (.refl _) (.cons _ (.refl _))) .refl,hK,.inr ⟨h',F,os,hF,hos,rfl,rfl⟩⟩
 have hlt:i < t.n:=by have:(i:Int) < (t.n:Int):=of_decide_eq_true h;omega
 have hlt':i < t.ns.length:=by omega
 refine CallOb.whole _ (RSub_fr (ht.mono hK) hr hft hlt) ?_
 rintro v K2 N - ⟨hK2,hN,t',rfl,ht',hS⟩
 subst N
 have hK12:∀ b o,I b=some o→K2 b=some o:=fun b o h=>hK2 _ _ (hK _ _ h)
 have hFs:FsAt K2 (os.blk 70++(flRowR bf F::M0)) (some ⟨bf,0,none⟩) g.n F:=by
  have:=flRowR_at (I:=K2) (M:=os.blk 70++(flRowR bf F::M0)) (b:=bf) (l:=F) (by simp)
  rwa [hFn] at this
 have hsp:=RIfirst_spec (g:=g) (F:=F) (l:=l) hFn hlg (W:=W) t'.ns.length (M0:=os.blk 70++(flRowR bf F::M0)) (hg.mono hK12) ht' (subAt_right hr hlt' hS) (subAt_fit hr hft ht hlt' hS ht') (subAt_named hr hno hlt' hS) (fc:=g.n) hFs (lc:=lc) ((hl.mono hK12).sub fun z hz=>by simp[hz]) (Nat.le_refl _)
 rw[subAt_pair hr hlt' hS] at hsp
 obtain⟨y,hy⟩:∃ y,(pairAt (placesL g.ds) F l t.ns i).2=y:=⟨_,rfl⟩
 rw[hy] at hsp
 refine CallOb.whole _ hsp ?_
 rintro v K3 N - ⟨hK3,hN,rfl⟩
 subst N
 refine AllocOb.mk fun b9 hb9 hbM9=>?_
 refine OtherOb.app1 TryzEOK rfl (by simp) (e:=70) rfl rfl rfl os hos rfl (cs:=y.cells) rfl rfl rfl [] (flRowR bf F::M0) rfl (by omega) (by show (os.n+1) * 40≤_;omega) ?_
 intro os2 hn2 hI2 hok2
 refine ArithOb.mk _ (next_wr (i:=i) (by omega)) ?_
 refine⟨(i+1,os2,K3),⟨⟨hlt,?_,fun b o h=>hK3 _ _ (hK12 _ _ h)⟩,by simp only;omega⟩,.refl,.cons .refl (.cons .refl (.cons .refl (.cons .refl (.cons .refl (.cons .refl (.nil)))))),.cons rfl (.cons rfl (.nil))⟩
 simp only
 rw[List.range_succ,List.map_append,List.map_cons,List.map_nil,hy,flatI_snoc]
 exact hok2
theorem RITree_spec {I:GH} {M0:List Blk} {deb:List Int} (hcl:ClsOk deb) {g:Gr} (hg:g.ok I) (hf:GFit g) {t:Tr} (ht:t.ok I) {W:Nat} (hft:Fit t W) {la:Option Addr} {ln lc:Nat} {l:List Fi} (hl:IsAt I M0 la ln l) :
  Spec Tryz.prog 42 [g.val,.slice la ln lc,t.val] I M0 fun v I' M'=>(∀ b o,I b=some o→I' b=some o)∧M'=M0 ∧
   ((okI deb g l t=false∧v=.tuple #[fi0.val,.bool false])∨(okI deb g l t=true∧∃ F,IsFlow g.ds F∧v=.tuple #[((nodesI (placesL g.ds) l (nodesF (placesL g.ds) F t.ns []) t.ns []).getD t.root.toNat fi0).val,.bool true])):=by
 refine spec_of_V [] TryzEOK Tryz.func42 rfl rfl rfl ?_
 intro B h0
 have hgn:=hg.n
 have hln:=hl.n
 obtain⟨ok,hok⟩:∃ ok,okI deb g l t=ok:=⟨_,rfl⟩
 refine CallOb.whole _ (RIfits_spec hcl hg hf ht hft hln hok) ?_
 rintro v J N - ⟨rfl,hJ,hN⟩
 subst J
 subst N
 rw[hok]
 refine CondOb.mk (fun h=>?_) (fun h=>?_)
 ·have h':ok=false:=by simpa using h
  exact⟨_,_,.refl,fun _ _ h=>h,rfl,.inl ⟨h',rfl⟩⟩
 have h':ok=true:=by simpa using h
 have hok2:=hok
 rw[h',okI] at hok2
 simp only[Bool.and_eq_true,decide_eq_true_eq] at hok2
 obtain⟨hlg,hm,hr,hno⟩:=hok2
 refine CallOb.whole _ (RFOf_fr hcl hg hf) ?_
 rintro v J N - ⟨hJ,⟨hm',-⟩ | ⟨-,bf,F,rfl,rfl,hF⟩⟩
 ·exact(hm' hm).elim
 subst J
 have hFn:F.length=g.n:=by rw[hF.len,hgn]
 obtain rfl:ln=g.n:=by omega
 have hFs:FsAt I (flRowR bf F::M0) (some ⟨bf,0,none⟩) g.n F:=by
  have:=flRowR_at (I:=I) (M:=flRowR bf F::M0) (b:=bf) (l:=F) (by simp)
  rwa [hFn] at this
 have hsp:=RIfirst_spec (g:=g) (F:=F) (l:=l) hFn hlg (W:=W) t.ns.length (M0:=flRowR bf F::M0) hg ht hr hft hno (fc:=g.n) hFs (lc:=lc) (hl.sub fun z hz=>by simp[hz]) (Nat.le_refl _)
 rw[pair_at] at hsp
 refine CallOb.whole _ hsp ?_
 rintro v K N - ⟨hK,hN,rfl⟩
 subst N
 exact⟨_,M0,.sub (.cons _ (.refl _)) .refl,hK,rfl,.inr ⟨h',F,hF,rfl⟩⟩
theorem sameI_spec {I:GH} {M:List Blk} {a a':Option Addr} {n n' c c':Nat} {l l':List Fi} (h1:IsAt I M a n l) (h2:IsAt I M a' n' l') (hc:n≤140737488355328):Spec Tryz.prog 37 [.slice a n c,.slice a' n' c'] I M
  fun v I' M'=>v=.bool (decide (l=l'))∧I'=I∧M'=M:=by
 refine spec_of_V [] TryzEOK Tryz.func37 rfl rfl rfl ?_
 intro B h0
 have hln:=h1.n
 have hln':=h2.n
 refine CondOb.mk (fun h=>?_) (fun h=>?_)
 ·refine⟨_,_,.refl,?_,rfl,rfl⟩
  have:l≠l':=fun e=>by
   rw[e] at hln
   simp at h
   omega
  simp[this]
 have hnn:n=n':=by simp at h;omega
 refine LoopOb.inv (ι:=Nat) (fun i=>{ fl:=[(0,.val (.slice a n c)),(1,.val (.slice a' n' c')),(5,.val (.int .i64 i))],gi:=I,mi:=M }) (fun i=>i≤n∧l.take i=l'.take i) (fun i=>n - i) ?_ ?_
 ·exact⟨0,⟨Nat.zero_le _,rfl⟩,.refl,.cons .refl (.cons .refl (.cons .refl (.nil))),.nil⟩
 rintro i ⟨hi,htk⟩
 refine CondOb.mk (fun h=>?_) (fun h=>?_)
 rotate_left
 ·have hge:n≤i:=by simpa using h
  refine⟨_,_,.refl,?_,rfl,rfl⟩
  rw[List.take_of_length_le (by omega),List.take_of_length_le (by omega)] at htk
  simp[htk]
 have hlt:i < n:=by simpa using h
 obtain⟨ad,had,hr⟩:=h1.rd i (by omega)
 obtain⟨ad',had',hr'⟩:=h2.rd i (by omega)
 refine CodeOb.draw TryzEOK rfl rfl rfl ?_
 refine IdxOb.mk ad i had rfl hlt ?_
 refine LoadOb.mk _ hr ?_
 refine IdxOb.mk ad' i had' rfl (by omega) ?_
 refine LoadOb.mk _ hr' ?_
 refine BinOb.neIR (p:=l[i]'(by omega)) (q:=l'[i]'(by omega)) ?_
 refine CondOb.mk (fun h2=>?_) (fun h2=>?_)
 ·refine⟨_,_,.refl,?_,rfl,rfl⟩
  have:l≠l':=fun e=>by
   have h3:¬ l[i]'(by omega)=l'[i]'(by omega):=by simpa using h2
   exact h3 (by simp[e])
  simp[this]
 ·have h3:l[i]'(by omega)=l'[i]'(by omega):=by simpa using h2
  refine ArithOb.mk _ (next_wr (i:=i) (by omega)) ?_
  refine⟨i+1,⟨⟨by omega,?_⟩,by omega⟩,.refl,.cons .refl (.cons .refl (.cons .refl (.nil))),.nil⟩
  rw[List.take_succ_eq_append_getElem (by omega),List.take_succ_eq_append_getElem (by omega),htk,h3]
theorem toldI_spec {I:GH} {M0:List Blk} {la:Option Addr} {ln lc:Nat} {fl:List Fi} (hfl:IsAt I M0 la ln fl) (hn:ln≤140737488355328 / 80):Spec Tryz.prog 38 [.slice la ln lc] I M0 fun v I' M'=>I'=I ∧
  ∃ os:OS,v=os.val∧os.ok 5 (fl.flatMap Fi.cells)∧M'=os.blk 70++M0:=by
 refine spec_of_V [] TryzEOK Tryz.func38 rfl rfl rfl ?_
 intro B h0
 have hfn:=hfl.n
 refine LoopOb.inv (ι:=Nat×OS) (fun x=>{ fl:=[(0,.val (.slice la ln lc)),(3,.val x.2.val),(4,.val (.int .i64 x.1))],gi:=I,mi:=x.2.blk 70++M0 })
  (fun x=>x.1≤ln∧x.2.ok 5 ((fl.take x.1).flatMap Fi.cells)) (fun x=>ln - x.1) ?_ ?_
 ·exact⟨(0,OS0),⟨Nat.zero_le _,OS0_ok 5⟩,.refl,.cons .refl (.cons .refl (.cons .refl (.nil))),.nil⟩
 rintro⟨i,os⟩ ⟨hi,hos⟩
 simp only at hi hos
 have hosn:os.n=i:=by have:=hos.len;rw[fi_len,List.length_take_of_le (by omega)] at this;omega
 refine CondOb.mk (fun h=>?_) (fun h=>?_)
 rotate_left
 ·have hge:i=ln:=by have:¬ (i:Int) < (ln:Int):=of_decide_eq_false h;omega
  rw[List.take_of_length_le (by omega)] at hos
  exact⟨_,_,.refl,rfl,os,rfl,hos,rfl⟩
 have hlt:i < ln:=by have:(i:Int) < (ln:Int):=of_decide_eq_true h;omega
 obtain⟨ad,had,hrd⟩:=hfl.rd i (by omega)
 refine IdxOb.mk ad i had rfl hlt ?_
 refine LoadOb.mk _ (hrd.sub fun x hx=>by simp[hx]) ?_
 refine AllocOb.mk fun b9 hb9 hbM9=>?_
 refine OtherOb.app1 TryzEOK rfl (by simp) (e:=70) rfl rfl rfl os hos rfl (cs:=(fl[i]'(by omega)).cells) rfl rfl rfl [] M0 rfl (by omega) (by show (os.n+1) * 40≤_;omega) ?_
 intro os2 hn2 hI2 hok2
 refine ArithOb.mk _ (next_wr (i:=i) (by omega)) ?_
 refine⟨(i+1,os2),⟨⟨by simp only;omega,?_⟩,by simp only;omega⟩,.refl,.cons .refl (.cons .refl (.cons .refl (.nil))),.nil⟩
 simp only
 rw[List.take_succ_eq_append_getElem (by omega),flatI_snoc]
 exact hok2
end Go.V
namespace Go.V
open Go Go.Proofs
theorem body_pair {ds:List Df} {F:List Fl} {l:List Fi} {i:Nat} (hi:i < ds.length):(pairAt (placesL ds) F l ds[i].t.ns ds[i].t.root).2=bodyI (placesL ds) F ds l i:=by
 rw[pair_at,bodyI,List.getElem?_eq_getElem hi]
theorem next_set (f:Nat→Fi) (n i:Nat) (hi:i < n):((List.range i).map f++List.replicate (n - i) fi0).set i (f i)=(List.range (i+1)).map f++List.replicate (n - (i+1)) fi0:=by
 rw[repI_at _ n i (by simp) hi,List.range_succ,List.map_append]
 rfl
set_option maxRecDepth 100000 in
set_option maxHeartbeats 8000000 in
theorem RIOf_spec {I:GH} {deb:List Int} (hcl:ClsOk deb) {g:Gr} (hg:g.ok I) (hf:GFit g):Spec Tryz.prog 35 [g.val] I [] fun v I' M'=>(∀ b o,I b=some o→I' b=some o) ∧
  ((mayG deb g≠0∧v=.tuple #[.slice none 0 0,.int .i64 (mayG deb g)]∧M'=[])∨(mayG deb g=0∧∃ F b l,IsFlow g.ds F∧IsFirst g.ds F l∧v=.tuple #[.slice (some ⟨b,0,none⟩) g.n g.n,.int .i64 0]∧M'=[fiRowR b l])):=by
 refine spec_of_V [] TryzEOK Tryz.func35 rfl rfl rfl ?_
 intro B h0
 have hgn:=hg.n
 have hcap:=hg.rs.cap
 have hfn:=hf.n
 refine CallOb.whole _ (RFOf_fr (M0:=[]) hcl hg hf) ?_
 rintro v J N - ⟨hJ,⟨hm,rfl,rfl⟩ | ⟨hm,bf,F,rfl,rfl,hF⟩⟩
 ·subst J
  refine CondOb.mk (fun h=>?_) (fun h=>absurd h (by simp[hm]))
  exact⟨_,_,.refl,fun _ _ h=>h,.inl ⟨hm,rfl,rfl⟩⟩
 subst J
 have hM:=mayF_of hgn hm
 have hFn:F.length=g.n:=by rw[hF.len,hgn]
 have hmono:∀ {l m:List Fi},LeR OI l m→∀ i,i < g.ds.length→OI.le (bodyI (placesL g.ds) F g.ds l i) (bodyI (placesL g.ds) F g.ds m i):=bodyI_mono'
 refine CondOb.mk (fun h=>absurd h (by simp)) (fun _=>?_)
 refine MakeOb.mk g.n g.n rfl rfl (Nat.le_refl _) (by show 40 * g.n≤_;omega) (by omega) ?_
 refine AllocOb.mk fun b0 hb0 hbM0=>?_
 have e:rowOf fi0.cells (g.n * 5)=(List.replicate g.ds.length fi0).flatMap Fi.cells:=by rw[hgn];exact rowOf_fi g.n
 refine LoopOb.inv (ι:=Nat×Nat×GH) (fun x=>{ fl:=[(1,.ref 1 0),(4,.val (.slice (some ⟨bf,0,none⟩) g.n g.n)),(6,.val (.slice (some ⟨x.2.1,0,none⟩) g.n g.n)),(7,.val (.int .i64 x.1))],cl:=[(1,[.slice g.a g.n g.c])],gi:=x.2.2,mi:=[fiRowR x.2.1 (jacR OI g.ds.length (bodyI (placesL g.ds) F g.ds) x.1),flRowR bf F] })
  (fun x=>x.1≤257 * g.n+1∧∀ b o,I b=some o→x.2.2 b=some o) (fun x=>257 * g.n+1 - x.1) ?_ ?_
 ·refine⟨(0,b0,I),⟨Nat.zero_le _,fun _ _ h=>h⟩,.eqM ?_,.cons .refl (.cons .refl (.cons .refl (.cons .refl (.nil)))),.cons rfl (.nil)⟩
  simp only[fiRowR]
  rw[show jacR OI g.ds.length (bodyI (placesL g.ds) F g.ds) 0=List.replicate g.ds.length fi0 from rfl,←e]
  rfl
 rintro⟨k,b,K⟩ ⟨hk,hK⟩
 simp only at hk hK
 refine ArithOb.mk ((257 * g.n:Nat):Int) (wr_eq (by simp) (by omega)) ?_
 refine ArithOb.mk ((257 * g.n+1:Nat):Int) (wr_eq (by simp) (by omega)) ?_
 refine CondOb.mk (fun h=>?_) (fun h=>?_)
 rotate_left
 ·have hge:k=257 * g.n+1:=by have:¬ (k:Int) < ((257 * g.n+1:Nat):Int):=of_decide_eq_false h;omega
  exact⟨_,_,.sub (.cons_cons _ (List.nil_sublist _)) .refl,hK,.inr ⟨hm,F,b,_,hF,jacI_is hmono (k:=k) (by omega),rfl,rfl⟩⟩
 have hlt:k < 257 * g.n+1:=by have:(k:Int) < ((257 * g.n+1:Nat):Int):=of_decide_eq_true h;omega
 have hjl:(jacR OI g.ds.length (bodyI (placesL g.ds) F g.ds) k).length=g.n:=by rw[(jacR_pre hmono k).len,hgn]
 have hjs:jacR OI g.ds.length (bodyI (placesL g.ds) F g.ds) (k+1)=(List.range g.n).map (bodyI (placesL g.ds) F g.ds (jacR OI g.ds.length (bodyI (placesL g.ds) F g.ds) k)):=by rw[jacR,allR,hgn]
 have hjd:=fun h=>jacR_done hmono (k:=k) h
 generalize jacR OI g.ds.length (bodyI (placesL g.ds) F g.ds) k=l at hjl hjs hjd
 refine MakeOb.mk g.n g.n rfl rfl (Nat.le_refl _) (by show 40 * g.n≤_;omega) (by omega) ?_
 refine AllocOb.mk fun b2 hb2 hbM2=>?_
 refine LoopOb.inv (ι:=Nat×Bool×GH) (fun x=>{ fl:=[(1,.ref 1 0),(4,.val (.slice (some ⟨bf,0,none⟩) g.n g.n)),(6,.val (.slice (some ⟨b,0,none⟩) g.n g.n)),(7,.val (.int .i64 k)),(8,.val (.slice (some ⟨b2,0,none⟩) g.n g.n)),(9,.val (.bool x.2.1)),(10,.val (.int .i64 x.1))],cl:=[(1,[.slice g.a g.n g.c])],gi:=x.2.2,mi:=[fiRowR b2 ((List.range x.1).map (bodyI (placesL g.ds) F g.ds l)++List.replicate (g.n - x.1) fi0),fiRowR b l,flRowR bf F] })
  (fun x=>x.1≤g.n∧(x.2.1=false→∀ j,j < x.1→bodyI (placesL g.ds) F g.ds l j=l.getD j fi0)∧∀ b o,I b=some o→x.2.2 b=some o) (fun x=>g.n - x.1) ?_ ?_
 ·refine⟨(0,false,K),⟨Nat.zero_le _,fun _ j hj=>absurd hj (Nat.not_lt_zero _),hK⟩,.eqM ?_,.cons .refl (.cons .refl (.cons .refl (.cons .refl (.cons .refl (.cons .lit (.cons .refl .nil)))))),.cons rfl (.nil)⟩
  simp only[List.range_zero,List.map_nil,List.nil_append,Nat.sub_zero]
  unfold fiRowR
  rw[←hgn,←e,hgn]
  rfl
 rintro⟨i,mo,K2⟩ ⟨hi,hmo,hK2⟩
 simp only at hi hmo hK2
 refine CondOb.mk (fun h=>?_) (fun h=>?_)
 rotate_left
 ·have hge:i=g.n:=by have:¬ (i:Int) < (g.n:Int):=of_decide_eq_false h;omega
  have hrow:(List.range i).map (bodyI (placesL g.ds) F g.ds l)++List.replicate (g.n - i) fi0=jacR OI g.ds.length (bodyI (placesL g.ds) F g.ds) (k+1):=by
   rw[hge,Nat.sub_self,List.replicate_zero,List.append_nil,hjs]
  have hmR:[fiRowR b2 ((List.range i).map (bodyI (placesL g.ds) F g.ds l)++List.replicate (g.n - i) fi0),flRowR bf F]=[fiRowR b2 (jacR OI g.ds.length (bodyI (placesL g.ds) F g.ds) (k+1)),flRowR bf F]:=by rw[hrow]
  refine CondOb.mk (fun h2=>?_) (fun h2=>?_)
  ·have h2':mo=false:=by simpa using h2
   have hfix:=hmo h2'
   have hsame:jacR OI g.ds.length (bodyI (placesL g.ds) F g.ds) (k+1)=l:=by
    rw[hjs]
    apply List.ext_getElem
    ·simp[hjl]
    ·intro j h3 h4
     have:=hfix j (by omega)
     simpa[List.getD_eq_getElem?_getD,h4] using this
   have hI:=hjd hsame
   refine⟨K2,[fiRowR b2 l],.sub (M1:=[fiRowR b2 ((List.range i).map (bodyI (placesL g.ds) F g.ds l)++List.replicate (g.n - i) fi0)]) (.cons_cons _ (List.nil_sublist _)) (.eqM ?_),hK2,.inr ⟨hm,F,b2,l,hF,hI,rfl,rfl⟩⟩
   rw[hrow,hsame]
  ·refine ArithOb.mk _ (next_wr (i:=k) (by omega)) ?_
   exact⟨(k+1,b2,K2),⟨⟨by simp only;omega,hK2⟩,by simp only;omega⟩,.sub (.cons_cons _ (.cons _ (.refl _))) (.eqM hmR),.cons .refl (.cons .refl (.cons .refl (.cons .refl (.nil)))),.cons rfl (.nil)⟩
 have hil:i < g.n:=by have:(i:Int) < (g.n:Int):=of_decide_eq_true h;omega
 have hil':i < g.ds.length:=by omega
 have hill:i < l.length:=by omega
 obtain⟨ad,had,hrd⟩:=(hg.mono hK2).rs.row Df.cells_len hil hil'
 have hdm:=List.getElem_mem hil'
 have hFs:∀ {K:GH} {M:List Blk},flRowR bf F∈M→FsAt K M (some ⟨bf,0,none⟩) g.n F:=fun {K M} hM=>by
  have:=flRowR_at (I:=K) hM
  rwa [hFn] at this
 have hls:∀ {K:GH} {M:List Blk},fiRowR b l∈M→IsAt K M (some ⟨b,0,none⟩) g.n l:=fun {K M} hM=>by
  have:=fiRowR_at (I:=K) hM
  rwa [hjl] at this
 have hsp:∀ {M:List Blk},fiRowR b l∈M→flRowR bf F∈M→Spec Tryz.prog 76 [g.val,.slice (some ⟨bf,0,none⟩) g.n g.n,.slice (some ⟨b,0,none⟩) g.n g.n,g.ds[i].t.val] K2 M fun v I' M'=>(∀ b o,K2 b=some o→I' b=some o)∧M'=M∧v=(bodyI (placesL g.ds) F g.ds l i).val:=fun {M} h1 h2=>by
  have:=RIfirst_spec (g:=g) (F:=F) (l:=l) hFn hjl g.ds[i].t.ns.length (hg.mono hK2) ((hg.mono hK2).ds _ hdm).t (hM.right _ hdm) (hf.ds _ hdm) (hM.named _ hdm) (fc:=g.n) (hFs h2) (lc:=g.n) (hls h1) (Nat.le_refl _)
  rw[body_pair hil'] at this
  exact this
 have hns:=next_set (bodyI (placesL g.ds) F g.ds l) g.n i hil
 have hnl:((List.range i).map (bodyI (placesL g.ds) F g.ds l)++List.replicate (g.n - i) fi0).length=g.n:=by simp;omega
 have hnl':((List.range (i+1)).map (bodyI (placesL g.ds) F g.ds l)++List.replicate (g.n - (i+1)) fi0).length=g.n:=by simp;omega
 have hni:((List.range (i+1)).map (bodyI (placesL g.ds) F g.ds l)++List.replicate (g.n - (i+1)) fi0)[i]'(by omega)=bodyI (placesL g.ds) F g.ds l i:=by
  rw[List.getElem_append_left (by simp)]
  simp
 obtain⟨y,hy⟩:∃ y,bodyI (placesL g.ds) F g.ds l i=y:=⟨_,rfl⟩
 rw[hy] at hsp hns hni
 obtain⟨nx',hnx⟩:∃ nx',(List.range (i+1)).map (bodyI (placesL g.ds) F g.ds l)++List.replicate (g.n - (i+1)) fi0=nx':=⟨_,rfl⟩
 have hni':nx'[i]'(by rw[←hnx,hnl'];exact hil)=y:=by
  rw[←hni]
  simp only[hnx]
 rw[hnx] at hns hnl'
 refine CodeOb.draw TryzEOK rfl rfl rfl ?_
 refine IdxOb.mk ad i had rfl hil ?_
 refine LoadOb.mk _ ((hrd _).part (k:=1) (m:=2) (by decide)) ?_
 refine PCallOb.whole _ (hsp (by simp) (by simp)) (fun v I' M' h x hx=>by rw[h.2.1];exact hx) ?_
 rintro v K3 N - ⟨hK3,hN,rfl⟩
 subst N
 refine IdxOb.mk ⟨b2,0,none⟩ i rfl rfl hil ?_
 refine StoreOb.addTo [] [fiRowR b l,flRowR bf F] (((List.range i).map (bodyI (placesL g.ds) F g.ds l)++List.replicate (g.n - i) fi0).flatMap Fi.cells) _ rfl (ble_rowI (by rw[hnl];exact hil) (x:=y)) rfl (nx'.flatMap Fi.cells) ?_ ?_
 ·rw[Nat.zero_add,←hns]
  exact fiRow_set _ i (by rw[hnl];exact hil) y
 refine CodeOb.draw TryzEOK rfl rfl rfl ?_
 have hnm:∀ (K:GH) {mo2:Bool},(mo2=false→∀ j,j < i+1→bodyI (placesL g.ds) F g.ds l j=l.getD j fi0)→(mo2=false→∀ j,j < i+1→bodyI (placesL g.ds) F g.ds l j=l.getD j fi0):=fun K mo2 h=>h
 cases mo with
 | true=>
  refine GuardOb.mk (fun h=>absurd h (by simp)) (fun _=>?_)
  refine ArithOb.mk _ (next_wr (i:=i) (by omega)) ?_
  refine⟨(i+1,true,K3),⟨⟨hil,fun h=>(by cases h),fun b o h=>hK3 _ _ (hK2 _ _ h)⟩,by simp only;omega⟩,.eqM ?_,.cons .refl (.cons .refl (.cons .refl (.cons .refl (.cons .refl (.cons .lit (.cons .refl .nil)))))),.cons rfl (.nil)⟩
  simp only[hnx]
  rfl
 | false=>
  refine GuardOb.mk (fun _=>?_) (fun h=>absurd h (by simp))
  refine IdxOb.mk ⟨b2,0,none⟩ i rfl rfl hil ?_
  refine LoadOb.mk _ (fiRowR_rd (b:=b2) (l:=nx') (.head _) (j:=i) (by omega)) ?_
  rw[hni']
  refine IdxOb.mk ⟨b,0,none⟩ i rfl rfl hil ?_
  refine LoadOb.mk _ (fiRowR_rd (.tail _ (.head _)) hill) ?_
  refine BinOb.neIR (p:=y) (q:=l[i]) ?_
  refine ArithOb.mk _ (next_wr (i:=i) (by omega)) ?_
  refine⟨(i+1,!decide (y=l[i]),K3),⟨⟨hil,fun h j hj=>?_,fun b o h=>hK3 _ _ (hK2 _ _ h)⟩,by simp only;omega⟩,.eqM ?_,.cons .refl (.cons .refl (.cons .refl (.cons .refl (.cons .refl (.cons .refl (.cons .refl (.nil))))))),.cons rfl (.nil)⟩
  ·simp only at h hj
   by_cases ej:j=i
   ·subst ej
    have h9:y=l[j]:=by simpa using h
    rw[hy,h9]
    simp[List.getD_eq_getElem?_getD,hill]
   ·exact hmo rfl j (by omega)
  ·simp only[hnx]
   rfl
end Go.V
namespace Go.V
open Go Go.Proofs
theorem filter_first {p:Nat→Bool} {k:Nat}:∀ {l:List Nat},l.Pairwise (· < ·)→k∈l→p k=true→(∀ j∈l,j < k→p j=false)→l.filter p=k::l.filter fun j=>p j && !decide (j=k)
 | x::xs,hs,hk,hp,hb=>by
  obtain⟨h1,h2⟩:=List.pairwise_cons.1 hs
  rcases List.mem_cons.1 hk with rfl | hk
  ·have e:(k::xs).filter (fun j=>p j && !decide (j=k))=xs.filter p:=by
    rw[List.filter_cons]
    simp
    apply List.filter_congr
    intro j hj
    have:=h1 j hj
    have:¬ j=k:=by omega
    simp[this]
   rw[e,List.filter_cons,hp]
   rfl
  ·have hx:=h1 k hk
   have hpx:=hb x (by simp) hx
   rw[List.filter_cons,hpx,List.filter_cons,hpx]
   simp only[Bool.false_and,Bool.false_eq_true,if_false]
   exact filter_first h2 hk hp fun j hj hjk=>hb j (by simp[hj]) hjk
theorem low_bits {n:Nat} (h0:n≠0) (h:n < 2 ^ 64):∃ k,k < 64∧n &&& (2 ^ 64 - n)=2 ^ k∧n.testBit k=true∧(∀ j,j < k→n.testBit j=false)∧∀ j,(n &&& (n - 1)).testBit j=(n.testBit j && !decide (j=k)):=by
 obtain⟨m,hm,hk⟩:=Lib.ctzFrom_spec 64 n (by omega) h
 generalize Lib.ctzFrom 64 n=k at hm hk
 have e1:n=2 ^ (k+1) * m+2 ^ k:=by
  rw[hm,Nat.pow_succ,Nat.mul_add,Nat.mul_one,Nat.mul_assoc]
 have hp:=Nat.two_pow_pos k
 have e2:n - 1=2 ^ (k+1) * m+(2 ^ k - 1):=by omega
 have hb1:2 ^ k < 2 ^ (k+1):=by rw[Nat.pow_succ];omega
 have t1:∀ j,n.testBit j=if j < k+1 then decide (k=j) else m.testBit (j - (k+1)):=fun j=>by
  rw[e1,Nat.testBit_two_pow_mul_add _ hb1,Nat.testBit_two_pow]
 have t2:∀ j,(n - 1).testBit j=if j < k+1 then decide (j < k) else m.testBit (j - (k+1)):=fun j=>by
  rw[e2,Nat.testBit_two_pow_mul_add _ (by omega),Nat.testBit_two_pow_sub_one]
 refine⟨k,hk,?_,?_,fun j hj=>?_,fun j=>?_⟩
 ·have:=Lib.and_neg 64 k m (by rw[←hm];exact h)
  rwa [←hm] at this
 ·rw[t1];simp
 ·rw[t1,if_pos (by omega)]
  simp
  omega
 ·rw[Nat.testBit_and,t1,t2]
  by_cases hj:j < k+1
  ·rw[if_pos hj,if_pos hj]
   by_cases hjk:j=k
   ·subst hjk;simp
   ·have:¬ k=j:=fun e=>hjk e.symm
    simp[this]
  ·rw[if_neg hj,if_neg hj]
   have:¬ j=k:=by omega
   simp[this]
theorem debL_at:∀ k:Fin 64,debL.getD (2 ^ k.val * 285870213051353865 % 18446744073709551616 / 288230376151711744) 0=(k.val:Int):=by decide +kernel
theorem tz_low {n k:Nat} (h0:n≠0) (h:n < 2 ^ 64) (hk:k < 64) (hl:n &&& (2 ^ 64 - n)=2 ^ k):tz64 debL (n:Int)=k:=by
 have e0:decide ((n:Int)=0)=false:=decide_eq_false (by omega)
 have hw:IntKind.u64.wrap (0 - (n:Int))=((2 ^ 64 - n:Nat):Int):=by
  simp[IntKind.wrap,IntKind.signed,IntKind.bits]
  omega
 have ha:andV (n:Int) ((2 ^ 64 - n:Nat):Int)=((2 ^ k:Nat):Int):=by
  rw[andV_nat ⟨by omega,by omega⟩ ⟨by omega,by omega⟩,Int.toNat_natCast,Int.toNat_natCast,hl]
 have ht:(tzA (n:Int)).toNat=2 ^ k * 285870213051353865 % 18446744073709551616:=by
  unfold tzA
  rw[hw,ha]
  have:((2 ^ k:Nat):Int) * 285870213051353865=((2 ^ k * 285870213051353865:Nat):Int):=by simp
  rw[this]
  generalize 2 ^ k * 285870213051353865=q
  simp[IntKind.wrap,IntKind.signed,IntKind.bits]
  omega
 unfold tz64
 rw[e0,cond_false,ht]
 exact debL_at ⟨k,hk⟩
theorem nxt_nat {n:Nat} (h0:n≠0) (h:n < 2 ^ 64):nxtV (n:Int)=((n &&& (n - 1):Nat):Int):=by
 have hs:u64ok ((n:Int) - 1):=⟨by omega,by omega⟩
 unfold nxtV
 rw[wrap_u64_id hs,andV_nat ⟨by omega,by omega⟩ hs]
 congr 2
 omega
theorem bits_eq (i:Nat) (hi:i < 4):∀ (f n:Nat),n < 2 ^ 64→((List.range 64).filter n.testBit).length≤f→bitsL debL i f (n:Int)=((List.range 64).filter n.testBit).map fun j=>UInt8.ofNat (i * 64+j)
 | 0,n,h,hf=>by
  rw[List.eq_nil_of_length_eq_zero (Nat.le_zero.1 hf)]
  rfl
 | f+1,n,h,hf=>by
  unfold bitsL
  by_cases h0:n=0
  ·subst h0
   simp
  ·have e0:decide ((n:Int)=0)=false:=decide_eq_false (by omega)
   obtain⟨k,hk,hl,hb,hlt,hnx⟩:=low_bits h0 h
   have hff:(List.range 64).filter n.testBit=k::(List.range 64).filter (n &&& (n - 1)).testBit:=by
    rw[filter_first List.pairwise_lt_range (List.mem_range.2 hk) hb fun j _ hj=>hlt j hj]
    congr 1
    apply List.filter_congr
    intro j _
    rw[hnx]
   rw[hff] at hf ⊢
   have hle:n &&& (n - 1)≤n - 1:=Nat.and_le_right
   rw[e0,cond_false,nxt_nat h0 h,bits_eq i hi f _ (by omega) (by simp at hf;omega),List.map_cons]
   congr 1
   unfold byteOf
   rw[tz_low h0 h hk hl]
   have:IntKind.u8.wrap ((i:Int) * 64+(k:Int))=((i * 64+k:Nat):Int):=by
    simp[IntKind.wrap,IntKind.signed,IntKind.bits]
    omega
   rw[this,Int.toNat_natCast]
theorem each_eq {a b c d:Int} (hws:∀ x∈[a,b,c,d],u64ok x):eachFrom debL 0 [a,b,c,d]=((List.range 256).filter (hasR [a,b,c,d])).map UInt8.ofNat:=by
 have nat:∀ x∈[a,b,c,d],∃ n:Nat,x=n∧n < 2 ^ 64:=fun x hx=>by
  have:=hws x hx
  obtain⟨n,rfl⟩:=Int.eq_ofNat_of_zero_le this.1
  exact⟨n,rfl,by have:=this.2;omega⟩
 obtain⟨a,rfl,ha⟩:=nat a (by simp)
 obtain⟨b,rfl,hb⟩:=nat b (by simp)
 obtain⟨c,rfl,hc⟩:=nat c (by simp)
 obtain⟨d,rfl,hd⟩:=nat d (by simp)
 have len:∀ n:Nat,((List.range 64).filter n.testBit).length≤64:=fun n=>by
  have:=List.length_filter_le n.testBit (List.range 64)
  simpa using this
 unfold eachFrom eachFrom eachFrom eachFrom eachFrom
 rw[bits_eq 0 (by decide) 64 a ha (len _),bits_eq (0+1) (by decide) 64 b hb (len _),bits_eq (0+1+1) (by decide) 64 c hc (len _),bits_eq (0+1+1+1) (by decide) 64 d hd (len _)]
 have hr:List.range 256=(List.range 64).map (0 * 64+·)++((List.range 64).map (1 * 64+·)++((List.range 64).map (2 * 64+·)++(List.range 64).map (3 * 64+·))):=by decide +kernel
 have part:∀ (i:Nat) (n:Nat),i < 4→([(a:Int),b,c,d].getD i 0)=n→(((List.range 64).map (i * 64+·)).filter (hasR [(a:Int),b,c,d]))=((List.range 64).filter n.testBit).map (i * 64+·):=fun i n hi hn=>by
  rw[List.filter_map]
  congr 1
  apply List.filter_congr
  intro j hj
  have hj:=List.mem_range.1 hj
  simp only[Function.comp,hasR]
  rw[show (i * 64+j) / 64=i by omega,show (i * 64+j) % 64=j by omega,hn,Int.toNat_natCast]
 rw[hr]
 simp only[List.filter_append,List.map_append]
 rw[part 0 a (by decide) rfl,part 1 b (by decide) rfl,part 2 c (by decide) rfl,part 3 d (by decide) rfl]
 simp only[List.map_map,List.append_nil]
 rfl
end Go.V
namespace Go.V
open Go Go.Proofs
def bytesTo (p:Nat→Bool) (n:Nat):List UInt8:=((List.range n).filter p).map UInt8.ofNat
theorem bytesTo_succ (p:Nat→Bool) (n:Nat):bytesTo p (n+1)=bytesTo p n++(bif p n then [UInt8.ofNat n] else []):=by
 unfold bytesTo
 rw[List.range_succ,List.filter_append,List.map_append]
 cases h:p n<;>simp[h]
theorem runStep_last (l:List (UInt8×UInt8)) (b:UInt8):((runStep l b).getLast?).map (·.2)=some b:=by
 unfold runStep
 split
 ·rename_i p h
  cases decide ((p.2.toNat:Int)+1=b.toNat)<;>simp
 ·rfl
theorem runsOf_last (l:List UInt8):((runsOf l).getLast?).map (·.2)=l.getLast?:=by
 rcases List.eq_nil_or_concat l with h | ⟨m,b,h⟩
 ·subst h;rfl
 ·rw[h,List.concat_eq_append,runsOf_snoc,runStep_last]
  simp
theorem bytesTo_last (p:Nat→Bool):∀ (n:Nat),n≤256→∀ x,(bytesTo p n).getLast?=some x→∃ j,j < n∧p j=true∧x.toNat=j
 | 0,_,x,h=>by simp[bytesTo] at h
 | n+1,hn,x,h=>by
  rw[bytesTo_succ] at h
  cases hp:p n with
  | true=>
   rw[hp,cond_true] at h
   simp at h
   exact⟨n,by omega,hp,by rw[←h];exact u8nat (by omega)⟩
  | false=>
   rw[hp,cond_false,List.append_nil] at h
   obtain⟨j,h1,h2,h3⟩:=bytesTo_last p n (by omega) x h
   exact⟨j,by omega,h2,h3⟩
theorem run_start (p:Nat→Bool) {n:Nat} (hn:n < 256) (hp:n=0∨p (n - 1)=false):runStep (runsOf (bytesTo p n)) (UInt8.ofNat n)=runsOf (bytesTo p n)++[(UInt8.ofNat n,UInt8.ofNat n)]:=by
 unfold runStep
 split
 ·rename_i q h
  have hl:=runsOf_last (bytesTo p n)
  rw[h] at hl
  obtain⟨j,h1,h2,h3⟩:=bytesTo_last p n (by omega) q.2 hl.symm
  have hne:decide ((q.2.toNat:Int)+1=(UInt8.ofNat n).toNat)=false:=by
   rw[u8nat hn,h3]
   apply decide_eq_false
   intro e
   have:j=n - 1:=by omega
   rcases hp with hp | hp
   ·omega
   ·rw[this,hp] at h2
    cases h2
  rw[hne]
  rfl
 ·rename_i h
  have:runsOf (bytesTo p n)=[]:=List.getLast?_eq_none_iff.1 h
  rw[this]
  rfl
theorem run_grow (p:Nat→Bool) {n:Nat} (hs:n=0∨p (n - 1)=false):∀ t,n≤t→t < 256→(∀ j,n≤j→j≤t→p j=true)→runsOf (bytesTo p (t+1))=runsOf (bytesTo p n)++[(UInt8.ofNat n,UInt8.ofNat t)]:=by
 intro t
 induction t with
 | zero=>
  intro h1 h2 h3
  have:n=0:=by omega
  subst this
  rw[bytesTo_succ,h3 0 (Nat.le_refl _) (Nat.le_refl _),cond_true,runsOf_snoc]
  exact run_start p h2 hs
 | succ t ih=>
  intro h1 h2 h3
  rw[bytesTo_succ,h3 (t+1) h1 (Nat.le_refl _),cond_true,runsOf_snoc]
  by_cases hn:n=t+1
  ·subst hn
   exact run_start p h2 hs
  ·rw[ih (by omega) (by omega) (fun j a b=>h3 j a (by omega))]
   unfold runStep
   rw[List.getLast?_concat]
   simp only
   have:decide (((UInt8.ofNat t).toNat:Int)+1=(UInt8.ofNat (t+1)).toNat)=true:=by
    rw[u8nat (by omega),u8nat (by omega)]
    simp
   rw[this,cond_true,List.dropLast_concat]
theorem endR_run (p:Nat→Bool):∀ (f t:Nat),t≤endR p f t∧endR p f t≤t+f∧(∀ j,t < j→j≤endR p f t→p j=true)∧(endR p f t < t+f→p (endR p f t+1)=false)
 | 0,t=>⟨Nat.le_refl _,Nat.le_refl _,fun j a b=>by simp[endR] at b;omega,fun h=>by simp[endR] at h⟩
 | f+1,t=>by
  unfold endR
  cases h:p (t+1) with
  | false=>exact⟨Nat.le_refl _,by simp,fun j a b=>by simp at b;omega,fun _=>h⟩
  | true=>
   obtain⟨h1,h2,h3,h4⟩:=endR_run p f (t+1)
   refine⟨by simp;omega,by simp;omega,fun j a b=>?_,fun q=>?_⟩
   ·simp at b
    by_cases e:j=t+1
    ·rw[e];exact h
    ·exact h3 j (by omega) b
   ·simp at q ⊢
    exact h4 (by omega)
def curTo (p:Nat→Bool) (n:Nat):Nat:=bif decide (0 < n) && p (n - 1) then endR p (256 - n) (n - 1)+1 else n
theorem runs_to (p:Nat→Bool):∀ n,n≤256→runsR p n=runsOf (bytesTo p (curTo p n))
 | 0,_=>rfl
 | n+1,hn=>by
  have ih:=runs_to p n (by omega)
  have hc1:curTo p (n+1)=bif p n then endR p (255 - n) n+1 else n+1:=by
   unfold curTo
   simp only[Nat.add_sub_cancel,show 256 - (n+1)=255 - n by omega]
   have:decide (0 < n+1)=true:=decide_eq_true (by omega)
   rw[this,Bool.true_and]
  rw[runsR_succ,hc1,ih]
  cases hp:p n with
  | false=>
   have hs:startR p n=false:=by rw[startR,hp];rfl
   have hcn:curTo p n=n:=by
    unfold curTo
    cases hb:decide (0 < n) && p (n - 1) with
    | false=>rfl
    | true=>
     simp at hb
     have e:endR p (256 - n) (n - 1)=n - 1:=by
      rw[show 256 - n=(255 - n)+1 by omega,endR,show n - 1+1=n by omega,hp]
      rfl
     rw[cond_true,e]
     omega
   rw[hs,cond_false,List.append_nil,hcn,cond_false,bytesTo_succ,hp]
   simp
  | true=>
   rw[cond_true]
   cases hb:decide (0 < n) && p (n - 1) with
   | true=>
    have hb':=hb
    simp at hb'
    have hs:startR p n=false:=by
     have:decide (n=0)=false:=decide_eq_false (by omega)
     rw[startR,hp,hb'.2,this]
     rfl
    have hcn:curTo p n=endR p (255 - n) n+1:=by
     unfold curTo
     rw[hb,cond_true,show 256 - n=(255 - n)+1 by omega,endR,show n - 1+1=n by omega,hp,cond_true]
    rw[hs,cond_false,List.append_nil,hcn]
   | false=>
    have hst:n=0∨p (n - 1)=false:=by
     simp at hb
     by_cases h:n=0
     ·exact .inl h
     ·exact .inr (hb (by omega))
    have hs:startR p n=true:=by
     rw[startR,hp]
     rcases hst with h | h
     ·simp[h]
     ·simp[h]
    have hcn:curTo p n=n:=by
     unfold curTo
     rw[hb]
     rfl
    obtain⟨h1,h2,h3,_⟩:=endR_run p (255 - n) n
    rw[hs,cond_true,hcn,run_grow p hst _ h1 (by omega) fun j a b=>by
     by_cases e:j=n
     ·rw[e];exact hp
     ·exact h3 j (by omega) b]
theorem runs_eq (p:Nat→Bool):runsR p 256=runsOf (bytesTo p 256):=by
 rw[runs_to p 256 (Nat.le_refl _)]
 congr 2
 unfold curTo
 simp[endR]
theorem runR_eq {x y:UInt8} (h:x.toNat≤y.toNat):runR (x,y)=runB (x,y):=by
 have hx:=x.toNat_lt
 have hy:=y.toNat_lt
 have e1:IntKind.u8.wrap ((y.toNat:Int) - x.toNat)=(y.toNat:Int) - x.toNat:=by
  simp[IntKind.wrap,IntKind.signed,IntKind.bits]
  omega
 unfold runR runB
 simp only
 rw[e1]
 have d1:decide ((x.toNat:Int)+1 < y.toNat)=decide (1 < (y.toNat:Int) - x.toNat):=decide_eq_decide.2 (by omega)
 have d2:decide ((x.toNat:Int) < y.toNat)=!decide ((y.toNat:Int)=x.toNat):=by
  rw[←decide_not]
  exact decide_eq_decide.2 (by omega)
 rw[d1,d2]
theorem runs_pair (p:Nat→Bool) (n:Nat) (hn:n≤256):∀ q∈runsR p n,q.1.toNat≤q.2.toNat:=by
 intro q hq
 obtain⟨i,hi,rfl⟩:=List.mem_map.1 hq
 have hi:=List.mem_range.1 (List.mem_filter.1 hi).1
 obtain⟨h1,h2,_⟩:=endR_run p (255 - i) i
 simp only
 rw[u8nat (by omega),u8nat (by omega)]
 exact h1
theorem isAll_eq {a b c d:Int} (hws:∀ x∈[a,b,c,d],u64ok x):isAll (runsR (hasR [a,b,c,d]) 256)=(a == notV 0 && (b == notV 0 && (c == notV 0 && d == notV 0))):=by
 have hn0:notV 0=18446744073709551615:=by decide
 rw[Bool.eq_iff_iff]
 simp only[Bool.and_eq_true,beq_iff_eq,hn0]
 constructor
 ·intro h
  have hall:∀ n,n < 256→hasR [a,b,c,d] n=true:=by
   generalize hp:hasR [a,b,c,d]=p at h
   match hr:runsR p 256,h with
   | [q],h=>
    simp[isAll] at h
    have hq:q∈runsR p 256:=by rw[hr];simp
    obtain⟨i,hi,hqe⟩:=List.mem_map.1 hq
    have hst:=(List.mem_filter.1 hi).2
    have hi:=List.mem_range.1 (List.mem_filter.1 hi).1
    obtain⟨h1,h2,h3,_⟩:=endR_run p (255 - i) i
    have hq1:q.1.toNat=i:=by rw[←hqe];exact u8nat (by omega)
    have hq2:q.2.toNat=endR p (255 - i) i:=by rw[←hqe];exact u8nat (by omega)
    have hi0:i=0:=by have:=h.1;omega
    have he:endR p (255 - i) i=255:=by have:=h.2;omega
    intro n hn
    by_cases e:n=0
    ·subst hi0
     rw[e]
     unfold startR at hst
     simp at hst
     exact hst
    ·exact h3 n (by omega) (by omega)
  have word:∀ (i:Nat) (x:Int),i < 4→[a,b,c,d].getD i 0=x→u64ok x→x=18446744073709551615:=fun i x hi hx hu=>by
   obtain⟨n,rfl⟩:=Int.eq_ofNat_of_zero_le hu.1
   have hn:n < 2 ^ 64:=by have:=hu.2;omega
   have:n=2 ^ 64 - 1:=by
    apply Nat.eq_of_testBit_eq
    intro j
    rw[Nat.testBit_two_pow_sub_one]
    by_cases hj:j < 64
    ·have:=hall (i * 64+j) (by omega)
     unfold hasR at this
     rw[show (i * 64+j) / 64=i by omega,show (i * 64+j) % 64=j by omega,hx,Int.toNat_natCast] at this
     rw[this]
     simp[hj]
    ·rw[Nat.testBit_lt_two_pow (Nat.lt_of_lt_of_le hn (Nat.pow_le_pow_right (by omega) (by omega)))]
     simp[hj]
   omega
  exact⟨word 0 a (by decide) rfl (hws a (by simp)),word 1 b (by decide) rfl (hws b (by simp)),word 2 c (by decide) rfl (hws c (by simp)),word 3 d (by decide) rfl (hws d (by simp))⟩
 ·rintro⟨rfl,rfl,rfl,rfl⟩
  have:isAll (runsR (hasR [18446744073709551615,18446744073709551615,18446744073709551615,18446744073709551615]) 256)=true:=by kernel_rfl
  exact this
theorem clsOk:ClsOk debL:=fun a b c d hws=>by
 unfold classR classB
 rw[isAll_eq hws]
 congr 1
 congr 1
 congr 1
 rw[each_eq hws,runs_eq]
 have h:=runs_pair (hasR [a,b,c,d]) 256 (Nat.le_refl _)
 rw[runs_eq] at h
 unfold bytesTo at h ⊢
 generalize runsOf _=rs at *
 clear hws
 induction rs with
 | nil=>rfl
 | cons q rs ih=>
  rw[List.flatMap_cons,List.flatMap_cons,ih fun q hq=>h q (by simp[hq])]
  congr 1
  exact runR_eq (x:=q.1) (y:=q.2) (h q (by simp))
end Go.V
namespace Go.V
open Go Go.Proofs
def FirRel (g:Gr) (l:List Fi):Prop:=(mayG debL g=0∧∃ F,IsFlow g.ds F∧IsFirst g.ds F l)∨(mayG debL g≠0∧l=[])
theorem FirRel.unique {g:Gr} {l l':List Fi} (h:FirRel g l) (h':FirRel g l'):l=l':=by
 rcases h with ⟨a,F,hF,h⟩ | ⟨a,h⟩<;>rcases h' with ⟨b,F',hF',h'⟩ | ⟨b,h'⟩
 ·obtain rfl:=hF.unique hF'
  exact IsR.unique h h'
 ·exact absurd a b
 ·exact absurd b a
 ·rw[h,h']
theorem FirRel.len {g:Gr} {l:List Fi} (h:FirRel g l):l.length≤g.ds.length:=by
 rcases h with ⟨a,F,hF,h⟩ | ⟨a,h⟩
 ·rw[h.len];exact Nat.le_refl _
 ·rw[h];exact Nat.zero_le _
def NodRel (g:Gr) (l:List Fi) (t:Tr) (r:List Fi):Prop:=(okI debL g l t=true∧∃ F,IsFlow g.ds F∧r=nodesI (placesL g.ds) l (nodesF (placesL g.ds) F t.ns []) t.ns [])∨(okI debL g l t=false∧r=[])
theorem NodRel.unique {g:Gr} {l:List Fi} {t:Tr} {r r':List Fi} (h:NodRel g l t r) (h':NodRel g l t r'):r=r':=by
 rcases h with ⟨a,F,hF,rfl⟩ | ⟨a,rfl⟩<;>rcases h' with ⟨b,F',hF',rfl⟩ | ⟨b,rfl⟩
 ·obtain rfl:=hF.unique hF'
  rfl
 ·rw[a] at b;cases b
 ·rw[a] at b;cases b
 ·rfl
theorem NodRel.len {g:Gr} {l:List Fi} {t:Tr} {r:List Fi} (h:NodRel g l t r):r.length≤t.ns.length:=by
 rcases h with ⟨a,F,hF,rfl⟩ | ⟨a,rfl⟩
 ·rw[nodesI_len];simp
 ·exact Nat.zero_le _
def TrRel (g:Gr) (l:List Fi) (t:Tr) (y:Fi):Prop:=(okI debL g l t=true∧∃ F,IsFlow g.ds F∧y=(nodesI (placesL g.ds) l (nodesF (placesL g.ds) F t.ns []) t.ns []).getD t.root.toNat fi0)∨(okI debL g l t=false∧y=fi0)
theorem TrRel.unique {g:Gr} {l:List Fi} {t:Tr} {r r':Fi} (h:TrRel g l t r) (h':TrRel g l t r'):r=r':=by
 rcases h with ⟨a,F,hF,rfl⟩ | ⟨a,rfl⟩<;>rcases h' with ⟨b,F',hF',rfl⟩ | ⟨b,rfl⟩
 ·obtain rfl:=hF.unique hF'
  rfl
 ·rw[a] at b;cases b
 ·rw[a] at b;cases b
 ·rfl
theorem rowOI {b n:Nat} {l:List Fi} (h:l.length=n) (hn:n≤9223372036854775807):OS.ok ⟨some b,n,n,l.flatMap Fi.cells⟩ 5 (l.flatMap Fi.cells):=
 ⟨by simp only;rw[fi_len,h],(fun h=>by cases h),fun g _=>⟨by simp only;rw[fi_len,h],Nat.le_refl _,by unfold maxLen;exact hn,by simp only;exact List.take_of_length_le (by rw[fi_len,h];exact Nat.le_refl _)⟩⟩
section
variable {I:GH} {M0:List Blk}
theorem IOf_own (hT:Tabs I debL) {g:Gr} (hg:g.ok I) (hkb:∀ d∈g.ds,KB d.t) (hn:g.n≤9223372036854775807) {m:Int} (hm:mayG debL g=m):Spec Tryz.prog 36 [g.val] I M0 fun v I' M'=>(∀ b o,I b=some o→I' b=some o) ∧
  ∃ (os:OS) (l:List Fi),FirRel g l∧os.ok 5 (l.flatMap Fi.cells)∧v=.tuple #[os.val,.int .i64 m]∧M'=os.blk 67++M0:=by
 refine Spec.weakK (Spec.frame (IOf_spec hT hg hkb)) ?_
 rintro v J M ⟨M',rfl,-,h1,-,⟨h2,rfl,rfl⟩ | ⟨h2,F,b,l,hF,hl,rfl,rfl⟩⟩
 ·exact⟨h1,OS0,[],.inr ⟨h2,rfl⟩,OS0_ok 5,by rw[hm];rfl,rfl⟩
 ·exact⟨h1,⟨some b,g.n,g.n,l.flatMap Fi.cells⟩,l,.inl ⟨h2,F,hF,hl⟩,rowOI (by rw[hl.len,hg.n]) hn,by rw[←hm,h2];rfl,rfl⟩
theorem RIOf_own {g:Gr} (hg:g.ok I) (hf:GFit g) {m:Int} (hm:mayG debL g=m):Spec Tryz.prog 35 [g.val] I M0 fun v I' M'=>(∀ b o,I b=some o→I' b=some o) ∧
  ∃ (os:OS) (l:List Fi),FirRel g l∧os.ok 5 (l.flatMap Fi.cells)∧v=.tuple #[os.val,.int .i64 m]∧M'=os.blk 70++M0:=by
 refine Spec.weakK (Spec.frame (RIOf_spec clsOk hg hf)) ?_
 rintro v J M ⟨M',rfl,-,h1,-,⟨h2,rfl,rfl⟩ | ⟨h2,F,b,l,hF,hl,rfl,rfl⟩⟩
 ·exact⟨h1,OS0,[],.inr ⟨h2,rfl⟩,OS0_ok 5,by rw[hm];rfl,rfl⟩
 ·exact⟨h1,⟨some b,g.n,g.n,l.flatMap Fi.cells⟩,l,.inl ⟨h2,F,hF,hl⟩,rowOI (by rw[hl.len,hg.n]) (by have:=hf.n;omega),by rw[←hm,h2];rfl,rfl⟩
theorem INodes_own (hT:Tabs I debL) {g:Gr} (hg:g.ok I) {t:Tr} (ht:t.ok I) (hkb:KB t) (hn:t.n≤9223372036854775807) {la:Option Addr} {ln lc:Nat} {l:List Fi} (hl:IsAt I M0 la ln l) {nb:Bool} (hnb:okI debL g l t=nb) :
  Spec Tryz.prog 39 [g.val,.slice la ln lc,t.val] I M0 fun v I' M'=>(∀ b o,I b=some o→I' b=some o)∧∃ (os:OS) (r:List Fi),NodRel g l t r∧os.ok 5 (r.flatMap Fi.cells)∧v=.tuple #[os.val,.bool nb]∧M'=os.blk 67++M0:=by
 refine Spec.weakK (INodes_spec hT hg ht hkb hl) ?_
 rintro v J M ⟨h1,⟨h2,rfl,rfl⟩ | ⟨h2,F,b,hF,rfl,rfl⟩⟩
 ·exact⟨h1,OS0,[],.inr ⟨h2,rfl⟩,OS0_ok 5,by rw[←hnb,h2];rfl,rfl⟩
 ·exact⟨h1,⟨some b,t.n,t.n,_⟩,_,.inl ⟨h2,F,hF,rfl⟩,rowOI (by rw[nodesI_len,←ht.n];simp) hn,by rw[←hnb,h2];rfl,rfl⟩
theorem RINodes_own {g:Gr} (hg:g.ok I) (hf:GFit g) {t:Tr} (ht:t.ok I) {W:Nat} (hft:Fit t W) {la:Option Addr} {ln lc:Nat} {l:List Fi} (hl:IsAt I M0 la ln l) {nb:Bool} (hnb:okI debL g l t=nb) :
  Spec Tryz.prog 40 [g.val,.slice la ln lc,t.val] I M0 fun v I' M'=>(∀ b o,I b=some o→I' b=some o)∧∃ (os:OS) (r:List Fi),NodRel g l t r∧os.ok 5 (r.flatMap Fi.cells)∧v=.tuple #[os.val,.bool nb]∧M'=os.blk 70++M0:=by
 refine Spec.weakK (RINodes_spec clsOk hg hf ht hft hl) ?_
 rintro v J M ⟨h1,⟨h2,rfl,rfl⟩ | ⟨h2,F,os,hF,hos,rfl,rfl⟩⟩
 ·exact⟨h1,OS0,[],.inr ⟨h2,rfl⟩,OS0_ok 5,by rw[←hnb,h2];rfl,rfl⟩
 ·exact⟨h1,os,_,.inl ⟨h2,F,hF,rfl⟩,hos,by rw[←hnb,h2],rfl⟩
theorem ITree_own (hT:Tabs I debL) {g:Gr} (hg:g.ok I) {t:Tr} (ht:t.ok I) (hkb:KB t) {la:Option Addr} {ln lc:Nat} {l:List Fi} (hl:IsAt I M0 la ln l) {nb:Bool} (hnb:okI debL g l t=nb) :
  Spec Tryz.prog 41 [g.val,.slice la ln lc,t.val] I M0 fun v I' M'=>(∀ b o,I b=some o→I' b=some o)∧M'=M0∧∃ y,TrRel g l t y∧v=.tuple #[y.val,.bool nb]:=by
 refine Spec.weakK (ITree_spec hT hg ht hkb hl) ?_
 rintro v J M ⟨h1,h0,⟨h2,rfl⟩ | ⟨h2,F,hF,rfl⟩⟩
 ·exact⟨h1,h0,fi0,.inr ⟨h2,rfl⟩,by rw[←hnb,h2]⟩
 ·exact⟨h1,h0,_,.inl ⟨h2,F,hF,rfl⟩,by rw[←hnb,h2]⟩
theorem RITree_own {g:Gr} (hg:g.ok I) (hf:GFit g) {t:Tr} (ht:t.ok I) {W:Nat} (hft:Fit t W) {la:Option Addr} {ln lc:Nat} {l:List Fi} (hl:IsAt I M0 la ln l) {nb:Bool} (hnb:okI debL g l t=nb) {y:Fi} (hy:TrRel g l t y) :
  Spec Tryz.prog 42 [g.val,.slice la ln lc,t.val] I M0 fun v I' M'=>(∀ b o,I b=some o→I' b=some o)∧M'=M0∧v=.tuple #[y.val,.bool nb]:=by
 refine Spec.weakK (RITree_spec clsOk hg hf ht hft hl) ?_
 rintro v J M ⟨h1,h0,⟨h2,rfl⟩ | ⟨h2,F,hF,rfl⟩⟩
 ·obtain rfl:=hy.unique (.inr ⟨h2,rfl⟩)
  exact⟨h1,h0,by rw[←hnb,h2]⟩
 ·obtain rfl:=hy.unique (.inl ⟨h2,F,hF,rfl⟩)
  exact⟨h1,h0,by rw[←hnb,h2]⟩
end
theorem Gs11.fit {I:GH} {g:Gr} (h:Gs11 g) (hg:g.ok I):GFit g:=by
 refine⟨by have:=h.n;omega,fun d hd=>?_⟩
 have hs:=(h.ds d hd).t
 have hn:=hs.n
 refine⟨fun nd hnd=>by have:=(hs.ns nd hnd).kn;omega,by omega,by omega⟩
theorem Ts11.fit {t:Tr} (h:Ts11 t):Fit t 1000000:=by
 have hn:=h.n
 exact⟨fun nd hnd=>by have:=(h.ns nd hnd).kn;omega,by omega,by omega⟩
set_option maxRecDepth 100000 in
set_option maxHeartbeats 32000000 in
theorem firstTells_V {I:GH} (hT:Tabs I debL) {g:Gr} (hgw:GrW I g) {x:IA} (hxw:IsW I x) {t:Tr} (htw:TrW I t):SpecE Tryz.prog 6 [g.val,x.val,t.val] I [] fun v I' M'=>v=.bool true:=by
 refine specE_of_V [] TryzEOK Tryz.func6 rfl rfl rfl ?_
 intro B h0
 refine CallOb.mk [] [] _ (.refl _) (large11_spec hgw htw) ?_
 rintro v J N - ⟨⟨r,rfl,hr⟩,hJ',hN'⟩
 subst J
 subst N
 cases r with
 | true=>
  refine GuardOb.mk (fun h=>absurd h (by simp)) (fun _=>?_)
  refine CallOb.mk [] [] _ (.refl _) (awake11_spec hT) ?_
  rintro v J1 N - ⟨rfl,hJ1,rfl⟩
  exact⟨_,_,.refl,rfl⟩
 | false=>
 refine GuardOb.mk (fun _=>?_) (fun h=>absurd h (by simp))
 refine CondOb.mk (fun _=>?_) (fun hx100=>?_)
 ·refine CallOb.mk [] [] _ (.refl _) (awake11_spec hT) ?_
  rintro v J1 N - ⟨rfl,hJ1,rfl⟩
  exact⟨_,_,.refl,rfl⟩
 have hx1:x.n≤100:=by have:=of_decide_eq_false hx100;omega
 obtain⟨hgs,hts⟩:=hr rfl
 have hg:=hgw.ok11 hgs
 have ht:=htw.ok11 hts
 have hx:=hxw
 have hgn:=hg.n
 have htn:=ht.n
 have hg400:=hgs.n
 have ht400:=hts.n
 have hgf:=hgs.fit hg
 have htf:=hts.fit
 clear hgw hxw htw hr
 have hkg:∀ d∈g.ds,KB d.t:=fun d hd n hn=>by have:=((hgs.ds d hd).t.ns n hn).kn;omega
 have hkt:KB t:=fun n hn=>by have:=(hts.ns n hn).kn;omega
 obtain⟨m,hm⟩:∃ m,mayG debL g=m:=⟨_,rfl⟩
 have hab:∀ {o:OS} {l:List Fi},o.ok 5 (l.flatMap Fi.cells)→o.n=l.length:=fun {o l} h=>by have:=h.len;rw[fi_len] at this;omega
 refine CallOb.mk [] [] _ (.refl _) (RIOf_own (M0:=[]) hg hgf hm) ?_
 rintro v J0 N - ⟨hJ0,oa,la,hla,hoa,rfl,rfl⟩
 have hal:=hla.len
 have han:=hab hoa
 refine LoopOb.inv (ι:=Nat×GH) (fun s=>{ fl:=[(1,.val x.val),(3,.ref 3 0),(5,.ref 5 0),(7,.val oa.val),(8,.val (.int .i64 m)),(9,.val (.int .i64 s.1))],cl:=[(3,[.slice g.a g.n g.c]),(5,t.cells)],gi:=s.2,mi:=oa.blk 70 }) (fun s=>s.1≤2∧∀ b o,I b=some o→s.2 b=some o) (fun s=>2 - s.1) ?_ ?_
 ·exact⟨(0,J0),⟨by simp,hJ0⟩,.eqM (by simp),.cons .refl (.cons .refl (.cons .refl (.cons .refl (.cons .refl (.cons .refl (.nil)))))),.cons rfl (.cons rfl (.nil))⟩
 rintro⟨rd,J⟩ ⟨hrd,hJ⟩
 simp only at hrd hJ
 refine CondOb.mk (fun h=>?_) (fun h=>?_)
 rotate_left
 ·refine CallOb.mk [] _ _ (.refl _) (awake11_spec (hT.mono hJ)) ?_
  rintro v J1 N - ⟨rfl,hJ1,rfl⟩
  exact⟨_,_,.refl,rfl⟩
 have hrl:rd < 2:=by have:(rd:Int) < 2:=of_decide_eq_true h;omega
 refine CallOb.whole _ (IOf_own (hT.mono hJ) (hg.mono hJ) hkg (by omega) hm) ?_
 rintro v J1 N - ⟨hJ1',ob,lb,hlb,hob,rfl,rfl⟩
 obtain rfl:=hla.unique hlb
 have hJ1:∀ b o,I b=some o→J1 b=some o:=fun b o h=>hJ1' _ _ (hJ _ _ h)
 have hbn:=hab hob
 refine GuardOb.mk (fun _=>?_) (fun e=>by simp at e)
 refine CallOb.whole _ (toldI_spec (OS.isAt (e:=67) hob fun z hz=>by simp[hz]) (by omega)) ?_
 rintro v J2 N - ⟨hJ2,ou,rfl,hou,rfl⟩
 subst J2
 refine CallOb.whole _ (sameI_spec (OS.isAt (e:=70) hou fun z hz=>by simp[hz]) (OS.isAt (e:=70) hoa fun z hz=>by simp[hz]) (by have:=hab hou;omega)) ?_
 rintro v J2 N - ⟨rfl,hJ2,hN⟩
 subst J2
 subst N
 refine CondOb.mk (fun e=>by simp at e) (fun _=>?_)
 refine AllocOb.mk fun b59 hb59 hbM59=>?_
 refine LoopOb.inv (ι:=Nat×GH) (fun s=>{ fl:=[(1,.val x.val),(3,.ref 3 0),(5,.ref 5 0),(7,.val oa.val),(8,.val (.int .i64 m)),(9,.val (.int .i64 rd)),(10,.val ob.val),(59,.val (.slice (some ⟨b59,0,none⟩) 2 2)),(60,.val (.int .i64 2)),(61,.val (.int .i64 s.1))],cl:=[(3,[.slice g.a g.n g.c]),(5,t.cells)],gi:=s.2,mi:=⟨b59,.cells #[x.val,ob.val] 49 (0,0)⟩::(ob.blk 67++oa.blk 70) }) (fun s=>s.1≤2∧∀ b o,I b=some o→s.2 b=some o) (fun s=>2 - s.1) ?_ ?_
 ·exact⟨(0,J1),⟨by simp,hJ1⟩,.sub (.cons_cons _ (List.sublist_append_right _ _)) .refl,.cons .refl (.cons .refl (.cons .refl (.cons .refl (.cons .refl (.cons .refl (.cons .refl (.cons .refl (.cons .refl (.cons .refl (.nil)))))))))),.cons rfl (.cons rfl (.nil))⟩
 rintro⟨k,K⟩ ⟨hk,hK⟩
 simp only at hk hK
 refine CondOb.mk (fun hk2=>?_) (fun _=>?_)
 rotate_left
 ·
  refine LoopOb.inv (ι:=Nat×OS×List Fi) (fun s=>{ fl:=[(1,.val x.val),(3,.ref 3 0),(5,.ref 5 0),(7,.val oa.val),(8,.val (.int .i64 m)),(9,.val (.int .i64 rd)),(10,.val s.2.1.val),(23,.val (.int .i64 s.1))],cl:=[(3,[.slice g.a g.n g.c]),(5,t.cells)],gi:=K,mi:=s.2.1.blk 67++oa.blk 70 }) (fun s=>s.1≤ob.n∧s.2.1.n=ob.n∧s.2.2.length=ob.n∧s.2.1.ok 5 (s.2.2.flatMap Fi.cells)) (fun s=>ob.n - s.1) ?_ ?_
  ·exact⟨(0,ob,la),⟨Nat.zero_le _,rfl,hbn.symm,hob⟩,.sub (.cons _ (.refl _)) .refl,.cons .refl (.cons .refl (.cons .refl (.cons .refl (.cons .refl (.cons .refl (.cons .refl (.cons .refl (.nil)))))))),.cons rfl (.cons rfl (.nil))⟩
  rintro⟨q,p,l⟩ ⟨hq,hpn,hll,hp⟩
  simp only at hq hpn hll hp
  refine CondOb.mk (fun h3=>?_) (fun h3=>?_)
  ·have hqn:q < p.n:=by have:(q:Int) < (p.n:Int):=of_decide_eq_true h3;omega
   obtain⟨ad,had,hrd'⟩:=OS.ok.row (I:=K) (M:=p.blk 67++oa.blk 70) (e:=67) Fi.cells_len (by decide) hp (fun z hz=>by simp[hz]) (show q < l.length by omega)
   refine IdxOb.mk ad q had rfl hqn ?_
   refine OS.putP Fi.cells 5 Fi.cells_len (e:=67) hp (show q < l.length by omega) 0 (Nat.le_of_ble_eq_true rfl) rfl (⟨⟨7,0,0,0⟩,(l[q]'(by omega)).f⟩:Fi) rfl [] (oa.blk 70) rfl had ?_
   intro p' hv' ha' hn' hp'
   refine ArithOb.mk _ (next_wr (i:=q) (by omega)) ?_
   exact⟨(q+1,p',_),⟨⟨by simp only;omega,by simp only;omega,by simp only[List.length_set];omega,hp'⟩,by simp only;omega⟩,.refl,.cons .refl (.cons .refl (.cons .refl (.cons .refl (.cons .refl (.cons .refl (.cons (by rw[←hv'];exact .refl) (.cons .refl .nil))))))),.cons rfl (.cons rfl (.nil))⟩
  ·refine ArithOb.mk _ (next_wr (i:=rd) (by omega)) ?_
   exact⟨(rd+1,K),⟨⟨by simp only;omega,hK⟩,by simp only;omega⟩,.sub (List.sublist_append_right _ _) .refl,.cons .refl (.cons .refl (.cons .refl (.cons .refl (.cons .refl (.cons .refl (.nil)))))),.cons rfl (.cons rfl (.nil))⟩
 have hkl:k < 2:=by have:(k:Int) < 2:=of_decide_eq_true hk2;omega
 obtain⟨ba,bn,bc,bl,hrb,hbn5,hby⟩:∃ (ba:Option Addr) (bn bc:Nat) (bl:List Fi),Rd K (⟨b59,.cells #[x.val,ob.val] 49 (0,0)⟩::(ob.blk 67++oa.blk 70)) ((⟨b59,0,none⟩:Addr).add (k * 1)) 1 [.slice ba bn bc]∧bn≤400∧∀ {K':GH} {M':List Blk},(∀ b o,K b=some o→K' b=some o)→(∀ z∈ob.blk 67,z∈M')→IsAt K' M' ba bn bl:=by
  match k,hkl with
  | 0,_=>exact⟨x.a,x.n,x.c,x.l,blk_rd (cs:=[x.val,ob.val]) (k:=0) (n:=1) (.head _) (by simp),by omega,fun {K' M'} h1 _=>((hx.mono hK).mono h1).at'.sub fun z hz=>by cases hz⟩
  | 1,_=>exact⟨ob.a.map fun g=>⟨g,0,none⟩,ob.n,ob.c,la,blk_rd (cs:=[x.val,ob.val]) (k:=1) (n:=1) (.head _) (by simp),by omega,fun {K' M'} _ h2=>OS.isAt hob h2⟩
 refine IdxOb.mk ⟨b59,0,none⟩ k rfl rfl hkl ?_
 refine LoadOb.mk _ hrb ?_
 obtain⟨nb,hnb⟩:∃ nb,okI debL g bl t=nb:=⟨_,rfl⟩
 refine CallOb.whole _ (INodes_own (hT.mono hK) (hg.mono hK) (ht.mono hK) hkt (by omega) (hby (fun _ _ h=>h) fun z hz=>by simp[hz]) hnb) ?_
 rintro v K1 N - ⟨hK1',oc,rc,hrc,hoc,rfl,rfl⟩
 have hK1:∀ b o,I b=some o→K1 b=some o:=fun b o h=>hK1' _ _ (hK _ _ h)
 have hcl:=hrc.len
 have hcn:=hab hoc
 refine CodeOb.draw TryzEOK rfl rfl rfl ?_
 refine PCallOb.whole _ (toldI_spec (hby hK1' fun z hz=>by simp[hz]) (by omega)) (fun v I' M' h x hx=>by obtain⟨-,o,-,-,e⟩:=h;rw[e];exact List.mem_append.2 (.inr hx)) ?_
 rintro v K2 N - ⟨hK2,ot,rfl,hot,rfl⟩
 subst K2
 refine CallOb.whole _ (RINodes_own (hg.mono hK1) hgf (ht.mono hK1) htf (OS.isAt (e:=70) hot fun z hz=>by simp[hz]) hnb) ?_
 rintro v K2 N - ⟨hK2',od,rd',hrd',hod,rfl,rfl⟩
 obtain rfl:=hrc.unique hrd'
 have hK2:∀ b o,I b=some o→K2 b=some o:=fun b o h=>hK2' _ _ (hK1 _ _ h)
 refine CallOb.whole _ (ITree_own (hT.mono hK2) (hg.mono hK2) (ht.mono hK2) hkt (hby (fun b o h=>hK2' _ _ (hK1' _ _ h)) fun z hz=>by simp[hz]) hnb) ?_
 rintro v K3 N - ⟨hK3',hN,y,hy,rfl⟩
 subst N
 have hK3:∀ b o,I b=some o→K3 b=some o:=fun b o h=>hK3' _ _ (hK2 _ _ h)
 have hKK3:∀ b o,K b=some o→K3 b=some o:=fun b o h=>hK3' _ _ (hK2' _ _ (hK1' _ _ h))
 refine CodeOb.drawC TryzEOK rfl rfl rfl (ι:=Nat×GH) (fun s=>{ fl:=[(1,.val x.val),(3,.ref 3 0),(5,.ref 5 0),(7,.val oa.val),(8,.val (.int .i64 m)),(9,.val (.int .i64 rd)),(10,.val ob.val),(14,.val oc.val),(15,.val (.bool nb)),(16,.val od.val),(17,.val (.bool nb)),(18,.ref 18 0),(19,.val (.bool nb)),(20,.val (ptr s.1)),(21,.val (.bool nb)),(59,.val (.slice (some ⟨b59,0,none⟩) 2 2)),(60,.val (.int .i64 2)),(61,.val (.int .i64 k))],cl:=[(3,[.slice g.a g.n g.c]),(5,t.cells),(18,y.cells)],gi:=s.2,mi:=⟨s.1,.cells y.cells.toArray 70 (0,0)⟩::(od.blk 70++(oc.blk 67++(⟨b59,.cells #[x.val,ob.val] 49 (0,0)⟩::(ob.blk 67++oa.blk 70)))) }) (fun s=>∀ b o,I b=some o→s.2 b=some o) ?_ ?_
 ·refine⟨?_,?_⟩
  ·refine PCallOb.whole _ (toldI_spec (hby hKK3 fun z hz=>by simp[hz]) (by omega)) (fun v I' M' h x hx=>by obtain⟨-,o,-,-,e⟩:=h;rw[e];exact List.mem_append.2 (.inr hx)) ?_
   rintro v K4 N - ⟨hK4,ow,rfl,how,rfl⟩
   subst K4
   refine⟨?_,?_⟩
   ·refine CallOb.whole _ (RITree_own (hg.mono hK3) hgf (ht.mono hK3) htf (OS.isAt (e:=70) how fun z hz=>by simp[hz]) hnb hy) ?_
    rintro v K5 N - ⟨hK5,hN,rfl⟩
    subst N
    refine AllocOb.mk fun b20 hb20 hbM20=>?_
    refine StoreOb.to [] _ _ _ rfl rfl rfl rfl y.cells rfl ?_
    exact⟨(b20,K5),fun b o h=>hK5 _ _ (hK3 _ _ h),.sub (.cons_cons _ ((List.Sublist.append (.refl _) (List.sublist_append_right _ _)).trans (List.sublist_append_right _ _))) .refl,.cons .refl (.cons .refl (.cons .refl (.cons .refl (.cons .refl (.cons .refl (.cons .refl (.cons .refl (.cons .refl (.cons .refl (.cons .refl (.cons .refl (.cons .refl (.cons .refl (.cons .refl (.cons .refl (.cons .refl (.cons .refl (.nil)))))))))))))))))),.cons rfl (.cons rfl (.cons rfl (.nil)))⟩
   ·refine AllocOb.mk fun b20 hb20 hbM20=>?_
    refine PCallOb.whole _ (RITree_own (hg.mono hK3) hgf (ht.mono hK3) htf (OS.isAt (e:=70) how fun z hz=>by simp[hz]) hnb hy) (fun v I' M' h x hx=>by rw[h.2.1];exact hx) ?_
    rintro v K5 N - ⟨hK5,hN,rfl⟩
    subst N
    refine StoreOb.to [] _ _ _ rfl rfl rfl rfl y.cells rfl ?_
    exact⟨(b20,K5),fun b o h=>hK5 _ _ (hK3 _ _ h),.sub (.cons_cons _ ((List.Sublist.append (.refl _) (List.sublist_append_right _ _)).trans (List.sublist_append_right _ _))) .refl,.cons .refl (.cons .refl (.cons .refl (.cons .refl (.cons .refl (.cons .refl (.cons .refl (.cons .refl (.cons .refl (.cons .refl (.cons .refl (.cons .refl (.cons .refl (.cons .refl (.cons .refl (.cons .refl (.cons .refl (.cons .refl (.nil)))))))))))))))))),.cons rfl (.cons rfl (.cons rfl (.nil)))⟩
  ·refine AllocOb.mk fun b20 hb20 hbM20=>?_
   refine PCallOb.whole _ (toldI_spec (hby hKK3 fun z hz=>by simp[hz]) (by omega)) (fun v I' M' h x hx=>by obtain⟨-,o,-,-,e⟩:=h;rw[e];exact List.mem_append.2 (.inr hx)) ?_
   rintro v K4 N - ⟨hK4,ow,rfl,how,rfl⟩
   subst K4
   refine PCallOb.whole _ (RITree_own (hg.mono hK3) hgf (ht.mono hK3) htf (OS.isAt (e:=70) how fun z hz=>by simp[hz]) hnb hy) (fun v I' M' h x hx=>by rw[h.2.1];exact hx) ?_
   rintro v K5 N - ⟨hK5,hN,rfl⟩
   subst N
   refine StoreOb.to (ow.blk 70) _ _ _ rfl rfl rfl rfl y.cells rfl ?_
   exact⟨(b20,K5),fun b o h=>hK5 _ _ (hK3 _ _ h),.sub ((List.Sublist.cons_cons _ (List.Sublist.append (.refl _) (List.sublist_append_right _ _))).trans (List.sublist_append_right _ _)) .refl,.cons .refl (.cons .refl (.cons .refl (.cons .refl (.cons .refl (.cons .refl (.cons .refl (.cons .refl (.cons .refl (.cons .refl (.cons .refl (.cons .refl (.cons .refl (.cons .refl (.cons .refl (.cons .refl (.cons .refl (.cons .refl (.nil)))))))))))))))))),.cons rfl (.cons rfl (.cons rfl (.nil)))⟩
 rintro⟨b20,K6⟩ hK6
 simp only at hK6
 refine GuardOb.mk (fun _=>?_) (fun e=>by simp at e)
 refine GuardOb.mk (fun _=>?_) (fun e=>by simp at e)
 refine CallOb.whole _ (toldI_spec (OS.isAt (e:=67) hoc fun z hz=>by simp[hz]) (by omega)) ?_
 rintro v K7 N - ⟨hK7,ov,rfl,hov,rfl⟩
 subst K7
 refine CallOb.whole _ (sameI_spec (OS.isAt (e:=70) hov fun z hz=>by simp[hz]) (OS.isAt (e:=70) hod fun z hz=>by simp[hz]) (by have:=hab hov;omega)) ?_
 rintro v K7 N - ⟨rfl,hK7,hN⟩
 subst K7
 subst N
 refine GuardOb.mk (fun _=>?_) (fun e=>by simp at e)
 refine LoadOb.mk y.cells ⟨rfl,_,_,_,.inr ⟨⟨b20,.cells y.cells.toArray 70 (0,0)⟩,by simp,rfl,rfl⟩,rfl,rfl⟩ ?_
 refine BinOb.neIR (p:=y) (q:=y) ?_
 refine CondOb.mk (fun e=>by simp at e) (fun _=>?_)
 refine LoopOb.inv (ι:=Nat×OS×List Fi) (fun s=>{ fl:=[(1,.val x.val),(3,.ref 3 0),(5,.ref 5 0),(7,.val oa.val),(8,.val (.int .i64 m)),(9,.val (.int .i64 rd)),(10,.val ob.val),(14,.val s.2.1.val),(22,.val (.int .i64 s.1)),(59,.val (.slice (some ⟨b59,0,none⟩) 2 2)),(60,.val (.int .i64 2)),(61,.val (.int .i64 k))],cl:=[(3,[.slice g.a g.n g.c]),(5,t.cells)],gi:=K6,mi:=s.2.1.blk 67++(⟨b59,.cells #[x.val,ob.val] 49 (0,0)⟩::(ob.blk 67++oa.blk 70)) })
  (fun s=>s.1≤oc.n∧s.2.1.n=oc.n∧s.2.2.length=oc.n∧s.2.1.ok 5 (s.2.2.flatMap Fi.cells)) (fun s=>oc.n - s.1) ?_ ?_
 ·exact⟨(0,oc,rc),⟨Nat.zero_le _,rfl,hcn.symm,hoc⟩,.sub ((List.sublist_append_right _ _).trans ((List.sublist_cons_self _ _).trans (List.sublist_append_right _ _))) .refl,.cons .refl (.cons .refl (.cons .refl (.cons .refl (.cons .refl (.cons .refl (.cons .refl (.cons .refl (.cons .refl (.cons .refl (.cons .refl (.cons .refl (.nil)))))))))))),.cons rfl (.cons rfl (.nil))⟩
 rintro⟨q,p,l⟩ ⟨hq,hpn,hll,hp⟩
 simp only at hq hpn hll hp
 refine CondOb.mk (fun h3=>?_) (fun h3=>?_)
 ·have hqn:q < p.n:=by have:(q:Int) < (p.n:Int):=of_decide_eq_true h3;omega
  obtain⟨ad,had,hrdq⟩:=OS.ok.row (I:=K6) (M:=p.blk 67++(⟨b59,.cells #[x.val,ob.val] 49 (0,0)⟩::(ob.blk 67++oa.blk 70))) (e:=67) Fi.cells_len (by decide) hp (fun z hz=>by simp[hz]) (show q < l.length by omega)
  refine IdxOb.mk ad q had rfl hqn ?_
  refine LoadOb.mk _ (hrdq.part (k:=4) (m:=1) (by decide)) ?_
  refine IdxOb.mk ad q had rfl hqn ?_
  refine OS.putP Fi.cells 5 Fi.cells_len (e:=67) hp (show q < l.length by omega) 4 (Nat.le_of_ble_eq_true rfl) rfl (⟨(l[q]'(by omega)).w,!(l[q]'(by omega)).f⟩:Fi) rfl [] (⟨b59,.cells #[x.val,ob.val] 49 (0,0)⟩::(ob.blk 67++oa.blk 70)) rfl had ?_
  intro p' hv' ha' hn' hp'
  refine ArithOb.mk _ (next_wr (i:=q) (by omega)) ?_
  exact⟨(q+1,p',_),⟨⟨by simp only;omega,by simp only;omega,by simp only[List.length_set];omega,hp'⟩,by simp only;omega⟩,.refl,.cons .refl (.cons .refl (.cons .refl (.cons .refl (.cons .refl (.cons .refl (.cons .refl (.cons (by rw[←hv'];exact .refl) (.cons .refl (.cons .refl (.cons .refl (.cons .refl (.nil)))))))))))),.cons rfl (.cons rfl (.nil))⟩
 ·refine ArithOb.mk _ (next_wr (i:=k) (by omega)) ?_
  exact⟨(k+1,K6),⟨⟨by simp only;omega,hK6⟩,by simp only;omega⟩,.sub (List.sublist_append_right _ _) .refl,.cons .refl (.cons .refl (.cons .refl (.cons .refl (.cons .refl (.cons .refl (.cons .refl (.cons .refl (.cons .refl (.cons .refl (.nil)))))))))),.cons rfl (.cons rfl (.nil))⟩
end Go.V
