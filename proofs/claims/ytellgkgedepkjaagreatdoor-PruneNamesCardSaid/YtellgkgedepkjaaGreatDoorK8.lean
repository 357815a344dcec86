/-
  Part 8 of what the proofs of this seat share: the executor, data in memory, walks.
-/
import Derived.Test.YtellgkgedepkjaaGreatDoorK7
import Derived.Test.YtellgkgedepkjaaGreatDoorK5
set_option linter.all false
namespace Go.V
open Go Go.Proofs
section
variable {deb:List Int} {g:Gr} (hn:g.ds.length=g.n)
include hn
theorem kept_keeps (h64:g.n≤64) {l:List Int} (hk:keepOk deb g l=true):mayG deb g=0∧Keeps g.ds (keepL ((marks64 l).take g.n) g.ds) (upK ((marks64 l).take g.n))∧(keepL ((marks64 l).take g.n) g.ds).length=l.length∧0 < l.length:=by
 simp only[keepOk,Bool.and_eq_true,decide_eq_true_eq] at hk
 obtain⟨hm,hl0,hin,hnd,hcl⟩:=hk
 have hin:=List.all_eq_true.1 hin
 have hcl:=List.all_eq_true.1 hcl
 have hs:((marks64 l).take g.n).length=g.ds.length:=by rw[List.length_take,marks_len];omega
 have hget:∀ k:Nat,((marks64 l).take g.n).getD k false=true ↔ k < g.n∧(k:Int)∈l:=fun k=>by
  rw[getD_take']
  by_cases h:k < g.n
  ·rw[if_pos h,marks_get (by omega),decide_eq_true_iff]
   exact⟨fun h'=>⟨h,h'⟩,fun h'=>h'.2⟩
  ·rw[if_neg h]
   exact⟨(fun h'=>by cases h'),fun h'=>absurd h'.1 h⟩
 refine⟨hm,keeps_calls hn hm hs fun i hi h1 k h2=>?_,?_,List.length_pos_iff.2 hl0⟩
 ·obtain⟨h3,h4⟩:=(hget i).1 h1
  have hcg:callsG deb g (i:Int)=(callsL g).getD i []:=by
   have hir:inR (i:Int) g.n=true:=by
    unfold inR
    simp
    omega
   rw[callsG,hir,decide_eq_true hm]
   rfl
  have h5:=callsG_lt (deb:=deb) hn (i:=(i:Int)) (k:Int) (by rw[hcg];exact h2)
  unfold inN at h5
  simp only[Bool.and_eq_true,decide_eq_true_eq] at h5
  have h6:=List.all_eq_true.1 (hcl _ h4) (k:Int) (by rw[hcg];exact h2)
  exact(hget k).2 ⟨by omega,of_decide_eq_true h6⟩
 ·rw[(keepL_at _ g.ds hs).1]
  have h1:(ups ((marks64 l).take g.n)).length=(listL true 0 ((marks64 l).take g.n)).length:=by rw[ups_list true,List.length_map]
  rw[h1]
  refine nodup_len (listL_nodup _ _ _) hnd fun k=>?_
  constructor
  ·intro h2
   obtain⟨j,rfl,-⟩:=(listL_mem _ _ _ _).1 h2
   rw[Nat.zero_add] at h2 ⊢
   exact((hget j).1 (listL_isM.1 h2)).2
  ·intro h2
   have h3:=hin k h2
   unfold inN at h3
   simp only[Bool.and_eq_true,decide_eq_true_eq] at h3
   rw[show k=((k.toNat:Nat):Int) by omega] at h2 ⊢
   exact listL_isM.2 ((hget _).2 ⟨by omega,h2⟩)
theorem kept_from {h:Gr} (hhn:h.ds.length=h.n) {ds':List Df} {up:Nat→Nat} (hk:Keeps g.ds ds' up) (hct:h.ct=(grL ds').ct) (hm:mayG deb g=0) (hm':mayG deb h=0) {i:Nat} (hi:i < ds'.length):fromG deb g ((up i:Nat):Int)=(fromG deb h (i:Int)).map fun k=>((up k.toNat:Nat):Int):=by
 obtain⟨h1,-⟩:=hk.get hi
 have hcl:callsL h=callsL (grL ds'):=by rw[←callsL_ct h,hct,callsL_ct]
 have hhl:h.n=ds'.length:=congrArg Gr.n hct
 have e1:fromG deb g ((up i:Nat):Int)=fromI (callsL (grL g.ds)) (up i):=by
  have hir:inR ((up i:Nat):Int) g.n=true:=by
   unfold inR
   simp
   omega
  rw[fromG,hir,decide_eq_true hm,callsL_grL hn]
  rfl
 have e2:fromG deb h (i:Int)=fromI (callsL (grL ds')) i:=by
  have hir:inR (i:Int) h.n=true:=by
   unfold inR
   simp
   omega
  rw[fromG,hir,decide_eq_true hm',hcl]
  rfl
 rw[e1,e2,fromI_keep hk hi]
theorem kept_row {h:Gr} {ds':List Df} {up:Nat→Nat} (hk:Keeps g.ds ds' up) (hct:h.ct=(grL ds').ct) {i:Nat} (hi:i < h.ds.length):∃ hz:up i < g.ds.length,h.ds[i].name=g.ds[up i].name:=by
 have hds:h.ds.map Df.ct=ds'.map Df.ct:=congrArg Gr.ds hct
 have hlen:h.ds.length=ds'.length:=by simpa using congrArg List.length hds
 obtain⟨q1,q2⟩:=hk.get (i:=i) (by omega)
 have e:h.ds[i].ct=ds'[i].ct:=by
  have:=congrArg (fun l=>l[i]?) hds
  simp only[List.getElem?_map] at this
  rw[List.getElem?_eq_getElem hi,List.getElem?_eq_getElem (by omega)] at this
  exact Option.some.inj this
 rw[←q2] at e
 have en:=congrArg Df.name e
 exact⟨q1,en⟩
end
set_option maxRecDepth 100000 in
set_option maxHeartbeats 16000000 in
theorem pruneKept_V {I:GH} (hT:Tabs I debL) {g:Gr} (hgw:GrW I g) {x:Rw} (hx:RwW I x):SpecE Tryz.prog 10 [g.val,x.val] I [] fun v I' M'=>v=.bool true:=by
 refine specE_of_V [] TryzEOK Tryz.func10 rfl rfl rfl ?_
 intro B h0
 refine CallOb.mk [] [] _ (.refl _) (large25_spec hgw) ?_
 rintro v J N - ⟨⟨r,rfl,hr⟩,hJ',hN'⟩
 subst J
 subst N
 cases r with
 | true=>
  refine GuardOb.mk (fun h=>absurd h (by simp)) (fun _=>?_)
  refine CallOb.mk [] [] _ (.refl _) (awake25_spec hT) ?_
  rintro v J1 N - ⟨rfl,hJ1,rfl⟩
  exact⟨_,_,.refl,rfl⟩
 | false=>
 refine GuardOb.mk (fun _=>?_) (fun h=>absurd h (by simp))
 by_cases hxl:(100:Int) < (x.n:Int)
 ·refine GuardOb.mk (fun h=>absurd h (by simp[hxl])) (fun _=>?_)
  refine CallOb.mk [] [] _ (.refl _) (awake25_spec hT) ?_
  rintro v J1 N - ⟨rfl,hJ1,rfl⟩
  exact⟨_,_,.refl,rfl⟩
 refine GuardOb.mk (fun _=>?_) (fun h=>absurd h (by simp[hxl]))
 refine CallOb.mk [] [] _ (.refl _) (awake25_spec hT) ?_
 rintro v J1 N - ⟨rfl,hJ1,rfl⟩
 refine CondOb.mk (fun h=>by cases h) (fun _=>?_)
 have hgs:=hr rfl
 have hT:=hT.mono hJ1
 have hg:=(hgw.mono hJ1).ok11 hgs
 have hx:=hx.mono hJ1
 have hgn:=hg.n
 have hg400:=hgs.n
 have hkg:∀ d∈g.ds,KB d.t:=fun d hd n hn=>by have:=((hgs.ds d hd).t.ns n hn).kn;omega
 clear hgw hr hgs
 refine CallOb.whole _ (Keep_fr hT hg hx (by omega)) ?_
 rintro v J2 N - ⟨hJ2,hN,h,rfl,hh,hct⟩
 subst N
 refine CondOb.mk (fun hc=>?_) (fun hc=>?_)
 ·have hc:(!keepOk debL g x.l)=true:=hc
  have hc:keepOk debL g x.l=false:=by simpa using hc
  refine⟨_,_,.refl,?_⟩
  have hn0:h.n=0:=by
   have:=congrArg Gr.n hct
   rw[keptL,hc] at this
   exact this
  show Value.bool (decide ((h.n:Int)=0))=_
  rw[hn0]
  rfl
 have hc:(!keepOk debL g x.l)=false:=hc
 have hko:keepOk debL g x.l=true:=by simpa using hc
 clear hc
 have hm0:mayG debL g=0:=by
  simp only[keepOk,Bool.and_eq_true,decide_eq_true_eq] at hko
  exact hko.1
 have h64:=may64 hm0
 obtain⟨hm,hk,hkl,hk0⟩:=kept_keeps hgn h64 hko
 have hct:h.ct=(grL (keepL ((marks64 x.l).take g.n) g.ds)).ct:=by rw[hct,keptL,hko,if_pos rfl]
 clear hko
 have hxn:x.l.length=x.n:=by simpa using hx.rs.len
 have hhn:=hh.n
 have hhl:h.n=(keepL ((marks64 x.l).take g.n) g.ds).length:=congrArg Gr.n hct
 have hhx:h.n=x.n:=by omega
 have hmh:mayG debL h=0:=by
  rw[←mayG_ct,hct,mayG_ct]
  exact may_keep hg hk (by omega) hm
 have hkh:=kbs_kept hg hh hct hkg
 have hT2:=hT.mono hJ2
 have hg2:=hg.mono hJ2
 have hfrom:∀ i,i < h.n→fromG debL g ((upK ((marks64 x.l).take g.n) i:Nat):Int)=(fromG debL h (i:Int)).map fun k=>((upK ((marks64 x.l).take g.n) k.toNat:Nat):Int):=fun i hi=>kept_from hgn hhn hk hct hm hmh (by omega)
 have hrow:∀ i (hi:i < h.ds.length),∃ hz:upK ((marks64 x.l).take g.n) i < g.ds.length,h.ds[i].name=g.ds[upK ((marks64 x.l).take g.n) i].name:=fun i hi=>kept_row hgn hk hct hi
 generalize upK ((marks64 x.l).take g.n)=up at hk hfrom hrow
 refine GuardOb.mk (fun _=>?_) (fun h=>absurd h (by simp[hhx]))
 refine CallOb.mk [] [] _ (.refl _) (May_spec hT2 hh) ?_
 rintro v J3 N - ⟨rfl,hJ3,rfl⟩
 have hT3:=hT2.mono hJ3
 have hg3:=hg2.mono hJ3
 have hh3:=hh.mono hJ3
 refine GuardOb.mk (fun _=>?_) (fun h=>absurd h (by simp[hmh]))
 refine CallOb.whole _ (WCheckM hT3 hg3 hkg) ?_
 rintro v J4 N - ⟨hJ4,hN,ra,rfl,hra⟩
 subst N
 have hT4:=hT3.mono hJ4
 have hg4:=hg3.mono hJ4
 have hh4:=hh3.mono hJ4
 have hx4:=((hx.mono hJ2).mono hJ3).mono hJ4
 refine GuardOb.mk (fun h1=>?_) (fun _=>?_)
 ·have h1:ra.2=0:=of_decide_eq_true h1
  obtain⟨F,hF⟩:∃ F,IsFlow g.ds F:=by
   rcases hra with ⟨a,-⟩ | ⟨-,F,hF,-⟩
   ·exact absurd hm a
   ·exact⟨F,hF⟩
  have hw:=(hra.get hm).1 h1
  rw[flowG_eq hF] at hw
  obtain⟨hm',F',hF',hl',hlo'⟩:=keep_well hg4 hk hct (by omega) hm hF hw.1 hw.2
  refine CallOb.whole _ (WCheckM hT4 hh4 hkh) ?_
  rintro v J5 N - ⟨hJ5,hN,rb,rfl,hrb⟩
  subst N
  have hb0:rb.2=0:=by
   have:=(hrb.get hm').2
   rw[flowG_eq hF'] at this
   exact this ⟨hl',hlo'⟩
  refine CondOb.mk (fun h=>absurd h (by simp[hb0])) (fun _=>?_)
  refine LoopOb.inv (ι:=Nat×GH) (fun q=>{ fl:=[(2,.ref 2 0),(5,.ref 5 0),(7,.val (.int .i64 q.1))],cl:=[(2,[.slice g.a g.n g.c]),(5,[.slice h.a h.n h.c])],gi:=q.2,mi:=[] }) (fun q=>q.1≤h.n∧∀ c o,J4 c=some o→q.2 c=some o) (fun q=>h.n - q.1) ?_ ?_
  ·exact⟨(0,J5),⟨Nat.zero_le _,hJ5⟩,.refl,aF3,.cons rfl (.cons rfl (.nil))⟩
  rintro⟨i,J⟩ ⟨hi,hJ⟩
  simp only at hi hJ
  refine CondOb.mk (fun h2=>?_) (fun h2=>?_)
  rotate_left
  ·exact⟨_,_,.refl,rfl⟩
  have hlt:i < h.n:=by have:(i:Int) < (h.n:Int):=of_decide_eq_true h2;omega
  have hih:i < h.ds.length:=by omega
  obtain⟨hz,hnm⟩:=hrow i hih
  have hfr:=hfrom i hlt
  have hTJ:=hT4.mono hJ
  have hgJ:=hg4.mono hJ
  have hhJ:=hh4.mono hJ
  have hfind:findAt h.ds[i].name g.ds 0=((up i:Nat):Int):=by
   rw[hnm]
   exact may_first hgn hm _ hz
  obtain⟨ad,had,hrdh⟩:=hhJ.rs.row Df.cells_len hlt hih
  have r1:∀ M,Rd J M ((ad.add (i * 3)).add 0) 1 [.string h.ds[i].name]:=fun M=>(hrdh M).part (k:=0) (m:=1) (by decide)
  have hfs:=Find_spec hgJ h.ds[i].name
  rw[hfind] at hfs
  generalize h.ds[i].name=nm at r1 hfs
  generalize up i=z at hz hfr hfs
  refine CodeOb.draw TryzEOK rfl rfl rfl ?_
  refine IdxOb.mk ad i had rfl (by omega) ?_
  refine LoadOb.mk _ (r1 _) ?_
  refine CallOb.mk [] [] _ (.refl _) hfs ?_
  rintro v K N - ⟨rfl,hK,rfl⟩
  subst K
  refine CodeOb.draw TryzEOK rfl rfl rfl ?_
  refine PCallOb.whole _ (From_spec hTJ hgJ (by omega) (z:Int)) (fun v I' M' h x hx=>by cases hx) ?_
  rintro v J6 N - ⟨hJ6,x1,rfl,hx1,hx1l,rfl⟩
  refine CallOb.mk [] [] _ (.refl _) (From_spec (hTJ.mono hJ6) (hhJ.mono hJ6) (by omega) (i:Int)) ?_
  rintro v J7 N - ⟨hJ7,x2,rfl,hx2,hx2l,rfl⟩
  have hx1:=hx1.mono hJ7
  have hn1:=hx1.n
  have hn2:=hx2.n
  have hcap2:=hx2.rs.cap
  rw[←hx1l,←hx2l] at hfr
  have hnn:x1.n=x2.n:=by rw[←hn1,←hn2,hfr,List.length_map]
  have hlt2:=fromG_lt (deb:=debL) hhn (i:=(i:Int))
  rw[←hx2l] at hlt2
  have hg7:=(hgJ.mono hJ6).mono hJ7
  have hh7:=(hhJ.mono hJ6).mono hJ7
  refine CondOb.mk (fun h=>absurd h (by simp[hnn])) (fun _=>?_)
  refine LoopOb.inv (ι:=Nat) (fun m=>{ fl:=[(2,.ref 2 0),(5,.ref 5 0),(7,.val (.int .i64 i)),(9,.val x1.val),(10,.val x2.val),(11,.val (.int .i64 m))],cl:=[(2,[.slice g.a g.n g.c]),(5,[.slice h.a h.n h.c])],gi:=J7,mi:=[] }) (fun m=>m≤x1.n) (fun m=>x1.n - m) ?_ ?_
  ·exact⟨0,Nat.zero_le _,.refl,aF6,.cons rfl (.cons rfl (.nil))⟩
  intro m hm2
  refine CondOb.mk (fun h3=>?_) (fun h3=>?_)
  rotate_left
  ·refine ArithOb.mk _ (next_wr (i:=i) (by omega)) ?_
   exact⟨(i+1,J7),⟨⟨hlt,fun c o h=>hJ7 _ _ (hJ6 _ _ (hJ _ _ h))⟩,by simp only;omega⟩,.refl,aF3,.cons rfl (.cons rfl (.nil))⟩
  have hltm:m < x1.n:=by have:(m:Int) < (x1.n:Int):=of_decide_eq_true h3;omega
  have hm1:m < x1.l.length:=by omega
  have hm2':m < x2.l.length:=by omega
  obtain⟨b1,hb1,hr1⟩:=hx1.rs.one hltm hm1
  obtain⟨b2,hb2,hr2⟩:=hx2.rs.one (show m < x2.n by omega) hm2'
  obtain⟨u,hu,hun⟩:=hlt2 _ (List.getElem_mem hm2')
  have hw:x1.l[m]=((up u:Nat):Int):=by
   have e1:x1.l[m]?=some ((up u:Nat):Int):=by
    rw[hfr,List.getElem?_map,List.getElem?_eq_getElem hm2',hu]
    simp
   rw[List.getElem?_eq_getElem hm1] at e1
   exact Option.some.inj e1
  rw[hw] at hr1
  rw[hu] at hr2
  have huh:u < h.ds.length:=by omega
  obtain⟨hzu,hnmu⟩:=hrow u huh
  obtain⟨ah,hah,hrh⟩:=hh7.rs.row Df.cells_len hun huh
  obtain⟨ag,hag,hrg⟩:=hg7.rs.row Df.cells_len (show up u < g.n by omega) hzu
  have q1:∀ M,Rd J7 M ((ah.add (u * 3)).add 0) 1 [.string h.ds[u].name]:=fun M=>(hrh M).part (k:=0) (m:=1) (by decide)
  have q2:∀ M,Rd J7 M ((ag.add (up u * 3)).add 0) 1 [.string g.ds[up u].name]:=fun M=>(hrg M).part (k:=0) (m:=1) (by decide)
  rw[hnmu] at q1
  generalize g.ds[up u].name=nmu at q1 q2
  generalize up u=y at hr1 hag hzu q2
  refine CodeOb.draw TryzEOK rfl rfl rfl ?_
  refine IdxOb.mk b2 m hb2 rfl (by omega) ?_
  refine LoadOb.mk _ (hr2 _) ?_
  refine IdxOb.mk ah u hah rfl hun ?_
  refine LoadOb.mk _ (q1 _) ?_
  refine IdxOb.mk b1 m hb1 rfl hltm ?_
  refine LoadOb.mk _ (hr1 _) ?_
  refine IdxOb.mk ag y hag rfl (by omega) ?_
  refine LoadOb.mk _ (q2 _) ?_
  refine CondOb.mk (fun h=>absurd h (by simp)) (fun _=>?_)
  refine ArithOb.mk _ (next_wr (i:=m) (by omega)) ?_
  exact⟨m+1,⟨hltm,by omega⟩,.refl,aF6,.cons rfl (.cons rfl (.nil))⟩
 ·refine LoopOb.inv (ι:=Nat×GH) (fun q=>{ fl:=[(2,.ref 2 0),(5,.ref 5 0),(7,.val (.int .i64 q.1))],cl:=[(2,[.slice g.a g.n g.c]),(5,[.slice h.a h.n h.c])],gi:=q.2,mi:=[] }) (fun q=>q.1≤h.n∧∀ c o,J4 c=some o→q.2 c=some o) (fun q=>h.n - q.1) ?_ ?_
  ·exact⟨(0,J4),⟨Nat.zero_le _,fun _ _ h=>h⟩,.refl,aF3,.cons rfl (.cons rfl (.nil))⟩
  rintro⟨i,J⟩ ⟨hi,hJ⟩
  simp only at hi hJ
  refine CondOb.mk (fun h2=>?_) (fun h2=>?_)
  rotate_left
  ·exact⟨_,_,.refl,rfl⟩
  have hlt:i < h.n:=by have:(i:Int) < (h.n:Int):=of_decide_eq_true h2;omega
  have hih:i < h.ds.length:=by omega
  obtain⟨hz,hnm⟩:=hrow i hih
  have hfr:=hfrom i hlt
  have hTJ:=hT4.mono hJ
  have hgJ:=hg4.mono hJ
  have hhJ:=hh4.mono hJ
  have hfind:findAt h.ds[i].name g.ds 0=((up i:Nat):Int):=by
   rw[hnm]
   exact may_first hgn hm _ hz
  obtain⟨ad,had,hrdh⟩:=hhJ.rs.row Df.cells_len hlt hih
  have r1:∀ M,Rd J M ((ad.add (i * 3)).add 0) 1 [.string h.ds[i].name]:=fun M=>(hrdh M).part (k:=0) (m:=1) (by decide)
  have hfs:=Find_spec hgJ h.ds[i].name
  rw[hfind] at hfs
  generalize h.ds[i].name=nm at r1 hfs
  generalize up i=z at hz hfr hfs
  refine CodeOb.draw TryzEOK rfl rfl rfl ?_
  refine IdxOb.mk ad i had rfl (by omega) ?_
  refine LoadOb.mk _ (r1 _) ?_
  refine CallOb.mk [] [] _ (.refl _) hfs ?_
  rintro v K N - ⟨rfl,hK,rfl⟩
  subst K
  refine CodeOb.draw TryzEOK rfl rfl rfl ?_
  refine PCallOb.whole _ (From_spec hTJ hgJ (by omega) (z:Int)) (fun v I' M' h x hx=>by cases hx) ?_
  rintro v J6 N - ⟨hJ6,x1,rfl,hx1,hx1l,rfl⟩
  refine CallOb.mk [] [] _ (.refl _) (From_spec (hTJ.mono hJ6) (hhJ.mono hJ6) (by omega) (i:Int)) ?_
  rintro v J7 N - ⟨hJ7,x2,rfl,hx2,hx2l,rfl⟩
  have hx1:=hx1.mono hJ7
  have hn1:=hx1.n
  have hn2:=hx2.n
  have hcap2:=hx2.rs.cap
  rw[←hx1l,←hx2l] at hfr
  have hnn:x1.n=x2.n:=by rw[←hn1,←hn2,hfr,List.length_map]
  have hlt2:=fromG_lt (deb:=debL) hhn (i:=(i:Int))
  rw[←hx2l] at hlt2
  have hg7:=(hgJ.mono hJ6).mono hJ7
  have hh7:=(hhJ.mono hJ6).mono hJ7
  refine CondOb.mk (fun h=>absurd h (by simp[hnn])) (fun _=>?_)
  refine LoopOb.inv (ι:=Nat) (fun m=>{ fl:=[(2,.ref 2 0),(5,.ref 5 0),(7,.val (.int .i64 i)),(9,.val x1.val),(10,.val x2.val),(11,.val (.int .i64 m))],cl:=[(2,[.slice g.a g.n g.c]),(5,[.slice h.a h.n h.c])],gi:=J7,mi:=[] }) (fun m=>m≤x1.n) (fun m=>x1.n - m) ?_ ?_
  ·exact⟨0,Nat.zero_le _,.refl,aF6,.cons rfl (.cons rfl (.nil))⟩
  intro m hm2
  refine CondOb.mk (fun h3=>?_) (fun h3=>?_)
  rotate_left
  ·refine ArithOb.mk _ (next_wr (i:=i) (by omega)) ?_
   exact⟨(i+1,J7),⟨⟨hlt,fun c o h=>hJ7 _ _ (hJ6 _ _ (hJ _ _ h))⟩,by simp only;omega⟩,.refl,aF3,.cons rfl (.cons rfl (.nil))⟩
  have hltm:m < x1.n:=by have:(m:Int) < (x1.n:Int):=of_decide_eq_true h3;omega
  have hm1:m < x1.l.length:=by omega
  have hm2':m < x2.l.length:=by omega
  obtain⟨b1,hb1,hr1⟩:=hx1.rs.one hltm hm1
  obtain⟨b2,hb2,hr2⟩:=hx2.rs.one (show m < x2.n by omega) hm2'
  obtain⟨u,hu,hun⟩:=hlt2 _ (List.getElem_mem hm2')
  have hw:x1.l[m]=((up u:Nat):Int):=by
   have e1:x1.l[m]?=some ((up u:Nat):Int):=by
    rw[hfr,List.getElem?_map,List.getElem?_eq_getElem hm2',hu]
    simp
   rw[List.getElem?_eq_getElem hm1] at e1
   exact Option.some.inj e1
  rw[hw] at hr1
  rw[hu] at hr2
  have huh:u < h.ds.length:=by omega
  obtain⟨hzu,hnmu⟩:=hrow u huh
  obtain⟨ah,hah,hrh⟩:=hh7.rs.row Df.cells_len hun huh
  obtain⟨ag,hag,hrg⟩:=hg7.rs.row Df.cells_len (show up u < g.n by omega) hzu
  have q1:∀ M,Rd J7 M ((ah.add (u * 3)).add 0) 1 [.string h.ds[u].name]:=fun M=>(hrh M).part (k:=0) (m:=1) (by decide)
  have q2:∀ M,Rd J7 M ((ag.add (up u * 3)).add 0) 1 [.string g.ds[up u].name]:=fun M=>(hrg M).part (k:=0) (m:=1) (by decide)
  rw[hnmu] at q1
  generalize g.ds[up u].name=nmu at q1 q2
  generalize up u=y at hr1 hag hzu q2
  refine CodeOb.draw TryzEOK rfl rfl rfl ?_
  refine IdxOb.mk b2 m hb2 rfl (by omega) ?_
  refine LoadOb.mk _ (hr2 _) ?_
  refine IdxOb.mk ah u hah rfl hun ?_
  refine LoadOb.mk _ (q1 _) ?_
  refine IdxOb.mk b1 m hb1 rfl hltm ?_
  refine LoadOb.mk _ (hr1 _) ?_
  refine IdxOb.mk ag y hag rfl (by omega) ?_
  refine LoadOb.mk _ (q2 _) ?_
  refine CondOb.mk (fun h=>absurd h (by simp)) (fun _=>?_)
  refine ArithOb.mk _ (next_wr (i:=m) (by omega)) ?_
  exact⟨m+1,⟨hltm,by omega⟩,.refl,aF6,.cons rfl (.cons rfl (.nil))⟩
def qc_s:List DfC:=[⟨[97],⟨[⟨3,0,0,0,0,[99],0,0,[]⟩],0⟩⟩,⟨[117],⟨[⟨3,0,0,0,0,[97],0,0,[]⟩],0⟩⟩,⟨[99],⟨[⟨2,0,0,0,0,[120],0,0,[]⟩,⟨3,0,0,0,0,[100],0,0,[]⟩,⟨4,0,0,0,0,[],0,0,[0,1]⟩],2⟩⟩,⟨[118],⟨[⟨3,0,0,0,0,[117],0,0,[]⟩,⟨3,0,0,0,0,[119],0,0,[]⟩,⟨4,0,0,0,0,[],0,0,[0,1]⟩],2⟩⟩,⟨[119],⟨[⟨2,0,0,0,0,[113],0,0,[]⟩],0⟩⟩,⟨[100],⟨[⟨0,0,0,0,0,[],0,0,[]⟩],0⟩⟩]
theorem qg_s:grOf 100000 52 [97,32,60,45,32,99,32,117,32,60,45,32,97,32,99,32,60,45,32,34,120,34,32,100,32,118,32,60,45,32,117,32,119,32,119,32,60,45,32,34,113,34,32,100,32,60,45,32,34,34]=some (qc_s,0,.i64,0):=by kernel_rfl
def qc_s1:List DfC:=[⟨[97],⟨[⟨3,0,0,0,0,[99],0,0,[]⟩],0⟩⟩,⟨[99],⟨[⟨2,0,0,0,0,[120],0,0,[]⟩,⟨3,0,0,0,0,[100],0,0,[]⟩,⟨4,0,0,0,0,[],0,0,[0,1]⟩],2⟩⟩,⟨[100],⟨[⟨0,0,0,0,0,[],0,0,[]⟩],0⟩⟩]
theorem qg_s1:grOf 100000 52 [97,32,60,45,32,99,32,99,32,60,45,32,34,120,34,32,100,32,100,32,60,45,32,34,34]=some (qc_s1,0,.i64,0):=by kernel_rfl
def qc_t:List DfC:=[⟨[97],⟨[⟨0,0,0,0,0,[],0,0,[]⟩],0⟩⟩,⟨[98],⟨[⟨3,0,0,0,0,[98,49],0,0,[]⟩],0⟩⟩,⟨[98,49],⟨[⟨2,0,0,0,0,[120],0,0,[]⟩],0⟩⟩]
theorem qg_t:grOf 100000 52 [97,32,60,45,32,34,34,32,98,32,60,45,32,98,49,32,98,49,32,60,45,32,34,120,34]=some (qc_t,0,.i64,0):=by kernel_rfl
def qc_t1:List DfC:=[⟨[97],⟨[⟨0,0,0,0,0,[],0,0,[]⟩],0⟩⟩]
theorem qg_t1:grOf 100000 52 [97,32,60,45,32,34,34]=some (qc_t1,0,.i64,0):=by kernel_rfl
def qc_u:List DfC:=[⟨[97],⟨[⟨3,0,0,0,0,[98],0,0,[]⟩],0⟩⟩,⟨[98],⟨[⟨2,0,0,0,0,[120],0,0,[]⟩,⟨3,0,0,0,0,[97],0,0,[]⟩,⟨4,0,0,0,0,[],0,0,[0,1]⟩,⟨0,0,0,0,0,[],0,0,[]⟩,⟨5,0,0,0,0,[],0,0,[2,3]⟩],4⟩⟩,⟨[99],⟨[⟨3,0,0,0,0,[97],0,0,[]⟩],0⟩⟩]
theorem qg_u:grOf 100000 52 [97,32,60,45,32,98,32,98,32,60,45,32,34,120,34,32,97,32,47,32,34,34,32,99,32,60,45,32,97]=some (qc_u,0,.i64,0):=by kernel_rfl
def qc_u1:List DfC:=[⟨[97],⟨[⟨3,0,0,0,0,[98],0,0,[]⟩],0⟩⟩,⟨[98],⟨[⟨2,0,0,0,0,[120],0,0,[]⟩,⟨3,0,0,0,0,[97],0,0,[]⟩,⟨4,0,0,0,0,[],0,0,[0,1]⟩,⟨0,0,0,0,0,[],0,0,[]⟩,⟨5,0,0,0,0,[],0,0,[2,3]⟩],4⟩⟩]
theorem qg_u1:grOf 100000 52 [97,32,60,45,32,98,32,98,32,60,45,32,34,120,34,32,97,32,47,32,34,34]=some (qc_u1,0,.i64,0):=by kernel_rfl
def qc_l:List DfC:=[⟨[97],⟨[⟨3,0,0,0,0,[97],0,0,[]⟩],0⟩⟩,⟨[98],⟨[⟨2,0,0,0,0,[120],0,0,[]⟩],0⟩⟩]
theorem qg_l:grOf 100000 52 [97,32,60,45,32,97,32,98,32,60,45,32,34,120,34]=some (qc_l,0,.i64,0):=by kernel_rfl
def qc_d:List DfC:=[⟨[100],⟨[⟨0,0,0,0,0,[],0,0,[]⟩],0⟩⟩]
theorem qg_d:grOf 100000 52 [100,32,60,45,32,34,34]=some (qc_d,0,.i64,0):=by kernel_rfl
def qc_e:List DfC:=[⟨[99],⟨[⟨2,0,0,0,0,[120],0,0,[]⟩,⟨3,0,0,0,0,[100],0,0,[]⟩,⟨4,0,0,0,0,[],0,0,[0,1]⟩],2⟩⟩,⟨[100],⟨[⟨0,0,0,0,0,[],0,0,[]⟩],0⟩⟩]
theorem qg_e:grOf 100000 52 [99,32,60,45,32,34,120,34,32,100,32,100,32,60,45,32,34,34]=some (qc_e,0,.i64,0):=by kernel_rfl
def qc_a:List DfC:=[⟨[97],⟨[⟨3,0,0,0,0,[97],0,0,[]⟩],0⟩⟩]
theorem qg_a:grOf 100000 52 [97,32,60,45,32,97]=some (qc_a,0,.i64,0):=by kernel_rfl
theorem qk_s:chk13 qc_s (flC qc_s 6) 6=true:=by kernel_rfl
theorem qk_t:chk13 qc_t (flC qc_t 6) 6=true:=by kernel_rfl
theorem qk_u:chk13 qc_u (flC qc_u 6) 6=true:=by kernel_rfl
theorem qk_l:chk13 qc_l (flC qc_l 6) 6=true:=by kernel_rfl
theorem qk_x:chk13 pc25_2 (flC pc25_2 6) 6=true:=by kernel_rfl
theorem qw_s:(whereC (grC qc_s).ds (flC qc_s 6)).2=0:=by kernel_rfl
theorem qu_s:(uselessG debL (grC qc_s)).head?=some 1:=by kernel_rfl
theorem qs_s:stepC qc_s (flC qc_s 6)=some 1:=by kernel_rfl
theorem qs_l:stepC qc_l (flC qc_l 6)=none:=by kernel_rfl
theorem qd_l:doC qc_l (flC qc_l 6) ⟨7,1,1,none,0,0,[],0⟩=(42,[]):=by kernel_rfl
theorem qd_x:doC pc25_2 (flC pc25_2 6) ⟨0,0,0,none,0,0,[],0⟩=(47,[]):=by kernel_rfl
def qd_s:List Df:=(doC qc_s (flC qc_s 6) ⟨7,1,1,none,0,0,[],0⟩).2
theorem qd0_s:doC qc_s (flC qc_s 6) ⟨7,1,1,none,0,0,[],0⟩=(0,qd_s):=by kernel_rfl
theorem qd1_s:sameG (grL qd_s) (grC qc_s1)=true:=by kernel_rfl
theorem qd2_s:decide (0 < qd_s.length)=true:=by kernel_rfl
theorem qd3_s:(qd_s.all fun d=>decide (d.t.n≤1000000))=true:=by kernel_rfl
def qd_t:List Df:=(doC qc_t (flC qc_t 6) ⟨7,1,1,none,0,0,[],0⟩).2
theorem qd0_t:doC qc_t (flC qc_t 6) ⟨7,1,1,none,0,0,[],0⟩=(0,qd_t):=by kernel_rfl
theorem qd1_t:sameG (grL qd_t) (grC qc_t1)=true:=by kernel_rfl
theorem qd2_t:decide (0 < qd_t.length)=true:=by kernel_rfl
theorem qd3_t:(qd_t.all fun d=>decide (d.t.n≤1000000))=true:=by kernel_rfl
def qd_u:List Df:=(doC qc_u (flC qc_u 6) ⟨7,1,2,none,0,0,[],0⟩).2
theorem qd0_u:doC qc_u (flC qc_u 6) ⟨7,1,2,none,0,0,[],0⟩=(0,qd_u):=by kernel_rfl
theorem qd1_u:sameG (grL qd_u) (grC qc_u1)=true:=by kernel_rfl
theorem qd2_u:decide (0 < qd_u.length)=true:=by kernel_rfl
theorem qd3_u:(qd_u.all fun d=>decide (d.t.n≤1000000))=true:=by kernel_rfl
theorem qk_0:keepOk debL (grC qc_s) []=false:=by kernel_rfl
theorem qk_1:keepOk debL (grC qc_s) [(-1)]=false:=by kernel_rfl
theorem qk_2:keepOk debL (grC qc_s) [6]=false:=by kernel_rfl
theorem qk_3:keepOk debL (grC qc_s) [5,5]=false:=by kernel_rfl
theorem qk_4:keepOk debL (grC qc_s) [5]=true:=by kernel_rfl
def ql_4:List Df:=keepL ((marks64 [5]).take (grC qc_s).n) (grC qc_s).ds
theorem qls_4:sameG (grL ql_4) (grC qc_d)=true:=by kernel_rfl
theorem qln_4:(ql_4.all fun d=>decide (d.t.n≤1000000))=true:=by kernel_rfl
theorem qk_5:keepOk debL (grC qc_s) [5,2]=true:=by kernel_rfl
def ql_5:List Df:=keepL ((marks64 [5,2]).take (grC qc_s).n) (grC qc_s).ds
theorem qls_5:sameG (grL ql_5) (grC qc_e)=true:=by kernel_rfl
theorem qln_5:(ql_5.all fun d=>decide (d.t.n≤1000000))=true:=by kernel_rfl
theorem qk_6:keepOk debL (grC qc_s) [2]=false:=by kernel_rfl
theorem qk_7:keepOk debL (grC qc_a) [0]=true:=by kernel_rfl
def ql_7:List Df:=keepL ((marks64 [0]).take (grC qc_a).n) (grC qc_a).ds
theorem qls_7:sameG (grL ql_7) (grC qc_a)=true:=by kernel_rfl
theorem qln_7:(ql_7.all fun d=>decide (d.t.n≤1000000))=true:=by kernel_rfl
theorem qn_d:(⟨([100,32,60,45,32,34,34]:List UInt8).toArray⟩:ByteArray)≠⟨#[]⟩:=by decide
theorem qn_e:(⟨([99,32,60,45,32,34,120,34,32,100,32,100,32,60,45,32,34,34]:List UInt8).toArray⟩:ByteArray)≠⟨#[]⟩:=by decide
theorem qn_a:(⟨([97,32,60,45,32,97]:List UInt8).toArray⟩:ByteArray)≠⟨#[]⟩:=by decide
def idxF {α:Type}:Nat→List α→List (Nat×α)
 | _,[]=>[]
 | i,v::vs=>(i,v)::idxF (i+1) vs
theorem fillL_row (size:Nat):∀ (vs:List Value) (i:Nat) (pre post:List Value),pre.length=i * size→post.length=vs.length * size→(∀ v∈vs,v.cells.size=size) →
  fillL (fun j=>some (j * size,size)) (pre++post) (idxF i vs)=some (pre++vs.flatMap fun v=>v.cells.toList)
 | [],i,pre,post,h1,h2,h3=>by
  have:post=[]:=List.eq_nil_of_length_eq_zero (by simpa using h2)
  subst this
  rfl
 | v::vs,i,pre,post,h1,h2,h3=>by
  have hv:=h3 v (.head _)
  have hvl:v.cells.toList.length=size:=by simpa using hv
  have h2':post.length=vs.length * size+size:=by rw[h2,List.length_cons,Nat.add_mul,Nat.one_mul]
  have e1:Nat.ble (i * size+size) (pre++post).length=true:=by
   rw[Nat.ble_eq,List.length_append]
   omega
  have e2:splice (pre++post) (i * size) v.cells.toList=(pre++v.cells.toList)++post.drop size:=by
   unfold splice
   rw[←h1,List.take_left,hvl,List.drop_length_add_append]
  have ih:=fillL_row size vs (i+1) (pre++v.cells.toList) (post.drop size) (by rw[List.length_append,h1,hvl,Nat.add_mul,Nat.one_mul]) (by rw[List.length_drop];omega) fun w hw=>h3 w (.tail _ hw)
  rw[idxF,fillL]
  simp only[hv,Nat.beq_refl,e1,Bool.and_self,cond_true]
  rw[e2,ih,List.flatMap_cons,List.append_assoc]
theorem V_ops_cons {X:Ctx} {ops rest:List Oper} {o:Oper} {F:Fr} {C:Bx} {I:GH} {M:List Blk} {K:KS} (hg:o.guard=none) (h:V_op X o F C I M fun F C I M=>V_ops X ops rest F C I M K):V_ops X ops (o::rest) F C I M K:=by
 rw[V_ops,hg]
 exact h
theorem V_ops_to {X:Ctx} {ops rest:List Oper} {o:Oper} {F:Fr} {C:Bx} {I:GH} {M:List Blk} {K:KS} (hg:o.guard=none) (x:SV) (h:∀ K':KS,V_op X o F C I M K'=K' (put o.dst x F) C I M) (k:V_ops X ops rest (put o.dst x F) C I M K):V_ops X ops (o::rest) F C I M K:=by
 refine V_ops_cons hg ?_
 rw[h]
 exact k
theorem V_buildSlice {X:Ctx} {o:Oper} {F:Fr} {C:Bx} {I:GH} {M:List Blk} {K:KS} {t len e:Nat} {parts:Array (Nat×Operand)} (ho:o.op=.buildSlice t len parts) {ti ei:TI} (ht:X.E t=some ti) (hts:ti.sh=.slice e) (he:X.E e=some ei)
  (hlen:(Nat.ble (len * ei.size) 16777216 && Nat.blt 0 (len * ei.size))=true) (hz:(rowOf ei.zero (len * ei.size)).length=len * ei.size) (vs:List Value) (hvs:evParts F parts.toList=some (idxF 0 vs)) (hl:vs.length=len) (hsz:∀ v∈vs,v.cells.size=ei.size)
  (k:AllocOb I M fun b=>K (put o.dst (.val (.slice (some ⟨b,0,none⟩) len len)) F) C I (⟨b,.cells (vs.flatMap fun v=>v.cells.toList).toArray e (0,0)⟩::M)):V_op X o F C I M K:=by
 have hf:=fillL_row ei.size vs 0 [] (rowOf ei.zero (len * ei.size)) (by simp) (by rw[hz,hl]) hsz
 rw[List.nil_append,List.nil_append] at hf
 obtain⟨sz,by',z,sh⟩:=ti
 have hts:sh=.slice e:=hts
 subst hts
 unfold V_op
 rw[ho]
 simp only[ht,hvs,he,hlen,cond_true,hf]
 exact k
theorem V_buildSlice' {X:Ctx} {o:Oper} {F:Fr} {C:Bx} {I:GH} {M:List Blk} {K:KS} (vs:List Value) (len e:Nat)
  (h:∃ t parts ti ei,o.op=.buildSlice t len parts∧X.E t=some ti∧ti.sh=.slice e∧X.E e=some ei∧(Nat.ble (len * ei.size) 16777216 && Nat.blt 0 (len * ei.size))=true∧(rowOf ei.zero (len * ei.size)).length=len * ei.size∧evParts F parts.toList=some (idxF 0 vs)∧vs.length=len∧∀ v∈vs,v.cells.size=ei.size)
  (k:AllocOb I M fun b=>K (put o.dst (.val (.slice (some ⟨b,0,none⟩) len len)) F) C I (⟨b,.cells (vs.flatMap fun v=>v.cells.toList).toArray e (0,0)⟩::M)):V_op X o F C I M K:=by
 obtain⟨t,parts,ti,ei,h1,h2,h3,h4,h5,h6,h7,h8,h9⟩:=h
 exact V_buildSlice h1 h2 h3 h4 h5 h6 vs h7 h8 h9 k
theorem doC_no {cs:List DfC} {F:List Fl} {s:Stp} {u:Int} (h1:(whereC (grC cs).ds F).2=0) (h2:(uselessG debL (grC cs)).head?=some u) (h3:isStepB s (some u)=false):doC cs F s=(47,[]):=by
 rw[doC,if_pos h1,h2,h3]
 rfl
theorem Do_lit {I:GH} {M0:List Blk} (hT:Tabs I debL) {cs:List DfC} {F:List Fl} {f:Nat} (hc:chk13 cs F f=true) {g:Gr} (hg:g.ok I) (hR:DfsR cs g.ds) {s:Stp} {e:Int} {ds:List Df} (hd:doC cs F s=(e,ds)):Spec Tryz.prog 32 [g.val,s.val] I M0 fun v I' M'=>(∀ b o,I b=some o→I' b=some o)∧M'=M0∧∃ h:Gr,v=.tuple #[h.val,.int .i64 e]∧h.n=ds.length:=by
 have hK:=known13_of hc
 refine Spec.weakK (Do_fr hT hg (hK.of hg hR).2.2 s) ?_
 rintro v J M ⟨h1,h2,r,h,hr,rfl,hh,hct⟩
 obtain⟨q1,q2⟩:=known_do hK hg hR hr
 rw[hd] at q1 q2
 refine⟨h1,h2,h,by rw[q1],?_⟩
 have:=congrArg Gr.n hct
 have e2:=congrArg List.length q2
 rw[List.length_map] at e2
 rw[←e2]
 exact this
theorem First_lit {I:GH} {M0:List Blk} (hT:Tabs I debL) {cs:List DfC} {F:List Fl} {f:Nat} (hc:chk13 cs F f=true) {g:Gr} (hg:g.ok I) (hR:DfsR cs g.ds) {o:Option Int} (ho:stepC cs F=o):Spec Tryz.prog 33 [g.val] I M0 fun v I' M'=>(∀ b o,I b=some o→I' b=some o)∧M'=M0∧v=.tuple #[(stO o).val,.bool o.isSome]:=by
 have hK:=known13_of hc
 obtain⟨hm,hF,hkb⟩:=hK.of hg hR
 have h64:=may64 hm
 refine Spec.weakK (First_spec hT hg (by omega) hkb) ?_
 rintro v J M ⟨h1,h2,o',ho',rfl⟩
 rw[known_step hK hg hR ho',ho]
 exact⟨h1,h2,rfl⟩
def g00:Gr:=⟨[],none,0,0⟩
theorem g00_ok (I:GH):g00.ok I:=⟨⟨rfl,⟨Nat.le_refl _,by decide⟩,.inl rfl⟩,fun d hd=>by cases hd⟩
theorem g00_may:mayG debL g00=4:=by kernel_rfl
theorem Do_none {I:GH} {M0:List Blk} (hT:Tabs I debL) (s:Stp):Spec Tryz.prog 32 [g00.val,s.val] I M0 fun v I' M'=>(∀ b o,I b=some o→I' b=some o)∧M'=M0∧∃ h:Gr,v=.tuple #[h.val,.int .i64 4]:=by
 refine Spec.weakK (Do_fr hT (g00_ok I) (fun d hd=>by cases hd) s) ?_
 rintro v J M ⟨h1,h2,r,h,⟨x,hx,hr⟩,rfl,hh,hct⟩
 have hx2:x.2=4:=by
  rcases hx with ⟨-,rfl⟩ | ⟨a,-⟩
  ·exact g00_may
  ·rw[g00_may] at a
   cases a
 rw[if_neg (by rw[hx2];decide),hx2] at hr
 exact⟨h1,h2,h,by rw[hr]⟩
theorem Keep_none {I:GH} {M0:List Blk} (hT:Tabs I debL) {x:Rw} (hx:RwW I x) (hx2:x.n≤1000000):Spec Tryz.prog 34 [g00.val,x.val] I M0 fun v I' M'=>(∀ b o,I b=some o→I' b=some o)∧M'=M0∧∃ h:Gr,v=.tuple #[h.val,.bool false]:=by
 refine Spec.weakK (Keep_fr hT (g00_ok I) hx hx2) ?_
 rintro v J M ⟨h1,h2,h,rfl,hh,hct⟩
 have hk:keepOk debL g00 x.l=false:=by
  rw[keepOk,g00_may]
  rfl
 exact⟨h1,h2,h,by rw[hk]⟩
theorem Steps_none {I:GH} {M0:List Blk} (hT:Tabs I debL):Spec Tryz.prog 35 [g00.val] I M0 fun v I' M'=>(∀ b o,I b=some o→I' b=some o)∧∃ (a:Option Addr) (c:Nat) (N:List Blk),v=.slice a 0 c∧M'=N++M0:=by
 refine Spec.weakK (Steps_spec hT (g00_ok I) (by decide) (fun d hd=>by cases hd)) ?_
 rintro v J M ⟨h1,o,os,⟨r,hr,ho⟩,hos,rfl,rfl⟩
 have hr2:r.2=4:=by
  rcases hr with ⟨-,rfl⟩ | ⟨a,-⟩
  ·exact g00_may
  ·rw[g00_may] at a
   cases a
 rw[if_neg (by rw[hr2];decide)] at ho
 have:=hos.len
 rw[flat_len _ 5 Stp.cells_len,ho] at this
 have hn:os.n=0:=by
  simp[stepsL] at this
  omega
 refine⟨h1,os.a.map fun g=>⟨g,0,none⟩,os.c,_,?_,rfl⟩
 rw[OS.val,hn]
def steps9 (b:Nat):List Stp:=[⟨0,0,0,none,0,0,[],0⟩,⟨7,1,0,none,0,0,[],0⟩,⟨7,2,1,none,0,0,[],0⟩,⟨6,1,1,none,0,0,[],0⟩,⟨7,1,3,none,0,0,[],0⟩,⟨7,1,1,none,0,0,[],1⟩,⟨7,1,1,some ⟨b,0,none⟩,1,1,[0],0⟩,⟨7,1,-1,none,0,0,[],0⟩,⟨7,0,1,none,0,0,[],0⟩]
theorem steps9_no (b:Nat):∀ s∈steps9 b,isStepB s (some 1)=false:=fun s hs=>by
 simp only[steps9,List.mem_cons,List.not_mem_nil,or_false] at hs
 rcases hs with rfl | rfl | rfl | rfl | rfl | rfl | rfl | rfl | rfl<;>rfl
set_option maxRecDepth 100000 in
set_option maxHeartbeats 16000000 in
theorem pruneNames_V {I:GH} (hT:Tabs I debL):SpecE Tryz.prog 6 [] I [] fun v I' M'=>v=.bool true:=by
 refine specE_of_V [] TryzEOK Tryz.func6 rfl rfl rfl ?_
 intro B h0
 refine CallOb.mk [] [] _ (.refl _) (awake25_spec hT) ?_
 rintro v I0 N - ⟨rfl,hI0,rfl⟩
 have hT0:=hT.mono hI0
 refine CondOb.mk (fun h=>by cases h) (fun _=>?_)
 refine AllocOb.mk fun b1 hb1 hM1=>?_
 refine CallOb.whole _ (these25_spec hT0 qg_s qk_s (o:=some 1) qs_s (fun r h=>by cases h;decide) (.inr ⟨1,⟨b1,0,none⟩,rfl,rfl,rfl,fun J M hM=>⟨rfl,_,_,_,.inr ⟨_,hM _ (.head _),rfl,rfl⟩,rfl,rfl⟩⟩)) ?_
 rintro v I1 N - ⟨rfl,hI1,hN⟩
 subst N
 have hT1:=hT0.mono hI1
 refine GuardOb.mk (fun _=>?_) (fun h=>by cases h)
 refine CallOb.mk [] [_] _ (.refl _) (comes25_spec hT1 qg_s qg_s1 qk_s (way:=1) (rule:=1) (at_:=0) (pa:=none) (pn:=0) (pc:=0) qd0_s qd1_s (of_decide_eq_true qd2_s) qd3_s) ?_
 rintro v I2 N - ⟨rfl,hI2,rfl⟩
 have hT2:=hT1.mono hI2
 refine GuardOb.mk (fun _=>?_) (fun h=>by cases h)
 refine CallOb.mk [] [_] _ (.refl _) (comes25_spec hT2 qg_t qg_t1 qk_t (way:=1) (rule:=1) (at_:=0) (pa:=none) (pn:=0) (pc:=0) qd0_t qd1_t (of_decide_eq_true qd2_t) qd3_t) ?_
 rintro v I3 N - ⟨rfl,hI3,rfl⟩
 have hT3:=hT2.mono hI3
 refine GuardOb.mk (fun _=>?_) (fun h=>by cases h)
 refine CallOb.mk [] [_] _ (.refl _) (comes25_spec hT3 qg_u qg_u1 qk_u (way:=1) (rule:=2) (at_:=0) (pa:=none) (pn:=0) (pc:=0) qd0_u qd1_u (of_decide_eq_true qd2_u) qd3_u) ?_
 rintro v I4 N - ⟨rfl,hI4,rfl⟩
 have hT4:=hT3.mono hI4
 refine CondOb.mk (fun h=>by cases h) (fun _=>?_)
 refine CallOb.whole _ (read25 hT4 qg_s) ?_
 rintro v I5 N - ⟨hI5,hN,g,rfl,hg,hR⟩
 subst N
 have hT5:=hT4.mono hI5
 refine AllocOb.mk ?_
 intro b2 hb2 hM2
 show V_ops _ _ (_::_) _ _ _ _ _
 refine @V_ops_to _ _ _ _ _ _ _ _ _ ?_ ?_ ?_ ?_
 ·rfl
 ·exact .val (.agg #[.int .u8 7,.int .u8 1,.int .i64 1,.slice (some ⟨b2,0,none⟩) 1 1,.int .i64 0])
 ·intro K'
  rfl
 refine @V_ops_to _ _ _ _ _ _ _ _ _ ?_ ?_ ?_ ?_
 ·rfl
 ·exact .val (.agg #[.int .u8 7,.int .u8 1,.int .i64 (-1),.slice none 0 0,.int .i64 0])
 ·intro K'
  rfl
 refine @V_ops_to _ _ _ _ _ _ _ _ _ ?_ ?_ ?_ ?_
 ·rfl
 ·exact .val (.agg #[.int .u8 7,.int .u8 0,.int .i64 1,.slice none 0 0,.int .i64 0])
 ·intro K'
  rfl
 refine @V_ops_cons _ _ _ _ _ _ _ _ _ ?_ ?_
 ·rfl
 refine @V_buildSlice' _ _ _ _ _ _ _ ?_ ?_ ?_ ?_ ?_
 ·exact(steps9 b2).map Stp.val
 ·exact 9
 ·exact 59
 ·refine⟨_,_,_,_,rfl,rfl,rfl,rfl,rfl,rfl,rfl,rfl,?_⟩
  intro v hv
  obtain⟨x,-,rfl⟩:=List.mem_map.1 hv
  rfl
 refine AllocOb.mk fun bt hbt hbMt=>?_
 have hL:(steps9 b2).length=9:=rfl
 have hno:=steps9_no b2
 have hcell:((steps9 b2).map Stp.val).flatMap (fun v=>v.cells.toList)=(steps9 b2).flatMap Stp.cells:=rfl
 refine LoopOb.inv (ι:=Nat×GH) (fun s=>{ fl:=[(1,.ref 1 0),(44,.val (.slice (some ⟨bt,0,none⟩) 9 9)),(45,.val (.int .i64 9)),(46,.val (.int .i64 s.1))],cl:=[(1,[.slice g.a g.n g.c])],gi:=s.2,mi:=[⟨bt,.cells ((steps9 b2).flatMap Stp.cells).toArray 59 (0,0)⟩] }) (fun s=>s.1≤9∧∀ b o,I5 b=some o→s.2 b=some o) (fun s=>9 - s.1) ?_ ?_
 ·exact⟨(0,I5),⟨by simp,fun _ _ h=>h⟩,.sub (.cons_cons _ (List.nil_sublist _)) .refl,aF4,.cons rfl (.nil)⟩
 have hrow:∀ (K:GH) i (h:i < (steps9 b2).length),Rd K [⟨bt,.cells ((steps9 b2).flatMap Stp.cells).toArray 59 (0,0)⟩] ((⟨bt,0,none⟩:Addr).add (i * 5)) 5 (steps9 b2)[i].cells:=fun K i h=>by
  rw[addr_add (⟨bt,0,none⟩:Addr) rfl]
  refine⟨rfl,_,_,_,.inr ⟨_,.head _,rfl,rfl⟩,?_,rfl⟩
  rw[Nat.zero_add]
  exact flat_at Stp.cells 5 Stp.cells_len _ i h
 generalize ([⟨bt,.cells ((steps9 b2).flatMap Stp.cells).toArray 59 (0,0)⟩]:List Blk)=M9 at hrow
 generalize steps9 b2=L9 at hrow hL hno
 rintro⟨i,J⟩ ⟨hi,hJ⟩
 simp only at hi hJ
 have hTJ:=hT5.mono hJ
 have hgJ:=hg.mono hJ
 refine CondOb.mk (fun h=>?_) (fun h=>?_)
 ·have hlt:i < 9:=by have:(i:Int) < 9:=of_decide_eq_true h;omega
  have hil:i < L9.length:=by omega
  have hrd:=hrow J i hil
  have hd:=doC_no (cs:=qc_s) (F:=flC qc_s 6) qw_s qu_s (hno _ (List.getElem_mem hil))
  generalize L9[i]=st at hrd hd
  refine IdxOb.mk ⟨bt,0,none⟩ i rfl rfl hlt ?_
  refine LoadOb.mk _ hrd ?_
  have hz:=Do_lit (M0:=M9) hTJ qk_s hgJ hR hd
  refine CallOb.whole _ hz ?_
  clear hz
  rintro v J1 N - ⟨hJ1,hN,h,rfl,hhn⟩
  subst N
  have hhn:h.n=0:=hhn
  refine GuardOb.mk (fun _=>?_) (fun h=>absurd h (by decide))
  refine CondOb.mk (fun h=>absurd h (by simp[hhn])) (fun _=>?_)
  refine ArithOb.mk _ (next_wr (i:=i) (by omega)) ?_
  exact⟨(i+1,J1),⟨⟨hlt,fun b o h=>hJ1 _ _ (hJ _ _ h)⟩,by simp only;omega⟩,.refl,aF4,.cons rfl (.nil)⟩
 clear hrow hL hno
 refine CallOb.whole _ (read25 hTJ qg_l) ?_
 rintro v K1 N - ⟨hK1,hN,gl,rfl,hgl,hRl⟩
 subst N
 have hS1:=hTJ.mono hK1
 have hz:=Do_lit (M0:=M9) hS1 qk_l hgl hRl qd_l
 refine CallOb.whole _ hz ?_
 clear hz
 rintro v K2 N - ⟨hK2,hN,h2,rfl,hn2⟩
 subst N
 have hS2:=hS1.mono hK2
 have hz:=Do_none (M0:=M9) hS2 ⟨0,0,0,none,0,0,[],0⟩
 refine CallOb.whole _ hz ?_
 clear hz
 rintro v K3 N - ⟨hK3,hN,h3,rfl⟩
 subst N
 have hS3:=hS2.mono hK3
 refine CallOb.whole _ (read25 hS3 qg_l) ?_
 rintro v K4 N - ⟨hK4,hN,gm,rfl,hgm,hRm⟩
 subst N
 have hS4:=hS3.mono hK4
 have hz:=First_lit (M0:=M9) hS4 qk_l hgm hRm qs_l
 refine CallOb.whole _ hz ?_
 clear hz
 rintro v K5 N - ⟨hK5,hN,rfl⟩
 subst N
 have hS5:=hS4.mono hK5
 refine CallOb.whole _ (read25 hS5 pg25_2) ?_
 rintro v K6 N - ⟨hK6,hN,gx,rfl,hgx,hRx⟩
 subst N
 have hS6:=hS5.mono hK6
 have hz:=Do_lit (M0:=M9) hS6 qk_x hgx hRx qd_x
 refine CallOb.whole _ hz ?_
 clear hz
 rintro v K7 N - ⟨hK7,hN,h7,rfl,hn7⟩
 subst N
 have hS7:=hS6.mono hK7
 refine AllocOb.mk fun c0 hc0 hMc0=>?_
 have hsp:=Keep_none (M0:=M9) (hS7.mono (ins_le hc0)) (ints_row (l:=[0]) hc0 (by simp[i64ok]) (by decide)) (Nat.le_of_ble_eq_true rfl)
 refine CallOb.mkW (ins K7 c0 (.cells (List.map (fun k:Int=>Value.int IntKind.i64 k) [0]).toArray 3 (0,0))) M9 [] _ (.prom (b:=c0) (o:=.cells (List.map (fun k:Int=>Value.int IntKind.i64 k) [0]).toArray 3 (0,0)) (post:=M9) rfl (by simp) (.eqM (List.append_nil _).symm)) hsp ?_
 rintro v K8 N - - ⟨hK8,hN,h8,rfl⟩
 subst N
 have hK8:∀ b o,K7 b=some o→K8 b=some o:=fun b o h=>hK8 _ _ (ins_le hc0 _ _ h)
 have hS8:=hS7.mono hK8
 refine GuardOb.mk (fun _=>?_) (fun h=>absurd h (by decide))
 refine GuardOb.mk (fun _=>?_) (fun h=>absurd h (by decide))
 refine GuardOb.mk (fun _=>?_) (fun h=>absurd h (by decide))
 refine GuardOb.mk (fun _=>?_) (fun h=>absurd h (by decide))
 refine GuardOb.mk (fun _=>?_) (fun h=>absurd h (by decide))
 have hz:=Steps_none (M0:=M9++[]) hS8
 refine CallOb.whole _ hz ?_
 clear hz
 rintro v K9 N - ⟨hK9,a9,c9,N9,rfl,hN9⟩
 subst N
 have hS9:=hS8.mono hK9
 refine GuardOb.mk (fun _=>?_) (fun h=>absurd h (by decide))
 refine CallOb.whole _ (keptN25_spec (x:=⟨none,0,0,[]⟩) hS9 qg_s ⟨⟨rfl,⟨Nat.le_refl _,by decide⟩,.inl rfl⟩,by simp⟩ (by decide) qk_0) ?_
 rintro v K10 N' - ⟨rfl,hK10,hN'⟩
 subst N'
 have hS10:=hS9.mono hK10
 refine GuardOb.mk (fun _=>?_) (fun h=>by cases h)
 refine AllocOb.mk fun d1 hd1 hMd1=>?_
 have hsp1:=keptN25_spec (M0:=(N9++(M9++[]))) (hS10.mono (ins_le hd1)) qg_s (ints_row (l:=[(-1)]) hd1 (by simp[i64ok]) (by decide)) (Nat.le_of_ble_eq_true rfl) qk_1
 refine CallOb.mkW (ins K10 d1 (.cells (List.map (fun k:Int=>Value.int IntKind.i64 k) [(-1)]).toArray 3 (0,0))) (N9++(M9++[])) [] _ (.prom (b:=d1) (o:=.cells (List.map (fun k:Int=>Value.int IntKind.i64 k) [(-1)]).toArray 3 (0,0)) (post:=(N9++(M9++[]))) rfl (by simp) (.eqM (List.append_nil _).symm)) hsp1 ?_
 rintro v K11 N' - - ⟨rfl,hK11,hN'⟩
 subst N'
 have hK11:∀ b o,K10 b=some o→K11 b=some o:=fun b o h=>hK11 _ _ (ins_le hd1 _ _ h)
 have hS11:=hS10.mono hK11
 refine GuardOb.mk (fun _=>?_) (fun h=>by cases h)
 refine AllocOb.mk fun d2 hd2 hMd2=>?_
 have hsp2:=keptN25_spec (M0:=((N9++(M9++[]))++[])) (hS11.mono (ins_le hd2)) qg_s (ints_row (l:=[6]) hd2 (by simp[i64ok]) (by decide)) (Nat.le_of_ble_eq_true rfl) qk_2
 refine CallOb.mkW (ins K11 d2 (.cells (List.map (fun k:Int=>Value.int IntKind.i64 k) [6]).toArray 3 (0,0))) ((N9++(M9++[]))++[]) [] _ (.prom (b:=d2) (o:=.cells (List.map (fun k:Int=>Value.int IntKind.i64 k) [6]).toArray 3 (0,0)) (post:=((N9++(M9++[]))++[])) rfl (by simp) (.eqM (List.append_nil _).symm)) hsp2 ?_
 rintro v K12 N' - - ⟨rfl,hK12,hN'⟩
 subst N'
 have hK12:∀ b o,K11 b=some o→K12 b=some o:=fun b o h=>hK12 _ _ (ins_le hd2 _ _ h)
 have hS12:=hS11.mono hK12
 refine GuardOb.mk (fun _=>?_) (fun h=>by cases h)
 refine AllocOb.mk fun d3 hd3 hMd3=>?_
 have hsp3:=keptN25_spec (M0:=(((N9++(M9++[]))++[])++[])) (hS12.mono (ins_le hd3)) qg_s (ints_row (l:=[5,5]) hd3 (by simp[i64ok]) (by decide)) (Nat.le_of_ble_eq_true rfl) qk_3
 refine CallOb.mkW (ins K12 d3 (.cells (List.map (fun k:Int=>Value.int IntKind.i64 k) [5,5]).toArray 3 (0,0))) (((N9++(M9++[]))++[])++[]) [] _ (.prom (b:=d3) (o:=.cells (List.map (fun k:Int=>Value.int IntKind.i64 k) [5,5]).toArray 3 (0,0)) (post:=(((N9++(M9++[]))++[])++[])) rfl (by simp) (.eqM (List.append_nil _).symm)) hsp3 ?_
 rintro v K13 N' - - ⟨rfl,hK13,hN'⟩
 subst N'
 have hK13:∀ b o,K12 b=some o→K13 b=some o:=fun b o h=>hK13 _ _ (ins_le hd3 _ _ h)
 have hS13:=hS12.mono hK13
 refine GuardOb.mk (fun _=>?_) (fun h=>by cases h)
 refine AllocOb.mk fun d4 hd4 hMd4=>?_
 have hsp4:=keptY25_spec (M0:=((((N9++(M9++[]))++[])++[])++[])) (hS13.mono (ins_le hd4)) qg_s qg_d qn_d (ints_row (l:=[5]) hd4 (by simp[i64ok]) (by decide)) (Nat.le_of_ble_eq_true rfl) (ds:=ql_4) qk_4 rfl qls_4 qln_4
 refine CallOb.mkW (ins K13 d4 (.cells (List.map (fun k:Int=>Value.int IntKind.i64 k) [5]).toArray 3 (0,0))) ((((N9++(M9++[]))++[])++[])++[]) [] _ (.prom (b:=d4) (o:=.cells (List.map (fun k:Int=>Value.int IntKind.i64 k) [5]).toArray 3 (0,0)) (post:=((((N9++(M9++[]))++[])++[])++[])) rfl (by simp) (.eqM (List.append_nil _).symm)) hsp4 ?_
 rintro v K14 N' - - ⟨rfl,hK14,hN'⟩
 subst N'
 have hK14:∀ b o,K13 b=some o→K14 b=some o:=fun b o h=>hK14 _ _ (ins_le hd4 _ _ h)
 have hS14:=hS13.mono hK14
 refine GuardOb.mk (fun _=>?_) (fun h=>by cases h)
 refine AllocOb.mk fun d5 hd5 hMd5=>?_
 have hsp5:=keptY25_spec (M0:=(((((N9++(M9++[]))++[])++[])++[])++[])) (hS14.mono (ins_le hd5)) qg_s qg_e qn_e (ints_row (l:=[5,2]) hd5 (by simp[i64ok]) (by decide)) (Nat.le_of_ble_eq_true rfl) (ds:=ql_5) qk_5 rfl qls_5 qln_5
 refine CallOb.mkW (ins K14 d5 (.cells (List.map (fun k:Int=>Value.int IntKind.i64 k) [5,2]).toArray 3 (0,0))) (((((N9++(M9++[]))++[])++[])++[])++[]) [] _ (.prom (b:=d5) (o:=.cells (List.map (fun k:Int=>Value.int IntKind.i64 k) [5,2]).toArray 3 (0,0)) (post:=(((((N9++(M9++[]))++[])++[])++[])++[])) rfl (by simp) (.eqM (List.append_nil _).symm)) hsp5 ?_
 rintro v K15 N' - - ⟨rfl,hK15,hN'⟩
 subst N'
 have hK15:∀ b o,K14 b=some o→K15 b=some o:=fun b o h=>hK15 _ _ (ins_le hd5 _ _ h)
 have hS15:=hS14.mono hK15
 refine GuardOb.mk (fun _=>?_) (fun h=>by cases h)
 refine AllocOb.mk fun d6 hd6 hMd6=>?_
 have hsp6:=keptN25_spec (M0:=((((((N9++(M9++[]))++[])++[])++[])++[])++[])) (hS15.mono (ins_le hd6)) qg_s (ints_row (l:=[2]) hd6 (by simp[i64ok]) (by decide)) (Nat.le_of_ble_eq_true rfl) qk_6
 refine CallOb.mkW (ins K15 d6 (.cells (List.map (fun k:Int=>Value.int IntKind.i64 k) [2]).toArray 3 (0,0))) ((((((N9++(M9++[]))++[])++[])++[])++[])++[]) [] _ (.prom (b:=d6) (o:=.cells (List.map (fun k:Int=>Value.int IntKind.i64 k) [2]).toArray 3 (0,0)) (post:=((((((N9++(M9++[]))++[])++[])++[])++[])++[])) rfl (by simp) (.eqM (List.append_nil _).symm)) hsp6 ?_
 rintro v K16 N' - - ⟨rfl,hK16,hN'⟩
 subst N'
 have hK16:∀ b o,K15 b=some o→K16 b=some o:=fun b o h=>hK16 _ _ (ins_le hd6 _ _ h)
 have hS16:=hS15.mono hK16
 refine GuardOb.mk (fun _=>?_) (fun h=>by cases h)
 refine AllocOb.mk fun d7 hd7 hMd7=>?_
 have hsp7:=keptY25_spec (M0:=(((((((N9++(M9++[]))++[])++[])++[])++[])++[])++[])) (hS16.mono (ins_le hd7)) qg_a qg_a qn_a (ints_row (l:=[0]) hd7 (by simp[i64ok]) (by decide)) (Nat.le_of_ble_eq_true rfl) (ds:=ql_7) qk_7 rfl qls_7 qln_7
 refine CallOb.mkW (ins K16 d7 (.cells (List.map (fun k:Int=>Value.int IntKind.i64 k) [0]).toArray 3 (0,0))) (((((((N9++(M9++[]))++[])++[])++[])++[])++[])++[]) [] _ (.prom (b:=d7) (o:=.cells (List.map (fun k:Int=>Value.int IntKind.i64 k) [0]).toArray 3 (0,0)) (post:=(((((((N9++(M9++[]))++[])++[])++[])++[])++[])++[])) rfl (by simp) (.eqM (List.append_nil _).symm)) hsp7 ?_
 rintro v K17 N' - - ⟨rfl,hK17,hN'⟩
 subst N'
 have hK17:∀ b o,K16 b=some o→K17 b=some o:=fun b o h=>hK17 _ _ (ins_le hd7 _ _ h)
 have hS17:=hS16.mono hK17
 exact⟨_,_,.refl,rfl⟩
end Go.V
