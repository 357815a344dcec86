/-
  For every input bonsai/bonsailaw13.WellDrops returns true, and each argument reads behind the call as it read before: the given card, from the walk's contract. Conditions: those of the row itself.
-/
import Derived.Test.YtmijfbjkkllhlaaGreatDoorK3
import Derived.Test.YtmijfbjkkllhlaaGreatDoorK7
import Derived.Carry
set_option linter.all false
namespace Go.Proofs.YtmijfbjkkllhlaaGreatDoor
open Go Go.V Go.ChangeShapes Go.WideShapes Go.ChangeAt Go.RowKit
theorem wellDrops_laid (os:Os):laidMet Tryz.prog Rows.wellDropsRow.laid ((laidWorld os).forCall (fun _ _=>0) ⟨#[],#[.agg #[.slice none 0 0],.int .i64 0],[]⟩).memory:=
 laidMet_of_run' 8 (by kernel_rfl) (by kernel_rfl)
theorem wellDrops_reads (os:Os) {H:Type} (enc:TypeId×Value→H):∃ places,DataW.whole enc Tryz.prog ((laidWorld os).forCall (fun _ _=>0) ⟨#[],#[.agg #[.slice none 0 0],.int .i64 0],[]⟩).memory Tryz.f13.params.toList Rows.wellDropsSpec.vars false (#[.agg #[.slice none 0 0],.int .i64 0]:Array Value).toList 8=some ([.agg [.nil],.lit (.int .i64 0)],[],places):=
 ⟨[],by kernel_rfl⟩
theorem wellDrops_params:(Tryz.f13.params.toList.all fun t=>Tryz.prog.readableRec t && decide (t < Tryz.prog.types.size) && !Tryz.prog.wantsStandIn t)=true:=by kernel_rfl
set_option maxRecDepth 100000 in
theorem wellDrops_contract (H:Type) (enc:TypeId×Value→H) (W:World) (base:Nat) (args:Array Value) (ds gs:List (DataW H)) (before:List MemPlace)
  (hval:∀ (j:Nat) t v,Tryz.f13.params[j]?=some t→args[j]?=some v→Value.okWide Tryz.prog W .any base t v)
  (hW:DataW.Whole enc Tryz.prog Tryz.f13.params.toList Rows.wellDropsSpec.vars false W args.toList ds gs before) (hL:laidMetH Tryz.prog Rows.wellDropsRow.laid W) :
  Calls Tryz.prog 13 args W fun e W'=>∃ v,e=.returned v∧Rows.wellDropsSpec.post enc Tryz.prog Tryz.f13 false true false false W args v W':=by
 have hW':=hW
 obtain⟨p,q,hA0,hV,rfl,hfz,hnd⟩:=hW
 have hA:DataW.TrodAll enc Tryz.prog W 0 (fun _=>true) true Tryz.f13.params.toList args.toList ds p:=hA0
 have hAk:=hA
 rw[Tryz.params13] at hA
 obtain⟨rfl,rfl⟩:=trodVars_none hV
 have hlt:∀ x∈p,x.block < W.heap.size:=fun x hx=>hW'.lt x (by simp[hx])
 have hT:Tabs (ghost W) debL:=tabs_ghost hL rfl
 obtain⟨v1,v2,d1,d2,p1,p2,rfl,rfl,rfl,h1,h2⟩:=trodAll_two hA
 obtain⟨g1,rfl,hg1⟩:=arg_grammar h1 (hval 0 24 _ (by kernel_rfl) rfl)
 obtain⟨g2,rfl,hg2⟩:=arg_int h2 (hval 1 3 _ (by kernel_rfl) rfl)
 refine(calls_of_specE (wellDrops_V hT hg1 hg2)).mono ?_
 rintro e W' ⟨v,rfl,⟨I',M',rfl⟩,hK⟩
 refine⟨_,rfl,post_of_old (pa:=_) (pv:=[]) hW' (fun _ _ _=>?_) (fun sp hs=>trodAll_stays laidOut hK (fun t ht=>?_) hAk hlt sp (fun p hp=>hs p (List.mem_append_left _ hp))) (fun _ _=>rfl) rfl hK (ok_one (by kernel_rfl) rfl (okWide_bool_mk Tryz.underlying4 _))⟩
 ·exact trodAll_cons_mk (shut_bool Tryz.underlying4 _) trodAll_mk0
 ·have:=all_mem wellDrops_params ht
  simp only[Bool.and_eq_true,decide_eq_true_eq] at this
  exact this.1
set_option maxRecDepth 100000 in
theorem wellDrops_lifted (os:Os) (started:os.Started) (H:Type) (enc:TypeId×Value→H) (F:Stop.Interp) :
  ReturnsInHanded {} Tryz.checked os 13 .any ((OpenSpec.ofChange Rows.wellDropsSpec).preRow enc Tryz.prog Tryz.f13 Rows.wellDropsRow.domain false Rows.wellDropsRow.laid) (((OpenSpec.ofChange Rows.wellDropsSpec).at F).post enc Tryz.prog Tryz.f13 false true false false):=by
 obtain⟨places,hx⟩:=wellDrops_reads os enc
 refine returnsInHanded_of_row (C:=Tryz.checked) (s:=OpenSpec.ofChange Rows.wellDropsSpec) own started (by kernel_rfl) Tryz.func13
  (witness_row_at (enc:=enc) (C:=Tryz.checked) false (laidWorld os) #[.agg #[.slice none 0 0],.int .i64 0] rfl (by kernel_rfl) (by kernel_rfl) (by kernel_rfl)
   (OpenSpec.preRow_of_cond 8 hx (by kernel_rfl) (fun k hk=>by cases hk) (by kernel_rfl) (wellDrops_laid os))) ?_
 intro W base args ds gs before hval hW _ _ _ hL _ _
 exact wellDrops_contract H enc W base args ds gs before hval hW hL
theorem wellDrops_k10:(Rows.wellDropsRow.inPlace == Tryz.prog.inPlace 13)=true:=by kernel_rfl
theorem wellDrops_k11:(Rows.wellDropsRow.unfollowed == Tryz.prog.unfollowed 13)=true:=by kernel_rfl
theorem wellDrops_k12:(Rows.wellDropsRow.recurses == Tryz.prog.recurses 13)=true:=by kernel_rfl
theorem wellDrops_k13:(Rows.wellDropsRow.named == Tryz.prog.varsNamed 13)=true:=by kernel_rfl
theorem wellDrops_k14:(Rows.wellDropsRow.lifted == Tryz.prog.liftsFinal)=true:=by kernel_rfl
theorem wellDrops_facts:joinedFacts Tryz.prog 13 Tryz.f13 (OpenSpec.ofChange Rows.wellDropsSpec).bare Rows.wellDropsRow=true:=by
 unfold joinedFacts
 rw[laidOut,mapsRowed_ok,stopsHeard_ok,mayEnter_ok,wellDrops_k10,wellDrops_k11,wellDrops_k12,wellDrops_k13,wellDrops_k14]
 kernel_rfl
theorem wellDrops_said:Rows.WellDropsSaid:=
 OpenClaim.holds_of_cond 13 Tryz.f13 rfl rfl rfl rfl rfl rfl rfl ⟨rfl,rfl,rfl,rfl,rfl⟩ rfl rfl rfl rfl rfl (by kernel_rfl) Tryz.func13 wellDrops_facts
  (of_decide_eq_true (by kernel_rfl)) (by unfold Func.isWrapper;first | (rw[if_pos (by decide +kernel)];kernel_rfl) | (rw[if_neg (by decide +kernel)];exact⟨rfl,rfl⟩))
  (fun os started H enc _ F=>by rw[OpenClaim.pre_eq_preRow];exact wellDrops_lifted os started H enc F)
theorem wellDrops_plain (f:FuncId) (fn:Func) (hf:Tryz.pinned.checked.prog.funcNamed "bonsai/bonsailaw13.WellDrops" = some f) (hfn:Tryz.pinned.checked.prog.funcs[f]?=some fn) :
  false=Tryz.pinned.checked.prog.looks []∧∀ (j:Nat) t,fn.params[j]?=some t→Tryz.pinned.checked.prog.wantsStandIn t=false:=by
 obtain rfl:f=13:=Option.some.inj ((show Tryz.prog.funcNamed "bonsai/bonsailaw13.WellDrops" = some 13 by kernel_rfl).symm.trans hf) |>.symm
 obtain rfl:fn=Tryz.f13:=(Option.some.inj (Tryz.func13.symm.trans hfn)).symm
 refine⟨by kernel_rfl,fun j t ht=>?_⟩
 have:=all_mem wellDrops_params (x:=t) (by simpa using Array.mem_of_getElem? ht)
 simp only[Bool.and_eq_true,Bool.not_eq_true',decide_eq_true_eq] at this
 exact this.2
theorem wellDrops_card:Rows.WellDropsCardSaid:=
 Claim7.holds_tied_plain_at .later [] _ _ _ _ wellDrops_said (fun _ h=>by cases h) (by kernel_rfl) (fun _ h=>by cases h) wellDrops_row_tie rfl ⟨rfl,rfl⟩ (by kernel_rfl) rfl wellDrops_plain (by kernel_rfl)
end Go.Proofs.YtmijfbjkkllhlaaGreatDoor
