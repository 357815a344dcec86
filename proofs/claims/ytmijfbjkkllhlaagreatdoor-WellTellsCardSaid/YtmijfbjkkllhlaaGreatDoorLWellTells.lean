/-
  For every input bonsai/bonsailaw13.WellTells returns true, and each argument reads behind the call as it read before: the given card, from the walk's contract. Conditions: those of the row itself.
-/
import Derived.Test.YtmijfbjkkllhlaaGreatDoorK3
import Derived.Test.YtmijfbjkkllhlaaGreatDoorK8
import Derived.Carry
set_option linter.all false
namespace Go.Proofs.YtmijfbjkkllhlaaGreatDoor
open Go Go.V Go.ChangeShapes Go.WideShapes Go.ChangeAt Go.RowKit
theorem wellTells_laid (os:Os):laidMet Tryz.prog Rows.wellTellsRow.laid ((laidWorld os).forCall (fun _ _=>0) ⟨#[],#[.agg #[.slice none 0 0],.int .i64 0],[]⟩).memory:=
 laidMet_of_run' 8 (by kernel_rfl) (by kernel_rfl)
theorem wellTells_reads (os:Os) {H:Type} (enc:TypeId×Value→H):∃ places,DataW.whole enc Tryz.prog ((laidWorld os).forCall (fun _ _=>0) ⟨#[],#[.agg #[.slice none 0 0],.int .i64 0],[]⟩).memory Tryz.f3.params.toList Rows.wellTellsSpec.vars false (#[.agg #[.slice none 0 0],.int .i64 0]:Array Value).toList 8=some ([.agg [.nil],.lit (.int .i64 0)],[],places):=
 ⟨[],by kernel_rfl⟩
theorem wellTells_params:(Tryz.f3.params.toList.all fun t=>Tryz.prog.readableRec t && decide (t < Tryz.prog.types.size) && !Tryz.prog.wantsStandIn t)=true:=by kernel_rfl
set_option maxRecDepth 100000 in
theorem wellTells_contract (H:Type) (enc:TypeId×Value→H) (W:World) (base:Nat) (args:Array Value) (ds gs:List (DataW H)) (before:List MemPlace)
  (hval:∀ (j:Nat) t v,Tryz.f3.params[j]?=some t→args[j]?=some v→Value.okWide Tryz.prog W .any base t v)
  (hW:DataW.Whole enc Tryz.prog Tryz.f3.params.toList Rows.wellTellsSpec.vars false W args.toList ds gs before) (hL:laidMetH Tryz.prog Rows.wellTellsRow.laid W) :
  Calls Tryz.prog 3 args W fun e W'=>∃ v,e=.returned v∧Rows.wellTellsSpec.post enc Tryz.prog Tryz.f3 false true false false W args v W':=by
 have hW':=hW
 obtain⟨p,q,hA0,hV,rfl,hfz,hnd⟩:=hW
 have hA:DataW.TrodAll enc Tryz.prog W 0 (fun _=>true) true Tryz.f3.params.toList args.toList ds p:=hA0
 have hAk:=hA
 rw[Tryz.params3] at hA
 obtain⟨rfl,rfl⟩:=trodVars_none hV
 have hlt:∀ x∈p,x.block < W.heap.size:=fun x hx=>hW'.lt x (by simp[hx])
 have hT:Tabs (ghost W) debL:=tabs_ghost hL rfl
 obtain⟨v1,v2,d1,d2,p1,p2,rfl,rfl,rfl,h1,h2⟩:=trodAll_two hA
 obtain⟨g1,rfl,hg1⟩:=arg_grammar h1 (hval 0 24 _ (by kernel_rfl) rfl)
 obtain⟨g2,rfl,hg2⟩:=arg_int h2 (hval 1 3 _ (by kernel_rfl) rfl)
 refine(calls_of_specE (wellTells_V hT hg1 hg2)).mono ?_
 rintro e W' ⟨v,rfl,⟨I',M',rfl⟩,hK⟩
 refine⟨_,rfl,post_of_old (pa:=_) (pv:=[]) hW' (fun _ _ _=>?_) (fun sp hs=>trodAll_stays laidOut hK (fun t ht=>?_) hAk hlt sp (fun p hp=>hs p (List.mem_append_left _ hp))) (fun _ _=>rfl) rfl hK (ok_one (by kernel_rfl) rfl (okWide_bool_mk Tryz.underlying4 _))⟩
 ·exact trodAll_cons_mk (shut_bool Tryz.underlying4 _) trodAll_mk0
 ·have:=all_mem wellTells_params ht
  simp only[Bool.and_eq_true,decide_eq_true_eq] at this
  exact this.1
set_option maxRecDepth 100000 in
theorem wellTells_lifted (os:Os) (started:os.Started) (H:Type) (enc:TypeId×Value→H) (F:Stop.Interp) :
  ReturnsInHanded {} Tryz.checked os 3 .any ((OpenSpec.ofChange Rows.wellTellsSpec).preRow enc Tryz.prog Tryz.f3 Rows.wellTellsRow.domain false Rows.wellTellsRow.laid) (((OpenSpec.ofChange Rows.wellTellsSpec).at F).post enc Tryz.prog Tryz.f3 false true false false):=by
 obtain⟨places,hx⟩:=wellTells_reads os enc
 refine returnsInHanded_of_row (C:=Tryz.checked) (s:=OpenSpec.ofChange Rows.wellTellsSpec) own started (by kernel_rfl) Tryz.func3
  (witness_row_at (enc:=enc) (C:=Tryz.checked) false (laidWorld os) #[.agg #[.slice none 0 0],.int .i64 0] rfl (by kernel_rfl) (by kernel_rfl) (by kernel_rfl)
   (OpenSpec.preRow_of_cond 8 hx (by kernel_rfl) (fun k hk=>by cases hk) (by kernel_rfl) (wellTells_laid os))) ?_
 intro W base args ds gs before hval hW _ _ _ hL _ _
 exact wellTells_contract H enc W base args ds gs before hval hW hL
theorem wellTells_k10:(Rows.wellTellsRow.inPlace == Tryz.prog.inPlace 3)=true:=by kernel_rfl
theorem wellTells_k11:(Rows.wellTellsRow.unfollowed == Tryz.prog.unfollowed 3)=true:=by kernel_rfl
theorem wellTells_k12:(Rows.wellTellsRow.recurses == Tryz.prog.recurses 3)=true:=by kernel_rfl
theorem wellTells_k13:(Rows.wellTellsRow.named == Tryz.prog.varsNamed 3)=true:=by kernel_rfl
theorem wellTells_k14:(Rows.wellTellsRow.lifted == Tryz.prog.liftsFinal)=true:=by kernel_rfl
theorem wellTells_facts:joinedFacts Tryz.prog 3 Tryz.f3 (OpenSpec.ofChange Rows.wellTellsSpec).bare Rows.wellTellsRow=true:=by
 unfold joinedFacts
 rw[laidOut,mapsRowed_ok,stopsHeard_ok,mayEnter_ok,wellTells_k10,wellTells_k11,wellTells_k12,wellTells_k13,wellTells_k14]
 kernel_rfl
theorem wellTells_said:Rows.WellTellsSaid:=
 OpenClaim.holds_of_cond 3 Tryz.f3 rfl rfl rfl rfl rfl rfl rfl ⟨rfl,rfl,rfl,rfl,rfl⟩ rfl rfl rfl rfl rfl (by kernel_rfl) Tryz.func3 wellTells_facts
  (of_decide_eq_true (by kernel_rfl)) (by unfold Func.isWrapper;first | (rw[if_pos (by decide +kernel)];kernel_rfl) | (rw[if_neg (by decide +kernel)];exact⟨rfl,rfl⟩))
  (fun os started H enc _ F=>by rw[OpenClaim.pre_eq_preRow];exact wellTells_lifted os started H enc F)
theorem wellTells_plain (f:FuncId) (fn:Func) (hf:Tryz.pinned.checked.prog.funcNamed "bonsai/bonsailaw13.WellTells" = some f) (hfn:Tryz.pinned.checked.prog.funcs[f]?=some fn) :
  false=Tryz.pinned.checked.prog.looks []∧∀ (j:Nat) t,fn.params[j]?=some t→Tryz.pinned.checked.prog.wantsStandIn t=false:=by
 obtain rfl:f=3:=Option.some.inj ((show Tryz.prog.funcNamed "bonsai/bonsailaw13.WellTells" = some 3 by kernel_rfl).symm.trans hf) |>.symm
 obtain rfl:fn=Tryz.f3:=(Option.some.inj (Tryz.func3.symm.trans hfn)).symm
 refine⟨by kernel_rfl,fun j t ht=>?_⟩
 have:=all_mem wellTells_params (x:=t) (by simpa using Array.mem_of_getElem? ht)
 simp only[Bool.and_eq_true,Bool.not_eq_true',decide_eq_true_eq] at this
 exact this.2
theorem wellTells_card:Rows.WellTellsCardSaid:=
 Claim7.holds_tied_plain_at .later [] _ _ _ _ wellTells_said (fun _ h=>by cases h) (by kernel_rfl) (fun _ h=>by cases h) wellTells_row_tie rfl ⟨rfl,rfl⟩ (by kernel_rfl) rfl wellTells_plain (by kernel_rfl)
end Go.Proofs.YtmijfbjkkllhlaaGreatDoor
