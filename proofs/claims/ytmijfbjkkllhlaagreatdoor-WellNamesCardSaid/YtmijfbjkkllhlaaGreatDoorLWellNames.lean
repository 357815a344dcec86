/-
  For every input bonsai/bonsailaw13.WellNames returns true, and each argument reads behind the call as it read before: the given card, from the walk's contract. Conditions: those of the row itself.
-/
import Derived.Test.YtmijfbjkkllhlaaGreatDoorK3
import Derived.Test.YtmijfbjkkllhlaaGreatDoorK6
import Derived.Carry
set_option linter.all false
namespace Go.Proofs.YtmijfbjkkllhlaaGreatDoor
open Go Go.V Go.ChangeShapes Go.WideShapes Go.ChangeAt Go.RowKit
theorem wellNames_laid (os:Os):laidMet Tryz.prog Rows.wellNamesRow.laid ((laidWorld os).forCall (fun _ _=>0) ⟨#[],#[],[]⟩).memory:=
 laidMet_of_run' 8 (by kernel_rfl) (by kernel_rfl)
theorem wellNames_reads (os:Os) {H:Type} (enc:TypeId×Value→H):∃ places,DataW.whole enc Tryz.prog ((laidWorld os).forCall (fun _ _=>0) ⟨#[],#[],[]⟩).memory Tryz.f5.params.toList Rows.wellNamesSpec.vars false (#[]:Array Value).toList 8=some ([],[],places):=
 ⟨[],by kernel_rfl⟩
theorem wellNames_params:(Tryz.f5.params.toList.all fun t=>Tryz.prog.readableRec t && decide (t < Tryz.prog.types.size) && !Tryz.prog.wantsStandIn t)=true:=by kernel_rfl
set_option maxRecDepth 100000 in
theorem wellNames_contract (H:Type) (enc:TypeId×Value→H) (W:World) (base:Nat) (args:Array Value) (ds gs:List (DataW H)) (before:List MemPlace)
  (hval:∀ (j:Nat) t v,Tryz.f5.params[j]?=some t→args[j]?=some v→Value.okWide Tryz.prog W .any base t v)
  (hW:DataW.Whole enc Tryz.prog Tryz.f5.params.toList Rows.wellNamesSpec.vars false W args.toList ds gs before) (hL:laidMetH Tryz.prog Rows.wellNamesRow.laid W) :
  Calls Tryz.prog 5 args W fun e W'=>∃ v,e=.returned v∧Rows.wellNamesSpec.post enc Tryz.prog Tryz.f5 false true false false W args v W':=by
 have hW':=hW
 obtain⟨p,q,hA0,hV,rfl,hfz,hnd⟩:=hW
 have hA:DataW.TrodAll enc Tryz.prog W 0 (fun _=>true) true Tryz.f5.params.toList args.toList ds p:=hA0
 have hAk:=hA
 rw[Tryz.params5] at hA
 obtain⟨rfl,rfl⟩:=trodVars_none hV
 have hlt:∀ x∈p,x.block < W.heap.size:=fun x hx=>hW'.lt x (by simp[hx])
 have hT:Tabs (ghost W) debL:=tabs_ghost hL rfl
 obtain⟨hargs,rfl,rfl⟩:=trodAll_nil hA
 obtain rfl:args=#[]:=by cases args;simp_all
 refine(calls_of_specE (wellNames_V hT)).mono ?_
 rintro e W' ⟨v,rfl,⟨I',M',rfl⟩,hK⟩
 refine⟨_,rfl,post_of_old (pa:=_) (pv:=[]) hW' (fun _ _ _=>?_) (fun sp hs=>trodAll_stays laidOut hK (fun t ht=>?_) hAk hlt sp (fun p hp=>hs p (List.mem_append_left _ hp))) (fun _ _=>rfl) rfl hK (ok_one (by kernel_rfl) rfl (okWide_bool_mk Tryz.underlying4 _))⟩
 ·exact trodAll_cons_mk (shut_bool Tryz.underlying4 _) trodAll_mk0
 ·have:=all_mem wellNames_params ht
  simp only[Bool.and_eq_true,decide_eq_true_eq] at this
  exact this.1
set_option maxRecDepth 100000 in
theorem wellNames_lifted (os:Os) (started:os.Started) (H:Type) (enc:TypeId×Value→H) (F:Stop.Interp) :
  ReturnsInHanded {} Tryz.checked os 5 .any ((OpenSpec.ofChange Rows.wellNamesSpec).preRow enc Tryz.prog Tryz.f5 Rows.wellNamesRow.domain false Rows.wellNamesRow.laid) (((OpenSpec.ofChange Rows.wellNamesSpec).at F).post enc Tryz.prog Tryz.f5 false true false false):=by
 obtain⟨places,hx⟩:=wellNames_reads os enc
 refine returnsInHanded_of_row (C:=Tryz.checked) (s:=OpenSpec.ofChange Rows.wellNamesSpec) own started (by kernel_rfl) Tryz.func5
  (witness_row_at (enc:=enc) (C:=Tryz.checked) false (laidWorld os) #[] rfl (by kernel_rfl) (by kernel_rfl) (by kernel_rfl)
   (OpenSpec.preRow_of_cond 8 hx (by kernel_rfl) (fun k hk=>by cases hk) (by kernel_rfl) (wellNames_laid os))) ?_
 intro W base args ds gs before hval hW _ _ _ hL _ _
 exact wellNames_contract H enc W base args ds gs before hval hW hL
theorem wellNames_k10:(Rows.wellNamesRow.inPlace == Tryz.prog.inPlace 5)=true:=by kernel_rfl
theorem wellNames_k11:(Rows.wellNamesRow.unfollowed == Tryz.prog.unfollowed 5)=true:=by kernel_rfl
theorem wellNames_k12:(Rows.wellNamesRow.recurses == Tryz.prog.recurses 5)=true:=by kernel_rfl
theorem wellNames_k13:(Rows.wellNamesRow.named == Tryz.prog.varsNamed 5)=true:=by kernel_rfl
theorem wellNames_k14:(Rows.wellNamesRow.lifted == Tryz.prog.liftsFinal)=true:=by kernel_rfl
theorem wellNames_facts:joinedFacts Tryz.prog 5 Tryz.f5 (OpenSpec.ofChange Rows.wellNamesSpec).bare Rows.wellNamesRow=true:=by
 unfold joinedFacts
 rw[laidOut,mapsRowed_ok,stopsHeard_ok,mayEnter_ok,wellNames_k10,wellNames_k11,wellNames_k12,wellNames_k13,wellNames_k14]
 kernel_rfl
theorem wellNames_said:Rows.WellNamesSaid:=
 OpenClaim.holds_of_cond 5 Tryz.f5 rfl rfl rfl rfl rfl rfl rfl ⟨rfl,rfl,rfl,rfl,rfl⟩ rfl rfl rfl rfl rfl (by kernel_rfl) Tryz.func5 wellNames_facts
  (of_decide_eq_true (by kernel_rfl)) (by unfold Func.isWrapper;first | (rw[if_pos (by decide +kernel)];kernel_rfl) | (rw[if_neg (by decide +kernel)];exact⟨rfl,rfl⟩))
  (fun os started H enc _ F=>by rw[OpenClaim.pre_eq_preRow];exact wellNames_lifted os started H enc F)
theorem wellNames_plain (f:FuncId) (fn:Func) (hf:Tryz.pinned.checked.prog.funcNamed "bonsai/bonsailaw13.WellNames" = some f) (hfn:Tryz.pinned.checked.prog.funcs[f]?=some fn) :
  false=Tryz.pinned.checked.prog.looks []∧∀ (j:Nat) t,fn.params[j]?=some t→Tryz.pinned.checked.prog.wantsStandIn t=false:=by
 obtain rfl:f=5:=Option.some.inj ((show Tryz.prog.funcNamed "bonsai/bonsailaw13.WellNames" = some 5 by kernel_rfl).symm.trans hf) |>.symm
 obtain rfl:fn=Tryz.f5:=(Option.some.inj (Tryz.func5.symm.trans hfn)).symm
 refine⟨by kernel_rfl,fun j t ht=>?_⟩
 have:=all_mem wellNames_params (x:=t) (by simpa using Array.mem_of_getElem? ht)
 simp only[Bool.and_eq_true,Bool.not_eq_true',decide_eq_true_eq] at this
 exact this.2
theorem wellNames_card:Rows.WellNamesCardSaid:=
 Claim7.holds_tied_plain_at .later [] _ _ _ _ wellNames_said (fun _ h=>by cases h) (by kernel_rfl) (fun _ h=>by cases h) wellNames_row_tie rfl ⟨rfl,rfl⟩ (by kernel_rfl) rfl wellNames_plain (by kernel_rfl)
end Go.Proofs.YtmijfbjkkllhlaaGreatDoor
