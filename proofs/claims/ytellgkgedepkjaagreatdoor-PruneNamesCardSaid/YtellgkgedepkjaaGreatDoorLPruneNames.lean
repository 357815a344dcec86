/-
  For every input bonsai/bonsailaw25.PruneNames returns true, and each argument reads behind the call as it read before: the given card, from the walk's contract. Conditions: those of the row itself.
-/
import Derived.Test.YtellgkgedepkjaaGreatDoorK4
import Derived.Test.YtellgkgedepkjaaGreatDoorK8
import Derived.Carry
set_option linter.all false
namespace Go.Proofs.YtellgkgedepkjaaGreatDoor
open Go Go.V Go.ChangeShapes Go.WideShapes Go.ChangeAt Go.RowKit
theorem pruneNames_laid (os:Os):laidMet Tryz.prog Rows.pruneNamesRow.laid ((laidWorld os).forCall (fun _ _=>0) ⟨#[],#[],[]⟩).memory:=
 laidMet_of_run' 8 (by kernel_rfl) (by kernel_rfl)
theorem pruneNames_reads (os:Os) {H:Type} (enc:TypeId×Value→H):∃ places,DataW.whole enc Tryz.prog ((laidWorld os).forCall (fun _ _=>0) ⟨#[],#[],[]⟩).memory Tryz.f6.params.toList Rows.pruneNamesSpec.vars false (#[]:Array Value).toList 8=some ([],[],places):=
 ⟨[],by kernel_rfl⟩
theorem pruneNames_params:(Tryz.f6.params.toList.all fun t=>Tryz.prog.readableRec t && decide (t < Tryz.prog.types.size) && !Tryz.prog.wantsStandIn t)=true:=by kernel_rfl
set_option maxRecDepth 100000 in
theorem pruneNames_contract (H:Type) (enc:TypeId×Value→H) (W:World) (base:Nat) (args:Array Value) (ds gs:List (DataW H)) (before:List MemPlace)
  (hval:∀ (j:Nat) t v,Tryz.f6.params[j]?=some t→args[j]?=some v→Value.okWide Tryz.prog W .any base t v)
  (hW:DataW.Whole enc Tryz.prog Tryz.f6.params.toList Rows.pruneNamesSpec.vars false W args.toList ds gs before) (hL:laidMetH Tryz.prog Rows.pruneNamesRow.laid W) :
  Calls Tryz.prog 6 args W fun e W'=>∃ v,e=.returned v∧Rows.pruneNamesSpec.post enc Tryz.prog Tryz.f6 false true false false W args v W':=by
 have hW':=hW
 obtain⟨p,q,hA0,hV,rfl,hfz,hnd⟩:=hW
 have hA:DataW.TrodAll enc Tryz.prog W 0 (fun _=>true) true Tryz.f6.params.toList args.toList ds p:=hA0
 have hAk:=hA
 rw[Tryz.params6] at hA
 obtain⟨rfl,rfl⟩:=trodVars_none hV
 have hlt:∀ x∈p,x.block < W.heap.size:=fun x hx=>hW'.lt x (by simp[hx])
 have hT:Tabs (ghost W) debL:=tabs_ghost hL rfl
 obtain⟨hargs,rfl,rfl⟩:=trodAll_nil hA
 obtain rfl:args=#[]:=by cases args;simp_all
 refine(calls_of_specE (pruneNames_V hT)).mono ?_
 rintro e W' ⟨v,rfl,⟨I',M',rfl⟩,hK⟩
 refine⟨_,rfl,post_of_old (pa:=_) (pv:=[]) hW' (fun _ _ _=>?_) (fun sp hs=>trodAll_stays laidOut hK (fun t ht=>?_) hAk hlt sp (fun p hp=>hs p (List.mem_append_left _ hp))) (fun _ _=>rfl) rfl hK (ok_one (by kernel_rfl) rfl (okWide_bool_mk Tryz.underlying4 _))⟩
 ·exact trodAll_cons_mk (shut_bool Tryz.underlying4 _) trodAll_mk0
 ·have:=all_mem pruneNames_params ht
  simp only[Bool.and_eq_true,decide_eq_true_eq] at this
  exact this.1
set_option maxRecDepth 100000 in
theorem pruneNames_lifted (os:Os) (started:os.Started) (H:Type) (enc:TypeId×Value→H) (F:Stop.Interp) :
  ReturnsInHanded {} Tryz.checked os 6 .any ((OpenSpec.ofChange Rows.pruneNamesSpec).preRow enc Tryz.prog Tryz.f6 Rows.pruneNamesRow.domain false Rows.pruneNamesRow.laid) (((OpenSpec.ofChange Rows.pruneNamesSpec).at F).post enc Tryz.prog Tryz.f6 false true false false):=by
 obtain⟨places,hx⟩:=pruneNames_reads os enc
 refine returnsInHanded_of_row (C:=Tryz.checked) (s:=OpenSpec.ofChange Rows.pruneNamesSpec) own started (by kernel_rfl) Tryz.func6
  (witness_row_at (enc:=enc) (C:=Tryz.checked) false (laidWorld os) #[] rfl (by kernel_rfl) (by kernel_rfl) (by kernel_rfl)
   (OpenSpec.preRow_of_cond 8 hx (by kernel_rfl) (fun k hk=>by cases hk) (by kernel_rfl) (pruneNames_laid os))) ?_
 intro W base args ds gs before hval hW _ _ _ hL _ _
 exact pruneNames_contract H enc W base args ds gs before hval hW hL
theorem pruneNames_k10:(Rows.pruneNamesRow.inPlace == Tryz.prog.inPlace 6)=true:=by kernel_rfl
theorem pruneNames_k11:(Rows.pruneNamesRow.unfollowed == Tryz.prog.unfollowed 6)=true:=by kernel_rfl
theorem pruneNames_k12:(Rows.pruneNamesRow.recurses == Tryz.prog.recurses 6)=true:=by kernel_rfl
theorem pruneNames_k13:(Rows.pruneNamesRow.named == Tryz.prog.varsNamed 6)=true:=by kernel_rfl
theorem pruneNames_k14:(Rows.pruneNamesRow.lifted == Tryz.prog.liftsFinal)=true:=by kernel_rfl
theorem pruneNames_facts:joinedFacts Tryz.prog 6 Tryz.f6 (OpenSpec.ofChange Rows.pruneNamesSpec).bare Rows.pruneNamesRow=true:=by
 unfold joinedFacts
 rw[laidOut,mapsRowed_ok,stopsHeard_ok,mayEnter_ok,pruneNames_k10,pruneNames_k11,pruneNames_k12,pruneNames_k13,pruneNames_k14]
 kernel_rfl
theorem pruneNames_said:Rows.PruneNamesSaid:=
 OpenClaim.holds_of_cond 6 Tryz.f6 rfl rfl rfl rfl rfl rfl rfl ⟨rfl,rfl,rfl,rfl,rfl⟩ rfl rfl rfl rfl rfl (by kernel_rfl) Tryz.func6 pruneNames_facts
  (of_decide_eq_true (by kernel_rfl)) (by unfold Func.isWrapper;first | (rw[if_pos (by decide +kernel)];kernel_rfl) | (rw[if_neg (by decide +kernel)];exact⟨rfl,rfl⟩))
  (fun os started H enc _ F=>by rw[OpenClaim.pre_eq_preRow];exact pruneNames_lifted os started H enc F)
theorem pruneNames_plain (f:FuncId) (fn:Func) (hf:Tryz.pinned.checked.prog.funcNamed "bonsai/bonsailaw25.PruneNames" = some f) (hfn:Tryz.pinned.checked.prog.funcs[f]?=some fn) :
  false=Tryz.pinned.checked.prog.looks []∧∀ (j:Nat) t,fn.params[j]?=some t→Tryz.pinned.checked.prog.wantsStandIn t=false:=by
 obtain rfl:f=6:=Option.some.inj ((show Tryz.prog.funcNamed "bonsai/bonsailaw25.PruneNames" = some 6 by kernel_rfl).symm.trans hf) |>.symm
 obtain rfl:fn=Tryz.f6:=(Option.some.inj (Tryz.func6.symm.trans hfn)).symm
 refine⟨by kernel_rfl,fun j t ht=>?_⟩
 have:=all_mem pruneNames_params (x:=t) (by simpa using Array.mem_of_getElem? ht)
 simp only[Bool.and_eq_true,Bool.not_eq_true',decide_eq_true_eq] at this
 exact this.2
theorem pruneNames_wf:OpenClaim.wfByText (OpenSpec.ofChange Rows.pruneNamesSpec) Rows.pruneNamesRow=true:=by kernel_rfl
theorem pruneNames_main:Tryz.pinned.checked.prog.mainIs=some (true,("50f719cc87f16e0b874566a9c94ee9635742ad8c046b74b585ddd6f09bc1ce3a" : String).toList):=by kernel_rfl
theorem pruneNames_goes:false=Rows.pruneNamesRow.goesBy Tryz.pinned.checked.prog:=by kernel_rfl
theorem pruneNames_card:Rows.PruneNamesCardSaid:=
 Claim7.holds_tied_plain_at .later [] _ _ _ _ pruneNames_said (fun _ h=>by cases h) pruneNames_wf (fun _ h=>by cases h) pruneNames_row_tie rfl ⟨rfl,rfl⟩ pruneNames_main rfl pruneNames_plain pruneNames_goes
end Go.Proofs.YtellgkgedepkjaaGreatDoor
