/-
  For every input bonsai/bonsailaw25.PruneNeeded returns true, and each argument reads behind the call as it read before: the given card, from the walk's contract. Conditions: those of the row itself.
-/
import Derived.Test.YtellgkgedepkjaaGreatDoorK4
import Derived.Test.YtellgkgedepkjaaGreatDoorK7
import Derived.Carry
set_option linter.all false
namespace Go.Proofs.YtellgkgedepkjaaGreatDoor
open Go Go.V Go.ChangeShapes Go.WideShapes Go.ChangeAt Go.RowKit
theorem pruneNeeded_laid (os:Os):laidMet Tryz.prog Rows.pruneNeededRow.laid ((laidWorld os).forCall (fun _ _=>0) ⟨#[],#[.agg #[.slice none 0 0]],[]⟩).memory:=
 laidMet_of_run' 8 (by kernel_rfl) (by kernel_rfl)
theorem pruneNeeded_reads (os:Os) {H:Type} (enc:TypeId×Value→H):∃ places,DataW.whole enc Tryz.prog ((laidWorld os).forCall (fun _ _=>0) ⟨#[],#[.agg #[.slice none 0 0]],[]⟩).memory Tryz.f9.params.toList Rows.pruneNeededSpec.vars false (#[.agg #[.slice none 0 0]]:Array Value).toList 8=some ([.agg [.nil]],[],places):=
 ⟨[],by kernel_rfl⟩
theorem pruneNeeded_params:(Tryz.f9.params.toList.all fun t=>Tryz.prog.readableRec t && decide (t < Tryz.prog.types.size) && !Tryz.prog.wantsStandIn t)=true:=by kernel_rfl
set_option maxRecDepth 100000 in
theorem pruneNeeded_contract (H:Type) (enc:TypeId×Value→H) (W:World) (base:Nat) (args:Array Value) (ds gs:List (DataW H)) (before:List MemPlace)
  (hval:∀ (j:Nat) t v,Tryz.f9.params[j]?=some t→args[j]?=some v→Value.okWide Tryz.prog W .any base t v)
  (hW:DataW.Whole enc Tryz.prog Tryz.f9.params.toList Rows.pruneNeededSpec.vars false W args.toList ds gs before) (hL:laidMetH Tryz.prog Rows.pruneNeededRow.laid W) :
  Calls Tryz.prog 9 args W fun e W'=>∃ v,e=.returned v∧Rows.pruneNeededSpec.post enc Tryz.prog Tryz.f9 false true false false W args v W':=by
 have hW':=hW
 obtain⟨p,q,hA0,hV,rfl,hfz,hnd⟩:=hW
 have hA:DataW.TrodAll enc Tryz.prog W 0 (fun _=>true) true Tryz.f9.params.toList args.toList ds p:=hA0
 have hAk:=hA
 rw[Tryz.params9] at hA
 obtain⟨rfl,rfl⟩:=trodVars_none hV
 have hlt:∀ x∈p,x.block < W.heap.size:=fun x hx=>hW'.lt x (by simp[hx])
 have hT:Tabs (ghost W) debL:=tabs_ghost hL rfl
 obtain⟨v1,d1,rfl,rfl,h1⟩:=trodAll_one hA
 obtain⟨g1,rfl,hg1⟩:=arg_grammar h1 (hval 0 30 _ (by kernel_rfl) rfl)
 refine(calls_of_specE (pruneNeeded_V hT hg1)).mono ?_
 rintro e W' ⟨v,rfl,⟨I',M',rfl⟩,hK⟩
 refine⟨_,rfl,post_of_old (pa:=_) (pv:=[]) hW' (fun _ _ _=>?_) (fun sp hs=>trodAll_stays laidOut hK (fun t ht=>?_) hAk hlt sp (fun p hp=>hs p (List.mem_append_left _ hp))) (fun _ _=>rfl) rfl hK (ok_one (by kernel_rfl) rfl (okWide_bool_mk Tryz.underlying4 _))⟩
 ·exact trodAll_cons_mk (shut_bool Tryz.underlying4 _) trodAll_mk0
 ·have:=all_mem pruneNeeded_params ht
  simp only[Bool.and_eq_true,decide_eq_true_eq] at this
  exact this.1
set_option maxRecDepth 100000 in
theorem pruneNeeded_lifted (os:Os) (started:os.Started) (H:Type) (enc:TypeId×Value→H) (F:Stop.Interp) :
  ReturnsInHanded {} Tryz.checked os 9 .any ((OpenSpec.ofChange Rows.pruneNeededSpec).preRow enc Tryz.prog Tryz.f9 Rows.pruneNeededRow.domain false Rows.pruneNeededRow.laid) (((OpenSpec.ofChange Rows.pruneNeededSpec).at F).post enc Tryz.prog Tryz.f9 false true false false):=by
 obtain⟨places,hx⟩:=pruneNeeded_reads os enc
 refine returnsInHanded_of_row (C:=Tryz.checked) (s:=OpenSpec.ofChange Rows.pruneNeededSpec) own started (by kernel_rfl) Tryz.func9
  (witness_row_at (enc:=enc) (C:=Tryz.checked) false (laidWorld os) #[.agg #[.slice none 0 0]] rfl (by kernel_rfl) (by kernel_rfl) (by kernel_rfl)
   (OpenSpec.preRow_of_cond 8 hx (by kernel_rfl) (fun k hk=>by cases hk) (by kernel_rfl) (pruneNeeded_laid os))) ?_
 intro W base args ds gs before hval hW _ _ _ hL _ _
 exact pruneNeeded_contract H enc W base args ds gs before hval hW hL
theorem pruneNeeded_k10:(Rows.pruneNeededRow.inPlace == Tryz.prog.inPlace 9)=true:=by kernel_rfl
theorem pruneNeeded_k11:(Rows.pruneNeededRow.unfollowed == Tryz.prog.unfollowed 9)=true:=by kernel_rfl
theorem pruneNeeded_k12:(Rows.pruneNeededRow.recurses == Tryz.prog.recurses 9)=true:=by kernel_rfl
theorem pruneNeeded_k13:(Rows.pruneNeededRow.named == Tryz.prog.varsNamed 9)=true:=by kernel_rfl
theorem pruneNeeded_k14:(Rows.pruneNeededRow.lifted == Tryz.prog.liftsFinal)=true:=by kernel_rfl
theorem pruneNeeded_facts:joinedFacts Tryz.prog 9 Tryz.f9 (OpenSpec.ofChange Rows.pruneNeededSpec).bare Rows.pruneNeededRow=true:=by
 unfold joinedFacts
 rw[laidOut,mapsRowed_ok,stopsHeard_ok,mayEnter_ok,pruneNeeded_k10,pruneNeeded_k11,pruneNeeded_k12,pruneNeeded_k13,pruneNeeded_k14]
 kernel_rfl
theorem pruneNeeded_said:Rows.PruneNeededSaid:=
 OpenClaim.holds_of_cond 9 Tryz.f9 rfl rfl rfl rfl rfl rfl rfl ⟨rfl,rfl,rfl,rfl,rfl⟩ rfl rfl rfl rfl rfl (by kernel_rfl) Tryz.func9 pruneNeeded_facts
  (of_decide_eq_true (by kernel_rfl)) (by unfold Func.isWrapper;first | (rw[if_pos (by decide +kernel)];kernel_rfl) | (rw[if_neg (by decide +kernel)];exact⟨rfl,rfl⟩))
  (fun os started H enc _ F=>by rw[OpenClaim.pre_eq_preRow];exact pruneNeeded_lifted os started H enc F)
theorem pruneNeeded_plain (f:FuncId) (fn:Func) (hf:Tryz.pinned.checked.prog.funcNamed "bonsai/bonsailaw25.PruneNeeded" = some f) (hfn:Tryz.pinned.checked.prog.funcs[f]?=some fn) :
  false=Tryz.pinned.checked.prog.looks []∧∀ (j:Nat) t,fn.params[j]?=some t→Tryz.pinned.checked.prog.wantsStandIn t=false:=by
 obtain rfl:f=9:=Option.some.inj ((show Tryz.prog.funcNamed "bonsai/bonsailaw25.PruneNeeded" = some 9 by kernel_rfl).symm.trans hf) |>.symm
 obtain rfl:fn=Tryz.f9:=(Option.some.inj (Tryz.func9.symm.trans hfn)).symm
 refine⟨by kernel_rfl,fun j t ht=>?_⟩
 have:=all_mem pruneNeeded_params (x:=t) (by simpa using Array.mem_of_getElem? ht)
 simp only[Bool.and_eq_true,Bool.not_eq_true',decide_eq_true_eq] at this
 exact this.2
theorem pruneNeeded_wf:OpenClaim.wfByText (OpenSpec.ofChange Rows.pruneNeededSpec) Rows.pruneNeededRow=true:=by kernel_rfl
theorem pruneNeeded_main:Tryz.pinned.checked.prog.mainIs=some (true,("50f719cc87f16e0b874566a9c94ee9635742ad8c046b74b585ddd6f09bc1ce3a" : String).toList):=by kernel_rfl
theorem pruneNeeded_goes:false=Rows.pruneNeededRow.goesBy Tryz.pinned.checked.prog:=by kernel_rfl
theorem pruneNeeded_card:Rows.PruneNeededCardSaid:=
 Claim7.holds_tied_plain_at .later [] _ _ _ _ pruneNeeded_said (fun _ h=>by cases h) pruneNeeded_wf (fun _ h=>by cases h) pruneNeeded_row_tie rfl ⟨rfl,rfl⟩ pruneNeeded_main rfl pruneNeeded_plain pruneNeeded_goes
end Go.Proofs.YtellgkgedepkjaaGreatDoor
