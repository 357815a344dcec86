/-
  For every input bonsai/bonsailaw25.PruneKept returns true, and each argument reads behind the call as it read before: the given card, from the walk's contract. Conditions: those of the row itself.
-/
import Derived.Test.YtellgkgedepkjaaGreatDoorK4
import Derived.Test.YtellgkgedepkjaaGreatDoorK7
import Derived.Test.YtellgkgedepkjaaGreatDoorK8
import Derived.Carry
set_option linter.all false
namespace Go.Proofs.YtellgkgedepkjaaGreatDoor
open Go Go.V Go.ChangeShapes Go.WideShapes Go.ChangeAt Go.RowKit
theorem pruneKept_laid (os:Os):laidMet Tryz.prog Rows.pruneKeptRow.laid ((laidWorld os).forCall (fun _ _=>0) ⟨#[],#[.agg #[.slice none 0 0],.slice none 0 0],[]⟩).memory:=
 laidMet_of_run' 8 (by kernel_rfl) (by kernel_rfl)
theorem pruneKept_reads (os:Os) {H:Type} (enc:TypeId×Value→H):∃ places,DataW.whole enc Tryz.prog ((laidWorld os).forCall (fun _ _=>0) ⟨#[],#[.agg #[.slice none 0 0],.slice none 0 0],[]⟩).memory Tryz.f10.params.toList Rows.pruneKeptSpec.vars false (#[.agg #[.slice none 0 0],.slice none 0 0]:Array Value).toList 8=some ([.agg [.nil],.nil],[],places):=
 ⟨[],by kernel_rfl⟩
theorem pruneKept_params:(Tryz.f10.params.toList.all fun t=>Tryz.prog.readableRec t && decide (t < Tryz.prog.types.size) && !Tryz.prog.wantsStandIn t)=true:=by kernel_rfl
set_option maxRecDepth 100000 in
theorem pruneKept_contract (H:Type) (enc:TypeId×Value→H) (W:World) (base:Nat) (args:Array Value) (ds gs:List (DataW H)) (before:List MemPlace)
  (hval:∀ (j:Nat) t v,Tryz.f10.params[j]?=some t→args[j]?=some v→Value.okWide Tryz.prog W .any base t v)
  (hW:DataW.Whole enc Tryz.prog Tryz.f10.params.toList Rows.pruneKeptSpec.vars false W args.toList ds gs before) (hL:laidMetH Tryz.prog Rows.pruneKeptRow.laid W) :
  Calls Tryz.prog 10 args W fun e W'=>∃ v,e=.returned v∧Rows.pruneKeptSpec.post enc Tryz.prog Tryz.f10 false true false false W args v W':=by
 have hW':=hW
 obtain⟨p,q,hA0,hV,rfl,hfz,hnd⟩:=hW
 have hA:DataW.TrodAll enc Tryz.prog W 0 (fun _=>true) true Tryz.f10.params.toList args.toList ds p:=hA0
 have hAk:=hA
 rw[Tryz.params10] at hA
 obtain⟨rfl,rfl⟩:=trodVars_none hV
 have hlt:∀ x∈p,x.block < W.heap.size:=fun x hx=>hW'.lt x (by simp[hx])
 have hT:Tabs (ghost W) debL:=tabs_ghost hL rfl
 obtain⟨v1,v2,d1,d2,p1,p2,rfl,rfl,rfl,h1,h2⟩:=trodAll_two hA
 obtain⟨g1,rfl,hg1⟩:=arg_grammar h1 (hval 0 30 _ (by kernel_rfl) rfl)
 obtain⟨g2,rfl,hg2⟩:=arg_ints h2 (hval 1 57 _ (by kernel_rfl) rfl)
 refine(calls_of_specE (pruneKept_V hT hg1 hg2)).mono ?_
 rintro e W' ⟨v,rfl,⟨I',M',rfl⟩,hK⟩
 refine⟨_,rfl,post_of_old (pa:=_) (pv:=[]) hW' (fun _ _ _=>?_) (fun sp hs=>trodAll_stays laidOut hK (fun t ht=>?_) hAk hlt sp (fun p hp=>hs p (List.mem_append_left _ hp))) (fun _ _=>rfl) rfl hK (ok_one (by kernel_rfl) rfl (okWide_bool_mk Tryz.underlying4 _))⟩
 ·exact trodAll_cons_mk (shut_bool Tryz.underlying4 _) trodAll_mk0
 ·have:=all_mem pruneKept_params ht
  simp only[Bool.and_eq_true,decide_eq_true_eq] at this
  exact this.1
set_option maxRecDepth 100000 in
theorem pruneKept_lifted (os:Os) (started:os.Started) (H:Type) (enc:TypeId×Value→H) (F:Stop.Interp) :
  ReturnsInHanded {} Tryz.checked os 10 .any ((OpenSpec.ofChange Rows.pruneKeptSpec).preRow enc Tryz.prog Tryz.f10 Rows.pruneKeptRow.domain false Rows.pruneKeptRow.laid) (((OpenSpec.ofChange Rows.pruneKeptSpec).at F).post enc Tryz.prog Tryz.f10 false true false false):=by
 obtain⟨places,hx⟩:=pruneKept_reads os enc
 refine returnsInHanded_of_row (C:=Tryz.checked) (s:=OpenSpec.ofChange Rows.pruneKeptSpec) own started (by kernel_rfl) Tryz.func10
  (witness_row_at (enc:=enc) (C:=Tryz.checked) false (laidWorld os) #[.agg #[.slice none 0 0],.slice none 0 0] rfl (by kernel_rfl) (by kernel_rfl) (by kernel_rfl)
   (OpenSpec.preRow_of_cond 8 hx (by kernel_rfl) (fun k hk=>by cases hk) (by kernel_rfl) (pruneKept_laid os))) ?_
 intro W base args ds gs before hval hW _ _ _ hL _ _
 exact pruneKept_contract H enc W base args ds gs before hval hW hL
theorem pruneKept_k10:(Rows.pruneKeptRow.inPlace == Tryz.prog.inPlace 10)=true:=by kernel_rfl
theorem pruneKept_k11:(Rows.pruneKeptRow.unfollowed == Tryz.prog.unfollowed 10)=true:=by kernel_rfl
theorem pruneKept_k12:(Rows.pruneKeptRow.recurses == Tryz.prog.recurses 10)=true:=by kernel_rfl
theorem pruneKept_k13:(Rows.pruneKeptRow.named == Tryz.prog.varsNamed 10)=true:=by kernel_rfl
theorem pruneKept_k14:(Rows.pruneKeptRow.lifted == Tryz.prog.liftsFinal)=true:=by kernel_rfl
theorem pruneKept_facts:joinedFacts Tryz.prog 10 Tryz.f10 (OpenSpec.ofChange Rows.pruneKeptSpec).bare Rows.pruneKeptRow=true:=by
 unfold joinedFacts
 rw[laidOut,mapsRowed_ok,stopsHeard_ok,mayEnter_ok,pruneKept_k10,pruneKept_k11,pruneKept_k12,pruneKept_k13,pruneKept_k14]
 kernel_rfl
theorem pruneKept_said:Rows.PruneKeptSaid:=
 OpenClaim.holds_of_cond 10 Tryz.f10 rfl rfl rfl rfl rfl rfl rfl ⟨rfl,rfl,rfl,rfl,rfl⟩ rfl rfl rfl rfl rfl (by kernel_rfl) Tryz.func10 pruneKept_facts
  (of_decide_eq_true (by kernel_rfl)) (by unfold Func.isWrapper;first | (rw[if_pos (by decide +kernel)];kernel_rfl) | (rw[if_neg (by decide +kernel)];exact⟨rfl,rfl⟩))
  (fun os started H enc _ F=>by rw[OpenClaim.pre_eq_preRow];exact pruneKept_lifted os started H enc F)
theorem pruneKept_plain (f:FuncId) (fn:Func) (hf:Tryz.pinned.checked.prog.funcNamed "bonsai/bonsailaw25.PruneKept" = some f) (hfn:Tryz.pinned.checked.prog.funcs[f]?=some fn) :
  false=Tryz.pinned.checked.prog.looks []∧∀ (j:Nat) t,fn.params[j]?=some t→Tryz.pinned.checked.prog.wantsStandIn t=false:=by
 obtain rfl:f=10:=Option.some.inj ((show Tryz.prog.funcNamed "bonsai/bonsailaw25.PruneKept" = some 10 by kernel_rfl).symm.trans hf) |>.symm
 obtain rfl:fn=Tryz.f10:=(Option.some.inj (Tryz.func10.symm.trans hfn)).symm
 refine⟨by kernel_rfl,fun j t ht=>?_⟩
 have:=all_mem pruneKept_params (x:=t) (by simpa using Array.mem_of_getElem? ht)
 simp only[Bool.and_eq_true,Bool.not_eq_true',decide_eq_true_eq] at this
 exact this.2
theorem pruneKept_wf:OpenClaim.wfByText (OpenSpec.ofChange Rows.pruneKeptSpec) Rows.pruneKeptRow=true:=by kernel_rfl
theorem pruneKept_main:Tryz.pinned.checked.prog.mainIs=some (true,("50f719cc87f16e0b874566a9c94ee9635742ad8c046b74b585ddd6f09bc1ce3a" : String).toList):=by kernel_rfl
theorem pruneKept_goes:false=Rows.pruneKeptRow.goesBy Tryz.pinned.checked.prog:=by kernel_rfl
theorem pruneKept_card:Rows.PruneKeptCardSaid:=
 Claim7.holds_tied_plain_at .later [] _ _ _ _ pruneKept_said (fun _ h=>by cases h) pruneKept_wf (fun _ h=>by cases h) pruneKept_row_tie rfl ⟨rfl,rfl⟩ pruneKept_main rfl pruneKept_plain pruneKept_goes
end Go.Proofs.YtellgkgedepkjaaGreatDoor
