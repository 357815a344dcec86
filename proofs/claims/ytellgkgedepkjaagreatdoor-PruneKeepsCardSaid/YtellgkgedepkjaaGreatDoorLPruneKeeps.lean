/-
  For every input bonsai/bonsailaw25.PruneKeeps returns true, and each argument reads behind the call as it read before: the given card, from the walk's contract. Conditions: those of the row itself.
-/
import Derived.Test.YtellgkgedepkjaaGreatDoorK4
import Derived.Test.YtellgkgedepkjaaGreatDoorK9
import Derived.Carry
set_option linter.all false
namespace Go.Proofs.YtellgkgedepkjaaGreatDoor
open Go Go.V Go.ChangeShapes Go.WideShapes Go.ChangeAt Go.RowKit
theorem pruneKeeps_laid (os:Os):laidMet Tryz.prog Rows.pruneKeepsRow.laid ((Z79 os).forCall (fun _ _=>0) ⟨#[],#[.agg #[.slice none 0 0],.slice none 0 0],[]⟩).memory:=
 laidMet_of_run' 8 (by kernel_rfl) (by kernel_rfl)
theorem pruneKeeps_reads (os:Os) {H:Type} (enc:TypeId×Value->H):∃ Z3Z,DataW.whole enc Tryz.prog ((Z79 os).forCall (fun _ _=>0) ⟨#[],#[.agg #[.slice none 0 0],.slice none 0 0],[]⟩).memory Tryz.f8.params.toList Rows.pruneKeepsSpec.vars false (#[.agg #[.slice none 0 0],.slice none 0 0]:Array Value).toList 8=some ([.agg [.nil],.nil],[],Z3Z):=
 ⟨[],by kernel_rfl⟩
theorem pruneKeeps_params:(Tryz.f8.params.toList.all fun t=>Tryz.prog.readableRec t && decide (t < Tryz.prog.types.size) && !Tryz.prog.wantsStandIn t)=true:=by kernel_rfl
set_option maxRecDepth 100000 in
theorem pruneKeeps_contract (H:Type) (enc:TypeId×Value->H) (W:World) (base:Nat) (args:Array Value) (ds gs:List (DataW H)) (before:List MemPlace)
  (hval:∀ (j:Nat) t v,Tryz.f8.params[j]?=some t->args[j]?=some v->Value.okWide Tryz.prog W .any base t v)
  (hW:DataW.Whole enc Tryz.prog Tryz.f8.params.toList Rows.pruneKeepsSpec.vars false W args.toList ds gs before) (hL:laidMetH Tryz.prog Rows.pruneKeepsRow.laid W) :
  Calls Tryz.prog 8 args W fun e W'=>∃ v,e=.returned v∧Rows.pruneKeepsSpec.post enc Tryz.prog Tryz.f8 false true false false W args v W':=by
 have hW':=hW
 obtain⟨p,q,hA0,hV,rfl,hfz,hnd⟩:=hW
 have hA:DataW.TrodAll enc Tryz.prog W 0 (fun _=>true) true Tryz.f8.params.toList args.toList ds p:=hA0
 have hAk:=hA
 rw[Tryz.params8] at hA
 obtain⟨rfl,rfl⟩:=trodVars_none hV
 have hlt:∀ x∈p,x.block < W.heap.size:=fun x hx=>hW'.lt x (by simp[hx])
 have hT:Tabs (Z4n W) debL:=Zez hL rfl
 obtain⟨v1,v2,d1,d2,p1,p2,rfl,rfl,rfl,h1,h2⟩:=trodAll_two hA
 obtain⟨g1,rfl,hg1⟩:=Zc5 h1 (hval 0 30 _ (by kernel_rfl) rfl)
 obtain⟨g2,rfl,hg2⟩:=ZiT h2 (hval 1 57 _ (by kernel_rfl) rfl)
 refine(Z8b (ZbF hT hg1 hg2)).mono ?_
 rintro e W' ⟨v,rfl,⟨I',M',rfl⟩,hK⟩
 refine⟨_,rfl,Zc3 (pa:=_) (pv:=[]) hW' (fun _ _ _=>?_) (fun sp hs=>Z4L Zg5 hK (fun t ht=>?_) hAk hlt sp (fun p hp=>hs p (List.mem_append_left _ hp))) (fun _ _=>rfl) rfl hK (ok_one (by kernel_rfl) rfl (okWide_bool_mk Tryz.underlying4 _))⟩
 ·exact trodAll_cons_mk (shut_bool Tryz.underlying4 _) trodAll_mk0
 ·have:=Zg6 pruneKeeps_params ht
  simp only[Bool.and_eq_true,decide_eq_true_eq] at this
  exact this.1
set_option maxRecDepth 100000 in
theorem pruneKeeps_lifted (os:Os) (started:os.Started) (H:Type) (enc:TypeId×Value->H) (F:Stop.Interp) :
  ReturnsInHanded {} Tryz.checked os 8 .any ((OpenSpec.ofChange Rows.pruneKeepsSpec).preRow enc Tryz.prog Tryz.f8 Rows.pruneKeepsRow.domain false Rows.pruneKeepsRow.laid) (((OpenSpec.ofChange Rows.pruneKeepsSpec).at F).post enc Tryz.prog Tryz.f8 false true false false):=by
 obtain⟨Z3Z,hx⟩:=pruneKeeps_reads os enc
 refine returnsInHanded_of_row (C:=Tryz.checked) (s:=OpenSpec.ofChange Rows.pruneKeepsSpec) own started (by kernel_rfl) Tryz.func8
  (witness_row_at (enc:=enc) (C:=Tryz.checked) false (Z79 os) #[.agg #[.slice none 0 0],.slice none 0 0] rfl (by kernel_rfl) (by kernel_rfl) (by kernel_rfl)
   (OpenSpec.preRow_of_cond 8 hx (by kernel_rfl) (fun k hk=>by cases hk) (by kernel_rfl) (pruneKeeps_laid os))) ?_
 intro W base args ds gs before hval hW _ _ _ hL _ _
 exact pruneKeeps_contract H enc W base args ds gs before hval hW hL
theorem pruneKeeps_k10:(Rows.pruneKeepsRow.inPlace == Tryz.prog.inPlace 8)=true:=by kernel_rfl
theorem pruneKeeps_k11:(Rows.pruneKeepsRow.unfollowed == Tryz.prog.unfollowed 8)=true:=by kernel_rfl
theorem pruneKeeps_k12:(Rows.pruneKeepsRow.recurses == Tryz.prog.recurses 8)=true:=by kernel_rfl
theorem pruneKeeps_k13:(Rows.pruneKeepsRow.named == Tryz.prog.varsNamed 8)=true:=by kernel_rfl
theorem pruneKeeps_k14:(Rows.pruneKeepsRow.lifted == Tryz.prog.liftsFinal)=true:=by kernel_rfl
theorem pruneKeeps_facts:joinedFacts Tryz.prog 8 Tryz.f8 (OpenSpec.ofChange Rows.pruneKeepsSpec).bare Rows.pruneKeepsRow=true:=by
 unfold joinedFacts
 rw[Zg5,Zay,Z9o,Zc6,pruneKeeps_k10,pruneKeeps_k11,pruneKeeps_k12,pruneKeeps_k13,pruneKeeps_k14]
 kernel_rfl
theorem pruneKeeps_said:Rows.PruneKeepsSaid:=
 OpenClaim.holds_of_cond 8 Tryz.f8 rfl rfl rfl rfl rfl rfl rfl ⟨rfl,rfl,rfl,rfl,rfl⟩ rfl rfl rfl rfl rfl (by kernel_rfl) Tryz.func8 pruneKeeps_facts
  (of_decide_eq_true (by kernel_rfl)) (by unfold Func.isWrapper;first | (rw[if_pos (by decide +kernel)];kernel_rfl) | (rw[if_neg (by decide +kernel)];exact⟨rfl,rfl⟩))
  (fun os started H enc _ F=>by rw[OpenClaim.pre_eq_preRow];exact pruneKeeps_lifted os started H enc F)
theorem pruneKeeps_plain (f:FuncId) (fn:Func) (hf:Tryz.pinned.checked.prog.funcNamed "bonsai/bonsailaw25.PruneKeeps" = some f) (hfn:Tryz.pinned.checked.prog.funcs[f]?=some fn) :
  false=Tryz.pinned.checked.prog.looks []∧∀ (j:Nat) t,fn.params[j]?=some t->Tryz.pinned.checked.prog.wantsStandIn t=false:=by
 obtain rfl:f=8:=Option.some.inj ((show Tryz.prog.funcNamed "bonsai/bonsailaw25.PruneKeeps" = some 8 by kernel_rfl).symm.trans hf) |>.symm
 obtain rfl:fn=Tryz.f8:=(Option.some.inj (Tryz.func8.symm.trans hfn)).symm
 refine⟨by kernel_rfl,fun j t ht=>?_⟩
 have:=Zg6 pruneKeeps_params (x:=t) (by simpa using Array.mem_of_getElem? ht)
 simp only[Bool.and_eq_true,Bool.not_eq_true',decide_eq_true_eq] at this
 exact this.2
theorem pruneKeeps_wf:OpenClaim.wfByText (OpenSpec.ofChange Rows.pruneKeepsSpec) Rows.pruneKeepsRow=true:=by kernel_rfl
theorem pruneKeeps_main:Tryz.pinned.checked.prog.mainIs=some (true,("50f719cc87f16e0b874566a9c94ee9635742ad8c046b74b585ddd6f09bc1ce3a" : String).toList):=by kernel_rfl
theorem pruneKeeps_goes:false=Rows.pruneKeepsRow.goesBy Tryz.pinned.checked.prog:=by kernel_rfl
theorem pruneKeeps_card:Rows.PruneKeepsCardSaid:=
 Claim7.holds_tied_plain_at .later [] _ _ _ _ pruneKeeps_said (fun _ h=>by cases h) pruneKeeps_wf (fun _ h=>by cases h) pruneKeeps_row_tie rfl ⟨rfl,rfl⟩ pruneKeeps_main rfl pruneKeeps_plain pruneKeeps_goes
end Go.Proofs.YtellgkgedepkjaaGreatDoor
