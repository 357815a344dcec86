/-
  For every input bonsai/bonsailaw11.FirstBrackets returns true, and each argument reads behind the call as it read before: the given card, from the walk's contract. Conditions: those of the row itself.
-/
import Derived.Test.YtmijfbjkkllhlaaGreatDoorK2
import Derived.Test.YtmijfbjkkllhlaaGreatDoorK4
import Derived.Carry
set_option linter.all false
namespace Go.Proofs.YtmijfbjkkllhlaaGreatDoor
open Go Go.V Go.ChangeShapes Go.WideShapes Go.ChangeAt Go.RowKit
theorem firstBrackets_laid (os:Os):laidMet Tryz.prog Rows.firstBracketsRow.laid ((laidWorld os).forCall (fun _ _=>0) ⟨#[],#[.agg #[.int .u64 0,.int .u64 0,.int .u64 0,.int .u64 0,.bool false],.agg #[.int .u64 0,.int .u64 0,.int .u64 0,.int .u64 0,.bool false],.agg #[.int .u64 0,.int .u64 0,.int .u64 0,.int .u64 0,.bool false]],[]⟩).memory:=
 laidMet_of_run' 8 (by kernel_rfl) (by kernel_rfl)
theorem firstBrackets_reads (os:Os) {H:Type} (enc:TypeId×Value→H):∃ places,DataW.whole enc Tryz.prog ((laidWorld os).forCall (fun _ _=>0) ⟨#[],#[.agg #[.int .u64 0,.int .u64 0,.int .u64 0,.int .u64 0,.bool false],.agg #[.int .u64 0,.int .u64 0,.int .u64 0,.int .u64 0,.bool false],.agg #[.int .u64 0,.int .u64 0,.int .u64 0,.int .u64 0,.bool false]],[]⟩).memory Tryz.f12.params.toList Rows.firstBracketsSpec.vars false (#[.agg #[.int .u64 0,.int .u64 0,.int .u64 0,.int .u64 0,.bool false],.agg #[.int .u64 0,.int .u64 0,.int .u64 0,.int .u64 0,.bool false],.agg #[.int .u64 0,.int .u64 0,.int .u64 0,.int .u64 0,.bool false]]:Array Value).toList 8=some ([.agg [.agg [.lit (.int .u64 0),.lit (.int .u64 0),.lit (.int .u64 0),.lit (.int .u64 0)],.lit (.bool false)],.agg [.agg [.lit (.int .u64 0),.lit (.int .u64 0),.lit (.int .u64 0),.lit (.int .u64 0)],.lit (.bool false)],.agg [.agg [.lit (.int .u64 0),.lit (.int .u64 0),.lit (.int .u64 0),.lit (.int .u64 0)],.lit (.bool false)]],[],places):=
 ⟨[],by kernel_rfl⟩
theorem firstBrackets_params:(Tryz.f12.params.toList.all fun t=>Tryz.prog.readableRec t && decide (t < Tryz.prog.types.size) && !Tryz.prog.wantsStandIn t)=true:=by kernel_rfl
set_option maxRecDepth 100000 in
theorem firstBrackets_contract (H:Type) (enc:TypeId×Value→H) (W:World) (base:Nat) (args:Array Value) (ds gs:List (DataW H)) (before:List MemPlace)
  (hval:∀ (j:Nat) t v,Tryz.f12.params[j]?=some t→args[j]?=some v→Value.okWide Tryz.prog W .any base t v)
  (hW:DataW.Whole enc Tryz.prog Tryz.f12.params.toList Rows.firstBracketsSpec.vars false W args.toList ds gs before) (hL:laidMetH Tryz.prog Rows.firstBracketsRow.laid W) :
  Calls Tryz.prog 12 args W fun e W'=>∃ v,e=.returned v∧Rows.firstBracketsSpec.post enc Tryz.prog Tryz.f12 false true false false W args v W':=by
 have hW':=hW
 obtain⟨p,q,hA0,hV,rfl,hfz,hnd⟩:=hW
 have hA:DataW.TrodAll enc Tryz.prog W 0 (fun _=>true) true Tryz.f12.params.toList args.toList ds p:=hA0
 have hAk:=hA
 rw[Tryz.params12] at hA
 obtain⟨rfl,rfl⟩:=trodVars_none hV
 have hlt:∀ x∈p,x.block < W.heap.size:=fun x hx=>hW'.lt x (by simp[hx])
 have hT:Tabs (ghost W) debL:=tabs_ghost hL rfl
 obtain⟨v1,v2,v3,d1,d2,d3,p1,p2,p3,rfl,rfl,rfl,h1,h2,h3⟩:=trodAll_three hA
 obtain⟨g1,rfl,hg1⟩:=arg_first h1 (hval 0 67 _ (by kernel_rfl) rfl)
 obtain⟨g2,rfl,hg2⟩:=arg_first h2 (hval 1 67 _ (by kernel_rfl) rfl)
 obtain⟨g3,rfl,hg3⟩:=arg_first h3 (hval 2 67 _ (by kernel_rfl) rfl)
 refine(calls_of_specE (firstBrackets_V hT hg1 hg2 hg3)).mono ?_
 rintro e W' ⟨v,rfl,⟨I',M',rfl⟩,hK⟩
 refine⟨_,rfl,post_of_old (pa:=_) (pv:=[]) hW' (fun _ _ _=>?_) (fun sp hs=>trodAll_stays laidOut hK (fun t ht=>?_) hAk hlt sp (fun p hp=>hs p (List.mem_append_left _ hp))) (fun _ _=>rfl) rfl hK (ok_one (by kernel_rfl) rfl (okWide_bool_mk Tryz.underlying4 _))⟩
 ·exact trodAll_cons_mk (shut_bool Tryz.underlying4 _) trodAll_mk0
 ·have:=all_mem firstBrackets_params ht
  simp only[Bool.and_eq_true,decide_eq_true_eq] at this
  exact this.1
set_option maxRecDepth 100000 in
theorem firstBrackets_lifted (os:Os) (started:os.Started) (H:Type) (enc:TypeId×Value→H) (F:Stop.Interp) :
  ReturnsInHanded {} Tryz.checked os 12 .any ((OpenSpec.ofChange Rows.firstBracketsSpec).preRow enc Tryz.prog Tryz.f12 Rows.firstBracketsRow.domain false Rows.firstBracketsRow.laid) (((OpenSpec.ofChange Rows.firstBracketsSpec).at F).post enc Tryz.prog Tryz.f12 false true false false):=by
 obtain⟨places,hx⟩:=firstBrackets_reads os enc
 refine returnsInHanded_of_row (C:=Tryz.checked) (s:=OpenSpec.ofChange Rows.firstBracketsSpec) own started (by kernel_rfl) Tryz.func12
  (witness_row_at (enc:=enc) (C:=Tryz.checked) false (laidWorld os) #[.agg #[.int .u64 0,.int .u64 0,.int .u64 0,.int .u64 0,.bool false],.agg #[.int .u64 0,.int .u64 0,.int .u64 0,.int .u64 0,.bool false],.agg #[.int .u64 0,.int .u64 0,.int .u64 0,.int .u64 0,.bool false]] rfl (by kernel_rfl) (by kernel_rfl) (by kernel_rfl)
   (OpenSpec.preRow_of_cond 8 hx (by kernel_rfl) (fun k hk=>by cases hk) (by kernel_rfl) (firstBrackets_laid os))) ?_
 intro W base args ds gs before hval hW _ _ _ hL _ _
 exact firstBrackets_contract H enc W base args ds gs before hval hW hL
theorem firstBrackets_k10:(Rows.firstBracketsRow.inPlace == Tryz.prog.inPlace 12)=true:=by kernel_rfl
theorem firstBrackets_k11:(Rows.firstBracketsRow.unfollowed == Tryz.prog.unfollowed 12)=true:=by kernel_rfl
theorem firstBrackets_k12:(Rows.firstBracketsRow.recurses == Tryz.prog.recurses 12)=true:=by kernel_rfl
theorem firstBrackets_k13:(Rows.firstBracketsRow.named == Tryz.prog.varsNamed 12)=true:=by kernel_rfl
theorem firstBrackets_k14:(Rows.firstBracketsRow.lifted == Tryz.prog.liftsFinal)=true:=by kernel_rfl
theorem firstBrackets_facts:joinedFacts Tryz.prog 12 Tryz.f12 (OpenSpec.ofChange Rows.firstBracketsSpec).bare Rows.firstBracketsRow=true:=by
 unfold joinedFacts
 rw[laidOut,mapsRowed_ok,stopsHeard_ok,mayEnter_ok,firstBrackets_k10,firstBrackets_k11,firstBrackets_k12,firstBrackets_k13,firstBrackets_k14]
 kernel_rfl
theorem firstBrackets_said:Rows.FirstBracketsSaid:=
 OpenClaim.holds_of_cond 12 Tryz.f12 rfl rfl rfl rfl rfl rfl rfl ⟨rfl,rfl,rfl,rfl,rfl⟩ rfl rfl rfl rfl rfl (by kernel_rfl) Tryz.func12 firstBrackets_facts
  (of_decide_eq_true (by kernel_rfl)) (by unfold Func.isWrapper;first | (rw[if_pos (by decide +kernel)];kernel_rfl) | (rw[if_neg (by decide +kernel)];exact⟨rfl,rfl⟩))
  (fun os started H enc _ F=>by rw[OpenClaim.pre_eq_preRow];exact firstBrackets_lifted os started H enc F)
theorem firstBrackets_plain (f:FuncId) (fn:Func) (hf:Tryz.pinned.checked.prog.funcNamed "bonsai/bonsailaw11.FirstBrackets" = some f) (hfn:Tryz.pinned.checked.prog.funcs[f]?=some fn) :
  false=Tryz.pinned.checked.prog.looks []∧∀ (j:Nat) t,fn.params[j]?=some t→Tryz.pinned.checked.prog.wantsStandIn t=false:=by
 obtain rfl:f=12:=Option.some.inj ((show Tryz.prog.funcNamed "bonsai/bonsailaw11.FirstBrackets" = some 12 by kernel_rfl).symm.trans hf) |>.symm
 obtain rfl:fn=Tryz.f12:=(Option.some.inj (Tryz.func12.symm.trans hfn)).symm
 refine⟨by kernel_rfl,fun j t ht=>?_⟩
 have:=all_mem firstBrackets_params (x:=t) (by simpa using Array.mem_of_getElem? ht)
 simp only[Bool.and_eq_true,Bool.not_eq_true',decide_eq_true_eq] at this
 exact this.2
theorem firstBrackets_card:Rows.FirstBracketsCardSaid:=
 Claim7.holds_tied_plain_at .later [] _ _ _ _ firstBrackets_said (fun _ h=>by cases h) (by kernel_rfl) (fun _ h=>by cases h) firstBrackets_row_tie rfl ⟨rfl,rfl⟩ (by kernel_rfl) rfl firstBrackets_plain (by kernel_rfl)
end Go.Proofs.YtmijfbjkkllhlaaGreatDoor
