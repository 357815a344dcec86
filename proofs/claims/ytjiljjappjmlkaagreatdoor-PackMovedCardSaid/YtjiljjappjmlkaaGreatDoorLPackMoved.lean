/-
  For every input bonsai/bonsailaw16.PackMoved returns true, and each argument reads behind the call as it read before: the given card, from the walk's contract. Conditions: those of the row itself.
-/
import Derived.Test.YtjiljjappjmlkaaGreatDoorK3
import Derived.Test.YtjiljjappjmlkaaGreatDoorK7
import Derived.Carry
set_option linter.all false
namespace Go.Proofs.YtjiljjappjmlkaaGreatDoor
open Go Go.V Go.ChangeShapes Go.WideShapes Go.ChangeAt Go.RowKit
theorem packMoved_laid (os:Os):laidMet Tryz.prog Rows.packMovedRow.laid ((laidWorld os).forCall (fun _ _=>0) ⟨#[],#[.agg #[.slice none 0 0],.int .i64 0,.string ⟨#[]⟩,.string ⟨#[]⟩,.int .i64 0],[]⟩).memory:=
 laidMet_of_run' 8 (by kernel_rfl) (by kernel_rfl)
theorem packMoved_reads (os:Os) {H:Type} (enc:TypeId×Value→H):∃ places,DataW.whole enc Tryz.prog ((laidWorld os).forCall (fun _ _=>0) ⟨#[],#[.agg #[.slice none 0 0],.int .i64 0,.string ⟨#[]⟩,.string ⟨#[]⟩,.int .i64 0],[]⟩).memory Tryz.f7.params.toList Rows.packMovedSpec.vars false (#[.agg #[.slice none 0 0],.int .i64 0,.string ⟨#[]⟩,.string ⟨#[]⟩,.int .i64 0]:Array Value).toList 8=some ([.agg [.nil],.lit (.int .i64 0),.lit (.string []),.lit (.string []),.lit (.int .i64 0)],[],places):=
 ⟨[],by kernel_rfl⟩
theorem packMoved_params:(Tryz.f7.params.toList.all fun t=>Tryz.prog.readableRec t && decide (t < Tryz.prog.types.size) && !Tryz.prog.wantsStandIn t)=true:=by kernel_rfl
set_option maxRecDepth 100000 in
theorem packMoved_contract (H:Type) (enc:TypeId×Value→H) (W:World) (base:Nat) (args:Array Value) (ds gs:List (DataW H)) (before:List MemPlace)
  (hval:∀ (j:Nat) t v,Tryz.f7.params[j]?=some t→args[j]?=some v→Value.okWide Tryz.prog W .any base t v)
  (hW:DataW.Whole enc Tryz.prog Tryz.f7.params.toList Rows.packMovedSpec.vars false W args.toList ds gs before) (hL:laidMetH Tryz.prog Rows.packMovedRow.laid W) :
  Calls Tryz.prog 7 args W fun e W'=>∃ v,e=.returned v∧Rows.packMovedSpec.post enc Tryz.prog Tryz.f7 false true false false W args v W':=by
 have hW':=hW
 obtain⟨p,q,hA0,hV,rfl,hfz,hnd⟩:=hW
 have hA:DataW.TrodAll enc Tryz.prog W 0 (fun _=>true) true Tryz.f7.params.toList args.toList ds p:=hA0
 have hAk:=hA
 rw[Tryz.params7] at hA
 obtain⟨rfl,rfl⟩:=trodVars_none hV
 have hlt:∀ x∈p,x.block < W.heap.size:=fun x hx=>hW'.lt x (by simp[hx])
 have hT:Tabs (ghost W) debL:=tabs_ghost hL rfl
 obtain⟨v1,v2,v3,v4,v5,d1,d2,d3,d4,d5,p1,p2,p3,p4,p5,rfl,rfl,rfl,h1,h2,h3,h4,h5⟩:=trodAll_five hA
 obtain⟨g1,rfl,hg1⟩:=arg_grammar h1 (hval 0 24 _ (by kernel_rfl) rfl)
 obtain⟨g2,rfl,hg2⟩:=arg_int h2 (hval 1 3 _ (by kernel_rfl) rfl)
 obtain⟨g3,rfl,hg3⟩:=arg_string h3 (hval 2 9 _ (by kernel_rfl) rfl)
 obtain⟨g4,rfl,hg4⟩:=arg_string h4 (hval 3 9 _ (by kernel_rfl) rfl)
 obtain⟨g5,rfl,hg5⟩:=arg_int h5 (hval 4 3 _ (by kernel_rfl) rfl)
 refine(calls_of_specE (packMoved_V hT hg1 hg2 hg3 hg4 hg5)).mono ?_
 rintro e W' ⟨v,rfl,⟨I',M',rfl⟩,hK⟩
 refine⟨_,rfl,post_of_old (pa:=_) (pv:=[]) hW' (fun _ _ _=>?_) (fun sp hs=>trodAll_stays laidOut hK (fun t ht=>?_) hAk hlt sp (fun p hp=>hs p (List.mem_append_left _ hp))) (fun _ _=>rfl) rfl hK (ok_one (by kernel_rfl) rfl (okWide_bool_mk Tryz.underlying4 _))⟩
 ·exact trodAll_cons_mk (shut_bool Tryz.underlying4 _) trodAll_mk0
 ·have:=all_mem packMoved_params ht
  simp only[Bool.and_eq_true,decide_eq_true_eq] at this
  exact this.1
set_option maxRecDepth 100000 in
theorem packMoved_lifted (os:Os) (started:os.Started) (H:Type) (enc:TypeId×Value→H) (F:Stop.Interp) :
  ReturnsInHanded {} Tryz.checked os 7 .any ((OpenSpec.ofChange Rows.packMovedSpec).preRow enc Tryz.prog Tryz.f7 Rows.packMovedRow.domain false Rows.packMovedRow.laid) (((OpenSpec.ofChange Rows.packMovedSpec).at F).post enc Tryz.prog Tryz.f7 false true false false):=by
 obtain⟨places,hx⟩:=packMoved_reads os enc
 refine returnsInHanded_of_row (C:=Tryz.checked) (s:=OpenSpec.ofChange Rows.packMovedSpec) own started (by kernel_rfl) Tryz.func7
  (witness_row_at (enc:=enc) (C:=Tryz.checked) false (laidWorld os) #[.agg #[.slice none 0 0],.int .i64 0,.string ⟨#[]⟩,.string ⟨#[]⟩,.int .i64 0] rfl (by kernel_rfl) (by kernel_rfl) (by kernel_rfl)
   (OpenSpec.preRow_of_cond 8 hx (by kernel_rfl) (fun k hk=>by cases hk) (by kernel_rfl) (packMoved_laid os))) ?_
 intro W base args ds gs before hval hW _ _ _ hL _ _
 exact packMoved_contract H enc W base args ds gs before hval hW hL
theorem packMoved_k10:(Rows.packMovedRow.inPlace == Tryz.prog.inPlace 7)=true:=by kernel_rfl
theorem packMoved_k11:(Rows.packMovedRow.unfollowed == Tryz.prog.unfollowed 7)=true:=by kernel_rfl
theorem packMoved_k12:(Rows.packMovedRow.recurses == Tryz.prog.recurses 7)=true:=by kernel_rfl
theorem packMoved_k13:(Rows.packMovedRow.named == Tryz.prog.varsNamed 7)=true:=by kernel_rfl
theorem packMoved_k14:(Rows.packMovedRow.lifted == Tryz.prog.liftsFinal)=true:=by kernel_rfl
theorem packMoved_facts:joinedFacts Tryz.prog 7 Tryz.f7 (OpenSpec.ofChange Rows.packMovedSpec).bare Rows.packMovedRow=true:=by
 unfold joinedFacts
 rw[laidOut,mapsRowed_ok,stopsHeard_ok,mayEnter_ok,packMoved_k10,packMoved_k11,packMoved_k12,packMoved_k13,packMoved_k14]
 kernel_rfl
theorem packMoved_said:Rows.PackMovedSaid:=
 OpenClaim.holds_of_cond 7 Tryz.f7 rfl rfl rfl rfl rfl rfl rfl ⟨rfl,rfl,rfl,rfl,rfl⟩ rfl rfl rfl rfl rfl (by kernel_rfl) Tryz.func7 packMoved_facts
  (of_decide_eq_true (by kernel_rfl)) (by unfold Func.isWrapper;first | (rw[if_pos (by decide +kernel)];kernel_rfl) | (rw[if_neg (by decide +kernel)];exact⟨rfl,rfl⟩))
  (fun os started H enc _ F=>by rw[OpenClaim.pre_eq_preRow];exact packMoved_lifted os started H enc F)
theorem packMoved_plain (f:FuncId) (fn:Func) (hf:Tryz.pinned.checked.prog.funcNamed "bonsai/bonsailaw16.PackMoved" = some f) (hfn:Tryz.pinned.checked.prog.funcs[f]?=some fn) :
  false=Tryz.pinned.checked.prog.looks []∧∀ (j:Nat) t,fn.params[j]?=some t→Tryz.pinned.checked.prog.wantsStandIn t=false:=by
 obtain rfl:f=7:=Option.some.inj ((show Tryz.prog.funcNamed "bonsai/bonsailaw16.PackMoved" = some 7 by kernel_rfl).symm.trans hf) |>.symm
 obtain rfl:fn=Tryz.f7:=(Option.some.inj (Tryz.func7.symm.trans hfn)).symm
 refine⟨by kernel_rfl,fun j t ht=>?_⟩
 have:=all_mem packMoved_params (x:=t) (by simpa using Array.mem_of_getElem? ht)
 simp only[Bool.and_eq_true,Bool.not_eq_true',decide_eq_true_eq] at this
 exact this.2
theorem packMoved_wf:OpenClaim.wfByText (OpenSpec.ofChange Rows.packMovedSpec) Rows.packMovedRow=true:=by kernel_rfl
theorem packMoved_main:Tryz.pinned.checked.prog.mainIs=some (true,("68df24200712f73a3b418a4892c40557fe643926fddd864d73bdcbef600f3de1" : String).toList):=by kernel_rfl
theorem packMoved_goes:false=Rows.packMovedRow.goesBy Tryz.pinned.checked.prog:=by kernel_rfl
theorem packMoved_card:Rows.PackMovedCardSaid:=
 Claim7.holds_tied_plain_at .later [] _ _ _ _ packMoved_said (fun _ h=>by cases h) packMoved_wf (fun _ h=>by cases h) packMoved_row_tie rfl ⟨rfl,rfl⟩ packMoved_main rfl packMoved_plain packMoved_goes
end Go.Proofs.YtjiljjappjmlkaaGreatDoor
