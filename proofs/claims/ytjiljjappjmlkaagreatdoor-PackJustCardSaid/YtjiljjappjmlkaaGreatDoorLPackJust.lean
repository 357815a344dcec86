/-
  For every input bonsai/bonsailaw16.PackJust returns true, and each argument reads behind the call as it read before: the given card, from the walk's contract. Conditions: those of the row itself.
-/
import Derived.Test.YtjiljjappjmlkaaGreatDoorK3
import Derived.Test.YtjiljjappjmlkaaGreatDoorK7
import Derived.Carry
set_option linter.all false
namespace Go.Proofs.YtjiljjappjmlkaaGreatDoor
open Go Go.V Go.ChangeShapes Go.WideShapes Go.ChangeAt Go.RowKit
theorem packJust_laid (os:Os):laidMet Tryz.prog Rows.packJustRow.laid ((laidWorld os).forCall (fun _ _=>0) ⟨#[],#[.agg #[.slice none 0 0],.int .i64 0,.string ⟨#[]⟩,.int .i64 0,.int .i64 0,.int .i64 0],[]⟩).memory:=
 laidMet_of_run' 8 (by kernel_rfl) (by kernel_rfl)
theorem packJust_reads (os:Os) {H:Type} (enc:TypeId×Value→H):∃ places,DataW.whole enc Tryz.prog ((laidWorld os).forCall (fun _ _=>0) ⟨#[],#[.agg #[.slice none 0 0],.int .i64 0,.string ⟨#[]⟩,.int .i64 0,.int .i64 0,.int .i64 0],[]⟩).memory Tryz.f4.params.toList Rows.packJustSpec.vars false (#[.agg #[.slice none 0 0],.int .i64 0,.string ⟨#[]⟩,.int .i64 0,.int .i64 0,.int .i64 0]:Array Value).toList 8=some ([.agg [.nil],.lit (.int .i64 0),.lit (.string []),.lit (.int .i64 0),.lit (.int .i64 0),.lit (.int .i64 0)],[],places):=
 ⟨[],by kernel_rfl⟩
theorem packJust_params:(Tryz.f4.params.toList.all fun t=>Tryz.prog.readableRec t && decide (t < Tryz.prog.types.size) && !Tryz.prog.wantsStandIn t)=true:=by kernel_rfl
set_option maxRecDepth 100000 in
theorem packJust_contract (H:Type) (enc:TypeId×Value→H) (W:World) (base:Nat) (args:Array Value) (ds gs:List (DataW H)) (before:List MemPlace)
  (hval:∀ (j:Nat) t v,Tryz.f4.params[j]?=some t→args[j]?=some v→Value.okWide Tryz.prog W .any base t v)
  (hW:DataW.Whole enc Tryz.prog Tryz.f4.params.toList Rows.packJustSpec.vars false W args.toList ds gs before) (hL:laidMetH Tryz.prog Rows.packJustRow.laid W) :
  Calls Tryz.prog 4 args W fun e W'=>∃ v,e=.returned v∧Rows.packJustSpec.post enc Tryz.prog Tryz.f4 false true false false W args v W':=by
 have hW':=hW
 obtain⟨p,q,hA0,hV,rfl,hfz,hnd⟩:=hW
 have hA:DataW.TrodAll enc Tryz.prog W 0 (fun _=>true) true Tryz.f4.params.toList args.toList ds p:=hA0
 have hAk:=hA
 rw[Tryz.params4] at hA
 obtain⟨rfl,rfl⟩:=trodVars_none hV
 have hlt:∀ x∈p,x.block < W.heap.size:=fun x hx=>hW'.lt x (by simp[hx])
 have hT:Tabs (ghost W) debL:=tabs_ghost hL rfl
 obtain⟨v1,v2,v3,v4,v5,v6,d1,d2,d3,d4,d5,d6,p1,p2,p3,p4,p5,p6,rfl,rfl,rfl,h1,h2,h3,h4,h5,h6⟩:=trodAll_six hA
 obtain⟨g1,rfl,hg1⟩:=arg_grammar h1 (hval 0 24 _ (by kernel_rfl) rfl)
 obtain⟨g2,rfl,hg2⟩:=arg_int h2 (hval 1 3 _ (by kernel_rfl) rfl)
 obtain⟨g3,rfl,hg3⟩:=arg_string h3 (hval 2 9 _ (by kernel_rfl) rfl)
 obtain⟨g4,rfl,hg4⟩:=arg_int h4 (hval 3 3 _ (by kernel_rfl) rfl)
 obtain⟨g5,rfl,hg5⟩:=arg_int h5 (hval 4 3 _ (by kernel_rfl) rfl)
 obtain⟨g6,rfl,hg6⟩:=arg_int h6 (hval 5 3 _ (by kernel_rfl) rfl)
 refine(calls_of_specE (packJust_V hT hg1 hg2 hg3 hg4 hg5 hg6)).mono ?_
 rintro e W' ⟨v,rfl,⟨I',M',rfl⟩,hK⟩
 refine⟨_,rfl,post_of_old (pa:=_) (pv:=[]) hW' (fun _ _ _=>?_) (fun sp hs=>trodAll_stays laidOut hK (fun t ht=>?_) hAk hlt sp (fun p hp=>hs p (List.mem_append_left _ hp))) (fun _ _=>rfl) rfl hK (ok_one (by kernel_rfl) rfl (okWide_bool_mk Tryz.underlying4 _))⟩
 ·exact trodAll_cons_mk (shut_bool Tryz.underlying4 _) trodAll_mk0
 ·have:=all_mem packJust_params ht
  simp only[Bool.and_eq_true,decide_eq_true_eq] at this
  exact this.1
set_option maxRecDepth 100000 in
theorem packJust_lifted (os:Os) (started:os.Started) (H:Type) (enc:TypeId×Value→H) (F:Stop.Interp) :
  ReturnsInHanded {} Tryz.checked os 4 .any ((OpenSpec.ofChange Rows.packJustSpec).preRow enc Tryz.prog Tryz.f4 Rows.packJustRow.domain false Rows.packJustRow.laid) (((OpenSpec.ofChange Rows.packJustSpec).at F).post enc Tryz.prog Tryz.f4 false true false false):=by
 obtain⟨places,hx⟩:=packJust_reads os enc
 refine returnsInHanded_of_row (C:=Tryz.checked) (s:=OpenSpec.ofChange Rows.packJustSpec) own started (by kernel_rfl) Tryz.func4
  (witness_row_at (enc:=enc) (C:=Tryz.checked) false (laidWorld os) #[.agg #[.slice none 0 0],.int .i64 0,.string ⟨#[]⟩,.int .i64 0,.int .i64 0,.int .i64 0] rfl (by kernel_rfl) (by kernel_rfl) (by kernel_rfl)
   (OpenSpec.preRow_of_cond 8 hx (by kernel_rfl) (fun k hk=>by cases hk) (by kernel_rfl) (packJust_laid os))) ?_
 intro W base args ds gs before hval hW _ _ _ hL _ _
 exact packJust_contract H enc W base args ds gs before hval hW hL
theorem packJust_k10:(Rows.packJustRow.inPlace == Tryz.prog.inPlace 4)=true:=by kernel_rfl
theorem packJust_k11:(Rows.packJustRow.unfollowed == Tryz.prog.unfollowed 4)=true:=by kernel_rfl
theorem packJust_k12:(Rows.packJustRow.recurses == Tryz.prog.recurses 4)=true:=by kernel_rfl
theorem packJust_k13:(Rows.packJustRow.named == Tryz.prog.varsNamed 4)=true:=by kernel_rfl
theorem packJust_k14:(Rows.packJustRow.lifted == Tryz.prog.liftsFinal)=true:=by kernel_rfl
theorem packJust_facts:joinedFacts Tryz.prog 4 Tryz.f4 (OpenSpec.ofChange Rows.packJustSpec).bare Rows.packJustRow=true:=by
 unfold joinedFacts
 rw[laidOut,mapsRowed_ok,stopsHeard_ok,mayEnter_ok,packJust_k10,packJust_k11,packJust_k12,packJust_k13,packJust_k14]
 kernel_rfl
theorem packJust_said:Rows.PackJustSaid:=
 OpenClaim.holds_of_cond 4 Tryz.f4 rfl rfl rfl rfl rfl rfl rfl ⟨rfl,rfl,rfl,rfl,rfl⟩ rfl rfl rfl rfl rfl (by kernel_rfl) Tryz.func4 packJust_facts
  (of_decide_eq_true (by kernel_rfl)) (by unfold Func.isWrapper;first | (rw[if_pos (by decide +kernel)];kernel_rfl) | (rw[if_neg (by decide +kernel)];exact⟨rfl,rfl⟩))
  (fun os started H enc _ F=>by rw[OpenClaim.pre_eq_preRow];exact packJust_lifted os started H enc F)
theorem packJust_plain (f:FuncId) (fn:Func) (hf:Tryz.pinned.checked.prog.funcNamed "bonsai/bonsailaw16.PackJust" = some f) (hfn:Tryz.pinned.checked.prog.funcs[f]?=some fn) :
  false=Tryz.pinned.checked.prog.looks []∧∀ (j:Nat) t,fn.params[j]?=some t→Tryz.pinned.checked.prog.wantsStandIn t=false:=by
 obtain rfl:f=4:=Option.some.inj ((show Tryz.prog.funcNamed "bonsai/bonsailaw16.PackJust" = some 4 by kernel_rfl).symm.trans hf) |>.symm
 obtain rfl:fn=Tryz.f4:=(Option.some.inj (Tryz.func4.symm.trans hfn)).symm
 refine⟨by kernel_rfl,fun j t ht=>?_⟩
 have:=all_mem packJust_params (x:=t) (by simpa using Array.mem_of_getElem? ht)
 simp only[Bool.and_eq_true,Bool.not_eq_true',decide_eq_true_eq] at this
 exact this.2
theorem packJust_wf:OpenClaim.wfByText (OpenSpec.ofChange Rows.packJustSpec) Rows.packJustRow=true:=by kernel_rfl
theorem packJust_main:Tryz.pinned.checked.prog.mainIs=some (true,("68df24200712f73a3b418a4892c40557fe643926fddd864d73bdcbef600f3de1" : String).toList):=by kernel_rfl
theorem packJust_goes:false=Rows.packJustRow.goesBy Tryz.pinned.checked.prog:=by kernel_rfl
theorem packJust_card:Rows.PackJustCardSaid:=
 Claim7.holds_tied_plain_at .later [] _ _ _ _ packJust_said (fun _ h=>by cases h) packJust_wf (fun _ h=>by cases h) packJust_row_tie rfl ⟨rfl,rfl⟩ packJust_main rfl packJust_plain packJust_goes
end Go.Proofs.YtjiljjappjmlkaaGreatDoor
