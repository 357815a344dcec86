/-
  For every input bonsai/bonsailaw19.InlineBecomes returns true, and each argument reads behind the call as it read before: the given card, from the walk's contract. Conditions: those of the row itself.
-/
import Derived.Test.YtmncamccjfmbpaaGreatDoorK4
import Derived.Test.YtmncamccjfmbpaaGreatDoorK10
import Derived.Carry
set_option linter.all false
namespace Go.Proofs.YtmncamccjfmbpaaGreatDoor
open Go Go.V Go.ChangeShapes Go.WideShapes Go.ChangeAt Go.RowKit
theorem aur(os:Os):laidMet Tryz.prog Rows.inlineBecomesRow.laid ((Qd os).forCall (λ_ _=>0) ⟨#[],#[.agg #[.slice none 0 0]],[]⟩).memory:=
 laidMet_of_run' 8 (by kernel_rfl) (by kernel_rfl)
theorem aus(os:Os){H:Type}(enc:TypeId×Value->H):∃ places,DataW.whole enc Tryz.prog ((Qd os).forCall (λ_ _=>0) ⟨#[],#[.agg #[.slice none 0 0]],[]⟩).memory Tryz.f5.params.toList Rows.inlineBecomesSpec.vars false (#[.agg #[.slice none 0 0]]:Array Value).toList 8=some ([.agg [.nil]],[],places):=
 ⟨[],by kernel_rfl⟩
theorem afL:(Tryz.f5.params.toList.all λt=>Tryz.prog.readableRec t&&decide (t<Tryz.prog.types.size) && !Tryz.prog.wantsStandIn t)=true:=by kernel_rfl
set_option maxRecDepth 100000 in
theorem aut(H:Type)(enc:TypeId×Value->H)(W:World)(cR:Nat)(args:Array Value)(ds gs:List (DataW H))(before:List MemPlace)
  (tF:∀ (j:Nat) t v,Tryz.f5.params[j]?=some t->args[j]?=some v->Value.okWide Tryz.prog W .any cR t v)
  (hX:DataW.Whole enc Tryz.prog Tryz.f5.params.toList Rows.inlineBecomesSpec.vars false W args.toList ds gs before) (cc:laidMetH Tryz.prog Rows.inlineBecomesRow.laid W) :
  Calls Tryz.prog 5 args W λe k0=>∃ v,e=.returned v/\Rows.inlineBecomesSpec.post enc Tryz.prog Tryz.f5 false true false false W args v k0:=by
 have afM:=hX
 obtain⟨p,q,vn,auu,rfl,awT,bF⟩:=hX
 have dJ:DataW.TrodAll enc Tryz.prog W 0 (λ_=>true) true Tryz.f5.params.toList args.toList ds p:=vn
 have auv:=dJ
 rw[Tryz.params5]at dJ
 obtain⟨rfl,rfl⟩:=trodVars_none auu
 have aX:∀ x∈p,x.block<W.heap.size:=λx ad=>afM.lt x (by simp[ad])
 have bu:ga (rR W) hP:=ai8 cc rfl
 obtain⟨v1,d1,rfl,rfl,aa⟩:=trodAll_one dJ
 obtain⟨a8,rfl,pI⟩:=ajr aa (tF 0 24 _ (by kernel_rfl) rfl)
 refine(aiM (aue bu pI)).mono ?_
 rintro e k0⟨v,rfl,⟨I',M',rfl⟩,dZ⟩
 refine⟨_,rfl,aiN (pa:=_) (pv:=[]) afM (λ_ _ _=>?_) (λfP ar=>XJ laidOut dZ (λt av=>?_) auv aX fP (λp aC=>ar p (List.mem_append_left _ aC))) (λ_ _=>rfl) rfl dZ (ok_one (by kernel_rfl) rfl (okWide_bool_mk Tryz.underlying4 _))⟩
 ·exact trodAll_cons_mk (shut_bool Tryz.underlying4 _) trodAll_mk0
 ·have:=XC afL av
  simp only[Bool.and_eq_true,decide_eq_true_eq]at this
  exact this.1
set_option maxRecDepth 100000 in
theorem auw(os:Os)(started:os.Started)(H:Type)(enc:TypeId×Value->H)(F:Stop.Interp) :
  ReturnsInHanded {} Tryz.checked os 5 .any ((OpenSpec.ofChange Rows.inlineBecomesSpec).preRow enc Tryz.prog Tryz.f5 Rows.inlineBecomesRow.domain false Rows.inlineBecomesRow.laid) (((OpenSpec.ofChange Rows.inlineBecomesSpec).at F).post enc Tryz.prog Tryz.f5 false true false false):=by
 obtain⟨places,ad⟩:=aus os enc
 refine returnsInHanded_of_row (C:=Tryz.checked) (s:=OpenSpec.ofChange Rows.inlineBecomesSpec) own started (by kernel_rfl) Tryz.func5
  (witness_row_at (enc:=enc) (C:=Tryz.checked) false (Qd os) #[.agg #[.slice none 0 0]] rfl (by kernel_rfl) (by kernel_rfl) (by kernel_rfl)
   (OpenSpec.preRow_of_cond 8 ad (by kernel_rfl) (λk ae=>by cases ae) (by kernel_rfl) (aur os))) ?_
 intro W cR args ds gs before tF hX _ _ _ cc _ _
 exact aut H enc W cR args ds gs before tF hX cc
theorem auy:(Rows.inlineBecomesRow.inPlace == Tryz.prog.inPlace 5)=true:=by kernel_rfl
theorem auz:(Rows.inlineBecomesRow.unfollowed == Tryz.prog.unfollowed 5)=true:=by kernel_rfl
theorem auA:(Rows.inlineBecomesRow.recurses == Tryz.prog.recurses 5)=true:=by kernel_rfl
theorem auB:(Rows.inlineBecomesRow.named == Tryz.prog.varsNamed 5)=true:=by kernel_rfl
theorem auC:(Rows.inlineBecomesRow.lifted == Tryz.prog.liftsFinal)=true:=by kernel_rfl
theorem auD:joinedFacts Tryz.prog 5 Tryz.f5 (OpenSpec.ofChange Rows.inlineBecomesSpec).bare Rows.inlineBecomesRow=true:=by
 unfold joinedFacts
 rw[laidOut,ajs,ajt,aju,auy,auz,auA,auB,auC]
 kernel_rfl
theorem auE:Rows.InlineBecomesSaid:=
 OpenClaim.holds_of_cond 5 Tryz.f5 rfl rfl rfl rfl rfl rfl rfl ⟨rfl,rfl,rfl,rfl,rfl⟩ rfl rfl rfl rfl rfl (by kernel_rfl) Tryz.func5 auD
  (of_decide_eq_true (by kernel_rfl)) (by unfold Func.isWrapper;first | (rw[if_pos (by decide +kernel)];kernel_rfl) | (rw[if_neg (by decide +kernel)];exact⟨rfl,rfl⟩))
  (λos started H enc _ F=>by rw[OpenClaim.pre_eq_preRow];exact auw os started H enc F)
theorem auF(f:FuncId)(fn:Func)(aA:Tryz.pinned.checked.prog.funcNamed "bonsai/bonsailaw19.InlineBecomes" = some f) (Yi:Tryz.pinned.checked.prog.funcs[f]?=some fn) :
  false=Tryz.pinned.checked.prog.looks []/\∀ (j:Nat) t,fn.params[j]?=some t->Tryz.pinned.checked.prog.wantsStandIn t=false:=by
 obtain rfl:f=5:=Option.some.inj ((show Tryz.prog.funcNamed "bonsai/bonsailaw19.InlineBecomes" = some 5 by kernel_rfl).symm.trans aA) |>.symm
 obtain rfl:fn=Tryz.f5:=(Option.some.inj (Tryz.func5.symm.trans Yi)).symm
 refine⟨by kernel_rfl,λj t av=>?_⟩
 have:=XC afL (x:=t) (by simpa using Array.mem_of_getElem? av)
 simp only[Bool.and_eq_true,Bool.not_eq_true',decide_eq_true_eq]at this
 exact this.2
theorem auG:OpenClaim.wfByText (OpenSpec.ofChange Rows.inlineBecomesSpec) Rows.inlineBecomesRow=true:=by kernel_rfl
theorem auH:Tryz.pinned.checked.prog.mainIs=some (true,("34dc408f60bf6ee97a9f5e082f54be184583e947855a37fcd673cffe7e6a9e6b" : String).toList):=by kernel_rfl
theorem auI:false=Rows.inlineBecomesRow.goesBy Tryz.pinned.checked.prog:=by kernel_rfl
theorem inlineBecomes_card:Rows.InlineBecomesCardSaid:=
 Claim7.holds_tied_plain_at .later [] _ _ _ _ auE (λ_ h=>by cases h) auG (λ_ h=>by cases h) inlineBecomes_row_tie rfl ⟨rfl,rfl⟩ auH rfl auF auI
end Go.Proofs.YtmncamccjfmbpaaGreatDoor
