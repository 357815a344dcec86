/-
  For every input bonsai/bonsailaw23.MergeNames returns true, and each argument reads behind the call as it read before: the given card, from the walk's contract. Conditions: those of the row itself.
-/
import Derived.Test.YtjaibbcbjfapaaaGreatDoorK3
import Derived.Test.YtjaibbcbjfapaaaGreatDoorK10
import Derived.Carry
set_option linter.all false
namespace Go.Proofs.YtjaibbcbjfapaaaGreatDoor
open Go Go.V Go.ChangeShapes Go.WideShapes Go.ChangeAt Go.RowKit
theorem awg(os:Os):laidMet Tryz.prog Rows.mergeNamesRow.laid ((Py os).forCall (λ_ _=>0) ⟨#[],#[],[]⟩).memory:=
 laidMet_of_run' 8 d0 d0
theorem awh(os:Os){H:Type}(enc:TypeId×Value->H):∃ places,DataW.whole enc Tryz.prog ((Py os).forCall (λ_ _=>0) ⟨#[],#[],[]⟩).memory Tryz.f14.params.toList Rows.mergeNamesSpec.vars false (#[]:Array Value).toList 8=some ([],[],places):=
 ⟨[],d0⟩
theorem agv:(Tryz.f14.params.toList.all λt=>Tryz.prog.readableRec t&&decide (t<Tryz.prog.types.size) && !Tryz.prog.wantsStandIn t)=true:=by kernel_rfl
set_option maxRecDepth 100000 in
theorem awi(H:Type)(enc:TypeId×Value->H)(W:World)(dJ:Nat)(args:Array Value)(ds gs:List (DataW H))(before:List MemPlace)
  (DN:∀ (j:Nat) t v,Tryz.f14.params[j]?=some t->args[j]?=some v->Value.okWide Tryz.prog W .any dJ t v)
  (k1:DataW.Whole enc Tryz.prog Tryz.f14.params.toList Rows.mergeNamesSpec.vars false W args.toList ds gs before) (bZ:laidMetH Tryz.prog Rows.mergeNamesRow.laid W) :
  Calls Tryz.prog 14 args W λe kH=>∃ v,e=.returned v/\Rows.mergeNamesSpec.post enc Tryz.prog Tryz.f14 false true false false W args v kH:=by
 have agw:=k1
 obtain⟨p,q,vo,awj,rfl,ay5,b'⟩:=k1
 have dD:DataW.TrodAll enc Tryz.prog W 0 (λ_=>true) true Tryz.f14.params.toList args.toList ds p:=vo
 have awk:=dD
 rw[Tryz.params14]at dD
 obtain⟨rfl,rfl⟩:=trodVars_none awj
 have a1:∀ x∈p,x.block<W.heap.size:=λx ab=>agw.lt x f9
 have a6:en (G9 W) fw:=ajh bZ rfl
 obtain⟨ml,rfl,rfl⟩:=trodAll_nil dD
 obtain rfl:args=#[]:=by cases args;simp_all
 refine(aiV (avQ a6)).mono ?_
 rintro e kH⟨v,rfl,⟨I',M',rfl⟩,dj⟩
 refine⟨_,rfl,aiW (pa:=_) (pv:=[]) agw (λ_ _ _=>?_) (λiW av=>Xh laidOut dj (λt au=>?_) awk a1 iW (λp aI=>av p (List.mem_append_left _ aI))) (λ_ _=>rfl) rfl dj (ok_one d0 rfl (okWide_bool_mk Tryz.underlying4 _))⟩
 ·exact trodAll_cons_mk (shut_bool Tryz.underlying4 _) trodAll_mk0
 ·have:=Xe agv au
  simp only[Bool.and_eq_true,decide_eq_true_eq]at this
  exact this.1
set_option maxRecDepth 100000 in
theorem awl(os:Os)(started:os.Started)(H:Type)(enc:TypeId×Value->H)(F:Stop.Interp) :
  ReturnsInHanded {} Tryz.checked os 14 .any ((OpenSpec.ofChange Rows.mergeNamesSpec).preRow enc Tryz.prog Tryz.f14 Rows.mergeNamesRow.domain false Rows.mergeNamesRow.laid) (((OpenSpec.ofChange Rows.mergeNamesSpec).at F).post enc Tryz.prog Tryz.f14 false true false false):=by
 obtain⟨places,ab⟩:=awh os enc
 refine returnsInHanded_of_row (C:=Tryz.checked) (s:=OpenSpec.ofChange Rows.mergeNamesSpec) own started d0 Tryz.func14
  (witness_row_at (enc:=enc) (C:=Tryz.checked) false (Py os) #[] rfl d0 d0 d0
   (OpenSpec.preRow_of_cond 8 ab d0 (λk ae=>ap') d0 (awg os))) ?_
 intro W dJ args ds gs before DN k1 _ _ _ bZ _ _
 exact awi H enc W dJ args ds gs before DN k1 bZ
theorem awm:(Rows.mergeNamesRow.inPlace == Tryz.prog.inPlace 14)=true:=by kernel_rfl
theorem awn:(Rows.mergeNamesRow.unfollowed == Tryz.prog.unfollowed 14)=true:=by kernel_rfl
theorem awo:(Rows.mergeNamesRow.recurses == Tryz.prog.recurses 14)=true:=by kernel_rfl
theorem awp:(Rows.mergeNamesRow.named == Tryz.prog.varsNamed 14)=true:=by kernel_rfl
theorem awq:(Rows.mergeNamesRow.lifted == Tryz.prog.liftsFinal)=true:=by kernel_rfl
theorem awr:joinedFacts Tryz.prog 14 Tryz.f14 (OpenSpec.ofChange Rows.mergeNamesSpec).bare Rows.mergeNamesRow=true:=by
 unfold joinedFacts
 rw[laidOut,ajj,ajk,ajl,awm,awn,awo,awp,awq]
 kernel_rfl
theorem aws:Rows.MergeNamesSaid:=
 OpenClaim.holds_of_cond 14 Tryz.f14 rfl rfl rfl rfl rfl rfl rfl ⟨rfl,rfl,rfl,rfl,rfl⟩ rfl rfl rfl rfl rfl d0 Tryz.func14 awr
  (of_decide_eq_true d0) (by unfold Func.isWrapper;first | (rw[if_pos (by decide +kernel)];kernel_rfl) | (rw[if_neg (by decide +kernel)];exact⟨rfl,rfl⟩))
  (λos started H enc _ F=>by rw[OpenClaim.pre_eq_preRow];exact awl os started H enc F)
theorem awt(f:FuncId)(fn:Func)(aE:Tryz.pinned.checked.prog.funcNamed "bonsai/bonsailaw23.MergeNames" = some f) (yd:Tryz.pinned.checked.prog.funcs[f]?=some fn) :
  false=Tryz.pinned.checked.prog.looks []/\∀ (j:Nat) t,fn.params[j]?=some t->Tryz.pinned.checked.prog.wantsStandIn t=false:=by
 obtain rfl:f=14:=Option.some.inj ((show Tryz.prog.funcNamed "bonsai/bonsailaw23.MergeNames" = some 14 by kernel_rfl).symm.trans aE) |>.symm
 obtain rfl:fn=Tryz.f14:=(Option.some.inj (Tryz.func14.symm.trans yd)).symm
 refine⟨d0,λj t au=>?_⟩
 have:=Xe agv (x:=t) (by simpa using Array.mem_of_getElem? au)
 simp only[Bool.and_eq_true,Bool.not_eq_true',decide_eq_true_eq]at this
 exact this.2
theorem awu:OpenClaim.wfByText (OpenSpec.ofChange Rows.mergeNamesSpec) Rows.mergeNamesRow=true:=by kernel_rfl
theorem awv:Tryz.pinned.checked.prog.mainIs=some (true,("f6e05600405611aafdff06fe37367637cfcab227e252189e41e322a5588f4a38" : String).toList):=by kernel_rfl
theorem aww:false=Rows.mergeNamesRow.goesBy Tryz.pinned.checked.prog:=by kernel_rfl
theorem mergeNames_card:Rows.MergeNamesCardSaid:=
 Claim7.holds_tied_plain_at .later [] _ _ _ _ aws (λ_ h=>ci) awu (λ_ h=>ci) mergeNames_row_tie rfl ⟨rfl,rfl⟩ awv rfl awt aww
end Go.Proofs.YtjaibbcbjfapaaaGreatDoor
