/-
  For every input bonsai/bonsailaw23.MergeFewer returns true, and each argument reads behind the call as it read before: the given card, from the walk's contract. Conditions: those of the row itself.
-/
import Derived.Test.YthnoknnlcnikbaaGreatDoorK4
import Derived.Test.YthnoknnlcnikbaaGreatDoorK10
import Derived.Carry
set_option linter.all false
namespace Go.Proofs.YthnoknnlcnikbaaGreatDoor
open Go Go.V Go.ChangeShapes Go.WideShapes Go.ChangeAt Go.RowKit
theorem awx(os:Os):laidMet Tryz.prog Rows.mergeFewerRow.laid ((Qt os).forCall (λ_ _=>0) ⟨#[],#[.agg #[.slice none 0 0]],[]⟩).memory:=
 laidMet_of_run' 8 (by kernel_rfl) (by kernel_rfl)
theorem awy(os:Os){H:Type}(enc:TypeId×Value->H):∃ places,DataW.whole enc Tryz.prog ((Qt os).forCall (λ_ _=>0) ⟨#[],#[.agg #[.slice none 0 0]],[]⟩).memory Tryz.f7.params.toList Rows.mergeFewerSpec.vars false (#[.agg #[.slice none 0 0]]:Array Value).toList 8=some ([.agg [.nil]],[],places):=
 ⟨[],by kernel_rfl⟩
theorem ahu:(Tryz.f7.params.toList.all λt=>Tryz.prog.readableRec t&&decide (t<Tryz.prog.types.size) && !Tryz.prog.wantsStandIn t)=true:=by kernel_rfl
set_option maxRecDepth 100000 in
theorem awz(H:Type)(enc:TypeId×Value->H)(W:World)(bC:Nat)(args:Array Value)(ds gs:List (DataW H))(before:List MemPlace)
  (B5:∀ (j:Nat) t v,Tryz.f7.params[j]?=some t->args[j]?=some v->Value.okWide Tryz.prog W .any bC t v)
  (iB:DataW.Whole enc Tryz.prog Tryz.f7.params.toList Rows.mergeFewerSpec.vars false W args.toList ds gs before) (b8:laidMetH Tryz.prog Rows.mergeFewerRow.laid W) :
  Calls Tryz.prog 7 args W λe kZ=>∃ v,e=.returned v/\Rows.mergeFewerSpec.post enc Tryz.prog Tryz.f7 false true false false W args v kZ:=by
 have ahv:=iB
 obtain⟨p,q,vE,awA,rfl,ay6,bV⟩:=iB
 have dI:DataW.TrodAll enc Tryz.prog W 0 (λ_=>true) true Tryz.f7.params.toList args.toList ds p:=vE
 have awB:=dI
 rw[Tryz.params7]at dI
 obtain⟨rfl,rfl⟩:=trodVars_none awA
 have a4:∀ x∈p,x.block<W.heap.size:=λx ad=>ahv.lt x (by simp[ad])
 have bl:ff (rY W) hN:=akg b8 rfl
 obtain⟨v1,d1,rfl,rfl,aa⟩:=trodAll_one dI
 obtain⟨a',rfl,rP⟩:=akA aa (B5 0 30 _ (by kernel_rfl) rfl)
 refine(ajV (awt bl rP)).mono ?_
 rintro e kZ⟨v,rfl,⟨I',M',rfl⟩,eG⟩
 refine⟨_,rfl,ajW (pa:=_) (pv:=[]) ahv (λ_ _ _=>?_) (λfL av=>Yt laidOut eG (λt au=>?_) awB a4 fL (λp aH=>av p (List.mem_append_left _ aH))) (λ_ _=>rfl) rfl eG (ok_one (by kernel_rfl) rfl (okWide_bool_mk Tryz.underlying4 _))⟩
 ·exact trodAll_cons_mk (shut_bool Tryz.underlying4 _) trodAll_mk0
 ·have:=Yl ahu au
  simp only[Bool.and_eq_true,decide_eq_true_eq]at this
  exact this.1
set_option maxRecDepth 100000 in
theorem awC(os:Os)(started:os.Started)(H:Type)(enc:TypeId×Value->H)(F:Stop.Interp) :
  ReturnsInHanded {} Tryz.checked os 7 .any ((OpenSpec.ofChange Rows.mergeFewerSpec).preRow enc Tryz.prog Tryz.f7 Rows.mergeFewerRow.domain false Rows.mergeFewerRow.laid) (((OpenSpec.ofChange Rows.mergeFewerSpec).at F).post enc Tryz.prog Tryz.f7 false true false false):=by
 obtain⟨places,ad⟩:=awy os enc
 refine returnsInHanded_of_row (C:=Tryz.checked) (s:=OpenSpec.ofChange Rows.mergeFewerSpec) own started (by kernel_rfl) Tryz.func7
  (witness_row_at (enc:=enc) (C:=Tryz.checked) false (Qt os) #[.agg #[.slice none 0 0]] rfl (by kernel_rfl) (by kernel_rfl) (by kernel_rfl)
   (OpenSpec.preRow_of_cond 8 ad (by kernel_rfl) (λk ae=>by cases ae) (by kernel_rfl) (awx os))) ?_
 intro W bC args ds gs before B5 iB _ _ _ b8 _ _
 exact awz H enc W bC args ds gs before B5 iB b8
theorem awD:(Rows.mergeFewerRow.inPlace == Tryz.prog.inPlace 7)=true:=by kernel_rfl
theorem awE:(Rows.mergeFewerRow.unfollowed == Tryz.prog.unfollowed 7)=true:=by kernel_rfl
theorem awF:(Rows.mergeFewerRow.recurses == Tryz.prog.recurses 7)=true:=by kernel_rfl
theorem awG:(Rows.mergeFewerRow.named == Tryz.prog.varsNamed 7)=true:=by kernel_rfl
theorem awH:(Rows.mergeFewerRow.lifted == Tryz.prog.liftsFinal)=true:=by kernel_rfl
theorem awI:joinedFacts Tryz.prog 7 Tryz.f7 (OpenSpec.ofChange Rows.mergeFewerSpec).bare Rows.mergeFewerRow=true:=by
 unfold joinedFacts
 rw[laidOut,akB,akC,akD,awD,awE,awF,awG,awH]
 kernel_rfl
theorem awJ:Rows.MergeFewerSaid:=
 OpenClaim.holds_of_cond 7 Tryz.f7 rfl rfl rfl rfl rfl rfl rfl ⟨rfl,rfl,rfl,rfl,rfl⟩ rfl rfl rfl rfl rfl (by kernel_rfl) Tryz.func7 awI
  (of_decide_eq_true (by kernel_rfl)) (by unfold Func.isWrapper;first | (rw[if_pos (by decide +kernel)];kernel_rfl) | (rw[if_neg (by decide +kernel)];exact⟨rfl,rfl⟩))
  (λos started H enc _ F=>by rw[OpenClaim.pre_eq_preRow];exact awC os started H enc F)
theorem awK(f:FuncId)(fn:Func)(aB:Tryz.pinned.checked.prog.funcNamed "bonsai/bonsailaw23.MergeFewer" = some f) (yD:Tryz.pinned.checked.prog.funcs[f]?=some fn) :
  false=Tryz.pinned.checked.prog.looks []/\∀ (j:Nat) t,fn.params[j]?=some t->Tryz.pinned.checked.prog.wantsStandIn t=false:=by
 obtain rfl:f=7:=Option.some.inj ((show Tryz.prog.funcNamed "bonsai/bonsailaw23.MergeFewer" = some 7 by kernel_rfl).symm.trans aB) |>.symm
 obtain rfl:fn=Tryz.f7:=(Option.some.inj (Tryz.func7.symm.trans yD)).symm
 refine⟨by kernel_rfl,λj t au=>?_⟩
 have:=Yl ahu (x:=t) (by simpa using Array.mem_of_getElem? au)
 simp only[Bool.and_eq_true,Bool.not_eq_true',decide_eq_true_eq]at this
 exact this.2
theorem awL:OpenClaim.wfByText (OpenSpec.ofChange Rows.mergeFewerSpec) Rows.mergeFewerRow=true:=by kernel_rfl
theorem awM:Tryz.pinned.checked.prog.mainIs=some (true,("665077a709f15779ed00e146ff15f7c3ed7007af8087f28bc4c0d76c2410daa2" : String).toList):=by kernel_rfl
theorem awN:false=Rows.mergeFewerRow.goesBy Tryz.pinned.checked.prog:=by kernel_rfl
theorem mergeFewer_card:Rows.MergeFewerCardSaid:=
 Claim7.holds_tied_plain_at .later [] _ _ _ _ awJ (λ_ h=>by cases h) awL (λ_ h=>by cases h) mergeFewer_row_tie rfl ⟨rfl,rfl⟩ awM rfl awK awN
end Go.Proofs.YthnoknnlcnikbaaGreatDoor
