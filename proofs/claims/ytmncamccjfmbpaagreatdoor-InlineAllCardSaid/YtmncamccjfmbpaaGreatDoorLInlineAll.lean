/-
  For every input bonsai/bonsailaw19.InlineAll returns true, and each argument reads behind the call as it read before: the given card, from the walk's contract. Conditions: those of the row itself.
-/
import Derived.Test.YtmncamccjfmbpaaGreatDoorK4
import Derived.Test.YtmncamccjfmbpaaGreatDoorK10
import Derived.Carry
set_option linter.all false
namespace Go.Proofs.YtmncamccjfmbpaaGreatDoor
open Go Go.V Go.ChangeShapes Go.WideShapes Go.ChangeAt Go.RowKit
theorem atH(os:Os):laidMet Tryz.prog Rows.inlineAllRow.laid ((PA os).forCall (λ_ _=>0) ⟨#[],#[.agg #[.slice none 0 0]],[]⟩).memory:=
 laidMet_of_run' 8 (by kernel_rfl) (by kernel_rfl)
theorem atI(os:Os){H:Type}(enc:TypeId×Value->H):∃ places,DataW.whole enc Tryz.prog ((PA os).forCall (λ_ _=>0) ⟨#[],#[.agg #[.slice none 0 0]],[]⟩).memory Tryz.f9.params.toList Rows.inlineAllSpec.vars false (#[.agg #[.slice none 0 0]]:Array Value).toList 8=some ([.agg [.nil]],[],places):=
 ⟨[],by kernel_rfl⟩
theorem ae5:(Tryz.f9.params.toList.all λt=>Tryz.prog.readableRec t&&decide (t<Tryz.prog.types.size) && !Tryz.prog.wantsStandIn t)=true:=by kernel_rfl
set_option maxRecDepth 100000 in
theorem atJ(H:Type)(enc:TypeId×Value->H)(W:World)(cQ:Nat)(args:Array Value)(ds gs:List (DataW H))(before:List MemPlace)
  (tq:∀ (j:Nat) t v,Tryz.f9.params[j]?=some t->args[j]?=some v->Value.okWide Tryz.prog W .any cQ t v)
  (hT:DataW.Whole enc Tryz.prog Tryz.f9.params.toList Rows.inlineAllSpec.vars false W args.toList ds gs before) (b4:laidMetH Tryz.prog Rows.inlineAllRow.laid W) :
  Calls Tryz.prog 9 args W λe kZ=>∃ v,e=.returned v/\Rows.inlineAllSpec.post enc Tryz.prog Tryz.f9 false true false false W args v kZ:=by
 have ae6:=hT
 obtain⟨p,q,ve,atK,rfl,av0,bI⟩:=hT
 have dH:DataW.TrodAll enc Tryz.prog W 0 (λ_=>true) true Tryz.f9.params.toList args.toList ds p:=ve
 have atL:=dH
 rw[Tryz.params9]at dH
 obtain⟨rfl,rfl⟩:=trodVars_none atK
 have aV:∀ x∈p,x.block<W.heap.size:=λx ad=>ae6.lt x (by simp[ad])
 have bs:fQ (rH W) eJ:=aiB b4 rfl
 obtain⟨v1,d1,rfl,rfl,aa⟩:=trodAll_one dH
 obtain⟨a8,rfl,pF⟩:=aiU aa (tq 0 24 _ (by kernel_rfl) rfl)
 refine(aie (atw bs pF)).mono ?_
 rintro e kZ⟨v,rfl,⟨I',M',rfl⟩,dX⟩
 refine⟨_,rfl,aif (pa:=_) (pv:=[]) ae6 (λ_ _ _=>?_) (λfO ar=>W7 laidOut dX (λt av=>?_) atL aV fO (λp aC=>ar p (List.mem_append_left _ aC))) (λ_ _=>rfl) rfl dX (ok_one (by kernel_rfl) rfl (okWide_bool_mk Tryz.underlying4 _))⟩
 ·exact trodAll_cons_mk (shut_bool Tryz.underlying4 _) trodAll_mk0
 ·have:=W0 ae5 av
  simp only[Bool.and_eq_true,decide_eq_true_eq]at this
  exact this.1
set_option maxRecDepth 100000 in
theorem atM(os:Os)(started:os.Started)(H:Type)(enc:TypeId×Value->H)(F:Stop.Interp) :
  ReturnsInHanded {} Tryz.checked os 9 .any ((OpenSpec.ofChange Rows.inlineAllSpec).preRow enc Tryz.prog Tryz.f9 Rows.inlineAllRow.domain false Rows.inlineAllRow.laid) (((OpenSpec.ofChange Rows.inlineAllSpec).at F).post enc Tryz.prog Tryz.f9 false true false false):=by
 obtain⟨places,ad⟩:=atI os enc
 refine returnsInHanded_of_row (C:=Tryz.checked) (s:=OpenSpec.ofChange Rows.inlineAllSpec) own started (by kernel_rfl) Tryz.func9
  (witness_row_at (enc:=enc) (C:=Tryz.checked) false (PA os) #[.agg #[.slice none 0 0]] rfl (by kernel_rfl) (by kernel_rfl) (by kernel_rfl)
   (OpenSpec.preRow_of_cond 8 ad (by kernel_rfl) (λk ae=>by cases ae) (by kernel_rfl) (atH os))) ?_
 intro W cQ args ds gs before tq hT _ _ _ b4 _ _
 exact atJ H enc W cQ args ds gs before tq hT b4
theorem atN:(Rows.inlineAllRow.inPlace == Tryz.prog.inPlace 9)=true:=by kernel_rfl
theorem atO:(Rows.inlineAllRow.unfollowed == Tryz.prog.unfollowed 9)=true:=by kernel_rfl
theorem atP:(Rows.inlineAllRow.recurses == Tryz.prog.recurses 9)=true:=by kernel_rfl
theorem atQ:(Rows.inlineAllRow.named == Tryz.prog.varsNamed 9)=true:=by kernel_rfl
theorem atS:(Rows.inlineAllRow.lifted == Tryz.prog.liftsFinal)=true:=by kernel_rfl
theorem atT:joinedFacts Tryz.prog 9 Tryz.f9 (OpenSpec.ofChange Rows.inlineAllSpec).bare Rows.inlineAllRow=true:=by
 unfold joinedFacts
 rw[laidOut,aiV,aiW,aiX,atN,atO,atP,atQ,atS]
 kernel_rfl
theorem atU:Rows.InlineAllSaid:=
 OpenClaim.holds_of_cond 9 Tryz.f9 rfl rfl rfl rfl rfl rfl rfl ⟨rfl,rfl,rfl,rfl,rfl⟩ rfl rfl rfl rfl rfl (by kernel_rfl) Tryz.func9 atT
  (of_decide_eq_true (by kernel_rfl)) (by unfold Func.isWrapper;first | (rw[if_pos (by decide +kernel)];kernel_rfl) | (rw[if_neg (by decide +kernel)];exact⟨rfl,rfl⟩))
  (λos started H enc _ F=>by rw[OpenClaim.pre_eq_preRow];exact atM os started H enc F)
theorem atV(f:FuncId)(fn:Func)(aA:Tryz.pinned.checked.prog.funcNamed "bonsai/bonsailaw19.InlineAll" = some f) (XG:Tryz.pinned.checked.prog.funcs[f]?=some fn) :
  false=Tryz.pinned.checked.prog.looks []/\∀ (j:Nat) t,fn.params[j]?=some t->Tryz.pinned.checked.prog.wantsStandIn t=false:=by
 obtain rfl:f=9:=Option.some.inj ((show Tryz.prog.funcNamed "bonsai/bonsailaw19.InlineAll" = some 9 by kernel_rfl).symm.trans aA) |>.symm
 obtain rfl:fn=Tryz.f9:=(Option.some.inj (Tryz.func9.symm.trans XG)).symm
 refine⟨by kernel_rfl,λj t av=>?_⟩
 have:=W0 ae5 (x:=t) (by simpa using Array.mem_of_getElem? av)
 simp only[Bool.and_eq_true,Bool.not_eq_true',decide_eq_true_eq]at this
 exact this.2
theorem atW:OpenClaim.wfByText (OpenSpec.ofChange Rows.inlineAllSpec) Rows.inlineAllRow=true:=by kernel_rfl
theorem atX:Tryz.pinned.checked.prog.mainIs=some (true,("34dc408f60bf6ee97a9f5e082f54be184583e947855a37fcd673cffe7e6a9e6b" : String).toList):=by kernel_rfl
theorem atY:false=Rows.inlineAllRow.goesBy Tryz.pinned.checked.prog:=by kernel_rfl
theorem inlineAll_card:Rows.InlineAllCardSaid:=
 Claim7.holds_tied_plain_at .later [] _ _ _ _ atU (λ_ h=>by cases h) atW (λ_ h=>by cases h) inlineAll_row_tie rfl ⟨rfl,rfl⟩ atX rfl atV atY
end Go.Proofs.YtmncamccjfmbpaaGreatDoor
