/-
  For every input bonsai/bonsailaw19.InlineEnds returns true, and each argument reads behind the call as it read before: the given card, from the walk's contract. Conditions: those of the row itself.
-/
import Derived.Test.YtmncamccjfmbpaaGreatDoorK4
import Derived.Test.YtmncamccjfmbpaaGreatDoorK10
import Derived.Carry
set_option linter.all false
namespace Go.Proofs.YtmncamccjfmbpaaGreatDoor
open Go Go.V Go.ChangeShapes Go.WideShapes Go.ChangeAt Go.RowKit
theorem avY(os:Os):laidMet Tryz.prog Rows.inlineEndsRow.laid ((QR os).forCall (λ_ _=>0) ⟨#[],#[.agg #[.slice none 0 0]],[]⟩).memory:=
 laidMet_of_run' 8 (by kernel_rfl) (by kernel_rfl)
theorem avZ(os:Os){H:Type}(enc:TypeId×Value->H):∃ places,DataW.whole enc Tryz.prog ((QR os).forCall (λ_ _=>0) ⟨#[],#[.agg #[.slice none 0 0]],[]⟩).memory Tryz.f7.params.toList Rows.inlineEndsSpec.vars false (#[.agg #[.slice none 0 0]]:Array Value).toList 8=some ([.agg [.nil]],[],places):=
 ⟨[],by kernel_rfl⟩
theorem agQ:(Tryz.f7.params.toList.all λt=>Tryz.prog.readableRec t&&decide (t<Tryz.prog.types.size) && !Tryz.prog.wantsStandIn t)=true:=by kernel_rfl
set_option maxRecDepth 100000 in
theorem av0(H:Type)(enc:TypeId×Value->H)(W:World)(cS:Nat)(args:Array Value)(ds gs:List (DataW H))(before:List MemPlace)
  (tV:∀ (j:Nat) t v,Tryz.f7.params[j]?=some t->args[j]?=some v->Value.okWide Tryz.prog W .any cS t v)
  (h6:DataW.Whole enc Tryz.prog Tryz.f7.params.toList Rows.inlineEndsSpec.vars false W args.toList ds gs before) (cc:laidMetH Tryz.prog Rows.inlineEndsRow.laid W) :
  Calls Tryz.prog 7 args W λe lj=>∃ v,e=.returned v/\Rows.inlineEndsSpec.post enc Tryz.prog Tryz.f7 false true false false W args v lj:=by
 have agR:=h6
 obtain⟨p,q,vI,av1,rfl,ays,bH⟩:=h6
 have dv:DataW.TrodAll enc Tryz.prog W 0 (λ_=>true) true Tryz.f7.params.toList args.toList ds p:=vI
 have av2:=dv
 rw[Tryz.params7]at dv
 obtain⟨rfl,rfl⟩:=trodVars_none av1
 have a1:∀ x∈p,x.block<W.heap.size:=λx ad=>agR.lt x (by simp[ad])
 have bp:fW (r7 W) hL:=akg cc rfl
 obtain⟨v1,d1,rfl,rfl,aa⟩:=trodAll_one dv
 obtain⟨a8,rfl,p0⟩:=akz aa (tV 0 24 _ (by kernel_rfl) rfl)
 refine(ajT (avS bp p0)).mono ?_
 rintro e lj⟨v,rfl,⟨I',M',rfl⟩,eG⟩
 refine⟨_,rfl,ajU (pa:=_) (pv:=[]) agR (λ_ _ _=>?_) (λfV au=>Yr laidOut eG (λt ax=>?_) av2 a1 fV (λp aB=>au p (List.mem_append_left _ aB))) (λ_ _=>rfl) rfl eG (ok_one (by kernel_rfl) rfl (okWide_bool_mk Tryz.underlying4 _))⟩
 ·exact trodAll_cons_mk (shut_bool Tryz.underlying4 _) trodAll_mk0
 ·have:=Yk agQ ax
  simp only[Bool.and_eq_true,decide_eq_true_eq]at this
  exact this.1
set_option maxRecDepth 100000 in
theorem av3(os:Os)(started:os.Started)(H:Type)(enc:TypeId×Value->H)(F:Stop.Interp) :
  ReturnsInHanded {} Tryz.checked os 7 .any ((OpenSpec.ofChange Rows.inlineEndsSpec).preRow enc Tryz.prog Tryz.f7 Rows.inlineEndsRow.domain false Rows.inlineEndsRow.laid) (((OpenSpec.ofChange Rows.inlineEndsSpec).at F).post enc Tryz.prog Tryz.f7 false true false false):=by
 obtain⟨places,ad⟩:=avZ os enc
 refine returnsInHanded_of_row (C:=Tryz.checked) (s:=OpenSpec.ofChange Rows.inlineEndsSpec) own started (by kernel_rfl) Tryz.func7
  (witness_row_at (enc:=enc) (C:=Tryz.checked) false (QR os) #[.agg #[.slice none 0 0]] rfl (by kernel_rfl) (by kernel_rfl) (by kernel_rfl)
   (OpenSpec.preRow_of_cond 8 ad (by kernel_rfl) (λk ae=>by cases ae) (by kernel_rfl) (avY os))) ?_
 intro W cS args ds gs before tV h6 _ _ _ cc _ _
 exact av0 H enc W cS args ds gs before tV h6 cc
theorem av4:(Rows.inlineEndsRow.inPlace == Tryz.prog.inPlace 7)=true:=by kernel_rfl
theorem av5:(Rows.inlineEndsRow.unfollowed == Tryz.prog.unfollowed 7)=true:=by kernel_rfl
theorem av6:(Rows.inlineEndsRow.recurses == Tryz.prog.recurses 7)=true:=by kernel_rfl
theorem av7:(Rows.inlineEndsRow.named == Tryz.prog.varsNamed 7)=true:=by kernel_rfl
theorem av8:(Rows.inlineEndsRow.lifted == Tryz.prog.liftsFinal)=true:=by kernel_rfl
theorem av9:joinedFacts Tryz.prog 7 Tryz.f7 (OpenSpec.ofChange Rows.inlineEndsSpec).bare Rows.inlineEndsRow=true:=by
 unfold joinedFacts
 rw[laidOut,akA,akB,akC,av4,av5,av6,av7,av8]
 kernel_rfl
theorem awa:Rows.InlineEndsSaid:=
 OpenClaim.holds_of_cond 7 Tryz.f7 rfl rfl rfl rfl rfl rfl rfl ⟨rfl,rfl,rfl,rfl,rfl⟩ rfl rfl rfl rfl rfl (by kernel_rfl) Tryz.func7 av9
  (of_decide_eq_true (by kernel_rfl)) (by unfold Func.isWrapper;first | (rw[if_pos (by decide +kernel)];kernel_rfl) | (rw[if_neg (by decide +kernel)];exact⟨rfl,rfl⟩))
  (λos started H enc _ F=>by rw[OpenClaim.pre_eq_preRow];exact av3 os started H enc F)
theorem awb(f:FuncId)(fn:Func)(aA:Tryz.pinned.checked.prog.funcNamed "bonsai/bonsailaw19.InlineEnds" = some f) (Y1:Tryz.pinned.checked.prog.funcs[f]?=some fn) :
  false=Tryz.pinned.checked.prog.looks []/\∀ (j:Nat) t,fn.params[j]?=some t->Tryz.pinned.checked.prog.wantsStandIn t=false:=by
 obtain rfl:f=7:=Option.some.inj ((show Tryz.prog.funcNamed "bonsai/bonsailaw19.InlineEnds" = some 7 by kernel_rfl).symm.trans aA) |>.symm
 obtain rfl:fn=Tryz.f7:=(Option.some.inj (Tryz.func7.symm.trans Y1)).symm
 refine⟨by kernel_rfl,λj t ax=>?_⟩
 have:=Yk agQ (x:=t) (by simpa using Array.mem_of_getElem? ax)
 simp only[Bool.and_eq_true,Bool.not_eq_true',decide_eq_true_eq]at this
 exact this.2
theorem awc:OpenClaim.wfByText (OpenSpec.ofChange Rows.inlineEndsSpec) Rows.inlineEndsRow=true:=by kernel_rfl
theorem awd:Tryz.pinned.checked.prog.mainIs=some (true,("34dc408f60bf6ee97a9f5e082f54be184583e947855a37fcd673cffe7e6a9e6b" : String).toList):=by kernel_rfl
theorem awe:false=Rows.inlineEndsRow.goesBy Tryz.pinned.checked.prog:=by kernel_rfl
theorem inlineEnds_card:Rows.InlineEndsCardSaid:=
 Claim7.holds_tied_plain_at .later [] _ _ _ _ awa (λ_ h=>by cases h) awc (λ_ h=>by cases h) inlineEnds_row_tie rfl ⟨rfl,rfl⟩ awd rfl awb awe
end Go.Proofs.YtmncamccjfmbpaaGreatDoor
