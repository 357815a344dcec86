/-
  For every input bonsai/bonsailaw13.WellInlined returns true, and each argument reads behind the call as it read before: the given card, from the walk's contract. Conditions: those of the row itself.
-/
import Derived.Test.YtmncamccjfmbpaaGreatDoorK4
import Derived.Test.YtmncamccjfmbpaaGreatDoorK9
import Derived.Carry
set_option linter.all false
namespace Go.Proofs.YtmncamccjfmbpaaGreatDoor
open Go Go.V Go.ChangeShapes Go.WideShapes Go.ChangeAt Go.RowKit
theorem akU(os:Os):laidMet Tryz.prog Rows.wellInlinedRow.laid ((Ki os).forCall (λ_ _=>0) ⟨#[],#[.agg #[.slice none 0 0],.int .i64 0,.int .i64 0],[]⟩).memory:=
 laidMet_of_run' 8 (by kernel_rfl) (by kernel_rfl)
theorem akV(os:Os){H:Type}(enc:TypeId×Value->H):∃ places,DataW.whole enc Tryz.prog ((Ki os).forCall (λ_ _=>0) ⟨#[],#[.agg #[.slice none 0 0],.int .i64 0,.int .i64 0],[]⟩).memory Tryz.f3.params.toList Rows.wellInlinedSpec.vars false (#[.agg #[.slice none 0 0],.int .i64 0,.int .i64 0]:Array Value).toList 8=some ([.agg [.nil],.lit (.int .i64 0),.lit (.int .i64 0)],[],places):=
 ⟨[],by kernel_rfl⟩
theorem Yg:(Tryz.f3.params.toList.all λt=>Tryz.prog.readableRec t&&decide (t<Tryz.prog.types.size) && !Tryz.prog.wantsStandIn t)=true:=by kernel_rfl
set_option maxRecDepth 100000 in
theorem akW(H:Type)(enc:TypeId×Value->H)(W:World)(c4:Nat)(args:Array Value)(ds gs:List (DataW H))(before:List MemPlace)
  (uA:∀ (j:Nat) t v,Tryz.f3.params[j]?=some t->args[j]?=some v->Value.okWide Tryz.prog W .any c4 t v)
  (hZ:DataW.Whole enc Tryz.prog Tryz.f3.params.toList Rows.wellInlinedSpec.vars false W args.toList ds gs before) (ek:laidMetH Tryz.prog Rows.wellInlinedRow.laid W) :
  Calls Tryz.prog 3 args W λe jy=>∃ v,e=.returned v/\Rows.wellInlinedSpec.post enc Tryz.prog Tryz.f3 false true false false W args v jy:=by
 have Yh:=hZ
 obtain⟨p,q,sq,akX,rfl,am1,bJ⟩:=hZ
 have dk:DataW.TrodAll enc Tryz.prog W 0 (λ_=>true) true Tryz.f3.params.toList args.toList ds p:=sq
 have akY:=dk
 rw[Tryz.params3]at dk
 obtain⟨rfl,rfl⟩:=trodVars_none akX
 have aW:∀ x∈p,x.block<W.heap.size:=λx ab=>Yh.lt x (by simp[ab])
 have bl:gg (pe W) lJ:=abf ek rfl
 obtain⟨v1,v2,am2,d1,d2,d3,Cw,Cx,aaX,rfl,rfl,rfl,aa,ad,al⟩:=trodAll_three dk
 obtain⟨a1,rfl,o5⟩:=abz aa (uA 0 24 _ (by kernel_rfl) rfl)
 obtain⟨ba,rfl,km⟩:=Ya ad (uA 1 3 _ (by kernel_rfl) rfl)
 obtain⟨b4,rfl,n5⟩:=Ya al (uA 2 3 _ (by kernel_rfl) rfl)
 refine(aaR (akQ bl o5 km n5)).mono ?_
 rintro e jy⟨v,rfl,⟨I',M',rfl⟩,eB⟩
 refine⟨_,rfl,aaS (pa:=_) (pv:=[]) Yh (λ_ _ _=>?_) (λfa ar=>Ry laidOut eB (λt aw=>?_) akY aW fa (λp aO=>ar p (List.mem_append_left _ aO))) (λ_ _=>rfl) rfl eB (ok_one (by kernel_rfl) rfl (okWide_bool_mk Tryz.underlying4 _))⟩
 ·exact trodAll_cons_mk (shut_bool Tryz.underlying4 _) trodAll_mk0
 ·have:=Rr Yg aw
  simp only[Bool.and_eq_true,decide_eq_true_eq]at this
  exact this.1
set_option maxRecDepth 100000 in
theorem akZ(os:Os)(started:os.Started)(H:Type)(enc:TypeId×Value->H)(F:Stop.Interp) :
  ReturnsInHanded {} Tryz.checked os 3 .any ((OpenSpec.ofChange Rows.wellInlinedSpec).preRow enc Tryz.prog Tryz.f3 Rows.wellInlinedRow.domain false Rows.wellInlinedRow.laid) (((OpenSpec.ofChange Rows.wellInlinedSpec).at F).post enc Tryz.prog Tryz.f3 false true false false):=by
 obtain⟨places,ab⟩:=akV os enc
 refine returnsInHanded_of_row (C:=Tryz.checked) (s:=OpenSpec.ofChange Rows.wellInlinedSpec) own started (by kernel_rfl) Tryz.func3
  (witness_row_at (enc:=enc) (C:=Tryz.checked) false (Ki os) #[.agg #[.slice none 0 0],.int .i64 0,.int .i64 0] rfl (by kernel_rfl) (by kernel_rfl) (by kernel_rfl)
   (OpenSpec.preRow_of_cond 8 ab (by kernel_rfl) (λk ae=>by cases ae) (by kernel_rfl) (akU os))) ?_
 intro W c4 args ds gs before uA hZ _ _ _ ek _ _
 exact akW H enc W c4 args ds gs before uA hZ ek
theorem ak0:(Rows.wellInlinedRow.inPlace == Tryz.prog.inPlace 3)=true:=by kernel_rfl
theorem ak1:(Rows.wellInlinedRow.unfollowed == Tryz.prog.unfollowed 3)=true:=by kernel_rfl
theorem ak2:(Rows.wellInlinedRow.recurses == Tryz.prog.recurses 3)=true:=by kernel_rfl
theorem ak3:(Rows.wellInlinedRow.named == Tryz.prog.varsNamed 3)=true:=by kernel_rfl
theorem ak4:(Rows.wellInlinedRow.lifted == Tryz.prog.liftsFinal)=true:=by kernel_rfl
theorem ak5:joinedFacts Tryz.prog 3 Tryz.f3 (OpenSpec.ofChange Rows.wellInlinedSpec).bare Rows.wellInlinedRow=true:=by
 unfold joinedFacts
 rw[laidOut,abA,abB,abC,ak0,ak1,ak2,ak3,ak4]
 kernel_rfl
theorem ak6:Rows.WellInlinedSaid:=
 OpenClaim.holds_of_cond 3 Tryz.f3 rfl rfl rfl rfl rfl rfl rfl ⟨rfl,rfl,rfl,rfl,rfl⟩ rfl rfl rfl rfl rfl (by kernel_rfl) Tryz.func3 ak5
  (of_decide_eq_true (by kernel_rfl)) (by unfold Func.isWrapper;first | (rw[if_pos (by decide +kernel)];kernel_rfl) | (rw[if_neg (by decide +kernel)];exact⟨rfl,rfl⟩))
  (λos started H enc _ F=>by rw[OpenClaim.pre_eq_preRow];exact akZ os started H enc F)
theorem ak7(f:FuncId)(fn:Func)(az:Tryz.pinned.checked.prog.funcNamed "bonsai/bonsailaw13.WellInlined" = some f) (R8:Tryz.pinned.checked.prog.funcs[f]?=some fn) :
  false=Tryz.pinned.checked.prog.looks []/\∀ (j:Nat) t,fn.params[j]?=some t->Tryz.pinned.checked.prog.wantsStandIn t=false:=by
 obtain rfl:f=3:=Option.some.inj ((show Tryz.prog.funcNamed "bonsai/bonsailaw13.WellInlined" = some 3 by kernel_rfl).symm.trans az) |>.symm
 obtain rfl:fn=Tryz.f3:=(Option.some.inj (Tryz.func3.symm.trans R8)).symm
 refine⟨by kernel_rfl,λj t aw=>?_⟩
 have:=Rr Yg (x:=t) (by simpa using Array.mem_of_getElem? aw)
 simp only[Bool.and_eq_true,Bool.not_eq_true',decide_eq_true_eq]at this
 exact this.2
theorem ak8:OpenClaim.wfByText (OpenSpec.ofChange Rows.wellInlinedSpec) Rows.wellInlinedRow=true:=by kernel_rfl
theorem ak9:Tryz.pinned.checked.prog.mainIs=some (true,("34dc408f60bf6ee97a9f5e082f54be184583e947855a37fcd673cffe7e6a9e6b" : String).toList):=by kernel_rfl
theorem ala:false=Rows.wellInlinedRow.goesBy Tryz.pinned.checked.prog:=by kernel_rfl
theorem wellInlined_card:Rows.WellInlinedCardSaid:=
 Claim7.holds_tied_plain_at .later [] _ _ _ _ ak6 (λ_ h=>by cases h) ak8 (λ_ h=>by cases h) wellInlined_row_tie rfl ⟨rfl,rfl⟩ ak9 rfl ak7 ala
end Go.Proofs.YtmncamccjfmbpaaGreatDoor
