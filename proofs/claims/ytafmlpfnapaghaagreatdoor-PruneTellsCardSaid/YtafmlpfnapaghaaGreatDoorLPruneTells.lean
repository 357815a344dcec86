/-
  For every input bonsai/bonsailaw25.PruneTells returns true, and each argument reads behind the call as it read before: the given card, from the walk's contract. Conditions: those of the row itself.
-/
import Derived.Test.YtafmlpfnapaghaaGreatDoorK4
import Derived.Test.YtafmlpfnapaghaaGreatDoorK10
import Derived.Carry
set_option linter.all false
namespace Go.Proofs.YtafmlpfnapaghaaGreatDoor
open Go Go.V Go.ChangeShapes Go.WideShapes Go.ChangeAt Go.RowKit
theorem ap9(os:Os):laidMet Tryz.prog Rows.pruneTellsRow.laid ((Nz os).forCall (λ_ _=>0) ⟨#[],#[.agg #[.slice none 0 0],.agg #[.int .u8 0,.int .u8 0,.int .i64 0,.slice none 0 0,.int .i64 0]],[]⟩).memory:=
 laidMet_of_run' 8 (by kernel_rfl) (by kernel_rfl)
theorem aqa(os:Os){H:Type}(enc:TypeId×Value->H):∃ places,DataW.whole enc Tryz.prog ((Nz os).forCall (λ_ _=>0) ⟨#[],#[.agg #[.slice none 0 0],.agg #[.int .u8 0,.int .u8 0,.int .i64 0,.slice none 0 0,.int .i64 0]],[]⟩).memory Tryz.f3.params.toList Rows.pruneTellsSpec.vars false (#[.agg #[.slice none 0 0],.agg #[.int .u8 0,.int .u8 0,.int .i64 0,.slice none 0 0,.int .i64 0]]:Array Value).toList 8=some ([.agg [.nil],.agg [.lit (.int .u8 0),.lit (.int .u8 0),.lit (.int .i64 0),.nil,.lit (.int .i64 0)]],[],places):=
 ⟨[],by kernel_rfl⟩
theorem acC:(Tryz.f3.params.toList.all λt=>Tryz.prog.readableRec t&&decide (t<Tryz.prog.types.size) && !Tryz.prog.wantsStandIn t)=true:=by kernel_rfl
set_option maxRecDepth 100000 in
theorem aqb(H:Type)(enc:TypeId×Value->H)(W:World)(base:Nat)(args:Array Value)(ds gs:List (DataW H))(before:List MemPlace)
  (yR:∀ (j:Nat) t v,Tryz.f3.params[j]?=some t->args[j]?=some v->Value.okWide Tryz.prog W .any base t v)
  (gi:DataW.Whole enc Tryz.prog Tryz.f3.params.toList Rows.pruneTellsSpec.vars false W args.toList ds gs before) (cL:laidMetH Tryz.prog Rows.pruneTellsRow.laid W) :
  Calls Tryz.prog 3 args W λe ko=>∃ v,e=.returned v/\Rows.pruneTellsSpec.post enc Tryz.prog Tryz.f3 false true false false W args v ko:=by
 have acD:=gi
 obtain⟨p,q,uK,aqc,rfl,asr,bW⟩:=gi
 have e4:DataW.TrodAll enc Tryz.prog W 0 (λ_=>true) true Tryz.f3.params.toList args.toList ds p:=uK
 have aqd:=e4
 rw[Tryz.params3]at e4
 obtain⟨rfl,rfl⟩:=trodVars_none aqc
 have ax:∀ x∈p,x.block<W.heap.size:=λx ae=>acD.lt x (by simp[ae])
 have bA:fr (pY W) cG:=afJ cL rfl
 obtain⟨v1,v2,d1,d2,CO,Fq,rfl,rfl,rfl,U,ab⟩:=trodAll_two e4
 obtain⟨a6,rfl,k'⟩:=afY U (yR 0 24 _ (by kernel_rfl) rfl)
 obtain⟨bb,rfl,lM⟩:=af2 ab (yR 1 27 _ (by kernel_rfl) rfl)
 refine(afo (apZ bA k' lM)).mono ?_
 rintro e ko⟨v,rfl,⟨I',M',rfl⟩,cb⟩
 refine⟨_,rfl,afp (pa:=_) (pv:=[]) acD (λ_ _ _=>?_) (λek ar=>Vm laidOut cb (λt aq=>?_) aqd ax ek (λp aN=>ar p (List.mem_append_left _ aN))) (λ_ _=>rfl) rfl cb (ok_one (by kernel_rfl) rfl (okWide_bool_mk Tryz.underlying4 _))⟩
 ·exact trodAll_cons_mk (shut_bool Tryz.underlying4 _) trodAll_mk0
 ·have:=U9 acC aq
  simp only[Bool.and_eq_true,decide_eq_true_eq]at this
  exact this.1
set_option maxRecDepth 100000 in
theorem aqe(os:Os)(started:os.Started)(H:Type)(enc:TypeId×Value->H)(F:Stop.Interp) :
  ReturnsInHanded {} Tryz.checked os 3 .any ((OpenSpec.ofChange Rows.pruneTellsSpec).preRow enc Tryz.prog Tryz.f3 Rows.pruneTellsRow.domain false Rows.pruneTellsRow.laid) (((OpenSpec.ofChange Rows.pruneTellsSpec).at F).post enc Tryz.prog Tryz.f3 false true false false):=by
 obtain⟨places,ae⟩:=aqa os enc
 refine returnsInHanded_of_row (C:=Tryz.checked) (s:=OpenSpec.ofChange Rows.pruneTellsSpec) own started (by kernel_rfl) Tryz.func3
  (witness_row_at (enc:=enc) (C:=Tryz.checked) false (Nz os) #[.agg #[.slice none 0 0],.agg #[.int .u8 0,.int .u8 0,.int .i64 0,.slice none 0 0,.int .i64 0]] rfl (by kernel_rfl) (by kernel_rfl) (by kernel_rfl)
   (OpenSpec.preRow_of_cond 8 ae (by kernel_rfl) (λk af=>by cases af) (by kernel_rfl) (ap9 os))) ?_
 intro W base args ds gs before yR gi _ _ _ cL _ _
 exact aqb H enc W base args ds gs before yR gi cL
theorem aqf:(Rows.pruneTellsRow.inPlace == Tryz.prog.inPlace 3)=true:=by kernel_rfl
theorem aqg:(Rows.pruneTellsRow.unfollowed == Tryz.prog.unfollowed 3)=true:=by kernel_rfl
theorem aqh:(Rows.pruneTellsRow.recurses == Tryz.prog.recurses 3)=true:=by kernel_rfl
theorem aqi:(Rows.pruneTellsRow.named == Tryz.prog.varsNamed 3)=true:=by kernel_rfl
theorem aqj:(Rows.pruneTellsRow.lifted == Tryz.prog.liftsFinal)=true:=by kernel_rfl
theorem aqk:joinedFacts Tryz.prog 3 Tryz.f3 (OpenSpec.ofChange Rows.pruneTellsSpec).bare Rows.pruneTellsRow=true:=by
 unfold joinedFacts
 rw[laidOut,afZ,af0,af1,aqf,aqg,aqh,aqi,aqj]
 kernel_rfl
theorem aql:Rows.PruneTellsSaid:=
 OpenClaim.holds_of_cond 3 Tryz.f3 rfl rfl rfl rfl rfl rfl rfl ⟨rfl,rfl,rfl,rfl,rfl⟩ rfl rfl rfl rfl rfl (by kernel_rfl) Tryz.func3 aqk
  (of_decide_eq_true (by kernel_rfl)) (by unfold Func.isWrapper;first | (rw[if_pos (by decide +kernel)];kernel_rfl) | (rw[if_neg (by decide +kernel)];exact⟨rfl,rfl⟩))
  (λos started H enc _ F=>by rw[OpenClaim.pre_eq_preRow];exact aqe os started H enc F)
theorem aqm(f:FuncId)(fn:Func)(au:Tryz.pinned.checked.prog.funcNamed "bonsai/bonsailaw25.PruneTells" = some f) (o7:Tryz.pinned.checked.prog.funcs[f]?=some fn) :
  false=Tryz.pinned.checked.prog.looks []/\∀ (j:Nat) t,fn.params[j]?=some t->Tryz.pinned.checked.prog.wantsStandIn t=false:=by
 obtain rfl:f=3:=Option.some.inj ((show Tryz.prog.funcNamed "bonsai/bonsailaw25.PruneTells" = some 3 by kernel_rfl).symm.trans au) |>.symm
 obtain rfl:fn=Tryz.f3:=(Option.some.inj (Tryz.func3.symm.trans o7)).symm
 refine⟨by kernel_rfl,λj t aq=>?_⟩
 have:=U9 acC (x:=t) (by simpa using Array.mem_of_getElem? aq)
 simp only[Bool.and_eq_true,Bool.not_eq_true',decide_eq_true_eq]at this
 exact this.2
theorem aqn:OpenClaim.wfByText (OpenSpec.ofChange Rows.pruneTellsSpec) Rows.pruneTellsRow=true:=by kernel_rfl
theorem aqo:Tryz.pinned.checked.prog.mainIs=some (true,("f4a22e3188c5822a82138098ebeebb8991df346f3f96660d52b76f63c024abde" : String).toList):=by kernel_rfl
theorem aqp:false=Rows.pruneTellsRow.goesBy Tryz.pinned.checked.prog:=by kernel_rfl
theorem pruneTells_card:Rows.PruneTellsCardSaid:=
 Claim7.holds_tied_plain_at .later [] _ _ _ _ aql (λ_ h=>by cases h) aqn (λ_ h=>by cases h) pruneTells_row_tie rfl ⟨rfl,rfl⟩ aqo rfl aqm aqp
end Go.Proofs.YtafmlpfnapaghaaGreatDoor
