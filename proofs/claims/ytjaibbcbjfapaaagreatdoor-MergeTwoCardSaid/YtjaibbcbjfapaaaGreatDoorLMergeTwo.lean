/-
  For every input bonsai/bonsailaw23.MergeTwo returns true, and each argument reads behind the call as it read before: the given card, from the walk's contract. Conditions: those of the row itself.
-/
import Derived.Test.YtjaibbcbjfapaaaGreatDoorK3
import Derived.Test.YtjaibbcbjfapaaaGreatDoorK10
import Derived.Carry
set_option linter.all false
namespace Go.Proofs.YtjaibbcbjfapaaaGreatDoor
open Go Go.V Go.ChangeShapes Go.WideShapes Go.ChangeAt Go.RowKit
theorem avY(os:Os):laidMet Tryz.prog Rows.mergeTwoRow.laid ((PY os).forCall (λ_ _=>0) ⟨#[],#[.agg #[.slice none 0 0,.int .i64 0],.agg #[.slice none 0 0,.int .i64 0],.int .u8 0],[]⟩).memory:=
 laidMet_of_run' 8 d4 d4
theorem avZ(os:Os){H:Type}(enc:TypeId×Value->H):∃ places,DataW.whole enc Tryz.prog ((PY os).forCall (λ_ _=>0) ⟨#[],#[.agg #[.slice none 0 0,.int .i64 0],.agg #[.slice none 0 0,.int .i64 0],.int .u8 0],[]⟩).memory Tryz.f3.params.toList Rows.mergeTwoSpec.vars false (#[.agg #[.slice none 0 0,.int .i64 0],.agg #[.slice none 0 0,.int .i64 0],.int .u8 0]:Array Value).toList 8=some ([.agg [.nil,.lit (.int .i64 0)],.agg [.nil,.lit (.int .i64 0)],.lit (.int .u8 0)],[],places):=
 ⟨[],d4⟩
theorem agE:(Tryz.f3.params.toList.all λt=>Tryz.prog.readableRec t&&decide (t<Tryz.prog.types.size) && !Tryz.prog.wantsStandIn t)=true:=by kernel_rfl
set_option maxRecDepth 100000 in
theorem av0(H:Type)(enc:TypeId×Value->H)(W:World)(da:Nat)(args:Array Value)(ds gs:List (DataW H))(before:List MemPlace)
  (x2:∀ (j:Nat) t v,Tryz.f3.params[j]?=some t->args[j]?=some v->Value.okWide Tryz.prog W .any da t v)
  (hG:DataW.Whole enc Tryz.prog Tryz.f3.params.toList Rows.mergeTwoSpec.vars false W args.toList ds gs before) (ca:laidMetH Tryz.prog Rows.mergeTwoRow.laid W) :
  Calls Tryz.prog 3 args W λe km=>∃ v,e=.returned v/\Rows.mergeTwoSpec.post enc Tryz.prog Tryz.f3 false true false false W args v km:=by
 have agF:=hG
 obtain⟨p,q,vu,av1,rfl,ayF,bW⟩:=hG
 have dz:DataW.TrodAll enc Tryz.prog W 0 (λ_=>true) true Tryz.f3.params.toList args.toList ds p:=vu
 have av2:=dz
 rw[Tryz.params3]at dz
 obtain⟨rfl,rfl⟩:=trodVars_none av1
 have aV:∀ x∈p,x.block<W.heap.size:=λx ae=>agF.lt x f0
 have bm:fr (u9 W) kK:=ajm ca rfl
 obtain⟨v1,v2,ayG,d1,d2,d3,BU,BV,ai5,rfl,rfl,rfl,aa,ab,al⟩:=trodAll_three dz
 obtain⟨bb,rfl,rC⟩:=X1 aa (x2 0 24 _ d4 rfl)
 obtain⟨bh,rfl,l8⟩:=X1 ab (x2 1 24 _ d4 rfl)
 obtain⟨b2,rfl,o4⟩:=ajH al (x2 2 5 _ d4 rfl)
 refine(ai0 (avR bm rC l8 o4)).mono ?_
 rintro e km⟨v,rfl,⟨I',M',rfl⟩,c7⟩
 refine⟨_,rfl,ai1 (pa:=_) (pv:=[]) agF (λ_ _ _=>?_) (λgI aw=>X0 laidOut c7 (λt au=>?_) av2 aV gI (λp aK=>aw p (List.mem_append_left _ aK))) (λ_ _=>rfl) rfl c7 (ok_one d4 rfl (okWide_bool_mk Tryz.underlying4 _))⟩
 ·exact trodAll_cons_mk (shut_bool Tryz.underlying4 _) trodAll_mk0
 ·have:=XP agE au
  simp only[Bool.and_eq_true,decide_eq_true_eq]at this
  exact this.1
set_option maxRecDepth 100000 in
theorem av3(os:Os)(started:os.Started)(H:Type)(enc:TypeId×Value->H)(F:Stop.Interp) :
  ReturnsInHanded {} Tryz.checked os 3 .any ((OpenSpec.ofChange Rows.mergeTwoSpec).preRow enc Tryz.prog Tryz.f3 Rows.mergeTwoRow.domain false Rows.mergeTwoRow.laid) (((OpenSpec.ofChange Rows.mergeTwoSpec).at F).post enc Tryz.prog Tryz.f3 false true false false):=by
 obtain⟨places,ae⟩:=avZ os enc
 refine returnsInHanded_of_row (C:=Tryz.checked) (s:=OpenSpec.ofChange Rows.mergeTwoSpec) own started d4 Tryz.func3
  (witness_row_at (enc:=enc) (C:=Tryz.checked) false (PY os) #[.agg #[.slice none 0 0,.int .i64 0],.agg #[.slice none 0 0,.int .i64 0],.int .u8 0] rfl d4 d4 d4
   (OpenSpec.preRow_of_cond 8 ae d4 (λk af=>aig) d4 (avY os))) ?_
 intro W da args ds gs before x2 hG _ _ _ ca _ _
 exact av0 H enc W da args ds gs before x2 hG ca
theorem av4:(Rows.mergeTwoRow.inPlace == Tryz.prog.inPlace 3)=true:=by kernel_rfl
theorem av5:(Rows.mergeTwoRow.unfollowed == Tryz.prog.unfollowed 3)=true:=by kernel_rfl
theorem av6:(Rows.mergeTwoRow.recurses == Tryz.prog.recurses 3)=true:=by kernel_rfl
theorem av7:(Rows.mergeTwoRow.named == Tryz.prog.varsNamed 3)=true:=by kernel_rfl
theorem av8:(Rows.mergeTwoRow.lifted == Tryz.prog.liftsFinal)=true:=by kernel_rfl
theorem av9:joinedFacts Tryz.prog 3 Tryz.f3 (OpenSpec.ofChange Rows.mergeTwoSpec).bare Rows.mergeTwoRow=true:=by
 unfold joinedFacts
 rw[laidOut,ajE,ajF,ajG,av4,av5,av6,av7,av8]
 kernel_rfl
theorem awa:Rows.MergeTwoSaid:=
 OpenClaim.holds_of_cond 3 Tryz.f3 rfl rfl rfl rfl rfl rfl rfl ⟨rfl,rfl,rfl,rfl,rfl⟩ rfl rfl rfl rfl rfl d4 Tryz.func3 av9
  (of_decide_eq_true d4) (by unfold Func.isWrapper;first | (rw[if_pos (by decide +kernel)];kernel_rfl) | (rw[if_neg (by decide +kernel)];exact⟨rfl,rfl⟩))
  (λos started H enc _ F=>by rw[OpenClaim.pre_eq_preRow];exact av3 os started H enc F)
theorem awb(f:FuncId)(fn:Func)(aC:Tryz.pinned.checked.prog.funcNamed "bonsai/bonsailaw23.MergeTwo" = some f) (wY:Tryz.pinned.checked.prog.funcs[f]?=some fn) :
  false=Tryz.pinned.checked.prog.looks []/\∀ (j:Nat) t,fn.params[j]?=some t->Tryz.pinned.checked.prog.wantsStandIn t=false:=by
 obtain rfl:f=3:=Option.some.inj ((show Tryz.prog.funcNamed "bonsai/bonsailaw23.MergeTwo" = some 3 by kernel_rfl).symm.trans aC) |>.symm
 obtain rfl:fn=Tryz.f3:=(Option.some.inj (Tryz.func3.symm.trans wY)).symm
 refine⟨d4,λj t au=>?_⟩
 have:=XP agE (x:=t) (by simpa using Array.mem_of_getElem? au)
 simp only[Bool.and_eq_true,Bool.not_eq_true',decide_eq_true_eq]at this
 exact this.2
theorem awc:OpenClaim.wfByText (OpenSpec.ofChange Rows.mergeTwoSpec) Rows.mergeTwoRow=true:=by kernel_rfl
theorem awd:Tryz.pinned.checked.prog.mainIs=some (true,("f6e05600405611aafdff06fe37367637cfcab227e252189e41e322a5588f4a38" : String).toList):=by kernel_rfl
theorem awe:false=Rows.mergeTwoRow.goesBy Tryz.pinned.checked.prog:=by kernel_rfl
theorem mergeTwo_card:Rows.MergeTwoCardSaid:=
 Claim7.holds_tied_plain_at .later [] _ _ _ _ awa (λ_ h=>ci) awc (λ_ h=>ci) mergeTwo_row_tie rfl ⟨rfl,rfl⟩ awd rfl awb awe
end Go.Proofs.YtjaibbcbjfapaaaGreatDoor
