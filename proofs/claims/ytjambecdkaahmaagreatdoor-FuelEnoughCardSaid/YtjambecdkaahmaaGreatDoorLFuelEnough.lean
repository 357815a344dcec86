/-
  For every input bonsai/bonsailaw17.FuelEnough returns true, and each argument reads behind the call as it read before: the given card, from the walk's contract. Conditions: those of the row itself.
-/
import Derived.Test.YtjambecdkaahmaaGreatDoorK3
import Derived.Test.YtjambecdkaahmaaGreatDoorK10
import Derived.Carry
set_option linter.all false
namespace Go.Proofs.YtjambecdkaahmaaGreatDoor
open Go Go.V Go.ChangeShapes Go.WideShapes Go.ChangeAt Go.RowKit
theorem asW(os:Os):laidMet Tryz.prog Rows.fuelEnoughRow.laid ((EH os).forCall (λ_ _=>0) ⟨#[],#[.agg #[.slice none 0 0],.string ⟨#[]⟩,.int .i64 0],[]⟩).memory:=
 laidMet_of_run' 8 (by kernel_rfl) (by kernel_rfl)
theorem asX(os:Os){H:Type}(enc:TypeId×Value->H):∃ places,DataW.whole enc Tryz.prog ((EH os).forCall (λ_ _=>0) ⟨#[],#[.agg #[.slice none 0 0],.string ⟨#[]⟩,.int .i64 0],[]⟩).memory Tryz.f7.params.toList Rows.fuelEnoughSpec.vars false (#[.agg #[.slice none 0 0],.string ⟨#[]⟩,.int .i64 0]:Array Value).toList 8=some ([.agg [.nil],.lit (.string []),.lit (.int .i64 0)],[],places):=
 ⟨[],by kernel_rfl⟩
theorem afm:(Tryz.f7.params.toList.all λt=>Tryz.prog.readableRec t&&decide (t<Tryz.prog.types.size) && !Tryz.prog.wantsStandIn t)=true:=by kernel_rfl
set_option maxRecDepth 100000 in
theorem asY(H:Type)(enc:TypeId×Value->H)(W:World)(aq:Nat)(args:Array Value)(ds gs:List (DataW H))(before:List MemPlace)
  (rc:∀ (j:Nat) t v,Tryz.f7.params[j]?=some t->args[j]?=some v->Value.okWide Tryz.prog W .any aq t v)
  (hd:DataW.Whole enc Tryz.prog Tryz.f7.params.toList Rows.fuelEnoughSpec.vars false W args.toList ds gs before) (c4:laidMetH Tryz.prog Rows.fuelEnoughRow.laid W) :
  Calls Tryz.prog 7 args W λe kv=>∃ v,e=.returned v/\Rows.fuelEnoughSpec.post enc Tryz.prog Tryz.f7 false true false false W args v kv:=by
 have J2:=hd
 obtain⟨p,q,tY,UU,rfl,TJ,bV⟩:=hd
 have gl:DataW.TrodAll enc Tryz.prog W 0 (λ_=>true) true Tryz.f7.params.toList args.toList ds p:=tY
 have UW:=gl
 rw[Tryz.params7]at gl
 obtain⟨rfl,rfl⟩:=trodVars_none UU
 have a0:∀ x∈p,x.block<W.heap.size:=λx ab=>J2.lt x (by simp[ab])
 have bO:gu (rk W) iN:=XC c4 rfl
 obtain⟨v1,v2,AV,d1,d2,d3,pH,pI,uV,rfl,rfl,rfl,U,aa,af⟩:=trodAll_three gl
 obtain⟨a3,rfl,g6⟩:=XH U (rc 0 24 _ (by kernel_rfl) rfl)
 obtain⟨a6,rfl,iJ⟩:=XL aa (rc 1 9 _ (by kernel_rfl) rfl)
 obtain⟨bN,rfl,mq⟩:=Ln af (rc 2 3 _ (by kernel_rfl) rfl)
 refine(Xs (asw bO g6 iJ mq)).mono ?_
 rintro e kv⟨v,rfl,⟨I',M',rfl⟩,fN⟩
 refine⟨_,rfl,Xt (pa:=_) (pv:=[]) J2 (λ_ _ _=>?_) (λfA ax=>P9 laidOut fN (λt aI=>?_) UW a0 fA (λp aK=>ax p (List.mem_append_left _ aK))) (λ_ _=>rfl) rfl fN (ok_one (by kernel_rfl) rfl (okWide_bool_mk Tryz.underlying4 _))⟩
 ·exact trodAll_cons_mk (shut_bool Tryz.underlying4 _) trodAll_mk0
 ·have:=Li afm aI
  simp only[Bool.and_eq_true,decide_eq_true_eq]at this
  exact this.1
set_option maxRecDepth 100000 in
theorem asZ(os:Os)(started:os.Started)(H:Type)(enc:TypeId×Value->H)(F:Stop.Interp) :
  ReturnsInHanded {} Tryz.checked os 7 .any ((OpenSpec.ofChange Rows.fuelEnoughSpec).preRow enc Tryz.prog Tryz.f7 Rows.fuelEnoughRow.domain false Rows.fuelEnoughRow.laid) (((OpenSpec.ofChange Rows.fuelEnoughSpec).at F).post enc Tryz.prog Tryz.f7 false true false false):=by
 obtain⟨places,ab⟩:=asX os enc
 refine returnsInHanded_of_row (C:=Tryz.checked) (s:=OpenSpec.ofChange Rows.fuelEnoughSpec) own started (by kernel_rfl) Tryz.func7
  (witness_row_at (enc:=enc) (C:=Tryz.checked) false (EH os) #[.agg #[.slice none 0 0],.string ⟨#[]⟩,.int .i64 0] rfl (by kernel_rfl) (by kernel_rfl) (by kernel_rfl)
   (OpenSpec.preRow_of_cond 8 ab (by kernel_rfl) (λk ae=>by cases ae) (by kernel_rfl) (asW os))) ?_
 intro W aq args ds gs before rc hd _ _ _ c4 _ _
 exact asY H enc W aq args ds gs before rc hd c4
theorem as0:(Rows.fuelEnoughRow.inPlace == Tryz.prog.inPlace 7)=true:=by kernel_rfl
theorem as1:(Rows.fuelEnoughRow.unfollowed == Tryz.prog.unfollowed 7)=true:=by kernel_rfl
theorem as2:(Rows.fuelEnoughRow.recurses == Tryz.prog.recurses 7)=true:=by kernel_rfl
theorem as3:(Rows.fuelEnoughRow.named == Tryz.prog.varsNamed 7)=true:=by kernel_rfl
theorem as4:(Rows.fuelEnoughRow.lifted == Tryz.prog.liftsFinal)=true:=by kernel_rfl
theorem as5:joinedFacts Tryz.prog 7 Tryz.f7 (OpenSpec.ofChange Rows.fuelEnoughSpec).bare Rows.fuelEnoughRow=true:=by
 unfold joinedFacts
 rw[laidOut,XI,XJ,XK,as0,as1,as2,as3,as4]
 kernel_rfl
theorem as6:Rows.FuelEnoughSaid:=
 OpenClaim.holds_of_cond 7 Tryz.f7 rfl rfl rfl rfl rfl rfl rfl ⟨rfl,rfl,rfl,rfl,rfl⟩ rfl rfl rfl rfl rfl (by kernel_rfl) Tryz.func7 as5
  (of_decide_eq_true (by kernel_rfl)) (by unfold Func.isWrapper;first | (rw[if_pos (by decide +kernel)];kernel_rfl) | (rw[if_neg (by decide +kernel)];exact⟨rfl,rfl⟩))
  (λos started H enc _ F=>by rw[OpenClaim.pre_eq_preRow];exact asZ os started H enc F)
theorem as7(f:FuncId)(fn:Func)(ar:Tryz.pinned.checked.prog.funcNamed "bonsai/bonsailaw17.FuelEnough" = some f) (zz:Tryz.pinned.checked.prog.funcs[f]?=some fn) :
  false=Tryz.pinned.checked.prog.looks []/\∀ (j:Nat) t,fn.params[j]?=some t->Tryz.pinned.checked.prog.wantsStandIn t=false:=by
 obtain rfl:f=7:=Option.some.inj ((show Tryz.prog.funcNamed "bonsai/bonsailaw17.FuelEnough" = some 7 by kernel_rfl).symm.trans ar) |>.symm
 obtain rfl:fn=Tryz.f7:=(Option.some.inj (Tryz.func7.symm.trans zz)).symm
 refine⟨by kernel_rfl,λj t aI=>?_⟩
 have:=Li afm (x:=t) (by simpa using Array.mem_of_getElem? aI)
 simp only[Bool.and_eq_true,Bool.not_eq_true',decide_eq_true_eq]at this
 exact this.2
theorem as8:OpenClaim.wfByText (OpenSpec.ofChange Rows.fuelEnoughSpec) Rows.fuelEnoughRow=true:=by kernel_rfl
theorem as9:Tryz.pinned.checked.prog.mainIs=some (true,("39a6ce8a499866adced8f47668c8134e933105eaef65c93e8f203f0e4f93e92a" : String).toList):=by kernel_rfl
theorem ata:false=Rows.fuelEnoughRow.goesBy Tryz.pinned.checked.prog:=by kernel_rfl
theorem fuelEnough_card:Rows.FuelEnoughCardSaid:=
 Claim7.holds_tied_plain_at .later [] _ _ _ _ as6 (λ_ h=>by cases h) as8 (λ_ h=>by cases h) fuelEnough_row_tie rfl ⟨rfl,rfl⟩ as9 rfl as7 ata
end Go.Proofs.YtjambecdkaahmaaGreatDoor
