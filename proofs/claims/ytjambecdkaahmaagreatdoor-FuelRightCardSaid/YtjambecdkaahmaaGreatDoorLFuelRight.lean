/-
  For every input bonsai/bonsailaw17.FuelRight returns true, and each argument reads behind the call as it read before: the given card, from the walk's contract. Conditions: those of the row itself.
-/
import Derived.Test.YtjambecdkaahmaaGreatDoorK3
import Derived.Test.YtjambecdkaahmaaGreatDoorK10
import Derived.Carry
set_option linter.all false
namespace Go.Proofs.YtjambecdkaahmaaGreatDoor
open Go Go.V Go.ChangeShapes Go.WideShapes Go.ChangeAt Go.RowKit
theorem asH(os:Os):laidMet Tryz.prog Rows.fuelRightRow.laid ((EH os).forCall (λ_ _=>0) ⟨#[],#[.agg #[.slice none 0 0],.int .i64 0,.string ⟨#[]⟩,.int .i64 0,.int .i64 0],[]⟩).memory:=
 laidMet_of_run' 8 (by kernel_rfl) (by kernel_rfl)
theorem asI(os:Os){H:Type}(enc:TypeId×Value->H):∃ places,DataW.whole enc Tryz.prog ((EH os).forCall (λ_ _=>0) ⟨#[],#[.agg #[.slice none 0 0],.int .i64 0,.string ⟨#[]⟩,.int .i64 0,.int .i64 0],[]⟩).memory Tryz.f6.params.toList Rows.fuelRightSpec.vars false (#[.agg #[.slice none 0 0],.int .i64 0,.string ⟨#[]⟩,.int .i64 0,.int .i64 0]:Array Value).toList 8=some ([.agg [.nil],.lit (.int .i64 0),.lit (.string []),.lit (.int .i64 0),.lit (.int .i64 0)],[],places):=
 ⟨[],by kernel_rfl⟩
theorem afl:(Tryz.f6.params.toList.all λt=>Tryz.prog.readableRec t&&decide (t<Tryz.prog.types.size) && !Tryz.prog.wantsStandIn t)=true:=by kernel_rfl
set_option maxRecDepth 100000 in
theorem asJ(H:Type)(enc:TypeId×Value->H)(W:World)(aq:Nat)(args:Array Value)(ds gs:List (DataW H))(before:List MemPlace)
  (rc:∀ (j:Nat) t v,Tryz.f6.params[j]?=some t->args[j]?=some v->Value.okWide Tryz.prog W .any aq t v)
  (hd:DataW.Whole enc Tryz.prog Tryz.f6.params.toList Rows.fuelRightSpec.vars false W args.toList ds gs before) (c4:laidMetH Tryz.prog Rows.fuelRightRow.laid W) :
  Calls Tryz.prog 6 args W λe kv=>∃ v,e=.returned v/\Rows.fuelRightSpec.post enc Tryz.prog Tryz.f6 false true false false W args v kv:=by
 have J2:=hd
 obtain⟨p,q,tY,UU,rfl,TJ,bV⟩:=hd
 have gl:DataW.TrodAll enc Tryz.prog W 0 (λ_=>true) true Tryz.f6.params.toList args.toList ds p:=tY
 have UW:=gl
 rw[Tryz.params6]at gl
 obtain⟨rfl,rfl⟩:=trodVars_none UU
 have a0:∀ x∈p,x.block<W.heap.size:=λx ab=>J2.lt x (by simp[ab])
 have bO:gu (rk W) iN:=XC c4 rfl
 obtain⟨v1,v2,AV,v4,au8,d1,d2,d3,d4,d5,pH,pI,uV,CJ,ahY,rfl,rfl,rfl,U,aa,af,aN,bq⟩:=ais gl
 obtain⟨a3,rfl,g6⟩:=XH U (rc 0 24 _ (by kernel_rfl) rfl)
 obtain⟨a6,rfl,iJ⟩:=Ln aa (rc 1 3 _ (by kernel_rfl) rfl)
 obtain⟨bN,rfl,mq⟩:=XL af (rc 2 9 _ (by kernel_rfl) rfl)
 obtain⟨gP,rfl,xG⟩:=Ln aN (rc 3 3 _ (by kernel_rfl) rfl)
 obtain⟨pA,rfl,CK⟩:=Ln bq (rc 4 3 _ (by kernel_rfl) rfl)
 refine(Xs (asb bO g6 iJ mq xG CK)).mono ?_
 rintro e kv⟨v,rfl,⟨I',M',rfl⟩,fN⟩
 refine⟨_,rfl,Xt (pa:=_) (pv:=[]) J2 (λ_ _ _=>?_) (λfA ax=>P9 laidOut fN (λt aI=>?_) UW a0 fA (λp aK=>ax p (List.mem_append_left _ aK))) (λ_ _=>rfl) rfl fN (ok_one (by kernel_rfl) rfl (okWide_bool_mk Tryz.underlying4 _))⟩
 ·exact trodAll_cons_mk (shut_bool Tryz.underlying4 _) trodAll_mk0
 ·have:=Li afl aI
  simp only[Bool.and_eq_true,decide_eq_true_eq]at this
  exact this.1
set_option maxRecDepth 100000 in
theorem asK(os:Os)(started:os.Started)(H:Type)(enc:TypeId×Value->H)(F:Stop.Interp) :
  ReturnsInHanded {} Tryz.checked os 6 .any ((OpenSpec.ofChange Rows.fuelRightSpec).preRow enc Tryz.prog Tryz.f6 Rows.fuelRightRow.domain false Rows.fuelRightRow.laid) (((OpenSpec.ofChange Rows.fuelRightSpec).at F).post enc Tryz.prog Tryz.f6 false true false false):=by
 obtain⟨places,ab⟩:=asI os enc
 refine returnsInHanded_of_row (C:=Tryz.checked) (s:=OpenSpec.ofChange Rows.fuelRightSpec) own started (by kernel_rfl) Tryz.func6
  (witness_row_at (enc:=enc) (C:=Tryz.checked) false (EH os) #[.agg #[.slice none 0 0],.int .i64 0,.string ⟨#[]⟩,.int .i64 0,.int .i64 0] rfl (by kernel_rfl) (by kernel_rfl) (by kernel_rfl)
   (OpenSpec.preRow_of_cond 8 ab (by kernel_rfl) (λk ae=>by cases ae) (by kernel_rfl) (asH os))) ?_
 intro W aq args ds gs before rc hd _ _ _ c4 _ _
 exact asJ H enc W aq args ds gs before rc hd c4
theorem asL:(Rows.fuelRightRow.inPlace == Tryz.prog.inPlace 6)=true:=by kernel_rfl
theorem asM:(Rows.fuelRightRow.unfollowed == Tryz.prog.unfollowed 6)=true:=by kernel_rfl
theorem asN:(Rows.fuelRightRow.recurses == Tryz.prog.recurses 6)=true:=by kernel_rfl
theorem asO:(Rows.fuelRightRow.named == Tryz.prog.varsNamed 6)=true:=by kernel_rfl
theorem asP:(Rows.fuelRightRow.lifted == Tryz.prog.liftsFinal)=true:=by kernel_rfl
theorem asQ:joinedFacts Tryz.prog 6 Tryz.f6 (OpenSpec.ofChange Rows.fuelRightSpec).bare Rows.fuelRightRow=true:=by
 unfold joinedFacts
 rw[laidOut,XI,XJ,XK,asL,asM,asN,asO,asP]
 kernel_rfl
theorem asR:Rows.FuelRightSaid:=
 OpenClaim.holds_of_cond 6 Tryz.f6 rfl rfl rfl rfl rfl rfl rfl ⟨rfl,rfl,rfl,rfl,rfl⟩ rfl rfl rfl rfl rfl (by kernel_rfl) Tryz.func6 asQ
  (of_decide_eq_true (by kernel_rfl)) (by unfold Func.isWrapper;first | (rw[if_pos (by decide +kernel)];kernel_rfl) | (rw[if_neg (by decide +kernel)];exact⟨rfl,rfl⟩))
  (λos started H enc _ F=>by rw[OpenClaim.pre_eq_preRow];exact asK os started H enc F)
theorem asS(f:FuncId)(fn:Func)(ar:Tryz.pinned.checked.prog.funcNamed "bonsai/bonsailaw17.FuelRight" = some f) (zz:Tryz.pinned.checked.prog.funcs[f]?=some fn) :
  false=Tryz.pinned.checked.prog.looks []/\∀ (j:Nat) t,fn.params[j]?=some t->Tryz.pinned.checked.prog.wantsStandIn t=false:=by
 obtain rfl:f=6:=Option.some.inj ((show Tryz.prog.funcNamed "bonsai/bonsailaw17.FuelRight" = some 6 by kernel_rfl).symm.trans ar) |>.symm
 obtain rfl:fn=Tryz.f6:=(Option.some.inj (Tryz.func6.symm.trans zz)).symm
 refine⟨by kernel_rfl,λj t aI=>?_⟩
 have:=Li afl (x:=t) (by simpa using Array.mem_of_getElem? aI)
 simp only[Bool.and_eq_true,Bool.not_eq_true',decide_eq_true_eq]at this
 exact this.2
theorem asT:OpenClaim.wfByText (OpenSpec.ofChange Rows.fuelRightSpec) Rows.fuelRightRow=true:=by kernel_rfl
theorem asU:Tryz.pinned.checked.prog.mainIs=some (true,("39a6ce8a499866adced8f47668c8134e933105eaef65c93e8f203f0e4f93e92a" : String).toList):=by kernel_rfl
theorem asV:false=Rows.fuelRightRow.goesBy Tryz.pinned.checked.prog:=by kernel_rfl
theorem fuelRight_card:Rows.FuelRightCardSaid:=
 Claim7.holds_tied_plain_at .later [] _ _ _ _ asR (λ_ h=>by cases h) asT (λ_ h=>by cases h) fuelRight_row_tie rfl ⟨rfl,rfl⟩ asU rfl asS asV
end Go.Proofs.YtjambecdkaahmaaGreatDoor
