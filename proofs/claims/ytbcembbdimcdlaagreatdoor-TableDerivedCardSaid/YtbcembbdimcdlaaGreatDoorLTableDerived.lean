/-
  For every input bonsai/bonsailaw15.TableDerived returns true, and each argument reads behind the call as it read before: the given card, from the walk's contract. Conditions: those of the row itself.
-/
import Derived.Test.YtbcembbdimcdlaaGreatDoorK4
import Derived.Test.YtbcembbdimcdlaaGreatDoorK10
import Derived.Carry
set_option linter.all false
namespace Go.Proofs.YtbcembbdimcdlaaGreatDoor
open Go Go.V Go.ChangeShapes Go.WideShapes Go.ChangeAt Go.RowKit
theorem arJ(os:Os):laidMet Tryz.prog Rows.tableDerivedRow.laid ((Pl os).forCall (λ_ _=>0) ⟨#[],#[.agg #[.slice none 0 0],.string ⟨#[]⟩,.int .i64 0],[]⟩).memory:=
 laidMet_of_run' 8 (by kernel_rfl) (by kernel_rfl)
theorem arK(os:Os){H:Type}(enc:TypeId×Value->H):∃ places,DataW.whole enc Tryz.prog ((Pl os).forCall (λ_ _=>0) ⟨#[],#[.agg #[.slice none 0 0],.string ⟨#[]⟩,.int .i64 0],[]⟩).memory Tryz.f3.params.toList Rows.tableDerivedSpec.vars false (#[.agg #[.slice none 0 0],.string ⟨#[]⟩,.int .i64 0]:Array Value).toList 8=some ([.agg [.nil],.lit (.string []),.lit (.int .i64 0)],[],places):=
 ⟨[],by kernel_rfl⟩
theorem aeb:(Tryz.f3.params.toList.all λt=>Tryz.prog.readableRec t&&decide (t<Tryz.prog.types.size) && !Tryz.prog.wantsStandIn t)=true:=by kernel_rfl
set_option maxRecDepth 100000 in
theorem arL(H:Type)(enc:TypeId×Value->H)(W:World)(aW:Nat)(args:Array Value)(ds gs:List (DataW H))(before:List MemPlace)
  (B1:∀ (j:Nat) t v,Tryz.f3.params[j]?=some t->args[j]?=some v->Value.okWide Tryz.prog W .any aW t v)
  (hP:DataW.Whole enc Tryz.prog Tryz.f3.params.toList Rows.tableDerivedSpec.vars false W args.toList ds gs before) (cT:laidMetH Tryz.prog Rows.tableDerivedRow.laid W) :
  Calls Tryz.prog 3 args W λe lb=>∃ v,e=.returned v/\Rows.tableDerivedSpec.post enc Tryz.prog Tryz.f3 false true false false W args v lb:=by
 have aec:=hP
 obtain⟨p,q,wv,arM,rfl,adO,cf⟩:=hP
 have h5:DataW.TrodAll enc Tryz.prog W 0 (λ_=>true) true Tryz.f3.params.toList args.toList ds p:=wv
 have iQ:=h5
 rw[Tryz.params3]at h5
 obtain⟨rfl,rfl⟩:=trodVars_none arM
 have aS:∀ x∈p,x.block<W.heap.size:=λx ab=>aec.lt x (by simp[ab])
 have bM:hU (r3 W) oK:=agW cT rfl
 obtain⟨v1,v2,aqm,d1,d2,d3,bC,p6,h',rfl,rfl,rfl,U,aa,af⟩:=trodAll_three h5
 obtain⟨aV,rfl,nQ⟩:=ahf U (B1 0 24 _ (by kernel_rfl) rfl)
 obtain⟨a3,rfl,kP⟩:=ahk aa (B1 1 9 _ (by kernel_rfl) rfl)
 obtain⟨bW,rfl,oE⟩:=ahj af (B1 2 3 _ (by kernel_rfl) rfl)
 refine(agC (arp bM nQ kP oE)).mono ?_
 rintro e lb⟨v,rfl,⟨I',M',rfl⟩,fv⟩
 refine⟨_,rfl,agD (pa:=_) (pv:=[]) aec (λ_ _ _=>?_) (λfk ar=>WX laidOut fv (λt av=>?_) iQ aS fk (λp aD=>ar p (List.mem_append_left _ aD))) (λ_ _=>rfl) rfl fv (ok_one (by kernel_rfl) rfl (okWide_bool_mk Tryz.underlying4 _))⟩
 ·exact trodAll_cons_mk (shut_bool Tryz.underlying4 _) trodAll_mk0
 ·have:=WO aeb av
  simp only[Bool.and_eq_true,decide_eq_true_eq]at this
  exact this.1
set_option maxRecDepth 100000 in
theorem arN(os:Os)(started:os.Started)(H:Type)(enc:TypeId×Value->H)(F:Stop.Interp) :
  ReturnsInHanded {} Tryz.checked os 3 .any ((OpenSpec.ofChange Rows.tableDerivedSpec).preRow enc Tryz.prog Tryz.f3 Rows.tableDerivedRow.domain false Rows.tableDerivedRow.laid) (((OpenSpec.ofChange Rows.tableDerivedSpec).at F).post enc Tryz.prog Tryz.f3 false true false false):=by
 obtain⟨places,ab⟩:=arK os enc
 refine returnsInHanded_of_row (C:=Tryz.checked) (s:=OpenSpec.ofChange Rows.tableDerivedSpec) own started (by kernel_rfl) Tryz.func3
  (witness_row_at (enc:=enc) (C:=Tryz.checked) false (Pl os) #[.agg #[.slice none 0 0],.string ⟨#[]⟩,.int .i64 0] rfl (by kernel_rfl) (by kernel_rfl) (by kernel_rfl)
   (OpenSpec.preRow_of_cond 8 ab (by kernel_rfl) (λk ae=>by cases ae) (by kernel_rfl) (arJ os))) ?_
 intro W aW args ds gs before B1 hP _ _ _ cT _ _
 exact arL H enc W aW args ds gs before B1 hP cT
theorem arO:(Rows.tableDerivedRow.inPlace == Tryz.prog.inPlace 3)=true:=by kernel_rfl
theorem arP:(Rows.tableDerivedRow.unfollowed == Tryz.prog.unfollowed 3)=true:=by kernel_rfl
theorem arQ:(Rows.tableDerivedRow.recurses == Tryz.prog.recurses 3)=true:=by kernel_rfl
theorem arR:(Rows.tableDerivedRow.named == Tryz.prog.varsNamed 3)=true:=by kernel_rfl
theorem arS:(Rows.tableDerivedRow.lifted == Tryz.prog.liftsFinal)=true:=by kernel_rfl
theorem arT:joinedFacts Tryz.prog 3 Tryz.f3 (OpenSpec.ofChange Rows.tableDerivedSpec).bare Rows.tableDerivedRow=true:=by
 unfold joinedFacts
 rw[laidOut,ahg,ahh,ahi,arO,arP,arQ,arR,arS]
 kernel_rfl
theorem arU:Rows.TableDerivedSaid:=
 OpenClaim.holds_of_cond 3 Tryz.f3 rfl rfl rfl rfl rfl rfl rfl ⟨rfl,rfl,rfl,rfl,rfl⟩ rfl rfl rfl rfl rfl (by kernel_rfl) Tryz.func3 arT
  (of_decide_eq_true (by kernel_rfl)) (by unfold Func.isWrapper;first | (rw[if_pos (by decide +kernel)];kernel_rfl) | (rw[if_neg (by decide +kernel)];exact⟨rfl,rfl⟩))
  (λos started H enc _ F=>by rw[OpenClaim.pre_eq_preRow];exact arN os started H enc F)
theorem arV(f:FuncId)(fn:Func)(aC:Tryz.pinned.checked.prog.funcNamed "bonsai/bonsailaw15.TableDerived" = some f) (XD:Tryz.pinned.checked.prog.funcs[f]?=some fn) :
  false=Tryz.pinned.checked.prog.looks []/\∀ (j:Nat) t,fn.params[j]?=some t->Tryz.pinned.checked.prog.wantsStandIn t=false:=by
 obtain rfl:f=3:=Option.some.inj ((show Tryz.prog.funcNamed "bonsai/bonsailaw15.TableDerived" = some 3 by kernel_rfl).symm.trans aC) |>.symm
 obtain rfl:fn=Tryz.f3:=(Option.some.inj (Tryz.func3.symm.trans XD)).symm
 refine⟨by kernel_rfl,λj t av=>?_⟩
 have:=WO aeb (x:=t) (by simpa using Array.mem_of_getElem? av)
 simp only[Bool.and_eq_true,Bool.not_eq_true',decide_eq_true_eq]at this
 exact this.2
theorem arW:OpenClaim.wfByText (OpenSpec.ofChange Rows.tableDerivedSpec) Rows.tableDerivedRow=true:=by kernel_rfl
theorem arX:Tryz.pinned.checked.prog.mainIs=some (true,("cc8aaf67895ba166f217af536ac651b8abf2431af97f19c3221963ebd29ee379" : String).toList):=by kernel_rfl
theorem arY:false=Rows.tableDerivedRow.goesBy Tryz.pinned.checked.prog:=by kernel_rfl
theorem tableDerived_card:Rows.TableDerivedCardSaid:=
 Claim7.holds_tied_plain_at .later [] _ _ _ _ arU (λ_ h=>by cases h) arW (λ_ h=>by cases h) tableDerived_row_tie rfl ⟨rfl,rfl⟩ arX rfl arV arY
end Go.Proofs.YtbcembbdimcdlaaGreatDoor
