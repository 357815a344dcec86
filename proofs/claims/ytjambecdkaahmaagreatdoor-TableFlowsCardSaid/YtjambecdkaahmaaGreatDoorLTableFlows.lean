/-
  For every input bonsai/bonsailaw15.TableFlows returns true, and each argument reads behind the call as it read before: the given card, from the walk's contract. Conditions: those of the row itself.
-/
import Derived.Test.YtjambecdkaahmaaGreatDoorK3
import Derived.Test.YtjambecdkaahmaaGreatDoorK8
import Derived.Carry
set_option linter.all false
namespace Go.Proofs.YtjambecdkaahmaaGreatDoor
open Go Go.V Go.ChangeShapes Go.WideShapes Go.ChangeAt Go.RowKit
theorem ahv(os:Os):laidMet Tryz.prog Rows.tableFlowsRow.laid ((JG os).forCall (λ_ _=>0) ⟨#[],#[.agg #[.slice none 0 0],.string ⟨#[]⟩],[]⟩).memory:=
 laidMet_of_run' 8 (by kernel_rfl) (by kernel_rfl)
theorem ahw(os:Os){H:Type}(enc:TypeId×Value->H):∃ places,DataW.whole enc Tryz.prog ((JG os).forCall (λ_ _=>0) ⟨#[],#[.agg #[.slice none 0 0],.string ⟨#[]⟩],[]⟩).memory Tryz.f3.params.toList Rows.tableFlowsSpec.vars false (#[.agg #[.slice none 0 0],.string ⟨#[]⟩]:Array Value).toList 8=some ([.agg [.nil],.lit (.string [])],[],places):=
 ⟨[],by kernel_rfl⟩
theorem VR:(Tryz.f3.params.toList.all λt=>Tryz.prog.readableRec t&&decide (t<Tryz.prog.types.size) && !Tryz.prog.wantsStandIn t)=true:=by kernel_rfl
set_option maxRecDepth 100000 in
theorem ahx(H:Type)(enc:TypeId×Value->H)(W:World)(a3:Nat)(args:Array Value)(ds gs:List (DataW H))(before:List MemPlace)
  (zY:∀ (j:Nat) t v,Tryz.f3.params[j]?=some t->args[j]?=some v->Value.okWide Tryz.prog W .any a3 t v)
  (fY:DataW.Whole enc Tryz.prog Tryz.f3.params.toList Rows.tableFlowsSpec.vars false W args.toList ds gs before) (c7:laidMetH Tryz.prog Rows.tableFlowsRow.laid W) :
  Calls Tryz.prog 3 args W λe jm=>∃ v,e=.returned v/\Rows.tableFlowsSpec.post enc Tryz.prog Tryz.f3 false true false false W args v jm:=by
 have VS:=fY
 obtain⟨p,q,st,ahy,rfl,UT,cJ⟩:=fY
 have jg:DataW.TrodAll enc Tryz.prog W 0 (λ_=>true) true Tryz.f3.params.toList args.toList ds p:=st
 have ahz:=jg
 rw[Tryz.params3]at jg
 obtain⟨rfl,rfl⟩:=trodVars_none ahy
 have aK:∀ x∈p,x.block<W.heap.size:=λx ab=>VS.lt x (by simp[ab])
 have b6:ix (pg W) mz:=YM c7 rfl
 obtain⟨v1,v2,d1,d2,m3,o5,rfl,rfl,rfl,U,aa⟩:=trodAll_two jg
 obtain⟨aT,rfl,kj⟩:=Y5 U (zY 0 24 _ (by kernel_rfl) rfl)
 obtain⟨aU,rfl,jj⟩:=Y9 aa (zY 1 9 _ (by kernel_rfl) rfl)
 refine(Ys (ahh b6 kj jj)).mono ?_
 rintro e jm⟨v,rfl,⟨I',M',rfl⟩,e9⟩
 refine⟨_,rfl,Yt (pa:=_) (pv:=[]) VS (λ_ _ _=>?_) (λeF ap=>Qj laidOut e9 (λt av=>?_) ahz aK eF (λp aG=>ap p (List.mem_append_left _ aG))) (λ_ _=>rfl) rfl e9 (ok_one (by kernel_rfl) rfl (okWide_bool_mk Tryz.underlying4 _))⟩
 ·exact trodAll_cons_mk (shut_bool Tryz.underlying4 _) trodAll_mk0
 ·have:=Qd VR av
  simp only[Bool.and_eq_true,decide_eq_true_eq]at this
  exact this.1
set_option maxRecDepth 100000 in
theorem ahA(os:Os)(started:os.Started)(H:Type)(enc:TypeId×Value->H)(F:Stop.Interp) :
  ReturnsInHanded {} Tryz.checked os 3 .any ((OpenSpec.ofChange Rows.tableFlowsSpec).preRow enc Tryz.prog Tryz.f3 Rows.tableFlowsRow.domain false Rows.tableFlowsRow.laid) (((OpenSpec.ofChange Rows.tableFlowsSpec).at F).post enc Tryz.prog Tryz.f3 false true false false):=by
 obtain⟨places,ab⟩:=ahw os enc
 refine returnsInHanded_of_row (C:=Tryz.checked) (s:=OpenSpec.ofChange Rows.tableFlowsSpec) own started (by kernel_rfl) Tryz.func3
  (witness_row_at (enc:=enc) (C:=Tryz.checked) false (JG os) #[.agg #[.slice none 0 0],.string ⟨#[]⟩] rfl (by kernel_rfl) (by kernel_rfl) (by kernel_rfl)
   (OpenSpec.preRow_of_cond 8 ab (by kernel_rfl) (λk ae=>by cases ae) (by kernel_rfl) (ahv os))) ?_
 intro W a3 args ds gs before zY fY _ _ _ c7 _ _
 exact ahx H enc W a3 args ds gs before zY fY c7
theorem ahB:(Rows.tableFlowsRow.inPlace == Tryz.prog.inPlace 3)=true:=by kernel_rfl
theorem ahC:(Rows.tableFlowsRow.unfollowed == Tryz.prog.unfollowed 3)=true:=by kernel_rfl
theorem ahD:(Rows.tableFlowsRow.recurses == Tryz.prog.recurses 3)=true:=by kernel_rfl
theorem ahE:(Rows.tableFlowsRow.named == Tryz.prog.varsNamed 3)=true:=by kernel_rfl
theorem ahF:(Rows.tableFlowsRow.lifted == Tryz.prog.liftsFinal)=true:=by kernel_rfl
theorem ahG:joinedFacts Tryz.prog 3 Tryz.f3 (OpenSpec.ofChange Rows.tableFlowsSpec).bare Rows.tableFlowsRow=true:=by
 unfold joinedFacts
 rw[laidOut,Y6,Y7,Y8,ahB,ahC,ahD,ahE,ahF]
 kernel_rfl
theorem ahH:Rows.TableFlowsSaid:=
 OpenClaim.holds_of_cond 3 Tryz.f3 rfl rfl rfl rfl rfl rfl rfl ⟨rfl,rfl,rfl,rfl,rfl⟩ rfl rfl rfl rfl rfl (by kernel_rfl) Tryz.func3 ahG
  (of_decide_eq_true (by kernel_rfl)) (by unfold Func.isWrapper;first | (rw[if_pos (by decide +kernel)];kernel_rfl) | (rw[if_neg (by decide +kernel)];exact⟨rfl,rfl⟩))
  (λos started H enc _ F=>by rw[OpenClaim.pre_eq_preRow];exact ahA os started H enc F)
theorem ahI(f:FuncId)(fn:Func)(az:Tryz.pinned.checked.prog.funcNamed "bonsai/bonsailaw15.TableFlows" = some f) (QN:Tryz.pinned.checked.prog.funcs[f]?=some fn) :
  false=Tryz.pinned.checked.prog.looks []/\∀ (j:Nat) t,fn.params[j]?=some t->Tryz.pinned.checked.prog.wantsStandIn t=false:=by
 obtain rfl:f=3:=Option.some.inj ((show Tryz.prog.funcNamed "bonsai/bonsailaw15.TableFlows" = some 3 by kernel_rfl).symm.trans az) |>.symm
 obtain rfl:fn=Tryz.f3:=(Option.some.inj (Tryz.func3.symm.trans QN)).symm
 refine⟨by kernel_rfl,λj t av=>?_⟩
 have:=Qd VR (x:=t) (by simpa using Array.mem_of_getElem? av)
 simp only[Bool.and_eq_true,Bool.not_eq_true',decide_eq_true_eq]at this
 exact this.2
theorem ahJ:OpenClaim.wfByText (OpenSpec.ofChange Rows.tableFlowsSpec) Rows.tableFlowsRow=true:=by kernel_rfl
theorem ahK:Tryz.pinned.checked.prog.mainIs=some (true,("39a6ce8a499866adced8f47668c8134e933105eaef65c93e8f203f0e4f93e92a" : String).toList):=by kernel_rfl
theorem ahL:false=Rows.tableFlowsRow.goesBy Tryz.pinned.checked.prog:=by kernel_rfl
theorem tableFlows_card:Rows.TableFlowsCardSaid:=
 Claim7.holds_tied_plain_at .later [] _ _ _ _ ahH (λ_ h=>by cases h) ahJ (λ_ h=>by cases h) tableFlows_row_tie rfl ⟨rfl,rfl⟩ ahK rfl ahI ahL
end Go.Proofs.YtjambecdkaahmaaGreatDoor
