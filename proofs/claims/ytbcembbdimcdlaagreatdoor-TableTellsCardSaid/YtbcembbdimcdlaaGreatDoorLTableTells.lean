/-
  For every input bonsai/bonsailaw15.TableTells returns true, and each argument reads behind the call as it read before: the given card, from the walk's contract. Conditions: those of the row itself.
-/
import Derived.Test.YtbcembbdimcdlaaGreatDoorK4
import Derived.Test.YtbcembbdimcdlaaGreatDoorK8
import Derived.Test.YtbcembbdimcdlaaGreatDoorK9
import Derived.Carry
set_option linter.all false
namespace Go.Proofs.YtbcembbdimcdlaaGreatDoor
open Go Go.V Go.ChangeShapes Go.WideShapes Go.ChangeAt Go.RowKit
theorem am8(os:Os):laidMet Tryz.prog Rows.tableTellsRow.laid ((Ns os).forCall (λ_ _=>0) ⟨#[],#[.agg #[.slice none 0 0],.string ⟨#[]⟩,.agg #[.slice none 0 0,.int .i64 0],.int .i64 0,.int .i64 0],[]⟩).memory:=
 laidMet_of_run' 8 (by kernel_rfl) (by kernel_rfl)
theorem am9(os:Os){H:Type}(enc:TypeId×Value->H):∃ places,DataW.whole enc Tryz.prog ((Ns os).forCall (λ_ _=>0) ⟨#[],#[.agg #[.slice none 0 0],.string ⟨#[]⟩,.agg #[.slice none 0 0,.int .i64 0],.int .i64 0,.int .i64 0],[]⟩).memory Tryz.f4.params.toList Rows.tableTellsSpec.vars false (#[.agg #[.slice none 0 0],.string ⟨#[]⟩,.agg #[.slice none 0 0,.int .i64 0],.int .i64 0,.int .i64 0]:Array Value).toList 8=some ([.agg [.nil],.lit (.string []),.agg [.nil,.lit (.int .i64 0)],.lit (.int .i64 0),.lit (.int .i64 0)],[],places):=
 ⟨[],by kernel_rfl⟩
theorem aa3:(Tryz.f4.params.toList.all λt=>Tryz.prog.readableRec t&&decide (t<Tryz.prog.types.size) && !Tryz.prog.wantsStandIn t)=true:=by kernel_rfl
set_option maxRecDepth 100000 in
theorem ana(H:Type)(enc:TypeId×Value->H)(W:World)(a0:Nat)(args:Array Value)(ds gs:List (DataW H))(before:List MemPlace)
  (xj:∀ (j:Nat) t v,Tryz.f4.params[j]?=some t->args[j]?=some v->Value.okWide Tryz.prog W .any a0 t v)
  (gV:DataW.Whole enc Tryz.prog Tryz.f4.params.toList Rows.tableTellsSpec.vars false W args.toList ds gs before) (bQ:laidMetH Tryz.prog Rows.tableTellsRow.laid W) :
  Calls Tryz.prog 4 args W λe kF=>∃ v,e=.returned v/\Rows.tableTellsSpec.post enc Tryz.prog Tryz.f4 false true false false W args v kF:=by
 have aa4:=gV
 obtain⟨p,q,u5,anb,rfl,apE,cq⟩:=gV
 have eH:DataW.TrodAll enc Tryz.prog W 0 (λ_=>true) true Tryz.f4.params.toList args.toList ds p:=u5
 have anc:=eH
 rw[Tryz.params4]at eH
 obtain⟨rfl,rfl⟩:=trodVars_none anb
 have aO:∀ x∈p,x.block<W.heap.size:=λx ab=>aa4.lt x (by simp[ab])
 have bS:kC (qj W) kG:=adH bQ rfl
 obtain⟨v1,v2,Ei,v4,akX,d1,d2,d3,d4,d5,qb,qc,ti,CQ,adx,rfl,rfl,rfl,U,aa,ae,aR,bn⟩:=ak8 eH
 obtain⟨aV,rfl,nL⟩:=adX U (xj 0 24 _ (by kernel_rfl) rfl)
 obtain⟨aX,rfl,hU⟩:=ad1 aa (xj 1 9 _ (by kernel_rfl) rfl)
 obtain⟨bq,rfl,mI⟩:=ak7 ae (xj 2 28 _ (by kernel_rfl) rfl)
 obtain⟨eK,rfl,vQ⟩:=Uq aR (xj 3 3 _ (by kernel_rfl) rfl)
 obtain⟨mY,rfl,Ji⟩:=Uq bn (xj 4 3 _ (by kernel_rfl) rfl)
 refine(adq (amS bS nL hU mI vQ Ji)).mono ?_
 rintro e kF⟨v,rfl,⟨I',M',rfl⟩,fl⟩
 refine⟨_,rfl,adr (pa:=_) (pv:=[]) aa4 (λ_ _ _=>?_) (λeo ap=>Up laidOut fl (λt au=>?_) anc aO eo (λp aK=>ap p (List.mem_append_left _ aK))) (λ_ _=>rfl) rfl fl (ok_one (by kernel_rfl) rfl (okWide_bool_mk Tryz.underlying4 _))⟩
 ·exact trodAll_cons_mk (shut_bool Tryz.underlying4 _) trodAll_mk0
 ·have:=Ui aa3 au
  simp only[Bool.and_eq_true,decide_eq_true_eq]at this
  exact this.1
set_option maxRecDepth 100000 in
theorem ane(os:Os)(started:os.Started)(H:Type)(enc:TypeId×Value->H)(F:Stop.Interp) :
  ReturnsInHanded {} Tryz.checked os 4 .any ((OpenSpec.ofChange Rows.tableTellsSpec).preRow enc Tryz.prog Tryz.f4 Rows.tableTellsRow.domain false Rows.tableTellsRow.laid) (((OpenSpec.ofChange Rows.tableTellsSpec).at F).post enc Tryz.prog Tryz.f4 false true false false):=by
 obtain⟨places,ab⟩:=am9 os enc
 refine returnsInHanded_of_row (C:=Tryz.checked) (s:=OpenSpec.ofChange Rows.tableTellsSpec) own started (by kernel_rfl) Tryz.func4
  (witness_row_at (enc:=enc) (C:=Tryz.checked) false (Ns os) #[.agg #[.slice none 0 0],.string ⟨#[]⟩,.agg #[.slice none 0 0,.int .i64 0],.int .i64 0,.int .i64 0] rfl (by kernel_rfl) (by kernel_rfl) (by kernel_rfl)
   (OpenSpec.preRow_of_cond 8 ab (by kernel_rfl) (λk af=>by cases af) (by kernel_rfl) (am8 os))) ?_
 intro W a0 args ds gs before xj gV _ _ _ bQ _ _
 exact ana H enc W a0 args ds gs before xj gV bQ
theorem anf:(Rows.tableTellsRow.inPlace == Tryz.prog.inPlace 4)=true:=by kernel_rfl
theorem ang:(Rows.tableTellsRow.unfollowed == Tryz.prog.unfollowed 4)=true:=by kernel_rfl
theorem anh:(Rows.tableTellsRow.recurses == Tryz.prog.recurses 4)=true:=by kernel_rfl
theorem ani:(Rows.tableTellsRow.named == Tryz.prog.varsNamed 4)=true:=by kernel_rfl
theorem anj:(Rows.tableTellsRow.lifted == Tryz.prog.liftsFinal)=true:=by kernel_rfl
theorem ank:joinedFacts Tryz.prog 4 Tryz.f4 (OpenSpec.ofChange Rows.tableTellsSpec).bare Rows.tableTellsRow=true:=by
 unfold joinedFacts
 rw[laidOut,adY,adZ,ad0,anf,ang,anh,ani,anj]
 kernel_rfl
theorem anl:Rows.TableTellsSaid:=
 OpenClaim.holds_of_cond 4 Tryz.f4 rfl rfl rfl rfl rfl rfl rfl ⟨rfl,rfl,rfl,rfl,rfl⟩ rfl rfl rfl rfl rfl (by kernel_rfl) Tryz.func4 ank
  (of_decide_eq_true (by kernel_rfl)) (by unfold Func.isWrapper;first | (rw[if_pos (by decide +kernel)];kernel_rfl) | (rw[if_neg (by decide +kernel)];exact⟨rfl,rfl⟩))
  (λos started H enc _ F=>by rw[OpenClaim.pre_eq_preRow];exact ane os started H enc F)
theorem anm(f:FuncId)(fn:Func)(aF:Tryz.pinned.checked.prog.funcNamed "bonsai/bonsailaw15.TableTells" = some f) (KV:Tryz.pinned.checked.prog.funcs[f]?=some fn) :
  false=Tryz.pinned.checked.prog.looks []/\∀ (j:Nat) t,fn.params[j]?=some t->Tryz.pinned.checked.prog.wantsStandIn t=false:=by
 obtain rfl:f=4:=Option.some.inj ((show Tryz.prog.funcNamed "bonsai/bonsailaw15.TableTells" = some 4 by kernel_rfl).symm.trans aF) |>.symm
 obtain rfl:fn=Tryz.f4:=(Option.some.inj (Tryz.func4.symm.trans KV)).symm
 refine⟨by kernel_rfl,λj t au=>?_⟩
 have:=Ui aa3 (x:=t) (by simpa using Array.mem_of_getElem? au)
 simp only[Bool.and_eq_true,Bool.not_eq_true',decide_eq_true_eq]at this
 exact this.2
theorem ann:OpenClaim.wfByText (OpenSpec.ofChange Rows.tableTellsSpec) Rows.tableTellsRow=true:=by kernel_rfl
theorem ano:Tryz.pinned.checked.prog.mainIs=some (true,("cc8aaf67895ba166f217af536ac651b8abf2431af97f19c3221963ebd29ee379" : String).toList):=by kernel_rfl
theorem anp:false=Rows.tableTellsRow.goesBy Tryz.pinned.checked.prog:=by kernel_rfl
theorem tableTells_card:Rows.TableTellsCardSaid:=
 Claim7.holds_tied_plain_at .later [] _ _ _ _ anl (λ_ h=>by cases h) ann (λ_ h=>by cases h) tableTells_row_tie rfl ⟨rfl,rfl⟩ ano rfl anm anp
end Go.Proofs.YtbcembbdimcdlaaGreatDoor
