/-
  For every input bonsai/bonsailaw17.FuelTells returns true, and each argument reads behind the call as it read before: the given card, from the walk's contract. Conditions: those of the row itself.
-/
import Derived.Test.YtelfblhcphnbmaaGreatDoorK3
import Derived.Test.YtelfblhcphnbmaaGreatDoorK7
import Derived.Test.YtelfblhcphnbmaaGreatDoorK9
import Derived.Carry
set_option linter.all false
namespace Go.Proofs.YtelfblhcphnbmaaGreatDoor
open Go Go.V Go.ChangeShapes Go.WideShapes Go.ChangeAt Go.RowKit
theorem akA(os:Os):laidMet Tryz.prog Rows.fuelTellsRow.laid ((Lh os).forCall (λ_ _=>0) ⟨#[],#[.agg #[.slice none 0 0],.int .i64 0,.int .i64 0,.int .i64 0,.string ⟨#[]⟩],[]⟩).memory:=
 laidMet_of_run' 8 (by kernel_rfl) (by kernel_rfl)
theorem akB(os:Os){H:Type}(enc:TypeId×Value->H):∃ places,DataW.whole enc Tryz.prog ((Lh os).forCall (λ_ _=>0) ⟨#[],#[.agg #[.slice none 0 0],.int .i64 0,.int .i64 0,.int .i64 0,.string ⟨#[]⟩],[]⟩).memory Tryz.f4.params.toList Rows.fuelTellsSpec.vars false (#[.agg #[.slice none 0 0],.int .i64 0,.int .i64 0,.int .i64 0,.string ⟨#[]⟩]:Array Value).toList 8=some ([.agg [.nil],.lit (.int .i64 0),.lit (.int .i64 0),.lit (.int .i64 0),.lit (.string [])],[],places):=
 ⟨[],by kernel_rfl⟩
theorem XZ:(Tryz.f4.params.toList.all λt=>Tryz.prog.readableRec t&&decide (t<Tryz.prog.types.size) && !Tryz.prog.wantsStandIn t)=true:=by kernel_rfl
set_option maxRecDepth 100000 in
theorem akC(H:Type)(enc:TypeId×Value->H)(W:World)(base:Nat)(args:Array Value)(ds gs:List (DataW H))(before:List MemPlace)
  (uX:∀ (j:Nat) t v,Tryz.f4.params[j]?=some t->args[j]?=some v->Value.okWide Tryz.prog W .any base t v)
  (gV:DataW.Whole enc Tryz.prog Tryz.f4.params.toList Rows.fuelTellsSpec.vars false W args.toList ds gs before) (b1:laidMetH Tryz.prog Rows.fuelTellsRow.laid W) :
  Calls Tryz.prog 4 args W λe jo=>∃ v,e=.returned v/\Rows.fuelTellsSpec.post enc Tryz.prog Tryz.f4 false true false false W args v jo:=by
 have X0:=gV
 obtain⟨p,q,sA,akD,rfl,amZ,cf⟩:=gV
 have ea:DataW.TrodAll enc Tryz.prog W 0 (λ_=>true) true Tryz.f4.params.toList args.toList ds p:=sA
 have akE:=ea
 rw[Tryz.params4]at ea
 obtain⟨rfl,rfl⟩:=trodVars_none akD
 have aL:∀ x∈p,x.block<W.heap.size:=λx ab=>X0.lt x (by simp[ab])
 have br:hG (py W) fv:=aaL b1 rfl
 obtain⟨v1,v2,E6,v4,am0,d1,d2,d3,d4,d5,qk,ql,rp,AI,aaA,rfl,rfl,rfl,U,aa,ag,aK,bg⟩:=ahb ea
 obtain⟨aR,rfl,jn⟩:=aa2 U (uX 0 30 _ (by kernel_rfl) rfl)
 obtain⟨aV,rfl,l1⟩:=Lp aa (uX 1 3 _ (by kernel_rfl) rfl)
 obtain⟨bl,rfl,nE⟩:=Lp ag (uX 2 3 _ (by kernel_rfl) rfl)
 obtain⟨fP,rfl,u2⟩:=Lp aK (uX 3 3 _ (by kernel_rfl) rfl)
 obtain⟨om,rfl,G3⟩:=aa6 bg (uX 4 9 _ (by kernel_rfl) rfl)
 refine(aaq (akv br jn l1 nE u2 G3)).mono ?_
 rintro e jo⟨v,rfl,⟨I',M',rfl⟩,fl⟩
 refine⟨_,rfl,aar (pa:=_) (pv:=[]) X0 (λ_ _ _=>?_) (λdO ao=>RN laidOut fl (λt au=>?_) akE aL dO (λp aO=>ao p (List.mem_append_left _ aO))) (λ_ _=>rfl) rfl fl (ok_one (by kernel_rfl) rfl (okWide_bool_mk Tryz.underlying4 _))⟩
 ·exact trodAll_cons_mk (shut_bool Tryz.underlying4 _) trodAll_mk0
 ·have:=RI XZ au
  simp only[Bool.and_eq_true,decide_eq_true_eq]at this
  exact this.1
set_option maxRecDepth 100000 in
theorem akF(os:Os)(started:os.Started)(H:Type)(enc:TypeId×Value->H)(F:Stop.Interp) :
  ReturnsInHanded {} Tryz.checked os 4 .any ((OpenSpec.ofChange Rows.fuelTellsSpec).preRow enc Tryz.prog Tryz.f4 Rows.fuelTellsRow.domain false Rows.fuelTellsRow.laid) (((OpenSpec.ofChange Rows.fuelTellsSpec).at F).post enc Tryz.prog Tryz.f4 false true false false):=by
 obtain⟨places,ab⟩:=akB os enc
 refine returnsInHanded_of_row (C:=Tryz.checked) (s:=OpenSpec.ofChange Rows.fuelTellsSpec) own started (by kernel_rfl) Tryz.func4
  (witness_row_at (enc:=enc) (C:=Tryz.checked) false (Lh os) #[.agg #[.slice none 0 0],.int .i64 0,.int .i64 0,.int .i64 0,.string ⟨#[]⟩] rfl (by kernel_rfl) (by kernel_rfl) (by kernel_rfl)
   (OpenSpec.preRow_of_cond 8 ab (by kernel_rfl) (λk ae=>by cases ae) (by kernel_rfl) (akA os))) ?_
 intro W base args ds gs before uX gV _ _ _ b1 _ _
 exact akC H enc W base args ds gs before uX gV b1
theorem akG:(Rows.fuelTellsRow.inPlace == Tryz.prog.inPlace 4)=true:=by kernel_rfl
theorem akH:(Rows.fuelTellsRow.unfollowed == Tryz.prog.unfollowed 4)=true:=by kernel_rfl
theorem akI:(Rows.fuelTellsRow.recurses == Tryz.prog.recurses 4)=true:=by kernel_rfl
theorem akJ:(Rows.fuelTellsRow.named == Tryz.prog.varsNamed 4)=true:=by kernel_rfl
theorem akK:(Rows.fuelTellsRow.lifted == Tryz.prog.liftsFinal)=true:=by kernel_rfl
theorem akL:joinedFacts Tryz.prog 4 Tryz.f4 (OpenSpec.ofChange Rows.fuelTellsSpec).bare Rows.fuelTellsRow=true:=by
 unfold joinedFacts
 rw[laidOut,aa3,aa4,aa5,akG,akH,akI,akJ,akK]
 kernel_rfl
theorem akM:Rows.FuelTellsSaid:=
 OpenClaim.holds_of_cond 4 Tryz.f4 rfl rfl rfl rfl rfl rfl rfl ⟨rfl,rfl,rfl,rfl,rfl⟩ rfl rfl rfl rfl rfl (by kernel_rfl) Tryz.func4 akL
  (of_decide_eq_true (by kernel_rfl)) (by unfold Func.isWrapper;first | (rw[if_pos (by decide +kernel)];kernel_rfl) | (rw[if_neg (by decide +kernel)];exact⟨rfl,rfl⟩))
  (λos started H enc _ F=>by rw[OpenClaim.pre_eq_preRow];exact akF os started H enc F)
theorem akN(f:FuncId)(fn:Func)(aw:Tryz.pinned.checked.prog.funcNamed "bonsai/bonsailaw17.FuelTells" = some f) (IG:Tryz.pinned.checked.prog.funcs[f]?=some fn) :
  false=Tryz.pinned.checked.prog.looks []/\∀ (j:Nat) t,fn.params[j]?=some t->Tryz.pinned.checked.prog.wantsStandIn t=false:=by
 obtain rfl:f=4:=Option.some.inj ((show Tryz.prog.funcNamed "bonsai/bonsailaw17.FuelTells" = some 4 by kernel_rfl).symm.trans aw) |>.symm
 obtain rfl:fn=Tryz.f4:=(Option.some.inj (Tryz.func4.symm.trans IG)).symm
 refine⟨by kernel_rfl,λj t au=>?_⟩
 have:=RI XZ (x:=t) (by simpa using Array.mem_of_getElem? au)
 simp only[Bool.and_eq_true,Bool.not_eq_true',decide_eq_true_eq]at this
 exact this.2
theorem akO:OpenClaim.wfByText (OpenSpec.ofChange Rows.fuelTellsSpec) Rows.fuelTellsRow=true:=by kernel_rfl
theorem akP:Tryz.pinned.checked.prog.mainIs=some (true,("db821cf6a62ad82fd32c91bf02bb5aec2ad68fe8ecc345121b93bfe85518b6ae" : String).toList):=by kernel_rfl
theorem akQ:false=Rows.fuelTellsRow.goesBy Tryz.pinned.checked.prog:=by kernel_rfl
theorem fuelTells_card:Rows.FuelTellsCardSaid:=
 Claim7.holds_tied_plain_at .later [] _ _ _ _ akM (λ_ h=>by cases h) akO (λ_ h=>by cases h) fuelTells_row_tie rfl ⟨rfl,rfl⟩ akP rfl akN akQ
end Go.Proofs.YtelfblhcphnbmaaGreatDoor
