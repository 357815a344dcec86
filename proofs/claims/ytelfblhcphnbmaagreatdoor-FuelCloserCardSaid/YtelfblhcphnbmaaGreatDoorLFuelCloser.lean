/-
  For every input bonsai/bonsailaw17.FuelCloser returns true, and each argument reads behind the call as it read before: the given card, from the walk's contract. Conditions: those of the row itself.
-/
import Derived.Test.YtelfblhcphnbmaaGreatDoorK3
import Derived.Test.YtelfblhcphnbmaaGreatDoorK6
import Derived.Carry
set_option linter.all false
namespace Go.Proofs.YtelfblhcphnbmaaGreatDoor
open Go Go.V Go.ChangeShapes Go.WideShapes Go.ChangeAt Go.RowKit
theorem W5(os:Os):laidMet Tryz.prog Rows.fuelCloserRow.laid ((Dj os).forCall (λ_ _=>0) ⟨#[],#[.agg #[.slice none 0 0],.int .i64 0,.int .i64 0,.int .i64 0],[]⟩).memory:=
 laidMet_of_run' 8 (by kernel_rfl) (by kernel_rfl)
theorem W6(os:Os){H:Type}(enc:TypeId×Value->H):∃ places,DataW.whole enc Tryz.prog ((Dj os).forCall (λ_ _=>0) ⟨#[],#[.agg #[.slice none 0 0],.int .i64 0,.int .i64 0,.int .i64 0],[]⟩).memory Tryz.f5.params.toList Rows.fuelCloserSpec.vars false (#[.agg #[.slice none 0 0],.int .i64 0,.int .i64 0,.int .i64 0]:Array Value).toList 8=some ([.agg [.nil],.lit (.int .i64 0),.lit (.int .i64 0),.lit (.int .i64 0)],[],places):=
 ⟨[],by kernel_rfl⟩
theorem Nw:(Tryz.f5.params.toList.all λt=>Tryz.prog.readableRec t&&decide (t<Tryz.prog.types.size) && !Tryz.prog.wantsStandIn t)=true:=by kernel_rfl
set_option maxRecDepth 100000 in
theorem W7(H:Type)(enc:TypeId×Value->H)(W:World)(base:Nat)(args:Array Value)(ds gs:List (DataW H))(before:List MemPlace)
  (qZ:∀ (j:Nat) t v,Tryz.f5.params[j]?=some t->args[j]?=some v->Value.okWide Tryz.prog W .any base t v)
  (e8:DataW.Whole enc Tryz.prog Tryz.f5.params.toList Rows.fuelCloserSpec.vars false W args.toList ds gs before) (cN:laidMetH Tryz.prog Rows.fuelCloserRow.laid W) :
  Calls Tryz.prog 5 args W λe gy=>∃ v,e=.returned v/\Rows.fuelCloserSpec.post enc Tryz.prog Tryz.f5 false true false false W args v gy:=by
 have Nx:=e8
 obtain⟨p,q,nO,W8,rfl,YQ,bI⟩:=e8
 have fU:DataW.TrodAll enc Tryz.prog W 0 (λ_=>true) true Tryz.f5.params.toList args.toList ds p:=nO
 have W9:=fU
 rw[Tryz.params5]at fU
 obtain⟨rfl,rfl⟩:=trodVars_none W8
 have a0:∀ x∈p,x.block<W.heap.size:=λx ab=>Nx.lt x (by simp[ab])
 have bJ:fH (k' W) fp:=QR cN rfl
 obtain⟨v1,v2,YR,v4,d1,d2,d3,d4,wU,wV,Qx,QA,rfl,rfl,rfl,U,aa,ak,aL⟩:=trodAll_four fU
 obtain⟨aI,rfl,gp⟩:=Ra U (qZ 0 30 _ (by kernel_rfl) rfl)
 obtain⟨aQ,rfl,jc⟩:=Ds aa (qZ 1 3 _ (by kernel_rfl) rfl)
 obtain⟨bG,rfl,je⟩:=Ds ak (qZ 2 3 _ (by kernel_rfl) rfl)
 obtain⟨eU,rfl,pO⟩:=Ds aL (qZ 3 3 _ (by kernel_rfl) rfl)
 refine(Qr (WR bJ gp jc je pO)).mono ?_
 rintro e gy⟨v,rfl,⟨I',M',rfl⟩,dy⟩
 refine⟨_,rfl,Qs (pa:=_) (pv:=[]) Nx (λ_ _ _=>?_) (λc5 an=>JA laidOut dy (λt aq=>?_) W9 a0 c5 (λp aK=>an p (List.mem_append_left _ aK))) (λ_ _=>rfl) rfl dy (ok_one (by kernel_rfl) rfl (okWide_bool_mk Tryz.underlying4 _))⟩
 ·exact trodAll_cons_mk (shut_bool Tryz.underlying4 _) trodAll_mk0
 ·have:=Jt Nw aq
  simp only[Bool.and_eq_true,decide_eq_true_eq]at this
  exact this.1
set_option maxRecDepth 100000 in
theorem W'(os:Os)(started:os.Started)(H:Type)(enc:TypeId×Value->H)(F:Stop.Interp) :
  ReturnsInHanded {} Tryz.checked os 5 .any ((OpenSpec.ofChange Rows.fuelCloserSpec).preRow enc Tryz.prog Tryz.f5 Rows.fuelCloserRow.domain false Rows.fuelCloserRow.laid) (((OpenSpec.ofChange Rows.fuelCloserSpec).at F).post enc Tryz.prog Tryz.f5 false true false false):=by
 obtain⟨places,ab⟩:=W6 os enc
 refine returnsInHanded_of_row (C:=Tryz.checked) (s:=OpenSpec.ofChange Rows.fuelCloserSpec) own started (by kernel_rfl) Tryz.func5
  (witness_row_at (enc:=enc) (C:=Tryz.checked) false (Dj os) #[.agg #[.slice none 0 0],.int .i64 0,.int .i64 0,.int .i64 0] rfl (by kernel_rfl) (by kernel_rfl) (by kernel_rfl)
   (OpenSpec.preRow_of_cond 8 ab (by kernel_rfl) (λk aj=>by cases aj) (by kernel_rfl) (W5 os))) ?_
 intro W base args ds gs before qZ e8 _ _ _ cN _ _
 exact W7 H enc W base args ds gs before qZ e8 cN
theorem Xa:(Rows.fuelCloserRow.inPlace == Tryz.prog.inPlace 5)=true:=by kernel_rfl
theorem Xb:(Rows.fuelCloserRow.unfollowed == Tryz.prog.unfollowed 5)=true:=by kernel_rfl
theorem Xc:(Rows.fuelCloserRow.recurses == Tryz.prog.recurses 5)=true:=by kernel_rfl
theorem Xd:(Rows.fuelCloserRow.named == Tryz.prog.varsNamed 5)=true:=by kernel_rfl
theorem Xe:(Rows.fuelCloserRow.lifted == Tryz.prog.liftsFinal)=true:=by kernel_rfl
theorem Xf:joinedFacts Tryz.prog 5 Tryz.f5 (OpenSpec.ofChange Rows.fuelCloserSpec).bare Rows.fuelCloserRow=true:=by
 unfold joinedFacts
 rw[laidOut,Rb,Rc,Rd,Xa,Xb,Xc,Xd,Xe]
 kernel_rfl
theorem Xg:Rows.FuelCloserSaid:=
 OpenClaim.holds_of_cond 5 Tryz.f5 rfl rfl rfl rfl rfl rfl rfl ⟨rfl,rfl,rfl,rfl,rfl⟩ rfl rfl rfl rfl rfl (by kernel_rfl) Tryz.func5 Xf
  (of_decide_eq_true (by kernel_rfl)) (by unfold Func.isWrapper;first | (rw[if_pos (by decide +kernel)];kernel_rfl) | (rw[if_neg (by decide +kernel)];exact⟨rfl,rfl⟩))
  (λos started H enc _ F=>by rw[OpenClaim.pre_eq_preRow];exact W' os started H enc F)
theorem Xh(f:FuncId)(fn:Func)(az:Tryz.pinned.checked.prog.funcNamed "bonsai/bonsailaw17.FuelCloser" = some f) (Xi:Tryz.pinned.checked.prog.funcs[f]?=some fn) :
  false=Tryz.pinned.checked.prog.looks []/\∀ (j:Nat) t,fn.params[j]?=some t->Tryz.pinned.checked.prog.wantsStandIn t=false:=by
 obtain rfl:f=5:=Option.some.inj ((show Tryz.prog.funcNamed "bonsai/bonsailaw17.FuelCloser" = some 5 by kernel_rfl).symm.trans az) |>.symm
 obtain rfl:fn=Tryz.f5:=(Option.some.inj (Tryz.func5.symm.trans Xi)).symm
 refine⟨by kernel_rfl,λj t aq=>?_⟩
 have:=Jt Nw (x:=t) (by simpa using Array.mem_of_getElem? aq)
 simp only[Bool.and_eq_true,Bool.not_eq_true',decide_eq_true_eq]at this
 exact this.2
theorem Xj:OpenClaim.wfByText (OpenSpec.ofChange Rows.fuelCloserSpec) Rows.fuelCloserRow=true:=by kernel_rfl
theorem Xk:Tryz.pinned.checked.prog.mainIs=some (true,("db821cf6a62ad82fd32c91bf02bb5aec2ad68fe8ecc345121b93bfe85518b6ae" : String).toList):=by kernel_rfl
theorem Xl:false=Rows.fuelCloserRow.goesBy Tryz.pinned.checked.prog:=by kernel_rfl
theorem fuelCloser_card:Rows.FuelCloserCardSaid:=
 Claim7.holds_tied_plain_at .later [] _ _ _ _ Xg (λ_ h=>by cases h) Xj (λ_ h=>by cases h) fuelCloser_row_tie rfl ⟨rfl,rfl⟩ Xk rfl Xh Xl
end Go.Proofs.YtelfblhcphnbmaaGreatDoor
