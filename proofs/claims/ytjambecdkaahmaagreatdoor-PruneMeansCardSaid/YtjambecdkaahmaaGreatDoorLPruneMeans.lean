/-
  For every input bonsai/bonsailaw25.PruneMeans returns true, and each argument reads behind the call as it read before: the given card, from the walk's contract. Conditions: those of the row itself.
-/
import Derived.Test.YtjambecdkaahmaaGreatDoorK4
import Derived.Test.YtjambecdkaahmaaGreatDoorK9
import Derived.Carry
set_option linter.all false
namespace Go.Proofs.YtjambecdkaahmaaGreatDoor
open Go Go.V Go.ChangeShapes Go.WideShapes Go.ChangeAt Go.RowKit
theorem arO(os:Os):laidMet Tryz.prog Rows.pruneMeansRow.laid ((Oc os).forCall (λ_ _=>0) ⟨#[],#[.agg #[.slice none 0 0],.string ⟨#[]⟩],[]⟩).memory:=
 laidMet_of_run' 8 (by kernel_rfl) (by kernel_rfl)
theorem arP(os:Os){H:Type}(enc:TypeId×Value->H):∃ places,DataW.whole enc Tryz.prog ((Oc os).forCall (λ_ _=>0) ⟨#[],#[.agg #[.slice none 0 0],.string ⟨#[]⟩],[]⟩).memory Tryz.f5.params.toList Rows.pruneMeansSpec.vars false (#[.agg #[.slice none 0 0],.string ⟨#[]⟩]:Array Value).toList 8=some ([.agg [.nil],.lit (.string [])],[],places):=
 ⟨[],by kernel_rfl⟩
theorem adn:(Tryz.f5.params.toList.all λt=>Tryz.prog.readableRec t&&decide (t<Tryz.prog.types.size) && !Tryz.prog.wantsStandIn t)=true:=by kernel_rfl
set_option maxRecDepth 100000 in
theorem arQ(H:Type)(enc:TypeId×Value->H)(W:World)(be:Nat)(args:Array Value)(ds gs:List (DataW H))(before:List MemPlace)
  (yY:∀ (j:Nat) t v,Tryz.f5.params[j]?=some t->args[j]?=some v->Value.okWide Tryz.prog W .any be t v)
  (im:DataW.Whole enc Tryz.prog Tryz.f5.params.toList Rows.pruneMeansSpec.vars false W args.toList ds gs before) (b9:laidMetH Tryz.prog Rows.pruneMeansRow.laid W) :
  Calls Tryz.prog 5 args W λe ku=>∃ v,e=.returned v/\Rows.pruneMeansSpec.post enc Tryz.prog Tryz.f5 false true false false W args v ku:=by
 have ado:=im
 obtain⟨p,q,uQ,arR,rfl,auj,cg⟩:=im
 have iw:DataW.TrodAll enc Tryz.prog W 0 (λ_=>true) true Tryz.f5.params.toList args.toList ds p:=uQ
 have arS:=iw
 rw[Tryz.params5]at iw
 obtain⟨rfl,rfl⟩:=trodVars_none arR
 have aR:∀ x∈p,x.block<W.heap.size:=λx ae=>ado.lt x (by simp[ae])
 have bp:e4 (rb W) gb:=agr b9 rfl
 obtain⟨v1,v2,d1,d2,po,pq,rfl,rfl,rfl,aa,ab⟩:=trodAll_two iw
 obtain⟨a3,rfl,kr⟩:=agJ aa (yY 0 24 _ (by kernel_rfl) rfl)
 obtain⟨a6,rfl,jF⟩:=agN ab (yY 1 9 _ (by kernel_rfl) rfl)
 refine(af5 (arL bp kr jF)).mono ?_
 rintro e ku⟨v,rfl,⟨I',M',rfl⟩,eu⟩
 refine⟨_,rfl,af6 (pa:=_) (pv:=[]) ado (λ_ _ _=>?_) (λeY ap=>VK laidOut eu (λt ay=>?_) arS aR eY (λp aD=>ap p (List.mem_append_left _ aD))) (λ_ _=>rfl) rfl eu (ok_one (by kernel_rfl) rfl (okWide_bool_mk Tryz.underlying4 _))⟩
 ·exact trodAll_cons_mk (shut_bool Tryz.underlying4 _) trodAll_mk0
 ·have:=VE adn ay
  simp only[Bool.and_eq_true,decide_eq_true_eq]at this
  exact this.1
set_option maxRecDepth 100000 in
theorem arT(os:Os)(started:os.Started)(H:Type)(enc:TypeId×Value->H)(F:Stop.Interp) :
  ReturnsInHanded {} Tryz.checked os 5 .any ((OpenSpec.ofChange Rows.pruneMeansSpec).preRow enc Tryz.prog Tryz.f5 Rows.pruneMeansRow.domain false Rows.pruneMeansRow.laid) (((OpenSpec.ofChange Rows.pruneMeansSpec).at F).post enc Tryz.prog Tryz.f5 false true false false):=by
 obtain⟨places,ae⟩:=arP os enc
 refine returnsInHanded_of_row (C:=Tryz.checked) (s:=OpenSpec.ofChange Rows.pruneMeansSpec) own started (by kernel_rfl) Tryz.func5
  (witness_row_at (enc:=enc) (C:=Tryz.checked) false (Oc os) #[.agg #[.slice none 0 0],.string ⟨#[]⟩] rfl (by kernel_rfl) (by kernel_rfl) (by kernel_rfl)
   (OpenSpec.preRow_of_cond 8 ae (by kernel_rfl) (λk af=>by cases af) (by kernel_rfl) (arO os))) ?_
 intro W be args ds gs before yY im _ _ _ b9 _ _
 exact arQ H enc W be args ds gs before yY im b9
theorem arU:(Rows.pruneMeansRow.inPlace == Tryz.prog.inPlace 5)=true:=by kernel_rfl
theorem arV:(Rows.pruneMeansRow.unfollowed == Tryz.prog.unfollowed 5)=true:=by kernel_rfl
theorem arW:(Rows.pruneMeansRow.recurses == Tryz.prog.recurses 5)=true:=by kernel_rfl
theorem arX:(Rows.pruneMeansRow.named == Tryz.prog.varsNamed 5)=true:=by kernel_rfl
theorem arY:(Rows.pruneMeansRow.lifted == Tryz.prog.liftsFinal)=true:=by kernel_rfl
theorem arZ:joinedFacts Tryz.prog 5 Tryz.f5 (OpenSpec.ofChange Rows.pruneMeansSpec).bare Rows.pruneMeansRow=true:=by
 unfold joinedFacts
 rw[laidOut,agK,agL,agM,arU,arV,arW,arX,arY]
 kernel_rfl
theorem ar0:Rows.PruneMeansSaid:=
 OpenClaim.holds_of_cond 5 Tryz.f5 rfl rfl rfl rfl rfl rfl rfl ⟨rfl,rfl,rfl,rfl,rfl⟩ rfl rfl rfl rfl rfl (by kernel_rfl) Tryz.func5 arZ
  (of_decide_eq_true (by kernel_rfl)) (by unfold Func.isWrapper;first | (rw[if_pos (by decide +kernel)];kernel_rfl) | (rw[if_neg (by decide +kernel)];exact⟨rfl,rfl⟩))
  (λos started H enc _ F=>by rw[OpenClaim.pre_eq_preRow];exact arT os started H enc F)
theorem ar1(f:FuncId)(fn:Func)(aJ:Tryz.pinned.checked.prog.funcNamed "bonsai/bonsailaw25.PruneMeans" = some f) (OG:Tryz.pinned.checked.prog.funcs[f]?=some fn) :
  false=Tryz.pinned.checked.prog.looks []/\∀ (j:Nat) t,fn.params[j]?=some t->Tryz.pinned.checked.prog.wantsStandIn t=false:=by
 obtain rfl:f=5:=Option.some.inj ((show Tryz.prog.funcNamed "bonsai/bonsailaw25.PruneMeans" = some 5 by kernel_rfl).symm.trans aJ) |>.symm
 obtain rfl:fn=Tryz.f5:=(Option.some.inj (Tryz.func5.symm.trans OG)).symm
 refine⟨by kernel_rfl,λj t ay=>?_⟩
 have:=VE adn (x:=t) (by simpa using Array.mem_of_getElem? ay)
 simp only[Bool.and_eq_true,Bool.not_eq_true',decide_eq_true_eq]at this
 exact this.2
theorem ar2:OpenClaim.wfByText (OpenSpec.ofChange Rows.pruneMeansSpec) Rows.pruneMeansRow=true:=by kernel_rfl
theorem ar3:Tryz.pinned.checked.prog.mainIs=some (true,("39a6ce8a499866adced8f47668c8134e933105eaef65c93e8f203f0e4f93e92a" : String).toList):=by kernel_rfl
theorem ar4:false=Rows.pruneMeansRow.goesBy Tryz.pinned.checked.prog:=by kernel_rfl
theorem pruneMeans_card:Rows.PruneMeansCardSaid:=
 Claim7.holds_tied_plain_at .later [] _ _ _ _ ar0 (λ_ h=>by cases h) ar2 (λ_ h=>by cases h) pruneMeans_row_tie rfl ⟨rfl,rfl⟩ ar3 rfl ar1 ar4
end Go.Proofs.YtjambecdkaahmaaGreatDoor
