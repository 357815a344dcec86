/-
  For every input bonsai/bonsailaw15.TableBehind returns true, and each argument reads behind the call as it read before: the given card, from the walk's contract. Conditions: those of the row itself.
-/
import Derived.Test.YtelfblhcphnbmaaGreatDoorK3
import Derived.Test.YtelfblhcphnbmaaGreatDoorK7
import Derived.Carry
set_option linter.all false
namespace Go.Proofs.YtelfblhcphnbmaaGreatDoor
open Go Go.V Go.ChangeShapes Go.WideShapes Go.ChangeAt Go.RowKit
theorem afp(os:Os):laidMet Tryz.prog Rows.tableBehindRow.laid ((zj os).forCall (λ_ _=>0) ⟨#[],#[.agg #[.slice none 0 0],.string ⟨#[]⟩,.int .i64 0],[]⟩).memory:=
 laidMet_of_run' 8 (by kernel_rfl) (by kernel_rfl)
theorem afq(os:Os){H:Type}(enc:TypeId×Value->H):∃ places,DataW.whole enc Tryz.prog ((zj os).forCall (λ_ _=>0) ⟨#[],#[.agg #[.slice none 0 0],.string ⟨#[]⟩,.int .i64 0],[]⟩).memory Tryz.f9.params.toList Rows.tableBehindSpec.vars false (#[.agg #[.slice none 0 0],.string ⟨#[]⟩,.int .i64 0]:Array Value).toList 8=some ([.agg [.nil],.lit (.string []),.lit (.int .i64 0)],[],places):=
 ⟨[],by kernel_rfl⟩
theorem UK:(Tryz.f9.params.toList.all λt=>Tryz.prog.readableRec t&&decide (t<Tryz.prog.types.size) && !Tryz.prog.wantsStandIn t)=true:=by kernel_rfl
set_option maxRecDepth 100000 in
theorem afr(H:Type)(enc:TypeId×Value->H)(W:World)(base:Nat)(args:Array Value)(ds gs:List (DataW H))(before:List MemPlace)
  (p5:∀ (j:Nat) t v,Tryz.f9.params[j]?=some t->args[j]?=some v->Value.okWide Tryz.prog W .any base t v)
  (gr:DataW.Whole enc Tryz.prog Tryz.f9.params.toList Rows.tableBehindSpec.vars false W args.toList ds gs before) (cI:laidMetH Tryz.prog Rows.tableBehindRow.laid W) :
  Calls Tryz.prog 9 args W λe ht=>∃ v,e=.returned v/\Rows.tableBehindSpec.post enc Tryz.prog Tryz.f9 false true false false W args v ht:=by
 have Dn:=gr
 obtain⟨p,q,pw,Mj,rfl,afc,b3⟩:=gr
 have ha:DataW.TrodAll enc Tryz.prog W 0 (λ_=>true) true Tryz.f9.params.toList args.toList ds p:=pw
 have Mk:=ha
 rw[Tryz.params9]at ha
 obtain⟨rfl,rfl⟩:=trodVars_none Mj
 have aU:∀ x∈p,x.block<W.heap.size:=λx ae=>Dn.lt x (by simp[ae])
 have bO:ih (m7 W) jn:=Pf cI rfl
 obtain⟨v1,v2,aet,d1,d2,d3,k',mm,BO,rfl,rfl,rfl,aa,ab,ai⟩:=trodAll_three ha
 obtain⟨aO,rfl,iI⟩:=Pl aa (p5 0 30 _ (by kernel_rfl) rfl)
 obtain⟨aP,rfl,ic⟩:=Pp ab (p5 1 9 _ (by kernel_rfl) rfl)
 obtain⟨br,rfl,n5⟩:=XZ ai (p5 2 3 _ (by kernel_rfl) rfl)
 refine(O4 (aeU bO iI ic n5)).mono ?_
 rintro e ht⟨v,rfl,⟨I',M',rfl⟩,dB⟩
 refine⟨_,rfl,O5 (pa:=_) (pv:=[]) Dn (λ_ _ _=>?_) (λdW aq=>IT laidOut dB (λt az=>?_) Mk aU dW (λp aH=>aq p (List.mem_append_left _ aH))) (λ_ _=>rfl) rfl dB (ok_one (by kernel_rfl) rfl (okWide_bool_mk Tryz.underlying4 _))⟩
 ·exact trodAll_cons_mk (shut_bool Tryz.underlying4 _) trodAll_mk0
 ·have:=ER UK az
  simp only[Bool.and_eq_true,decide_eq_true_eq]at this
  exact this.1
set_option maxRecDepth 100000 in
theorem afs(os:Os)(started:os.Started)(H:Type)(enc:TypeId×Value->H)(F:Stop.Interp) :
  ReturnsInHanded {} Tryz.checked os 9 .any ((OpenSpec.ofChange Rows.tableBehindSpec).preRow enc Tryz.prog Tryz.f9 Rows.tableBehindRow.domain false Rows.tableBehindRow.laid) (((OpenSpec.ofChange Rows.tableBehindSpec).at F).post enc Tryz.prog Tryz.f9 false true false false):=by
 obtain⟨places,ae⟩:=afq os enc
 refine returnsInHanded_of_row (C:=Tryz.checked) (s:=OpenSpec.ofChange Rows.tableBehindSpec) own started (by kernel_rfl) Tryz.func9
  (witness_row_at (enc:=enc) (C:=Tryz.checked) false (zj os) #[.agg #[.slice none 0 0],.string ⟨#[]⟩,.int .i64 0] rfl (by kernel_rfl) (by kernel_rfl) (by kernel_rfl)
   (OpenSpec.preRow_of_cond 8 ae (by kernel_rfl) (λk af=>by cases af) (by kernel_rfl) (afp os))) ?_
 intro W base args ds gs before p5 gr _ _ _ cI _ _
 exact afr H enc W base args ds gs before p5 gr cI
theorem aft:(Rows.tableBehindRow.inPlace == Tryz.prog.inPlace 9)=true:=by kernel_rfl
theorem afu:(Rows.tableBehindRow.unfollowed == Tryz.prog.unfollowed 9)=true:=by kernel_rfl
theorem afv:(Rows.tableBehindRow.recurses == Tryz.prog.recurses 9)=true:=by kernel_rfl
theorem afw:(Rows.tableBehindRow.named == Tryz.prog.varsNamed 9)=true:=by kernel_rfl
theorem afx:(Rows.tableBehindRow.lifted == Tryz.prog.liftsFinal)=true:=by kernel_rfl
theorem afy:joinedFacts Tryz.prog 9 Tryz.f9 (OpenSpec.ofChange Rows.tableBehindSpec).bare Rows.tableBehindRow=true:=by
 unfold joinedFacts
 rw[laidOut,Pm,Pn,Po,aft,afu,afv,afw,afx]
 kernel_rfl
theorem afz:Rows.TableBehindSaid:=
 OpenClaim.holds_of_cond 9 Tryz.f9 rfl rfl rfl rfl rfl rfl rfl ⟨rfl,rfl,rfl,rfl,rfl⟩ rfl rfl rfl rfl rfl (by kernel_rfl) Tryz.func9 afy
  (of_decide_eq_true (by kernel_rfl)) (by unfold Func.isWrapper;first | (rw[if_pos (by decide +kernel)];kernel_rfl) | (rw[if_neg (by decide +kernel)];exact⟨rfl,rfl⟩))
  (λos started H enc _ F=>by rw[OpenClaim.pre_eq_preRow];exact afs os started H enc F)
theorem afA(f:FuncId)(fn:Func)(aD:Tryz.pinned.checked.prog.funcNamed "bonsai/bonsailaw15.TableBehind" = some f) (Ml:Tryz.pinned.checked.prog.funcs[f]?=some fn) :
  false=Tryz.pinned.checked.prog.looks []/\∀ (j:Nat) t,fn.params[j]?=some t->Tryz.pinned.checked.prog.wantsStandIn t=false:=by
 obtain rfl:f=9:=Option.some.inj ((show Tryz.prog.funcNamed "bonsai/bonsailaw15.TableBehind" = some 9 by kernel_rfl).symm.trans aD) |>.symm
 obtain rfl:fn=Tryz.f9:=(Option.some.inj (Tryz.func9.symm.trans Ml)).symm
 refine⟨by kernel_rfl,λj t az=>?_⟩
 have:=ER UK (x:=t) (by simpa using Array.mem_of_getElem? az)
 simp only[Bool.and_eq_true,Bool.not_eq_true',decide_eq_true_eq]at this
 exact this.2
theorem afB:OpenClaim.wfByText (OpenSpec.ofChange Rows.tableBehindSpec) Rows.tableBehindRow=true:=by kernel_rfl
theorem afC:Tryz.pinned.checked.prog.mainIs=some (true,("db821cf6a62ad82fd32c91bf02bb5aec2ad68fe8ecc345121b93bfe85518b6ae" : String).toList):=by kernel_rfl
theorem afD:false=Rows.tableBehindRow.goesBy Tryz.pinned.checked.prog:=by kernel_rfl
theorem tableBehind_card:Rows.TableBehindCardSaid:=
 Claim7.holds_tied_plain_at .later [] _ _ _ _ afz (λ_ h=>by cases h) afB (λ_ h=>by cases h) tableBehind_row_tie rfl ⟨rfl,rfl⟩ afC rfl afA afD
end Go.Proofs.YtelfblhcphnbmaaGreatDoor
