/-
  For every input bonsai/bonsailaw15.TableMay returns true, and each argument reads behind the call as it read before: the given card, from the walk's contract. Conditions: those of the row itself.
-/
import Derived.Test.YtelfblhcphnbmaaGreatDoorK3
import Derived.Test.YtelfblhcphnbmaaGreatDoorK7
import Derived.Carry
set_option linter.all false
namespace Go.Proofs.YtelfblhcphnbmaaGreatDoor
open Go Go.V Go.ChangeShapes Go.WideShapes Go.ChangeAt Go.RowKit
theorem ae9(os:Os):laidMet Tryz.prog Rows.tableMayRow.laid ((zj os).forCall (λ_ _=>0) ⟨#[],#[.agg #[.slice none 0 0],.string ⟨#[]⟩],[]⟩).memory:=
 laidMet_of_run' 8 (by kernel_rfl) (by kernel_rfl)
theorem afa(os:Os){H:Type}(enc:TypeId×Value->H):∃ places,DataW.whole enc Tryz.prog ((zj os).forCall (λ_ _=>0) ⟨#[],#[.agg #[.slice none 0 0],.string ⟨#[]⟩],[]⟩).memory Tryz.f6.params.toList Rows.tableMaySpec.vars false (#[.agg #[.slice none 0 0],.string ⟨#[]⟩]:Array Value).toList 8=some ([.agg [.nil],.lit (.string [])],[],places):=
 ⟨[],by kernel_rfl⟩
theorem UJ:(Tryz.f6.params.toList.all λt=>Tryz.prog.readableRec t&&decide (t<Tryz.prog.types.size) && !Tryz.prog.wantsStandIn t)=true:=by kernel_rfl
set_option maxRecDepth 100000 in
theorem afb(H:Type)(enc:TypeId×Value->H)(W:World)(base:Nat)(args:Array Value)(ds gs:List (DataW H))(before:List MemPlace)
  (p5:∀ (j:Nat) t v,Tryz.f6.params[j]?=some t->args[j]?=some v->Value.okWide Tryz.prog W .any base t v)
  (gr:DataW.Whole enc Tryz.prog Tryz.f6.params.toList Rows.tableMaySpec.vars false W args.toList ds gs before) (cI:laidMetH Tryz.prog Rows.tableMayRow.laid W) :
  Calls Tryz.prog 6 args W λe ht=>∃ v,e=.returned v/\Rows.tableMaySpec.post enc Tryz.prog Tryz.f6 false true false false W args v ht:=by
 have Dn:=gr
 obtain⟨p,q,pw,Mj,rfl,afc,b3⟩:=gr
 have ha:DataW.TrodAll enc Tryz.prog W 0 (λ_=>true) true Tryz.f6.params.toList args.toList ds p:=pw
 have Mk:=ha
 rw[Tryz.params6]at ha
 obtain⟨rfl,rfl⟩:=trodVars_none Mj
 have aU:∀ x∈p,x.block<W.heap.size:=λx ae=>Dn.lt x (by simp[ae])
 have bO:ih (m7 W) jn:=Pf cI rfl
 obtain⟨v1,v2,d1,d2,k',mm,rfl,rfl,rfl,aa,ab⟩:=trodAll_two ha
 obtain⟨aO,rfl,iI⟩:=Pl aa (p5 0 30 _ (by kernel_rfl) rfl)
 obtain⟨aP,rfl,ic⟩:=Pp ab (p5 1 9 _ (by kernel_rfl) rfl)
 refine(O4 (aeC bO iI ic)).mono ?_
 rintro e ht⟨v,rfl,⟨I',M',rfl⟩,dB⟩
 refine⟨_,rfl,O5 (pa:=_) (pv:=[]) Dn (λ_ _ _=>?_) (λdW aq=>IT laidOut dB (λt az=>?_) Mk aU dW (λp aH=>aq p (List.mem_append_left _ aH))) (λ_ _=>rfl) rfl dB (ok_one (by kernel_rfl) rfl (okWide_bool_mk Tryz.underlying4 _))⟩
 ·exact trodAll_cons_mk (shut_bool Tryz.underlying4 _) trodAll_mk0
 ·have:=ER UJ az
  simp only[Bool.and_eq_true,decide_eq_true_eq]at this
  exact this.1
set_option maxRecDepth 100000 in
theorem afd(os:Os)(started:os.Started)(H:Type)(enc:TypeId×Value->H)(F:Stop.Interp) :
  ReturnsInHanded {} Tryz.checked os 6 .any ((OpenSpec.ofChange Rows.tableMaySpec).preRow enc Tryz.prog Tryz.f6 Rows.tableMayRow.domain false Rows.tableMayRow.laid) (((OpenSpec.ofChange Rows.tableMaySpec).at F).post enc Tryz.prog Tryz.f6 false true false false):=by
 obtain⟨places,ae⟩:=afa os enc
 refine returnsInHanded_of_row (C:=Tryz.checked) (s:=OpenSpec.ofChange Rows.tableMaySpec) own started (by kernel_rfl) Tryz.func6
  (witness_row_at (enc:=enc) (C:=Tryz.checked) false (zj os) #[.agg #[.slice none 0 0],.string ⟨#[]⟩] rfl (by kernel_rfl) (by kernel_rfl) (by kernel_rfl)
   (OpenSpec.preRow_of_cond 8 ae (by kernel_rfl) (λk af=>by cases af) (by kernel_rfl) (ae9 os))) ?_
 intro W base args ds gs before p5 gr _ _ _ cI _ _
 exact afb H enc W base args ds gs before p5 gr cI
theorem afe:(Rows.tableMayRow.inPlace == Tryz.prog.inPlace 6)=true:=by kernel_rfl
theorem aff:(Rows.tableMayRow.unfollowed == Tryz.prog.unfollowed 6)=true:=by kernel_rfl
theorem afg:(Rows.tableMayRow.recurses == Tryz.prog.recurses 6)=true:=by kernel_rfl
theorem afh:(Rows.tableMayRow.named == Tryz.prog.varsNamed 6)=true:=by kernel_rfl
theorem afi:(Rows.tableMayRow.lifted == Tryz.prog.liftsFinal)=true:=by kernel_rfl
theorem afj:joinedFacts Tryz.prog 6 Tryz.f6 (OpenSpec.ofChange Rows.tableMaySpec).bare Rows.tableMayRow=true:=by
 unfold joinedFacts
 rw[laidOut,Pm,Pn,Po,afe,aff,afg,afh,afi]
 kernel_rfl
theorem afk:Rows.TableMaySaid:=
 OpenClaim.holds_of_cond 6 Tryz.f6 rfl rfl rfl rfl rfl rfl rfl ⟨rfl,rfl,rfl,rfl,rfl⟩ rfl rfl rfl rfl rfl (by kernel_rfl) Tryz.func6 afj
  (of_decide_eq_true (by kernel_rfl)) (by unfold Func.isWrapper;first | (rw[if_pos (by decide +kernel)];kernel_rfl) | (rw[if_neg (by decide +kernel)];exact⟨rfl,rfl⟩))
  (λos started H enc _ F=>by rw[OpenClaim.pre_eq_preRow];exact afd os started H enc F)
theorem afl(f:FuncId)(fn:Func)(aD:Tryz.pinned.checked.prog.funcNamed "bonsai/bonsailaw15.TableMay" = some f) (Ml:Tryz.pinned.checked.prog.funcs[f]?=some fn) :
  false=Tryz.pinned.checked.prog.looks []/\∀ (j:Nat) t,fn.params[j]?=some t->Tryz.pinned.checked.prog.wantsStandIn t=false:=by
 obtain rfl:f=6:=Option.some.inj ((show Tryz.prog.funcNamed "bonsai/bonsailaw15.TableMay" = some 6 by kernel_rfl).symm.trans aD) |>.symm
 obtain rfl:fn=Tryz.f6:=(Option.some.inj (Tryz.func6.symm.trans Ml)).symm
 refine⟨by kernel_rfl,λj t az=>?_⟩
 have:=ER UJ (x:=t) (by simpa using Array.mem_of_getElem? az)
 simp only[Bool.and_eq_true,Bool.not_eq_true',decide_eq_true_eq]at this
 exact this.2
theorem afm:OpenClaim.wfByText (OpenSpec.ofChange Rows.tableMaySpec) Rows.tableMayRow=true:=by kernel_rfl
theorem afn:Tryz.pinned.checked.prog.mainIs=some (true,("db821cf6a62ad82fd32c91bf02bb5aec2ad68fe8ecc345121b93bfe85518b6ae" : String).toList):=by kernel_rfl
theorem afo:false=Rows.tableMayRow.goesBy Tryz.pinned.checked.prog:=by kernel_rfl
theorem tableMay_card:Rows.TableMayCardSaid:=
 Claim7.holds_tied_plain_at .later [] _ _ _ _ afk (λ_ h=>by cases h) afm (λ_ h=>by cases h) tableMay_row_tie rfl ⟨rfl,rfl⟩ afn rfl afl afo
end Go.Proofs.YtelfblhcphnbmaaGreatDoor
