/-
  For every input bonsai/bonsailaw23.MergeAll returns true, and each argument reads behind the call as it read before: the given card, from the walk's contract. Conditions: those of the row itself.
-/
import Derived.Test.YthnoknnlcnikbaaGreatDoorK4
import Derived.Test.YthnoknnlcnikbaaGreatDoorK10
import Derived.Carry
set_option linter.all false
namespace Go.Proofs.YthnoknnlcnikbaaGreatDoor
open Go Go.V Go.ChangeShapes Go.WideShapes Go.ChangeAt Go.RowKit
theorem auW(os:Os):laidMet Tryz.prog Rows.mergeAllRow.laid ((Qs os).forCall (λ_ _=>0) ⟨#[],#[.agg #[.slice none 0 0]],[]⟩).memory:=
 laidMet_of_run' 8 (by kernel_rfl) (by kernel_rfl)
theorem auX(os:Os){H:Type}(enc:TypeId×Value->H):∃ places,DataW.whole enc Tryz.prog ((Qs os).forCall (λ_ _=>0) ⟨#[],#[.agg #[.slice none 0 0]],[]⟩).memory Tryz.f8.params.toList Rows.mergeAllSpec.vars false (#[.agg #[.slice none 0 0]]:Array Value).toList 8=some ([.agg [.nil]],[],places):=
 ⟨[],by kernel_rfl⟩
theorem agF:(Tryz.f8.params.toList.all λt=>Tryz.prog.readableRec t&&decide (t<Tryz.prog.types.size) && !Tryz.prog.wantsStandIn t)=true:=by kernel_rfl
set_option maxRecDepth 100000 in
theorem auY(H:Type)(enc:TypeId×Value->H)(W:World)(cX:Nat)(args:Array Value)(ds gs:List (DataW H))(before:List MemPlace)
  (Cg:∀ (j:Nat) t v,Tryz.f8.params[j]?=some t->args[j]?=some v->Value.okWide Tryz.prog W .any cX t v)
  (iD:DataW.Whole enc Tryz.prog Tryz.f8.params.toList Rows.mergeAllSpec.vars false W args.toList ds gs before) (bY:laidMetH Tryz.prog Rows.mergeAllRow.laid W) :
  Calls Tryz.prog 8 args W λe k0=>∃ v,e=.returned v/\Rows.mergeAllSpec.post enc Tryz.prog Tryz.f8 false true false false W args v k0:=by
 have agG:=iD
 obtain⟨p,q,vq,auZ,rfl,axj,bU⟩:=iD
 have dI:DataW.TrodAll enc Tryz.prog W 0 (λ_=>true) true Tryz.f8.params.toList args.toList ds p:=vq
 have au0:=dI
 rw[Tryz.params8]at dI
 obtain⟨rfl,rfl⟩:=trodVars_none auZ
 have aZ:∀ x∈p,x.block<W.heap.size:=λx ab=>agG.lt x (by simp[ab])
 have be:e2 (rQ W) dA:=ajq bY rfl
 obtain⟨v1,d1,rfl,rfl,aa⟩:=trodAll_one dI
 obtain⟨bc,rfl,rH⟩:=ajK aa (Cg 0 30 _ (by kernel_rfl) rfl)
 refine(ai6 (auJ be rH)).mono ?_
 rintro e k0⟨v,rfl,⟨I',M',rfl⟩,ek⟩
 refine⟨_,rfl,ai7 (pa:=_) (pv:=[]) agG (λ_ _ _=>?_) (λfU av=>Yi laidOut ek (λt aq=>?_) au0 aZ fU (λp aJ=>av p (List.mem_append_left _ aJ))) (λ_ _=>rfl) rfl ek (ok_one (by kernel_rfl) rfl (okWide_bool_mk Tryz.underlying4 _))⟩
 ·exact trodAll_cons_mk (shut_bool Tryz.underlying4 _) trodAll_mk0
 ·have:=Yb agF aq
  simp only[Bool.and_eq_true,decide_eq_true_eq]at this
  exact this.1
set_option maxRecDepth 100000 in
theorem au1(os:Os)(started:os.Started)(H:Type)(enc:TypeId×Value->H)(F:Stop.Interp) :
  ReturnsInHanded {} Tryz.checked os 8 .any ((OpenSpec.ofChange Rows.mergeAllSpec).preRow enc Tryz.prog Tryz.f8 Rows.mergeAllRow.domain false Rows.mergeAllRow.laid) (((OpenSpec.ofChange Rows.mergeAllSpec).at F).post enc Tryz.prog Tryz.f8 false true false false):=by
 obtain⟨places,ab⟩:=auX os enc
 refine returnsInHanded_of_row (C:=Tryz.checked) (s:=OpenSpec.ofChange Rows.mergeAllSpec) own started (by kernel_rfl) Tryz.func8
  (witness_row_at (enc:=enc) (C:=Tryz.checked) false (Qs os) #[.agg #[.slice none 0 0]] rfl (by kernel_rfl) (by kernel_rfl) (by kernel_rfl)
   (OpenSpec.preRow_of_cond 8 ab (by kernel_rfl) (λk ae=>by cases ae) (by kernel_rfl) (auW os))) ?_
 intro W cX args ds gs before Cg iD _ _ _ bY _ _
 exact auY H enc W cX args ds gs before Cg iD bY
theorem au2:(Rows.mergeAllRow.inPlace == Tryz.prog.inPlace 8)=true:=by kernel_rfl
theorem au3:(Rows.mergeAllRow.unfollowed == Tryz.prog.unfollowed 8)=true:=by kernel_rfl
theorem au4:(Rows.mergeAllRow.recurses == Tryz.prog.recurses 8)=true:=by kernel_rfl
theorem au5:(Rows.mergeAllRow.named == Tryz.prog.varsNamed 8)=true:=by kernel_rfl
theorem au6:(Rows.mergeAllRow.lifted == Tryz.prog.liftsFinal)=true:=by kernel_rfl
theorem au7:joinedFacts Tryz.prog 8 Tryz.f8 (OpenSpec.ofChange Rows.mergeAllSpec).bare Rows.mergeAllRow=true:=by
 unfold joinedFacts
 rw[laidOut,ajL,ajM,ajN,au2,au3,au4,au5,au6]
 kernel_rfl
theorem au8:Rows.MergeAllSaid:=
 OpenClaim.holds_of_cond 8 Tryz.f8 rfl rfl rfl rfl rfl rfl rfl ⟨rfl,rfl,rfl,rfl,rfl⟩ rfl rfl rfl rfl rfl (by kernel_rfl) Tryz.func8 au7
  (of_decide_eq_true (by kernel_rfl)) (by unfold Func.isWrapper;first | (rw[if_pos (by decide +kernel)];kernel_rfl) | (rw[if_neg (by decide +kernel)];exact⟨rfl,rfl⟩))
  (λos started H enc _ F=>by rw[OpenClaim.pre_eq_preRow];exact au1 os started H enc F)
theorem au9(f:FuncId)(fn:Func)(aB:Tryz.pinned.checked.prog.funcNamed "bonsai/bonsailaw23.MergeAll" = some f) (yy:Tryz.pinned.checked.prog.funcs[f]?=some fn) :
  false=Tryz.pinned.checked.prog.looks []/\∀ (j:Nat) t,fn.params[j]?=some t->Tryz.pinned.checked.prog.wantsStandIn t=false:=by
 obtain rfl:f=8:=Option.some.inj ((show Tryz.prog.funcNamed "bonsai/bonsailaw23.MergeAll" = some 8 by kernel_rfl).symm.trans aB) |>.symm
 obtain rfl:fn=Tryz.f8:=(Option.some.inj (Tryz.func8.symm.trans yy)).symm
 refine⟨by kernel_rfl,λj t aq=>?_⟩
 have:=Yb agF (x:=t) (by simpa using Array.mem_of_getElem? aq)
 simp only[Bool.and_eq_true,Bool.not_eq_true',decide_eq_true_eq]at this
 exact this.2
theorem ava:OpenClaim.wfByText (OpenSpec.ofChange Rows.mergeAllSpec) Rows.mergeAllRow=true:=by kernel_rfl
theorem avb:Tryz.pinned.checked.prog.mainIs=some (true,("665077a709f15779ed00e146ff15f7c3ed7007af8087f28bc4c0d76c2410daa2" : String).toList):=by kernel_rfl
theorem avc:false=Rows.mergeAllRow.goesBy Tryz.pinned.checked.prog:=by kernel_rfl
theorem mergeAll_card:Rows.MergeAllCardSaid:=
 Claim7.holds_tied_plain_at .later [] _ _ _ _ au8 (λ_ h=>by cases h) ava (λ_ h=>by cases h) mergeAll_row_tie rfl ⟨rfl,rfl⟩ avb rfl au9 avc
end Go.Proofs.YthnoknnlcnikbaaGreatDoor
