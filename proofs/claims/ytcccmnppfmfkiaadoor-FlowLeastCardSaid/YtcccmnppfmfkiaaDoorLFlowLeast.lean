/-
  For every input bonsai/bonsailaw10.FlowLeast returns true, and each argument reads behind the call as it read before: the given card, from the walk's contract. Conditions: those of the row itself.
-/
import Derived.Test.YtcccmnppfmfkiaaDoorK5
import Derived.Test.YtcccmnppfmfkiaaDoorK8
import Derived.Carry

/-
  For every input bonsai/bonsailaw10.FlowLeast returns true, and each argument reads behind the call as it read before: the given card, from the walk's contract. Conditions: those of the row itself.
-/
set_option linter.unusedVariables false
set_option linter.unusedSimpArgs false
namespace Go.Proofs.YtcccmnppfmfkiaaDoor
open Go Go.V Go.ChangeShapes Go.WideShapes Go.ChangeAt Go.RowKit

theorem flowLeast_laid (os : Os) : laidMet Tryd.prog Rows.flowLeastRow.laid ((laidWorld os).forCall (fun _ _ => 0) ⟨#[], #[.agg #[.slice none 0 0], .slice none 0 0], []⟩).memory :=
  laidMet_of_run' 8 (by kernel_rfl) (by kernel_rfl)
theorem flowLeast_reads (os : Os) {H : Type} (enc : TypeId × Value → H) : ∃ places, DataW.whole enc Tryd.prog ((laidWorld os).forCall (fun _ _ => 0) ⟨#[], #[.agg #[.slice none 0 0], .slice none 0 0], []⟩).memory Tryd.f7.params.toList Rows.flowLeastSpec.vars false (#[.agg #[.slice none 0 0], .slice none 0 0] : Array Value).toList 8 = some ([.agg [.nil], .nil], [], places) :=
  ⟨[], by kernel_rfl⟩
theorem flowLeast_params : (Tryd.f7.params.toList.all fun t => Tryd.prog.readableRec t && decide (t < Tryd.prog.types.size) && !Tryd.prog.wantsStandIn t) = true := by kernel_rfl

set_option maxRecDepth 100000 in
theorem flowLeast_contract (H : Type) (enc : TypeId × Value → H) (W : World) (base : Nat) (args : Array Value) (ds gs : List (DataW H)) (before : List MemPlace)
    (hval : ∀ (j : Nat) t v, Tryd.f7.params[j]? = some t → args[j]? = some v → Value.okWide Tryd.prog W .any base t v)
    (hW : DataW.Whole enc Tryd.prog Tryd.f7.params.toList Rows.flowLeastSpec.vars false W args.toList ds gs before) (hL : laidMetH Tryd.prog Rows.flowLeastRow.laid W) :
    Calls Tryd.prog 7 args W fun e W' => ∃ v, e = .returned v ∧ Rows.flowLeastSpec.post enc Tryd.prog Tryd.f7 false true false false W args v W' := by
  have hW' := hW
  obtain ⟨p, q, hA0, hV, rfl, hfz, hnd⟩ := hW
  have hA : DataW.TrodAll enc Tryd.prog W 0 (fun _ => true) true Tryd.f7.params.toList args.toList ds p := hA0
  have hAk := hA
  rw [Tryd.params7] at hA
  obtain ⟨rfl, rfl⟩ := trodVars_none hV
  have hlt : ∀ x ∈ p, x.block < W.heap.size := fun x hx => hW'.lt x (by simp [hx])
  have hT : Tabs (ghost W) debL := tabs_ghost hL rfl
  obtain ⟨v1, v2, d1, d2, p1, p2, rfl, rfl, rfl, h1, h2⟩ := trodAll_two hA
  obtain ⟨g1, rfl, hg1⟩ := arg_grammar h1 (hval 0 38 _ (by kernel_rfl) rfl)
  obtain ⟨g2, rfl, hg2⟩ := arg_flows h2 (hval 1 56 _ (by kernel_rfl) rfl)
  refine (calls_of_specE (flowLeast_V hT hg1 hg2)).mono ?_
  rintro e W' ⟨v, rfl, ⟨I', M', rfl⟩, hK⟩
  refine ⟨_, rfl, post_of_old (pa := _) (pv := []) hW' (fun _ _ _ => ?_) (fun sp hs => trodAll_stays laidOut hK (fun t ht => ?_) hAk hlt sp (fun p hp => hs p (by simp [hp]))) (fun _ _ => rfl) rfl hK (ok_one (by kernel_rfl) rfl (okWide_bool_mk Tryd.underlying4 _))⟩
  · exact trodAll_cons_mk (shut_bool Tryd.underlying4 _) trodAll_mk0
  · have := all_mem flowLeast_params ht
    simp only [Bool.and_eq_true, decide_eq_true_eq] at this
    exact this.1

set_option maxRecDepth 100000 in
theorem flowLeast_lifted (os : Os) (started : os.Started) (H : Type) (enc : TypeId × Value → H) (F : Stop.Interp) :
    ReturnsInHanded {} Tryd.checked os 7 .any ((OpenSpec.ofChange Rows.flowLeastSpec).preRow enc Tryd.prog Tryd.f7 Rows.flowLeastRow.domain false Rows.flowLeastRow.laid) (((OpenSpec.ofChange Rows.flowLeastSpec).at F).post enc Tryd.prog Tryd.f7 false true false false) := by
  obtain ⟨places, hx⟩ := flowLeast_reads os enc
  refine returnsInHanded_of_row (C := Tryd.checked) (s := OpenSpec.ofChange Rows.flowLeastSpec) own started (by kernel_rfl) Tryd.func7
    (witness_row_at (enc := enc) (C := Tryd.checked) false (laidWorld os) #[.agg #[.slice none 0 0], .slice none 0 0] rfl (by kernel_rfl) (by kernel_rfl) (by kernel_rfl)
      (OpenSpec.preRow_of_cond 8 hx (by kernel_rfl) (fun k hk => by cases hk) (by kernel_rfl) (flowLeast_laid os))) ?_
  intro W base args ds gs before hval hW _ _ _ hL _ _
  exact flowLeast_contract H enc W base args ds gs before hval hW hL

theorem flowLeast_said : Rows.FlowLeastSaid :=
  OpenClaim.holds_of_cond 7 Tryd.f7 rfl rfl rfl rfl rfl rfl rfl ⟨rfl, rfl, rfl, rfl, rfl⟩ rfl rfl rfl rfl rfl (by kernel_rfl) Tryd.func7 (by kernel_rfl)
    (of_decide_eq_true (by kernel_rfl)) (by unfold Func.isWrapper; first | (rw [if_pos (by decide +kernel)]; kernel_rfl) | (rw [if_neg (by decide +kernel)]; exact ⟨rfl, rfl⟩))
    (fun os started H enc _ F => by rw [OpenClaim.pre_eq_preRow]; exact flowLeast_lifted os started H enc F)

theorem flowLeast_plain (f : FuncId) (fn : Func) (hf : Tryd.pinned.checked.prog.funcNamed "bonsai/bonsailaw10.FlowLeast" = some f) (hfn : Tryd.pinned.checked.prog.funcs[f]? = some fn) :
    false = Tryd.pinned.checked.prog.looks [] ∧ ∀ (j : Nat) t, fn.params[j]? = some t → Tryd.pinned.checked.prog.wantsStandIn t = false := by
  obtain rfl : f = 7 := Option.some.inj ((show Tryd.prog.funcNamed "bonsai/bonsailaw10.FlowLeast" = some 7 by kernel_rfl).symm.trans hf) |>.symm
  obtain rfl : fn = Tryd.f7 := (Option.some.inj (Tryd.func7.symm.trans hfn)).symm
  refine ⟨by kernel_rfl, fun j t ht => ?_⟩
  have := all_mem flowLeast_params (x := t) (by simpa using Array.mem_of_getElem? ht)
  simp only [Bool.and_eq_true, Bool.not_eq_true', decide_eq_true_eq] at this
  exact this.2

/-- The card. -/
theorem flowLeast_card : Rows.FlowLeastCardSaid :=
  Claim7.holds_tied_plain_at .later [] _ _ _ _ flowLeast_said (fun _ h => by cases h) (by kernel_rfl) (fun _ h => by cases h) flowLeast_row_tie rfl ⟨rfl, rfl⟩ (by kernel_rfl) rfl flowLeast_plain (by kernel_rfl)
end Go.Proofs.YtcccmnppfmfkiaaDoor
