/-
  For every input bonsai/bonsailaw10.FlowNames returns true, and each argument reads behind the call as it read before: the given card, from the walk's contract. Conditions: those of the row itself.
-/
import Derived.Test.YtcccmnppfmfkiaaDoorK5
import Derived.Test.YtcccmnppfmfkiaaDoorK9
import Derived.Carry

/-
  For every input bonsai/bonsailaw10.FlowNames returns true, and each argument reads behind the call as it read before: the given card, from the walk's contract. Conditions: those of the row itself.
-/
set_option linter.unusedVariables false
set_option linter.unusedSimpArgs false
namespace Go.Proofs.YtcccmnppfmfkiaaDoor
open Go Go.V Go.ChangeShapes Go.WideShapes Go.ChangeAt Go.RowKit

theorem flowNames_laid (os : Os) : laidMet Tryd.prog Rows.flowNamesRow.laid ((laidWorld os).forCall (fun _ _ => 0) ⟨#[], #[], []⟩).memory :=
  laidMet_of_run' 8 (by kernel_rfl) (by kernel_rfl)
theorem flowNames_reads (os : Os) {H : Type} (enc : TypeId × Value → H) : ∃ places, DataW.whole enc Tryd.prog ((laidWorld os).forCall (fun _ _ => 0) ⟨#[], #[], []⟩).memory Tryd.f6.params.toList Rows.flowNamesSpec.vars false (#[] : Array Value).toList 8 = some ([], [], places) :=
  ⟨[], by kernel_rfl⟩
theorem flowNames_params : (Tryd.f6.params.toList.all fun t => Tryd.prog.readableRec t && decide (t < Tryd.prog.types.size) && !Tryd.prog.wantsStandIn t) = true := by kernel_rfl

set_option maxRecDepth 100000 in
theorem flowNames_contract (H : Type) (enc : TypeId × Value → H) (W : World) (base : Nat) (args : Array Value) (ds gs : List (DataW H)) (before : List MemPlace)
    (hval : ∀ (j : Nat) t v, Tryd.f6.params[j]? = some t → args[j]? = some v → Value.okWide Tryd.prog W .any base t v)
    (hW : DataW.Whole enc Tryd.prog Tryd.f6.params.toList Rows.flowNamesSpec.vars false W args.toList ds gs before) (hL : laidMetH Tryd.prog Rows.flowNamesRow.laid W) :
    Calls Tryd.prog 6 args W fun e W' => ∃ v, e = .returned v ∧ Rows.flowNamesSpec.post enc Tryd.prog Tryd.f6 false true false false W args v W' := by
  have hW' := hW
  obtain ⟨p, q, hA0, hV, rfl, hfz, hnd⟩ := hW
  have hA : DataW.TrodAll enc Tryd.prog W 0 (fun _ => true) true Tryd.f6.params.toList args.toList ds p := hA0
  have hAk := hA
  rw [Tryd.params6] at hA
  obtain ⟨rfl, rfl⟩ := trodVars_none hV
  have hlt : ∀ x ∈ p, x.block < W.heap.size := fun x hx => hW'.lt x (by simp [hx])
  have hT : Tabs (ghost W) debL := tabs_ghost hL rfl
  obtain ⟨hargs, rfl, rfl⟩ := trodAll_nil hA
  obtain rfl : args = #[] := by cases args; simp_all
  refine (calls_of_specE (flowNames_V hT)).mono ?_
  rintro e W' ⟨v, rfl, ⟨I', M', rfl⟩, hK⟩
  refine ⟨_, rfl, post_of_old (pa := _) (pv := []) hW' (fun _ _ _ => ?_) (fun sp hs => trodAll_stays laidOut hK (fun t ht => ?_) hAk hlt sp (fun p hp => hs p (List.mem_append_left _ hp))) (fun _ _ => rfl) rfl hK (ok_one (by kernel_rfl) rfl (okWide_bool_mk Tryd.underlying4 _))⟩
  · exact trodAll_cons_mk (shut_bool Tryd.underlying4 _) trodAll_mk0
  · have := all_mem flowNames_params ht
    simp only [Bool.and_eq_true, decide_eq_true_eq] at this
    exact this.1

set_option maxRecDepth 100000 in
theorem flowNames_lifted (os : Os) (started : os.Started) (H : Type) (enc : TypeId × Value → H) (F : Stop.Interp) :
    ReturnsInHanded {} Tryd.checked os 6 .any ((OpenSpec.ofChange Rows.flowNamesSpec).preRow enc Tryd.prog Tryd.f6 Rows.flowNamesRow.domain false Rows.flowNamesRow.laid) (((OpenSpec.ofChange Rows.flowNamesSpec).at F).post enc Tryd.prog Tryd.f6 false true false false) := by
  obtain ⟨places, hx⟩ := flowNames_reads os enc
  refine returnsInHanded_of_row (C := Tryd.checked) (s := OpenSpec.ofChange Rows.flowNamesSpec) own started (by kernel_rfl) Tryd.func6
    (witness_row_at (enc := enc) (C := Tryd.checked) false (laidWorld os) #[] rfl (by kernel_rfl) (by kernel_rfl) (by kernel_rfl)
      (OpenSpec.preRow_of_cond 8 hx (by kernel_rfl) (fun k hk => by cases hk) (by kernel_rfl) (flowNames_laid os))) ?_
  intro W base args ds gs before hval hW _ _ _ hL _ _
  exact flowNames_contract H enc W base args ds gs before hval hW hL

theorem flowNames_said : Rows.FlowNamesSaid :=
  OpenClaim.holds_of_cond 6 Tryd.f6 rfl rfl rfl rfl rfl rfl rfl ⟨rfl, rfl, rfl, rfl, rfl⟩ rfl rfl rfl rfl rfl (by kernel_rfl) Tryd.func6 (by kernel_rfl)
    (of_decide_eq_true (by kernel_rfl)) (by unfold Func.isWrapper; first | (rw [if_pos (by decide +kernel)]; kernel_rfl) | (rw [if_neg (by decide +kernel)]; exact ⟨rfl, rfl⟩))
    (fun os started H enc _ F => by rw [OpenClaim.pre_eq_preRow]; exact flowNames_lifted os started H enc F)

theorem flowNames_plain (f : FuncId) (fn : Func) (hf : Tryd.pinned.checked.prog.funcNamed "bonsai/bonsailaw10.FlowNames" = some f) (hfn : Tryd.pinned.checked.prog.funcs[f]? = some fn) :
    false = Tryd.pinned.checked.prog.looks [] ∧ ∀ (j : Nat) t, fn.params[j]? = some t → Tryd.pinned.checked.prog.wantsStandIn t = false := by
  obtain rfl : f = 6 := Option.some.inj ((show Tryd.prog.funcNamed "bonsai/bonsailaw10.FlowNames" = some 6 by kernel_rfl).symm.trans hf) |>.symm
  obtain rfl : fn = Tryd.f6 := (Option.some.inj (Tryd.func6.symm.trans hfn)).symm
  refine ⟨by kernel_rfl, fun j t ht => ?_⟩
  have := all_mem flowNames_params (x := t) (by simpa using Array.mem_of_getElem? ht)
  simp only [Bool.and_eq_true, Bool.not_eq_true', decide_eq_true_eq] at this
  exact this.2

/-- The card. -/
theorem flowNames_card : Rows.FlowNamesCardSaid :=
  Claim7.holds_tied_plain_at .later [] _ _ _ _ flowNames_said (fun _ h => by cases h) (by kernel_rfl) (fun _ h => by cases h) flowNames_row_tie rfl ⟨rfl, rfl⟩ (by kernel_rfl) rfl flowNames_plain (by kernel_rfl)
end Go.Proofs.YtcccmnppfmfkiaaDoor
