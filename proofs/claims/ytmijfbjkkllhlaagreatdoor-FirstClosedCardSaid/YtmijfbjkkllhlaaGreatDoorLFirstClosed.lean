/-
  For every input bonsai/bonsailaw11.FirstClosed returns true, and each argument reads behind the call as it read before: the given card, from the walk's contract. Conditions: those of the row itself.
-/
import Derived.Test.YtmijfbjkkllhlaaGreatDoorK4
import Derived.Test.YtmijfbjkkllhlaaGreatDoorK7
import Derived.Carry

/-
  For every input bonsai/bonsailaw11.FirstClosed returns true, and each argument reads behind the call as it read before: the given card, from the walk's contract. Conditions: those of the row itself.
-/
set_option linter.unusedVariables false
set_option linter.unusedSimpArgs false
namespace Go.Proofs.YtmijfbjkkllhlaaGreatDoor
open Go Go.V Go.ChangeShapes Go.WideShapes Go.ChangeAt Go.RowKit

theorem firstClosed_laid (os : Os) : laidMet Tryz.prog Rows.firstClosedRow.laid ((laidWorld os).forCall (fun _ _ => 0) ⟨#[], #[.agg #[.slice none 0 0], .slice none 0 0], []⟩).memory :=
  laidMet_of_run' 8 (by kernel_rfl) (by kernel_rfl)
theorem firstClosed_reads (os : Os) {H : Type} (enc : TypeId × Value → H) : ∃ places, DataW.whole enc Tryz.prog ((laidWorld os).forCall (fun _ _ => 0) ⟨#[], #[.agg #[.slice none 0 0], .slice none 0 0], []⟩).memory Tryz.f11.params.toList Rows.firstClosedSpec.vars false (#[.agg #[.slice none 0 0], .slice none 0 0] : Array Value).toList 8 = some ([.agg [.nil], .nil], [], places) :=
  ⟨[], by kernel_rfl⟩
theorem firstClosed_params : (Tryz.f11.params.toList.all fun t => Tryz.prog.readableRec t && decide (t < Tryz.prog.types.size) && !Tryz.prog.wantsStandIn t) = true := by kernel_rfl

set_option maxRecDepth 100000 in
theorem firstClosed_contract (H : Type) (enc : TypeId × Value → H) (W : World) (base : Nat) (args : Array Value) (ds gs : List (DataW H)) (before : List MemPlace)
    (hval : ∀ (j : Nat) t v, Tryz.f11.params[j]? = some t → args[j]? = some v → Value.okWide Tryz.prog W .any base t v)
    (hW : DataW.Whole enc Tryz.prog Tryz.f11.params.toList Rows.firstClosedSpec.vars false W args.toList ds gs before) (hL : laidMetH Tryz.prog Rows.firstClosedRow.laid W) :
    Calls Tryz.prog 11 args W fun e W' => ∃ v, e = .returned v ∧ Rows.firstClosedSpec.post enc Tryz.prog Tryz.f11 false true false false W args v W' := by
  have hW' := hW
  obtain ⟨p, q, hA0, hV, rfl, hfz, hnd⟩ := hW
  have hA : DataW.TrodAll enc Tryz.prog W 0 (fun _ => true) true Tryz.f11.params.toList args.toList ds p := hA0
  have hAk := hA
  rw [Tryz.params11] at hA
  obtain ⟨rfl, rfl⟩ := trodVars_none hV
  have hlt : ∀ x ∈ p, x.block < W.heap.size := fun x hx => hW'.lt x (by simp [hx])
  have hT : Tabs (ghost W) debL := tabs_ghost hL rfl
  obtain ⟨v1, v2, d1, d2, p1, p2, rfl, rfl, rfl, h1, h2⟩ := trodAll_two hA
  obtain ⟨g1, rfl, hg1⟩ := arg_grammar h1 (hval 0 24 _ (by kernel_rfl) rfl)
  obtain ⟨g2, rfl, hg2⟩ := arg_firsts h2 (hval 1 49 _ (by kernel_rfl) rfl)
  refine (calls_of_specE (firstClosed_V hT hg1 hg2)).mono ?_
  rintro e W' ⟨v, rfl, ⟨I', M', rfl⟩, hK⟩
  refine ⟨_, rfl, post_of_old (pa := _) (pv := []) hW' (fun _ _ _ => ?_) (fun sp hs => trodAll_stays laidOut hK (fun t ht => ?_) hAk hlt sp (fun p hp => hs p (List.mem_append_left _ hp))) (fun _ _ => rfl) rfl hK (ok_one (by kernel_rfl) rfl (okWide_bool_mk Tryz.underlying4 _))⟩
  · exact trodAll_cons_mk (shut_bool Tryz.underlying4 _) trodAll_mk0
  · have := all_mem firstClosed_params ht
    simp only [Bool.and_eq_true, decide_eq_true_eq] at this
    exact this.1

set_option maxRecDepth 100000 in
theorem firstClosed_lifted (os : Os) (started : os.Started) (H : Type) (enc : TypeId × Value → H) (F : Stop.Interp) :
    ReturnsInHanded {} Tryz.checked os 11 .any ((OpenSpec.ofChange Rows.firstClosedSpec).preRow enc Tryz.prog Tryz.f11 Rows.firstClosedRow.domain false Rows.firstClosedRow.laid) (((OpenSpec.ofChange Rows.firstClosedSpec).at F).post enc Tryz.prog Tryz.f11 false true false false) := by
  obtain ⟨places, hx⟩ := firstClosed_reads os enc
  refine returnsInHanded_of_row (C := Tryz.checked) (s := OpenSpec.ofChange Rows.firstClosedSpec) own started (by kernel_rfl) Tryz.func11
    (witness_row_at (enc := enc) (C := Tryz.checked) false (laidWorld os) #[.agg #[.slice none 0 0], .slice none 0 0] rfl (by kernel_rfl) (by kernel_rfl) (by kernel_rfl)
      (OpenSpec.preRow_of_cond 8 hx (by kernel_rfl) (fun k hk => by cases hk) (by kernel_rfl) (firstClosed_laid os))) ?_
  intro W base args ds gs before hval hW _ _ _ hL _ _
  exact firstClosed_contract H enc W base args ds gs before hval hW hL

theorem firstClosed_k10 : (Rows.firstClosedRow.inPlace == Tryz.prog.inPlace 11) = true := by kernel_rfl
theorem firstClosed_k11 : (Rows.firstClosedRow.unfollowed == Tryz.prog.unfollowed 11) = true := by kernel_rfl
theorem firstClosed_k12 : (Rows.firstClosedRow.recurses == Tryz.prog.recurses 11) = true := by kernel_rfl
theorem firstClosed_k13 : (Rows.firstClosedRow.named == Tryz.prog.varsNamed 11) = true := by kernel_rfl
theorem firstClosed_k14 : (Rows.firstClosedRow.lifted == Tryz.prog.liftsFinal) = true := by kernel_rfl
theorem firstClosed_facts : joinedFacts Tryz.prog 11 Tryz.f11 (OpenSpec.ofChange Rows.firstClosedSpec).bare Rows.firstClosedRow = true := by
  unfold joinedFacts
  rw [laidOut, mapsRowed_ok, stopsHeard_ok, mayEnter_ok, firstClosed_k10, firstClosed_k11, firstClosed_k12, firstClosed_k13, firstClosed_k14]
  kernel_rfl
theorem firstClosed_said : Rows.FirstClosedSaid :=
  OpenClaim.holds_of_cond 11 Tryz.f11 rfl rfl rfl rfl rfl rfl rfl ⟨rfl, rfl, rfl, rfl, rfl⟩ rfl rfl rfl rfl rfl (by kernel_rfl) Tryz.func11 firstClosed_facts
    (of_decide_eq_true (by kernel_rfl)) (by unfold Func.isWrapper; first | (rw [if_pos (by decide +kernel)]; kernel_rfl) | (rw [if_neg (by decide +kernel)]; exact ⟨rfl, rfl⟩))
    (fun os started H enc _ F => by rw [OpenClaim.pre_eq_preRow]; exact firstClosed_lifted os started H enc F)

theorem firstClosed_plain (f : FuncId) (fn : Func) (hf : Tryz.pinned.checked.prog.funcNamed "bonsai/bonsailaw11.FirstClosed" = some f) (hfn : Tryz.pinned.checked.prog.funcs[f]? = some fn) :
    false = Tryz.pinned.checked.prog.looks [] ∧ ∀ (j : Nat) t, fn.params[j]? = some t → Tryz.pinned.checked.prog.wantsStandIn t = false := by
  obtain rfl : f = 11 := Option.some.inj ((show Tryz.prog.funcNamed "bonsai/bonsailaw11.FirstClosed" = some 11 by kernel_rfl).symm.trans hf) |>.symm
  obtain rfl : fn = Tryz.f11 := (Option.some.inj (Tryz.func11.symm.trans hfn)).symm
  refine ⟨by kernel_rfl, fun j t ht => ?_⟩
  have := all_mem firstClosed_params (x := t) (by simpa using Array.mem_of_getElem? ht)
  simp only [Bool.and_eq_true, Bool.not_eq_true', decide_eq_true_eq] at this
  exact this.2

/-- The card. -/
theorem firstClosed_card : Rows.FirstClosedCardSaid :=
  Claim7.holds_tied_plain_at .later [] _ _ _ _ firstClosed_said (fun _ h => by cases h) (by kernel_rfl) (fun _ h => by cases h) firstClosed_row_tie rfl ⟨rfl, rfl⟩ (by kernel_rfl) rfl firstClosed_plain (by kernel_rfl)
end Go.Proofs.YtmijfbjkkllhlaaGreatDoor
