/- DayExamples returns true. No conditions. -/
import Derived.Test.YtklanoppbbaolaaGreatOpenA
import Derived.Test.YtklanoppbbaolaaGreatAwEZ
namespace Go.Proofs.YtklanoppbbaolaaGreat
open Go.ChangeShapes Go.WideShapes Go.ChangeAt Go.RowKit Go.Deep Go.Joins
set_option linter.unusedVariables false

theorem dayExamples_contract (H : Type) (enc : TypeId × Value → H) (W : World) (base : Nat) (args : Array Value) (ds gs : List (DataW H)) (before : List MemPlace)
    (hval : ∀ (j : Nat) t v, Tryz.f3.params[j]? = some t → args[j]? = some v → Value.okWide Tryz.prog W .any base t v)
    (hW : DataW.Whole enc Tryz.prog Tryz.f3.params.toList Rows.dayExamplesSpec.vars false W args.toList ds gs before) :
    Calls Tryz.prog 3 args W fun e W' => ∃ v, e = .returned v ∧ Rows.dayExamplesSpec.post enc Tryz.prog Tryz.f3 false true false false W args v W' := by
  have hW' := hW
  obtain ⟨p, q, hA0, hV, rfl, hfz, hnd⟩ := hW
  have hA : DataW.TrodAll enc Tryz.prog W 0 (fun _ => true) true Tryz.f3.params.toList args.toList ds p := hA0
  rw [Tryz.params3] at hA hval
  obtain ⟨e0, rfl, rfl⟩ := trodAll_nil hA
  obtain rfl : args = #[] := by cases args; simp_all
  obtain ⟨rfl, rfl⟩ := trodVars_none hV
  refine (awe_true W ).mono fun e W' ⟨he, hb⟩ => ?_
  subst he
  exact ⟨_, rfl, law_post (tb := 4) Tryz.laidOut (by decide +kernel) (by kernel_rfl) Tryz.underlying4 rfl hW' rfl rfl rfl hb⟩

set_option maxRecDepth 100000 in
theorem dayExamples_lifted (os : Os) (started : os.Started) (H : Type) (enc : TypeId × Value → H) :
    ReturnsInHanded {} Tryz.checked os 3 .any (Rows.dayExamplesSpec.pre6 enc Tryz.prog Tryz.f3 Rows.dayExamplesRow.domain false) (Rows.dayExamplesSpec.post enc Tryz.prog Tryz.f3 false true false false) := by
  refine returnsInHanded_of_change (C := Tryz.checked) Tryz.own started (by kernel_rfl) Tryz.func3
    (ChangeSpec.witness6 (enc := enc) (C := Tryz.checked) false ⟨#[], #[], []⟩ 8 (by kernel_rfl) (by kernel_rfl) (by kernel_rfl) (by kernel_rfl)) ?_
  intro W base args ds gs before hval hW _ _
  exact dayExamples_contract H enc W base args ds gs before hval hW

theorem dayExamples_facta : laidOutB Tryz.prog = true := by kernel_rfl
theorem dayExamples_factb : mapsRowed Tryz.prog = true := by kernel_rfl
theorem dayExamples_facte : (Rows.dayExamplesRow.inPlace == Tryz.prog.inPlace 3) = true := by kernel_rfl
theorem dayExamples_factf : (Rows.dayExamplesRow.unfollowed == Tryz.prog.unfollowed 3) = true := by kernel_rfl
theorem dayExamples_factg : (Rows.dayExamplesRow.recurses == Tryz.prog.recurses 3) = true := by kernel_rfl
theorem dayExamples_facth : (Rows.dayExamplesRow.named == Tryz.prog.varsNamed 3) = true := by kernel_rfl
theorem dayExamples_closed : joinedFacts Tryz.prog 3 Tryz.f3 Rows.dayExamplesSpec Rows.dayExamplesRow = true := by
  unfold joinedFacts
  rw [dayExamples_facta, dayExamples_factb, dayExamples_facte, dayExamples_factf, dayExamples_factg, dayExamples_facth]
  kernel_rfl
theorem dayExamples_holds : Rows.DayExamplesSaid :=
  OpenClaim.holds_of_wide 3 Tryz.f3 rfl rfl rfl rfl rfl rfl rfl ⟨rfl, rfl, rfl, rfl, rfl⟩ rfl rfl rfl rfl rfl (by kernel_rfl) Tryz.func3 dayExamples_closed
    (of_decide_eq_true (by kernel_rfl)) (by unfold Func.isWrapper; first | (rw [if_pos (by decide +kernel)]; kernel_rfl) | (rw [if_neg (by decide +kernel)]; exact ⟨rfl, rfl⟩))
    (fun os started H enc _ => dayExamples_lifted os started H enc)
#print axioms dayExamples_holds
end Go.Proofs.YtklanoppbbaolaaGreat
