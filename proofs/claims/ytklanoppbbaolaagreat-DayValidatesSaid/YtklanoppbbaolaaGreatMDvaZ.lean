/- The text DvaZ. -/
import Derived.Test.YtklanoppbbaolaaGreatMg11
import Derived.Test.YtklanoppbbaolaaGreatMg50
/- DayValidates returns true, for every case. No conditions. -/
namespace Go.Proofs.YtklanoppbbaolaaGreat
open Go.ChangeShapes Go.WideShapes Go.ChangeAt Go.RowKit Go.Deep Go.Joins
set_option linter.unusedVariables false
set_option maxRecDepth 100000

theorem dayValidates_contract (H : Type) (enc : TypeId × Value → H) (W : World) (base : Nat) (args : Array Value) (ds gs : List (DataW H)) (before : List MemPlace)
    (hval : ∀ (j : Nat) t v, Tryz.f4.params[j]? = some t → args[j]? = some v → Value.okWide Tryz.prog W .any base t v)
    (hW : DataW.Whole enc Tryz.prog Tryz.f4.params.toList Rows.dayValidatesSpec.vars false W args.toList ds gs before) :
    Calls Tryz.prog 4 args W fun e W' => ∃ v, e = .returned v ∧ Rows.dayValidatesSpec.post enc Tryz.prog Tryz.f4 false true false false W args v W' := by
  have hW' := hW
  obtain ⟨p, q, hA0, hV, rfl, hfz, hnd⟩ := hW
  have hA : DataW.TrodAll enc Tryz.prog W 0 (fun _ => true) true Tryz.f4.params.toList args.toList ds p := hA0
  rw [Tryz.params4] at hA hval
  obtain ⟨v0, vs0, d0, ds0, p0, q0, e0, rfl, rfl, h0, r0⟩ := trodAll_cons hA
  obtain ⟨rfl, rfl, rfl⟩ := trodAll_nil r0
  obtain rfl : args = #[v0] := by cases args; simp_all
  obtain ⟨rfl, rfl⟩ := trodVars_none hV
  obtain ⟨x0, A1, A2, A3, A4, A5, c1, c2, c3, c4, c5, rfl, k1, k2, k3, k4, k5⟩ := open_case (hval 0 _ v0 rfl rfl) h0
  refine (validates_any x0 A1 A2 A3 A4 A5 c1 c2 c3 c4 c5 W k1 k2 k3 k4 k5).mono fun e W' ⟨he, hb⟩ => ?_
  subst he
  exact ⟨_, rfl, law_post (tb := 4) Tryz.laidOut (by decide +kernel) (by kernel_rfl) Tryz.underlying4 rfl hW' rfl rfl rfl hb⟩

set_option maxRecDepth 100000 in
theorem dayValidates_lifted (os : Os) (started : os.Started) (H : Type) (enc : TypeId × Value → H) :
    ReturnsInHanded {} Tryz.checked os 4 .any (Rows.dayValidatesSpec.pre6 enc Tryz.prog Tryz.f4 Rows.dayValidatesRow.domain false) (Rows.dayValidatesSpec.post enc Tryz.prog Tryz.f4 false true false false) := by
  refine returnsInHanded_of_change (C := Tryz.checked) Tryz.own started (by kernel_rfl) Tryz.func4
    (ChangeSpec.witness6 (enc := enc) (C := Tryz.checked) false ⟨#[], #[.agg #[.int .i64 0, .slice none 0 0, .slice none 0 0, .slice none 0 0, .slice none 0 0, .slice none 0 0]], []⟩ 8 (by kernel_rfl) (by kernel_rfl) (by kernel_rfl) (by kernel_rfl)) ?_
  intro W base args ds gs before hval hW _ _
  exact dayValidates_contract H enc W base args ds gs before hval hW

theorem dayValidates_facta : laidOutB Tryz.prog = true := by kernel_rfl
theorem dayValidates_factb : mapsRowed Tryz.prog = true := by kernel_rfl
theorem dayValidates_facte : (Rows.dayValidatesRow.inPlace == Tryz.prog.inPlace 4) = true := by kernel_rfl
theorem dayValidates_factf : (Rows.dayValidatesRow.unfollowed == Tryz.prog.unfollowed 4) = true := by kernel_rfl
theorem dayValidates_factg : (Rows.dayValidatesRow.recurses == Tryz.prog.recurses 4) = true := by kernel_rfl
theorem dayValidates_facth : (Rows.dayValidatesRow.named == Tryz.prog.varsNamed 4) = true := by kernel_rfl
theorem dayValidates_closed : joinedFacts Tryz.prog 4 Tryz.f4 Rows.dayValidatesSpec Rows.dayValidatesRow = true := by
  unfold joinedFacts
  rw [dayValidates_facta, dayValidates_factb, dayValidates_facte, dayValidates_factf, dayValidates_factg, dayValidates_facth]
  kernel_rfl
theorem dayValidates_holds : Rows.DayValidatesSaid :=
  OpenClaim.holds_of_wide 4 Tryz.f4 rfl rfl rfl rfl rfl rfl rfl ⟨rfl, rfl, rfl, rfl, rfl⟩ rfl rfl rfl rfl rfl (by kernel_rfl) Tryz.func4 dayValidates_closed
    (of_decide_eq_true (by kernel_rfl)) (by unfold Func.isWrapper; first | (rw [if_pos (by decide +kernel)]; kernel_rfl) | (rw [if_neg (by decide +kernel)]; exact ⟨rfl, rfl⟩))
    (fun os started H enc _ => dayValidates_lifted os started H enc)
#print axioms dayValidates_holds
end Go.Proofs.YtklanoppbbaolaaGreat
