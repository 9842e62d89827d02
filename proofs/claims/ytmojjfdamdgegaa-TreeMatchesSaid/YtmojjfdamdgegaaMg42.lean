/- The text CycP. -/
import Derived.Test.YtmojjfdamdgegaaMg41
/- The cycles at the lines outside the tree: plain. -/
namespace Go.Proofs.Ytmojjfdamdgegaa
open Go.RowKit
set_option linter.unusedVariables false

section
set_option linter.unusedSectionVars false
variable {nb : Int} {ls : List Ln} {out : List Int} (he : outsE nb ls out = 0)
include he
theorem cyc_val {i k : Nat} (hi : i < (ownL nb ls out).length) (hk : k < (ownL nb ls out).length) :
    ∃ x : Nat, (ownL nb ls out).getD k 0 = (x : Int) ∧ x < ls.length ∧ ((cycL nb ls out).getD i []).length = ls.length ∧ ((cycL nb ls out).getD i []).getD x 0 = if i = k then 1 else 0 := by
  obtain ⟨x, h1, h2, h3, h4, h5, h6⟩ := cyc_at he i hi
  obtain ⟨y, k1, k2, k3, k4, k5, k6⟩ := cyc_at he k hk
  refine ⟨y, k1, k2, by rw [h5, List.length_set]; exact h6.len, ?_⟩
  rw [h5, getD_set']
  by_cases e : i = k
  · subst e
    have : x = y := by have := h1.symm.trans k1; omega
    rw [if_pos rfl, if_pos ⟨this, by rw [h6.len]; exact k2⟩]
  · have hne : ¬ x = y := fun e2 => by
      rw [getD_eq _ _ _ hi] at h1
      rw [getD_eq _ _ _ hk] at k1
      rcases Nat.lt_or_gt_of_ne e with h | h
      · have := List.pairwise_iff_getElem.1 (own_sorted he) i k hi hk h; omega
      · have := List.pairwise_iff_getElem.1 (own_sorted he) k i hk hi h; omega
    rw [if_neg e, if_neg (fun h => hne h.1), h6.off y k2 k4]
omit he in
theorem own_take (sv tl : List Int) (m : Nat) (h : m < sv.length) : (sv.take (m + 1)).filter (fun x => !hasB tl x) = if hasB tl (sv.getD m 0) = true then (sv.take m).filter (fun x => !hasB tl x) else (sv.take m).filter (fun x => !hasB tl x) ++ [sv.getD m 0] := by
  rw [List.take_succ_eq_append_getElem h, List.filter_append, getD_eq _ _ _ h, List.filter_cons]
  cases hasB tl sv[m] <;> simp
end
end Go.Proofs.Ytmojjfdamdgegaa
