/- The text GreP. -/
import Derived.Test.YtmojjfdamdgegaaMg32
import Derived.Test.YtmojjfdamdgegaaMg35
/- The tree is greedy: plain. -/
namespace Go.Proofs.Ytmojjfdamdgegaa
open Go.RowKit
set_option linter.unusedVariables false

/-- The tree grows at its end. -/
theorem tree_split (nb : Int) (ls : List Ln) (sv : List Int) (k : Nat) : ∀ n, k ≤ n → n ≤ sv.length → ∃ more, treeTo nb ls sv n = treeTo nb ls sv k ++ more ∧ ∀ x ∈ more, ∃ i, k ≤ i ∧ i < n ∧ x = sv.getD i 0 := by
  intro n
  induction n with
  | zero => intro h _; obtain rfl : k = 0 := by omega
            exact ⟨[], by simp, by simp⟩
  | succ n ih =>
    intro h hn
    by_cases e : k = n + 1
    · subst e; exact ⟨[], by simp, by simp⟩
    · obtain ⟨more, h1, h2⟩ := ih (by omega) (by omega)
      rw [treeTo_succ _ _ _ _ (by omega), h1]
      unfold treeStep
      split
      · exact ⟨more, rfl, fun x hx => by obtain ⟨i, a, b, c⟩ := h2 x hx; exact ⟨i, a, by omega, c⟩⟩
      · refine ⟨more ++ [sv.getD n 0], by simp, fun x hx => ?_⟩
        rcases List.mem_append.1 hx with hx | hx
        · obtain ⟨i, a, b, c⟩ := h2 x hx; exact ⟨i, a, by omega, c⟩
        · rw [List.mem_singleton] at hx; exact ⟨n, by omega, by omega, hx⟩
theorem hasB_mem (l : List Int) (x : Int) : hasB l x = true ↔ x ∈ l := by
  constructor
  · intro h
    apply Classical.byContradiction
    intro hn
    have := hasB_false (l := l) (x := x) (fun i hi e => hn (by rw [← e, getD_eq _ _ _ hi]; exact List.getElem_mem hi))
    rw [h] at this
    cases this
  · intro h
    obtain ⟨i, hi, e⟩ := List.getElem_of_mem h
    exact hasB_true hi (by rw [getD_eq _ _ _ hi]; exact e)
section
set_option linter.unusedSectionVars false
variable {nb : Int} {ls : List Ln} {out : List Int} (he : outsE nb ls out = 0)
include he
theorem svc_lt {i j : Nat} (hij : i < j) (hj : j < (svcL out ls.length).length) : (svcL out ls.length).getD i 0 < (svcL out ls.length).getD j 0 := by
  rw [getD_eq _ _ _ hj, getD_eq _ _ _ (by omega)]
  exact List.pairwise_iff_getElem.1 (svc_sorted (check_of_outs he).2) i j (by omega) hj hij
theorem tree_below (k : Nat) (hk : k ≤ (svcL out ls.length).length) : ∀ x ∈ treeTo nb ls (svcL out ls.length) k, ∃ i, i < k ∧ x = (svcL out ls.length).getD i 0 := by
  intro x hx
  have := (treeTo_sub nb ls (svcL out ls.length) k).subset hx
  obtain ⟨i, hi, e⟩ := List.getElem_of_mem this
  have hi' : i < (svcL out ls.length).length := by rw [List.length_take] at hi; omega
  refine ⟨i, by rw [List.length_take] at hi; omega, ?_⟩
  rw [getD_eq _ _ _ hi', ← e, List.getElem_take]
/-- Those of the tree that are ahead of line i. -/
theorem tree_ahead (i : Nat) (hi : i < (svcL out ls.length).length) : (treeL nb ls out).filter (fun x => decide (x < (svcL out ls.length).getD i 0)) = treeTo nb ls (svcL out ls.length) i := by
  rw [treeL, if_pos he]
  obtain ⟨more, h1, h2⟩ := tree_split nb ls (svcL out ls.length) i _ (Nat.le_of_lt hi) (Nat.le_refl _)
  rw [h1, List.filter_append, List.filter_eq_self.2, List.filter_eq_nil_iff.2, List.append_nil]
  · intro x hx
    obtain ⟨j, a, b, rfl⟩ := h2 x hx
    rcases Nat.lt_or_ge i j with h | h
    · have := svc_lt he h b
      exact fun h' => absurd (of_decide_eq_true h') (by omega)
    · obtain rfl : i = j := by omega
      exact fun h' => absurd (of_decide_eq_true h') (by omega)
  · intro x hx
    obtain ⟨j, a, rfl⟩ := tree_below he i (by omega) x hx
    exact decide_eq_true (svc_lt he a hi)
/-- A line is in the tree just if the tree ahead of it does not join its ends. -/
theorem tree_has (i : Nat) (hi : i < (svcL out ls.length).length) : hasB (treeL nb ls out) ((svcL out ls.length).getD i 0) = !connB nb ls (svcL (treeTo nb ls (svcL out ls.length) i) ls.length) (ls.getD ((svcL out ls.length).getD i 0).toNat (0, 0, 0, 0)).1 (ls.getD ((svcL out ls.length).getD i 0).toNat (0, 0, 0, 0)).2.1 := by
  rw [treeL, if_pos he]
  obtain ⟨more, h1, h2⟩ := tree_split nb ls (svcL out ls.length) (i + 1) _ hi (Nat.le_refl _)
  have hs := treeTo_succ nb ls (svcL out ls.length) i hi
  unfold treeStep at hs
  rw [h1]
  have hm : ∀ x ∈ more, x ≠ (svcL out ls.length).getD i 0 := fun x hx e => by
    obtain ⟨j, a, b, rfl⟩ := h2 x hx
    have := svc_lt he (i := i) (j := j) (by omega) b
    omega
  have hb : ∀ x ∈ treeTo nb ls (svcL out ls.length) i, x ≠ (svcL out ls.length).getD i 0 := fun x hx e => by
    obtain ⟨j, a, rfl⟩ := tree_below he i (by omega) x hx
    have := svc_lt he a hi
    omega
  cases hc : connB nb ls (svcL (treeTo nb ls (svcL out ls.length) i) ls.length) (ls.getD ((svcL out ls.length).getD i 0).toNat (0, 0, 0, 0)).1 (ls.getD ((svcL out ls.length).getD i 0).toNat (0, 0, 0, 0)).2.1 with
  | true =>
    rw [if_pos hc] at hs
    rw [hs, Bool.not_true]
    rw [Bool.eq_false_iff]
    intro h
    rw [hasB_mem, List.mem_append] at h
    rcases h with h | h
    · exact hb _ h rfl
    · exact hm _ h rfl
  | false =>
    rw [if_neg (by rw [hc]; simp)] at hs
    rw [hs, Bool.not_false, hasB_mem]
    simp
end
end Go.Proofs.Ytmojjfdamdgegaa
