/- The text BalQ. -/
import Derived.Test.YtmojjfdamdgegaaMg41
import Derived.Test.YtmojjfdamdgegaaMg43
/- The balance of a cycle and of a path: plain. -/
namespace Go.Proofs.Ytmojjfdamdgegaa
open Go.RowKit
set_option linter.unusedVariables false

theorem balV_zeros {ls : List Ln} {t : List Int} {n k : Nat} (h : ∀ v : Int, bal ls t v k = 0) : balV ls t n k = List.replicate n 0 := by
  unfold balV
  apply List.ext_getElem
  · simp
  · intro i h1 h2
    simp [h]
/-- What the balance law asks of a cycle. -/
structure CycB (ls : List Ln) (out : List Int) (n : Nat) (r : List Int) : Prop where
  len : r.length = ls.length
  small : ∀ x, x < ls.length → -1 ≤ r.getD x 0 ∧ r.getD x 0 ≤ 1
  bal : balV ls r n ls.length = List.replicate n 0
  serv : ∀ x, x < ls.length → r.getD x 0 ≠ 0 → hasB out (x : Int) = false
section
set_option linter.unusedSectionVars false
variable {nb : Int} {ls : List Ln} {out : List Int} (he : outsE nb ls out = 0)
include he
theorem svc_has {x : Nat} (hx : (x : Int) ∈ svcL out ls.length) : hasB out (x : Int) = false := by
  unfold hasB
  rw [decide_eq_false ((svc_mem (check_of_outs he).2 _).1 hx).2.2]
theorem cyc_bal (n i : Nat) (hi : i < (cycL nb ls out).length) : CycB ls out n ((cycL nb ls out).getD i []) := by
  rw [cyc_len he] at hi
  obtain ⟨x, h1, h2, h3, h4, h5, h6⟩ := cyc_at he i hi
  rw [h5]
  refine ⟨by rw [List.length_set]; exact h6.len, fun y hy => ?_, balV_zeros fun v => ?_, fun y hy hv => ?_⟩
  · rw [getD_set']
    split
    · omega
    · exact h6.small y hy
  · rw [bal_set (by rw [h6.len]; exact h2) (h6.off x h2 h4), h6.bal, if_pos h2]
    have e1 : (ls.getD x (0, 0, 0, 0)).1 = frm ls x := by unfold frm; rw [Int.toNat_natCast]
    have e2 : (ls.getD x (0, 0, 0, 0)).2.1 = tow ls x := by unfold tow; rw [Int.toNat_natCast]
    rw [e1, e2]
    split <;> split <;> omega
  · rw [getD_set'] at hv
    by_cases e : x = y
    · subst e; exact svc_has he h3
    · rw [if_neg (fun h => e h.1)] at hv
      by_cases hT : (y : Int) ∈ treeL nb ls out
      · exact svc_has he (tree_svc he hT)
      · exact absurd (h6.off y hy hT) hv
/-- What the balance law asks of a path. -/
theorem way_bal {a b : Nat} {n : Nat} {t : List Int} (hn : nb = (n : Int)) (ha : a < n) (hb : b < n) (h : Way nb ls out a b t) :
    ((balV ls t n ls.length).set a ((balV ls t n ls.length).getD a 0 - 1)).set b (((balV ls t n ls.length).set a ((balV ls t n ls.length).getD a 0 - 1)).getD b 0 + 1) = List.replicate n 0 := by
  apply List.ext_getElem
  · rw [List.length_set, List.length_set, balV_len, List.length_replicate]
  · intro i h1 h2
    have hi : i < n := by rw [List.length_replicate] at h2; exact h2
    rw [← getD_eq _ _ 0 h1, List.getElem_replicate, getD_set', getD_set', getD_set', List.length_set, balV_len, balV_get _ _ _ _ _ ha, balV_get _ _ _ _ _ hb, balV_get _ _ _ _ _ hi, h.bal, h.bal, h.bal]
    by_cases e1 : a = i <;> by_cases e2 : b = i
    · subst e1; subst e2; simp [hi]
    · subst e1
      have e2' : ¬ (b : Int) = (a : Int) := by omega
      simp [hi, e2, e2']
    · subst e2
      have e1' : ¬ (a : Int) = (b : Int) := by omega
      simp [hi, e1, e1']
    · have e1' : ¬ (a : Int) = (i : Int) := by omega
      have e2' : ¬ (b : Int) = (i : Int) := by omega
      simp [e1, e2, e1', e2']
theorem way_tree {a b : Int} {t : List Int} (h : Way nb ls out a b t) (x : Nat) (hx : x < ls.length) (hv : t.getD x 0 ≠ 0) : hasB (treeL nb ls out) (x : Int) = true := by
  apply (hasB_mem _ _).2
  exact Classical.byContradiction fun hn => hv (h.off x hx hn)
end
end Go.Proofs.Ytmojjfdamdgegaa
