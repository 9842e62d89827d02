/- The text BalP. -/
import Derived.Test.YtmojjfdamdgegaaMg40
/- The balance of a trail at the buses: plain. -/
namespace Go.Proofs.Ytmojjfdamdgegaa
open Go.RowKit
set_option linter.unusedVariables false

/-- The balance at each of n buses after k lines. -/
def balV (ls : List Ln) (t : List Int) (n k : Nat) : List Int := (List.range n).map fun v : Nat => bal ls t (v : Int) k
theorem balV_len (ls : List Ln) (t : List Int) (n k : Nat) : (balV ls t n k).length = n := by unfold balV; simp
theorem balV_get (ls : List Ln) (t : List Int) (n k v : Nat) (hv : v < n) : (balV ls t n k).getD v 0 = bal ls t (v : Int) k := by
  rw [getD_eq _ _ _ (by rw [balV_len]; exact hv)]
  unfold balV
  simp
theorem balV_zero (ls : List Ln) (t : List Int) (n : Nat) : balV ls t n 0 = List.replicate n 0 := by
  unfold balV
  apply List.ext_getElem
  · simp
  · intro i h1 h2
    simp [bal]
theorem bal_bound (ls : List Ln) (t : List Int) (v : Int) : ∀ m : Nat, (∀ i, i < m → -1 ≤ t.getD i 0 ∧ t.getD i 0 ≤ 1) → -(2 * (m : Int)) ≤ bal ls t v m ∧ bal ls t v m ≤ 2 * (m : Int) := by
  intro m
  induction m with
  | zero => intro _; simp [bal]
  | succ m ih =>
    intro h
    have h1 := ih fun i hi => h i (by omega)
    have h2 := h m (by omega)
    rw [bal]
    split <;> split <;> omega
theorem balV_step (ls : List Ln) (t : List Int) (n k f g : Nat) (hf : (ls.getD k (0, 0, 0, 0)).1 = (f : Int)) (hg : (ls.getD k (0, 0, 0, 0)).2.1 = (g : Int)) (hfn : f < n) (hgn : g < n) :
    ((balV ls t n k).set f (bal ls t (f : Int) k + t.getD k 0)).set g (((balV ls t n k).set f (bal ls t (f : Int) k + t.getD k 0)).getD g 0 - t.getD k 0) = balV ls t n (k + 1) := by
  apply List.ext_getElem
  · rw [List.length_set, List.length_set, balV_len, balV_len]
  · intro i h1 h2
    have hi : i < n := by rw [balV_len] at h2; exact h2
    have e1 : (balV ls t n (k + 1))[i] = bal ls t (i : Int) (k + 1) := by rw [← getD_eq _ _ _ h2, balV_get _ _ _ _ _ hi]
    rw [e1, ← getD_eq _ _ 0 h1, getD_set', getD_set', getD_set', List.length_set, balV_len, bal, hf, hg]
    rw [balV_get _ _ _ _ _ hgn, balV_get _ _ _ _ _ hi]
    by_cases a : f = i
    · subst a
      by_cases b : g = f
      · subst b
        simp [hi]
      · have b' : ¬ (g : Int) = (f : Int) := by omega
        simp [hi, b, b']
    · have a' : ¬ (f : Int) = (i : Int) := by omega
      by_cases b : g = i
      · subst b
        simp [hi, a, a']
      · have b' : ¬ (g : Int) = (i : Int) := by omega
        simp [b, b', a, a']
end Go.Proofs.Ytmojjfdamdgegaa
