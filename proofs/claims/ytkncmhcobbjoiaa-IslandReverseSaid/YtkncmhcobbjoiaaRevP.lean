/- The islands do not depend on the direction, reactance and limit of a line: plain. -/
import Derived.Test.YtkncmhcobbjoiaaRevB
import Derived.Test.YtkncmhcobbjoiaaIslR
namespace Go.Proofs.Ytkncmhcobbjoiaa
open Go.RowKit
set_option linter.unusedVariables false

/-- Line x the other way round, with another reactance and limit. -/
def turnAt (ls : List Ln) (x : Nat) (r l : Int) : List Ln := ls.set x ((ls.getD x (0, 0, 0, 0)).2.1, (ls.getD x (0, 0, 0, 0)).1, r, l)
theorem turnAt_length (ls : List Ln) (x : Nat) (r l : Int) : (turnAt ls x r l).length = ls.length := by simp [turnAt]
theorem owns_turn {w : World} {base g cap : Nat} {ls : List Ln} {x : Nat} {r l : Int} (h : w.ownsRow base 37 4 (.slice (some ⟨g, 0, none⟩) (swapAt ls x).length cap) (swapAt ls x).length (lnCells (swapAt ls x))) (hx : x < ls.length) :
    ((w.setCell ⟨g, x * 4 + 2, none⟩ (.int .i64 r)).setCell ⟨g, x * 4 + 3, none⟩ (.int .i64 l)).ownsRow base 37 4 (.slice (some ⟨g, 0, none⟩) (turnAt ls x r l).length cap) (turnAt ls x r l).length (lnCells (turnAt ls x r l)) := by
  have hx' : x < (swapAt ls x).length := by rw [swapAt_length]; exact hx
  have h1 := owns_setLn h x 2 r hx' (by omega)
  rw [show (swapAt ls x).length = ((swapAt ls x).set x (setLn ((swapAt ls x).getD x (0, 0, 0, 0)) 2 r)).length by simp] at h1
  have h2 := owns_setLn h1 x 3 l (by simpa using hx') (by omega)
  rw [List.set_set] at h2
  simp only [List.length_set] at h2
  rw [swapAt_length] at h2
  rw [turnAt_length]
  unfold turnAt
  rw [show ((swapAt ls x).set x (setLn ((swapAt ls x).getD x (0, 0, 0, 0)) 2 r)).getD x (0, 0, 0, 0) = setLn ((swapAt ls x).getD x (0, 0, 0, 0)) 2 r by rw [List.getD_eq_getElem?_getD, List.getElem?_set_self hx']; rfl] at h2
  rw [show (swapAt ls x).getD x (0, 0, 0, 0) = ((ls.getD x (0, 0, 0, 0)).2.1, (ls.getD x (0, 0, 0, 0)).1, (ls.getD x (0, 0, 0, 0)).2.2) by simp [swapAt, hx]] at h2
  rw [swapAt, List.set_set] at h2
  exact h2

theorem uni_comm (p : List Nat) (x y : Nat) : uni p x y = uni p y x := by unfold uni; rw [Nat.max_comm, Nat.min_comm]
theorem foldl_ends (ls ls' : List Ln) (h : ∀ i, (((ls'.getD i (0, 0, 0, 0)).1 = (ls.getD i (0, 0, 0, 0)).1 ∧ (ls'.getD i (0, 0, 0, 0)).2.1 = (ls.getD i (0, 0, 0, 0)).2.1) ∨ ((ls'.getD i (0, 0, 0, 0)).1 = (ls.getD i (0, 0, 0, 0)).2.1 ∧ (ls'.getD i (0, 0, 0, 0)).2.1 = (ls.getD i (0, 0, 0, 0)).1))) :
    ∀ (ks : List Int) (p : List Nat), (ends ls' ks).foldl (fun p l => uni p l.1 l.2) p = (ends ls ks).foldl (fun p l => uni p l.1 l.2) p
  | [], p => rfl
  | k :: ks, p => by
    show (ends ls' ks).foldl (fun p l => uni p l.1 l.2) (uni p (ls'.getD k.toNat (0, 0, 0, 0)).1.toNat (ls'.getD k.toNat (0, 0, 0, 0)).2.1.toNat) = (ends ls ks).foldl (fun p l => uni p l.1 l.2) (uni p (ls.getD k.toNat (0, 0, 0, 0)).1.toNat (ls.getD k.toNat (0, 0, 0, 0)).2.1.toNat)
    rcases h k.toNat with ⟨e1, e2⟩ | ⟨e1, e2⟩
    · rw [e1, e2, foldl_ends ls ls' h ks]
    · rw [e1, e2, foldl_ends ls ls' h ks, uni_comm]
theorem turn_ends (ls : List Ln) (x : Nat) (r l : Int) (i : Nat) :
    ((((turnAt ls x r l).getD i (0, 0, 0, 0)).1 = (ls.getD i (0, 0, 0, 0)).1 ∧ ((turnAt ls x r l).getD i (0, 0, 0, 0)).2.1 = (ls.getD i (0, 0, 0, 0)).2.1) ∨ (((turnAt ls x r l).getD i (0, 0, 0, 0)).1 = (ls.getD i (0, 0, 0, 0)).2.1 ∧ ((turnAt ls x r l).getD i (0, 0, 0, 0)).2.1 = (ls.getD i (0, 0, 0, 0)).1)) := by
  unfold turnAt
  by_cases hi : x = i
  · subst hi
    by_cases hx : x < ls.length
    · right
      simp [List.getD_eq_getElem?_getD, hx]
    · left
      rw [List.set_eq_of_length_le (by omega)]
      exact ⟨rfl, rfl⟩
  · left
    rw [List.getD_eq_getElem?_getD, List.getElem?_set_ne hi, ← List.getD_eq_getElem?_getD]
    exact ⟨rfl, rfl⟩
theorem turn_outs {nb : Int} {ls : List Ln} {out : List Int} {x : Nat} {r l : Int} (h0 : checkE nb ls = 0) (h1 : checkE nb (turnAt ls x r l) = 0) : outsE nb (turnAt ls x r l) out = outsE nb ls out := by
  unfold outsE
  rw [h0, h1, turnAt_length]
theorem turn_of {nb : Int} {ls : List Ln} {out : List Int} {x : Nat} {r l : Int} (h0 : checkE nb ls = 0) (h1 : checkE nb (turnAt ls x r l) = 0) : ofL nb (turnAt ls x r l) out = ofL nb ls out := by
  unfold ofL ofN uniAll
  rw [turn_outs h0 h1, turnAt_length, foldl_ends ls (turnAt ls x r l) (turn_ends ls x r l)]
end Go.Proofs.Ytkncmhcobbjoiaa
