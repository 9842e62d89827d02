/- The text TreP. -/
import Derived.Test.YtmojjfdamdgegaaMg20
import Derived.Test.YtmojjfdamdgegaaMg21
/- The tree of a network, plain. -/
namespace Go.Proofs.Ytmojjfdamdgegaa
open Go.RowKit
set_option linter.unusedVariables false

/-- The lines with these numbers alone: the others are out. -/
def onlyL (m : Nat) (ch : List Int) : List Int := svcL ch m
/-- One line more: it is taken if the lines taken before do not join its ends. -/
def treeStep (nb : Int) (ls : List Ln) (ch : List Int) (k : Int) : List Int :=
  if connB nb ls (svcL ch ls.length) (ls.getD k.toNat (0, 0, 0, 0)).1 (ls.getD k.toNat (0, 0, 0, 0)).2.1 = true then ch else ch ++ [k]
def treeTo (nb : Int) (ls : List Ln) (sv : List Int) (k : Nat) : List Int := (sv.take k).foldl (treeStep nb ls) []
def treeL (nb : Int) (ls : List Ln) (out : List Int) : List Int := if outsE nb ls out = 0 then treeTo nb ls (svcL out ls.length) (svcL out ls.length).length else []

theorem treeTo_succ (nb : Int) (ls : List Ln) (sv : List Int) (k : Nat) (h : k < sv.length) : treeTo nb ls sv (k + 1) = treeStep nb ls (treeTo nb ls sv k) (sv.getD k 0) := by
  unfold treeTo
  rw [List.take_succ_eq_append_getElem h, List.foldl_append, getD_eq _ _ _ h]
  rfl
theorem treeTo_sub (nb : Int) (ls : List Ln) (sv : List Int) (k : Nat) : List.Sublist (treeTo nb ls sv k) (sv.take k) := by
  induction k with
  | zero => simp [treeTo]
  | succ k ih =>
    by_cases h : k < sv.length
    · rw [treeTo_succ _ _ _ _ h, List.take_succ_eq_append_getElem h]
      unfold treeStep
      split
      · exact ih.trans (List.sublist_append_left _ _)
      · rw [getD_eq _ _ _ h]; exact ih.append (List.Sublist.refl _)
    · have e : treeTo nb ls sv (k + 1) = treeTo nb ls sv k := by unfold treeTo; rw [List.take_of_length_le (by omega), List.take_of_length_le (by omega)]
      rw [e, List.take_of_length_le (by omega)]
      rw [List.take_of_length_le (by omega)] at ih
      exact ih
theorem outs_sub {m : Nat} {out l : List Int} (h : outsB m out = true) (hs : List.Sublist l (svcL out m)) : outsB m l = true := by
  refine outs_of ((asc_iff l).2 ⟨(svc_sorted h).sublist hs, fun x hx => ?_⟩) fun x hx => ?_
  · exact ((svc_mem h x).1 (hs.subset hx)).1
  · exact ((svc_mem h x).1 (hs.subset hx)).2.1
theorem outs_svc {m : Nat} {out : List Int} (h : outsB m out = true) : outsB m (svcL out m) = true := outs_sub h (List.Sublist.refl _)
section
variable {nb : Int} {ls : List Ln} {out : List Int} (he : outsE nb ls out = 0)
include he
theorem tree_outs (k : Nat) : outsB ls.length (treeTo nb ls (svcL out ls.length) k) = true :=
  outs_sub (check_of_outs he).2 ((treeTo_sub _ _ _ _).trans (List.take_sublist _ _))
theorem tree_outsE (k : Nat) : outsE nb ls (treeTo nb ls (svcL out ls.length) k) = 0 := outs_make (check_of_outs he).1 (tree_outs he k)
theorem rest_outsE (k : Nat) : outsE nb ls (svcL (treeTo nb ls (svcL out ls.length) k) ls.length) = 0 := outs_make (check_of_outs he).1 (outs_svc (tree_outs he k))
end
end Go.Proofs.Ytmojjfdamdgegaa
