/- slices.Sort and slices.Compact on a row of the call's own. -/
import Derived.Test.YtklfijhlibpmaaaOgB
import Derived.Test.YtklfijhlibpmaaaShf
import Derived.Sort.OwnSortedInts
namespace Go.Proofs.Ytklfijhlibpmaaa
open Go.RowKit Go.Sort
set_option linter.unusedVariables false

/-- slices.Sort on a row of the call's own. -/
theorem sort_own (base : Nat) (v : Value) (xs : List Int) (w : World) (h : w.ownsRow base 3 1 v xs.length (xs.map (Value.int .i64))) (hm : xs.length ≤ 4000000) :
    Calls Try.prog 38 #[v] w fun e w' => e = .returned (.tuple #[]) ∧ w'.ownsRow base 3 1 v xs.length ((xs.mergeSort fun x y => decide (x ≤ y)).map (Value.int .i64)) ∧ w.grownBy w' v.ownBlock := by
  by_cases h0 : xs = []
  · subst h0
    obtain ⟨A, c, rfl, _⟩ := ownsRow_ints h
    refine (Try.slices_Sort_int_none A c w).mono ?_
    rintro e w' ⟨rfl, hw⟩
    obtain rfl : w' = w := hw
    exact ⟨rfl, by simpa using h, World.grownBy.refl _ _⟩
  · rcases h.2 with ⟨rfl, h1⟩ | ⟨g, cap, cur, rfl, hb, hg, r1, r2, r3, r4⟩
    · exact absurd (List.eq_nil_of_length_eq_zero h1) h0
    · refine (Try.slices_Sort_int g 0 cap xs w (holds_of_blockI hg (by rw [Nat.mul_one] at r4; exact r4)) (Array.getElem?_eq_some_iff.1 hg).1 (by omega)).mono ?_
      rintro e w' ⟨rfl, n, os, rfl⟩
      refine ⟨rfl, ?_, grownBy_sortedI _⟩
      exact ownsRow_sortedI (ss := xs) (ts := xs.mergeSort fun x y => decide (x ≤ y)) (by simp) hb hg r1 r2 r3

/-- slices.Compact on a row of the call's own. -/
theorem compact_own (base : Nat) (v : Value) (xs : List Int) (w : World) (h : w.ownsRow base 3 1 v xs.length (xs.map (Value.int .i64))) (hm : xs.length ≤ 4000000) :
    Calls Try.prog 39 #[v] w fun e w' => ∃ v', e = .returned v' ∧ w'.ownsRow base 3 1 v' (Lib.compact xs).length ((Lib.compact xs).map (Value.int .i64)) ∧ w.grownBy w' v.ownBlock := by
  by_cases h0 : xs = []
  · subst h0
    obtain ⟨A, c, rfl, _⟩ := ownsRow_ints h
    refine (Try.slices_Compact_int_empty A c w).mono ?_
    rintro e w' ⟨rfl, hw⟩
    obtain rfl : w' = w := hw
    exact ⟨_, rfl, by simpa [Lib.compact, Lib.compactUpTo] using h, World.grownBy.refl _ _⟩
  · rcases h.2 with ⟨rfl, h1⟩ | ⟨g, cap, cur, rfl, hb, hg, r1, r2, r3, r4⟩
    · exact absurd (List.eq_nil_of_length_eq_zero h1) h0
    · refine (Try.slices_Compact_int g 0 cap xs w (holds_of_blockI hg (by rw [Nat.mul_one] at r4; exact r4)) (by omega) r1).mono ?_
      rintro e w' ⟨rfl, q, rfl⟩
      have hle := Lib.compact_length_le xs
      have hheap : (putRow (Value.int .i64) (Sort.ahead w q) g 0 (Lib.compact xs ++ List.replicate (xs.length - (Lib.compact xs).length) 0).toArray).heap[g]? = some (.cells (putCells (Value.int .i64) 0 (Lib.compact xs ++ List.replicate (xs.length - (Lib.compact xs).length) 0).toArray cur) 3 (0, 0)) := by
        simp [putRow, mapBlock, Sort.ahead, Array.getElem?_modify, hg, onCells]
      have htk := take_putCellsI cur (Lib.compact xs ++ List.replicate (xs.length - (Lib.compact xs).length) 0) (by simp; omega)
      refine ⟨_, rfl, ⟨by simp, .inr ⟨g, cap, _, rfl, hb, hheap, by omega, r2, by simp [putCells, r3], ?_⟩⟩, ⟨rfl, rfl, rfl, by simp, fun k hk hne => ?_⟩⟩
      · rw [Nat.mul_one]
        have := congrArg (List.take (Lib.compact xs).length) htk
        rw [List.take_take, Nat.min_eq_left (by simp)] at this
        rw [this, ← List.map_take, List.take_left]
      · have : g ≠ k := fun e => hne (by rw [e]; rfl)
        simp [putRow, mapBlock, Sort.ahead, Array.getElem?_modify, this]
end Go.Proofs.Ytklfijhlibpmaaa
