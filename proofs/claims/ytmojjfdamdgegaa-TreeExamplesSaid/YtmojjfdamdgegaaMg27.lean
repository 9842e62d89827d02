/- The text UniA. -/
import Derived.Sort.OwnSortedInts
import Derived.Test.YtmojjfdamdgegaaMg15
import Derived.Test.YtmojjfdamdgegaaMg8
import Derived.Test.YtmojjfdamdgegaaMg25
import Derived.Test.YtmojjfdamdgegaaMg26
import Derived.Test.YtmojjfdamdgegaaShf
/- net.ascending, net.Union. -/
namespace Go.Proofs.Ytmojjfdamdgegaa
open Go.RowKit Go.Sort
set_option linter.unusedVariables false

set_option maxHeartbeats 1000000 in
theorem asc_any (A : Option Addr) (c : Nat) (l : List Int) (w : World) (hl : IntsR w w.heap.size A l) (hm : l.length ≤ 1000000) :
    Calls Try.prog 47 #[.slice A l.length c] w fun e w' => e = .returned (.bool (ascB l)) ∧ w = w' := by
  have HO := Lib.hid hl
  clear hl
  go_enter Try.func47, Try.ntmps47
  go_wp2
  go_loopg [2, 3, 4, 7] l.length (fun g s2 s3 s4 i w' => ∃ k : Nat, k + g = l.length ∧ i = .int .i64 k ∧ (∀ i, i < k → ascAt l i) ∧ w = w')
  case atStart => exact ⟨0, by omega, rfl, fun i hi => absurd hi (by omega), rfl⟩
  case round =>
    obtain ⟨k, hkg, rfl, hall, rfl⟩ := hrel
    have HA := Lib.hid hall
    clear hall
    cases gk with
    | zero =>
      obtain rfl : k = l.length := by omega
      clear hkg
      go_wp2
      go_ret
      refine ⟨ret_bool ?_, rfl⟩
      exact (decide_eq_true HA.out).symm
    | succ g =>
      have hk : k < l.length := by omega
      have HG := Lib.hid hkg
      clear hkg
      obtain ⟨b, off, rfl, hbl, hc⟩ := HO.out (by omega)
      have f0 := hc k hk
      have f1 : 0 < k → w.cell? ⟨b, off + (k - 1), none⟩ = _ := fun _ => hc (k - 1) (by omega)
      have F1 := Lib.hid f1
      clear hc f1
      have hgx : ∃ x, l.getD k 0 = x := ⟨_, rfl⟩
      obtain ⟨x, hgx⟩ := hgx
      have hgy : ∃ y, l.getD (k - 1) 0 = y := ⟨_, rfl⟩
      obtain ⟨y, hgy⟩ := hgy
      rw [hgx] at f0
      have HX := Lib.hid hgx
      have HY := Lib.hid hgy
      clear hgx hgy
      by_cases h0 : x < 0
      · have h0' : decide (x < 0) = true := by simp; omega
        go_wp2
        go_ret
        exact ⟨ret_bool (ascB_not hk (by unfold ascAt; rw [HX.out]; omega)).symm, rfl⟩
      have h0' : decide (x < 0) = false := by simp; omega
      by_cases h2 : k = 0
      · have H2 := Lib.hid h2
        have h2' : decide (0 < k) = false := by simp [h2]
        clear h2
        go_wp2
        go_roundg g
        case measure => omega
        case rel =>
          refine ⟨k + 1, by have := HG.out; omega, by go_num, fun i hi => ?_, rfl⟩
          have := H2.out
          obtain rfl : i = k := by omega
          unfold ascAt
          rw [HX.out]
          omega
      have h2' : 0 < k := by omega
      have h2'' : decide (0 < k) = true := by simp; omega
      have g1 := F1.out h2'
      rw [HY.out] at g1
      have e1 : ((k : Int) - 1).toNat = k - 1 := by omega
      by_cases h3 : x ≤ y
      · have h3' : decide (x ≤ y) = true := by simp; omega
        go_wp2
        go_ret
        exact ⟨ret_bool (ascB_not hk (by unfold ascAt; rw [HX.out, HY.out]; omega)).symm, rfl⟩
      · have h3' : decide (x ≤ y) = false := by simp; omega
        go_wp2
        go_roundg g
        case measure => omega
        case rel =>
          refine ⟨k + 1, by have := HG.out; omega, by go_num, fun i hi => ?_, rfl⟩
          rcases Nat.lt_or_ge i k with h | h
          · exact HA.out i h
          · obtain rfl : i = k := by omega
            unfold ascAt
            rw [HX.out, HY.out]
            omega

/-- slices.Sort on a row of the call's own. -/
theorem sort_own (base : Nat) (v : Value) (xs : List Int) (w : World) (h : w.ownsRow base 3 1 v xs.length (xs.map (Value.int .i64))) (hm : xs.length ≤ 4000000) :
    Calls Try.prog 48 #[v] w fun e w' => e = .returned (.tuple #[]) ∧ w'.ownsRow base 3 1 v xs.length ((xs.mergeSort fun x y => decide (x ≤ y)).map (Value.int .i64)) ∧ w.grownBy w' v.ownBlock := by
  by_cases h0 : xs = []
  · subst h0
    obtain ⟨A, c, rfl, _⟩ := ownsRow_ints h
    refine (Try.slices_Sort_int_none A c w).mono ?_
    rintro e w' ⟨rfl, hw⟩
    obtain rfl : w' = w := hw
    exact ⟨rfl, by simpa using h, World.grownBy.refl _ _⟩
  · rcases h.2 with ⟨rfl, h1⟩ | ⟨g, cap, cur, rfl, hb, hg, r1, r2, r3, r4⟩
    · exact absurd (List.eq_nil_of_length_eq_zero h1) h0
    · refine (Try.slices_Sort_int g 0 cap xs w (holds_of_blockI hg (by rw [Nat.mul_one] at r4; exact r4)) (Array.getElem?_eq_some_iff.1 hg).1 (by omega)).mono ?_
      rintro e w' ⟨rfl, n, os, rfl⟩
      refine ⟨rfl, ?_, grownBy_sortedI _⟩
      exact ownsRow_sortedI (ss := xs) (ts := xs.mergeSort fun x y => decide (x ≤ y)) (by simp) hb hg r1 r2 r3

/-- slices.Compact on a row of the call's own. -/
theorem compact_own (base : Nat) (v : Value) (xs : List Int) (w : World) (h : w.ownsRow base 3 1 v xs.length (xs.map (Value.int .i64))) (hm : xs.length ≤ 4000000) :
    Calls Try.prog 49 #[v] w fun e w' => ∃ v', e = .returned v' ∧ w'.ownsRow base 3 1 v' (Lib.compact xs).length ((Lib.compact xs).map (Value.int .i64)) ∧ w.grownBy w' v.ownBlock := by
  by_cases h0 : xs = []
  · subst h0
    obtain ⟨A, c, rfl, _⟩ := ownsRow_ints h
    refine (Try.slices_Compact_int_empty A c w).mono ?_
    rintro e w' ⟨rfl, hw⟩
    obtain rfl : w' = w := hw
    exact ⟨_, rfl, by simpa [Lib.compact, Lib.compactUpTo] using h, World.grownBy.refl _ _⟩
  · rcases h.2 with ⟨rfl, h1⟩ | ⟨g, cap, cur, rfl, hb, hg, r1, r2, r3, r4⟩
    · exact absurd (List.eq_nil_of_length_eq_zero h1) h0
    · refine (Try.slices_Compact_int g 0 cap xs w (holds_of_blockI hg (by rw [Nat.mul_one] at r4; exact r4)) (by omega) r1).mono ?_
      rintro e w' ⟨rfl, q, rfl⟩
      have hle := Lib.compact_length_le xs
      have hheap : (putRow (Value.int .i64) (Sort.ahead w q) g 0 (Lib.compact xs ++ List.replicate (xs.length - (Lib.compact xs).length) 0).toArray).heap[g]? = some (.cells (putCells (Value.int .i64) 0 (Lib.compact xs ++ List.replicate (xs.length - (Lib.compact xs).length) 0).toArray cur) 3 (0, 0)) := by
        simp [putRow, mapBlock, Sort.ahead, Array.getElem?_modify, hg, onCells]
      have htk := take_putCellsI cur (Lib.compact xs ++ List.replicate (xs.length - (Lib.compact xs).length) 0) (by simp; omega)
      refine ⟨_, rfl, ⟨by simp, .inr ⟨g, cap, _, rfl, hb, hheap, by omega, r2, by simp [putCells, r3], ?_⟩⟩, ⟨rfl, rfl, rfl, by simp, fun k hk hne => ?_⟩⟩
      · rw [Nat.mul_one]
        have := congrArg (List.take (Lib.compact xs).length) htk
        rw [List.take_take, Nat.min_eq_left (by simp)] at this
        rw [this, ← List.map_take, List.take_left]
      · have : g ≠ k := fun e => hne (by rw [e]; rfl)
        simp [putRow, mapBlock, Sort.ahead, Array.getElem?_modify, this]
end Go.Proofs.Ytmojjfdamdgegaa
