/- Texts in one: UniA, UniB. -/
import Derived.Sort.OwnSortedInts
import Derived.Test.YtmojjfdamdgegaaMg14
import Derived.Test.YtmojjfdamdgegaaMg8
import Derived.Test.YtmojjfdamdgegaaMg20
import Derived.Test.YtmojjfdamdgegaaMg21
import Derived.Test.YtmojjfdamdgegaaShf
/- net.ascending, net.Union. -/
namespace Go.Proofs.Ytmojjfdamdgegaa
open Go.RowKit Go.Sort
set_option linter.unusedVariables false

set_option maxHeartbeats 1000000 in
theorem asc_any (A : Option Addr) (c : Nat) (l : List Int) (w : World) (hl : IntsR w w.heap.size A l) (hm : l.length ≤ 1000000) :
    Calls Try.prog 47 #[.slice A l.length c] w fun e w' => e = .returned (.bool (ascB l)) ∧ w = w' := by
  have HO := Lib.hid hl
  clear hl
  go_enter Try.func47, Try.ntmps47
  go_wp2
  go_loopg [2, 3, 4, 7] l.length (fun g s2 s3 s4 i w' => ∃ k : Nat, k + g = l.length ∧ i = .int .i64 k ∧ (∀ i, i < k → ascAt l i) ∧ w = w')
  case atStart => exact ⟨0, by omega, rfl, fun i hi => absurd hi (by omega), rfl⟩
  case round =>
    obtain ⟨k, hkg, rfl, hall, rfl⟩ := hrel
    have HA := Lib.hid hall
    clear hall
    cases gk with
    | zero =>
      obtain rfl : k = l.length := by omega
      clear hkg
      go_wp2
      go_ret
      refine ⟨ret_bool ?_, rfl⟩
      exact (decide_eq_true HA.out).symm
    | succ g =>
      have hk : k < l.length := by omega
      have HG := Lib.hid hkg
      clear hkg
      obtain ⟨b, off, rfl, hbl, hc⟩ := HO.out (by omega)
      have f0 := hc k hk
      have f1 : 0 < k → w.cell? ⟨b, off + (k - 1), none⟩ = _ := fun _ => hc (k - 1) (by omega)
      have F1 := Lib.hid f1
      clear hc f1
      have hgx : ∃ x, l.getD k 0 = x := ⟨_, rfl⟩
      obtain ⟨x, hgx⟩ := hgx
      have hgy : ∃ y, l.getD (k - 1) 0 = y := ⟨_, rfl⟩
      obtain ⟨y, hgy⟩ := hgy
      rw [hgx] at f0
      have HX := Lib.hid hgx
      have HY := Lib.hid hgy
      clear hgx hgy
      by_cases h0 : x < 0
      · have h0' : decide (x < 0) = true := by simp; omega
        go_wp2
        go_ret
        exact ⟨ret_bool (ascB_not hk (by unfold ascAt; rw [HX.out]; omega)).symm, rfl⟩
      have h0' : decide (x < 0) = false := by simp; omega
      by_cases h2 : k = 0
      · have H2 := Lib.hid h2
        have h2' : decide (0 < k) = false := by simp [h2]
        clear h2
        go_wp2
        go_roundg g
        case measure => omega
        case rel =>
          refine ⟨k + 1, by have := HG.out; omega, by go_num, fun i hi => ?_, rfl⟩
          have := H2.out
          obtain rfl : i = k := by omega
          unfold ascAt
          rw [HX.out]
          omega
      have h2' : 0 < k := by omega
      have h2'' : decide (0 < k) = true := by simp; omega
      have g1 := F1.out h2'
      rw [HY.out] at g1
      have e1 : ((k : Int) - 1).toNat = k - 1 := by omega
      by_cases h3 : x ≤ y
      · have h3' : decide (x ≤ y) = true := by simp; omega
        go_wp2
        go_ret
        exact ⟨ret_bool (ascB_not hk (by unfold ascAt; rw [HX.out, HY.out]; omega)).symm, rfl⟩
      · have h3' : decide (x ≤ y) = false := by simp; omega
        go_wp2
        go_roundg g
        case measure => omega
        case rel =>
          refine ⟨k + 1, by have := HG.out; omega, by go_num, fun i hi => ?_, rfl⟩
          rcases Nat.lt_or_ge i k with h | h
          · exact HA.out i h
          · obtain rfl : i = k := by omega
            unfold ascAt
            rw [HX.out, HY.out]
            omega

/-- slices.Sort on a row of the call's own. -/
theorem sort_own (base : Nat) (v : Value) (xs : List Int) (w : World) (h : w.ownsRow base 3 1 v xs.length (xs.map (Value.int .i64))) (hm : xs.length ≤ 4000000) :
    Calls Try.prog 48 #[v] w fun e w' => e = .returned (.tuple #[]) ∧ w'.ownsRow base 3 1 v xs.length ((xs.mergeSort fun x y => decide (x ≤ y)).map (Value.int .i64)) ∧ w.grownBy w' v.ownBlock := by
  by_cases h0 : xs = []
  · subst h0
    obtain ⟨A, c, rfl, _⟩ := ownsRow_ints h
    refine (Try.slices_Sort_int_none A c w).mono ?_
    rintro e w' ⟨rfl, hw⟩
    obtain rfl : w' = w := hw
    exact ⟨rfl, by simpa using h, World.grownBy.refl _ _⟩
  · rcases h.2 with ⟨rfl, h1⟩ | ⟨g, cap, cur, rfl, hb, hg, r1, r2, r3, r4⟩
    · exact absurd (List.eq_nil_of_length_eq_zero h1) h0
    · refine (Try.slices_Sort_int g 0 cap xs w (holds_of_blockI hg (by rw [Nat.mul_one] at r4; exact r4)) (Array.getElem?_eq_some_iff.1 hg).1 (by omega)).mono ?_
      rintro e w' ⟨rfl, n, os, rfl⟩
      refine ⟨rfl, ?_, grownBy_sortedI _⟩
      exact ownsRow_sortedI (ss := xs) (ts := xs.mergeSort fun x y => decide (x ≤ y)) (by simp) hb hg r1 r2 r3

/-- slices.Compact on a row of the call's own. -/
theorem compact_own (base : Nat) (v : Value) (xs : List Int) (w : World) (h : w.ownsRow base 3 1 v xs.length (xs.map (Value.int .i64))) (hm : xs.length ≤ 4000000) :
    Calls Try.prog 49 #[v] w fun e w' => ∃ v', e = .returned v' ∧ w'.ownsRow base 3 1 v' (Lib.compact xs).length ((Lib.compact xs).map (Value.int .i64)) ∧ w.grownBy w' v.ownBlock := by
  by_cases h0 : xs = []
  · subst h0
    obtain ⟨A, c, rfl, _⟩ := ownsRow_ints h
    refine (Try.slices_Compact_int_empty A c w).mono ?_
    rintro e w' ⟨rfl, hw⟩
    obtain rfl : w' = w := hw
    exact ⟨_, rfl, by simpa [Lib.compact, Lib.compactUpTo] using h, World.grownBy.refl _ _⟩
  · rcases h.2 with ⟨rfl, h1⟩ | ⟨g, cap, cur, rfl, hb, hg, r1, r2, r3, r4⟩
    · exact absurd (List.eq_nil_of_length_eq_zero h1) h0
    · refine (Try.slices_Compact_int g 0 cap xs w (holds_of_blockI hg (by rw [Nat.mul_one] at r4; exact r4)) (by omega) r1).mono ?_
      rintro e w' ⟨rfl, q, rfl⟩
      have hle := Lib.compact_length_le xs
      have hheap : (putRow (Value.int .i64) (Sort.ahead w q) g 0 (Lib.compact xs ++ List.replicate (xs.length - (Lib.compact xs).length) 0).toArray).heap[g]? = some (.cells (putCells (Value.int .i64) 0 (Lib.compact xs ++ List.replicate (xs.length - (Lib.compact xs).length) 0).toArray cur) 3 (0, 0)) := by
        simp [putRow, mapBlock, Sort.ahead, Array.getElem?_modify, hg, onCells]
      have htk := take_putCellsI cur (Lib.compact xs ++ List.replicate (xs.length - (Lib.compact xs).length) 0) (by simp; omega)
      refine ⟨_, rfl, ⟨by simp, .inr ⟨g, cap, _, rfl, hb, hheap, by omega, r2, by simp [putCells, r3], ?_⟩⟩, ⟨rfl, rfl, rfl, by simp, fun k hk hne => ?_⟩⟩
      · rw [Nat.mul_one]
        have := congrArg (List.take (Lib.compact xs).length) htk
        rw [List.take_take, Nat.min_eq_left (by simp)] at this
        rw [this, ← List.map_take, List.take_left]
      · have : g ≠ k := fun e => hne (by rw [e]; rfl)
        simp [putRow, mapBlock, Sort.ahead, Array.getElem?_modify, this]
end Go.Proofs.Ytmojjfdamdgegaa
/- net.Union. -/
namespace Go.Proofs.Ytmojjfdamdgegaa
open Go.RowKit
set_option linter.unusedVariables false

theorem unionL_length (a b : List Int) : (unionL a b).length ≤ a.length + b.length := by
  have := Lib.compact_length_le ((a ++ b).mergeSort fun x y => decide (x ≤ y))
  simpa [unionL] using this

set_option maxRecDepth 100000 in
set_option maxHeartbeats 4000000 in
theorem union_ok (A A' : Option Addr) (c c' : Nat) (a b : List Int) (w : World) (ha : IntsR w w.heap.size A a) (hb : IntsR w w.heap.size A' b) (h1 : a.length ≤ 1000000) (h2 : b.length ≤ 1000000) (ea : ascB a = true) (eb : ascB b = true) :
    Calls Try.prog 32 #[.slice A a.length c, .slice A' b.length c'] w (IntsE w (unionL a b) 0) := by
  obtain ⟨i0, hi, hz0, hz1, hz2⟩ := info_parts info_int
  have k1 := asc_any A c a w ha h1
  have k2 := asc_any A' c' b w hb h2
  rw [ea] at k1
  rw [eb] at k2
  have K1 := Lib.hid k1
  have K2 := Lib.hid k2
  have HA := Lib.hid ha
  have HB := Lib.hid hb
  clear k1 k2 ha hb ea eb
  go_enter Try.func32, Try.ntmps32
  go_wp2_with fail
  refine K1.out.mono ?_
  rintro e w' ⟨rfl, rfl⟩
  go_wp2_with fail
  refine K2.out.mono ?_
  rintro e w' ⟨rfl, rfl⟩
  go_wp2_with (first
    | (at_builtin; refine wpList_append_any _ rfl (.tmp 15) (.tmp 16) _ rfl w.heap.size 3 i0 _ 1 8 Try.underlying25 hi hz0 hz1 hz2 rfl (by omega) (.slice none 0 0) 0 [] rfl ⟨by simp, .inl ⟨rfl, rfl⟩⟩ A a.length c (a.map (Value.int .i64)) rfl HA.out.toSrc (one_ints _) (by simp only [maxLen]; omega) (by omega) (Nat.le_refl _) ?_; intro v1 w1 hown1 hg1 _; simp only [Nat.zero_add, List.nil_append] at hown1; have HO1 := Lib.hid hown1; have HB1 := Lib.hid (show Below w.heap.size w w1 from (Below.refl _ _).grown hg1 (Nat.le_refl _) (by simp [Value.ownBlock])); clear hown1 hg1)
    | (at_builtin; refine wpList_append_any _ rfl (.tmp 18) (.tmp 19) _ rfl w.heap.size 3 i0 _ 1 8 Try.underlying25 hi hz0 hz1 hz2 rfl (by omega) v1 a.length _ rfl HO1.out A' b.length c' (b.map (Value.int .i64)) rfl (HB.out.below HB1.out).toSrc (one_ints _) (by simp only [maxLen]; omega) (by omega) HB1.out.size ?_; intro v2 w2 hown2 hg2 _; have HO2 := Lib.hid hown2; have HG2 := Lib.hid hg2; clear hown2 hg2))
  have hb2 : Below w.heap.size w w2 := HB1.out.grown HG2.out HB1.out.size (fun j ej => (HO1.out.lt j ej).1)
  have ho2 : w2.ownsRow w.heap.size 3 1 v2 (a ++ b).length ((a ++ b).map (Value.int .i64)) := by simpa using HO2.out
  have HB2 := Lib.hid hb2
  have HR2 := Lib.hid ho2
  clear hb2 ho2 HO1 HO2 HG2 HB1 HA HB K1 K2
  refine (sort_own w.heap.size v2 (a ++ b) w2 HR2.out (by simp; omega)).mono ?_
  rintro e w3 ⟨rfl, hown3, hg3⟩
  have ho3 : w3.ownsRow w.heap.size 3 1 v2 ((a ++ b).mergeSort fun x y => decide (x ≤ y)).length (((a ++ b).mergeSort fun x y => decide (x ≤ y)).map (Value.int .i64)) := by
    rw [List.length_mergeSort]; exact hown3
  have HB3 := Lib.hid (HB2.out.grown hg3 HB2.out.size (fun j ej => (HR2.out.lt j ej).1))
  have HR3 := Lib.hid ho3
  clear hown3 hg3 ho3 HB2 HR2
  go_wp2_with fail
  refine (compact_own w.heap.size v2 _ w3 HR3.out (by rw [List.length_mergeSort]; simp; omega)).mono ?_
  rintro e w4 ⟨v4, rfl, hown4, hg4⟩
  have HB4 := Lib.hid (HB3.out.grown hg4 HB3.out.size (fun j ej => (HR3.out.lt j ej).1))
  have HR4 := Lib.hid hown4
  clear hown4 hg4 HB3 HR3
  go_wp2_with fail
  go_ret2
  exact ⟨_, rfl, HR4.out, HB4.out⟩

set_option maxHeartbeats 1000000 in
theorem union_any (A A' : Option Addr) (c c' : Nat) (a b : List Int) (w : World) (ha : IntsR w w.heap.size A a) (hb : IntsR w w.heap.size A' b) (h1 : a.length ≤ 1000000) (h2 : b.length ≤ 1000000) :
    Calls Try.prog 32 #[.slice A a.length c, .slice A' b.length c'] w (IntsE w (uniL a b) (uniE a b)) := by
  by_cases he : ascB a = true ∧ ascB b = true
  · rw [uniL, uniE, if_pos he, if_pos he]
    exact union_ok A A' c c' a b w ha hb h1 h2 he.1 he.2
  · rw [uniL, uniE, if_neg he, if_neg he]
    have k1 := asc_any A c a w ha h1
    have k2 := asc_any A' c' b w hb h2
    cases ea : ascB a with
    | false =>
      rw [ea] at k1
      have K1 := Lib.hid k1
      clear k1 k2 ea he ha hb
      go_enter Try.func32, Try.ntmps32
      go_wp2_with fail
      refine K1.out.mono ?_
      rintro e w' ⟨rfl, rfl⟩
      go_wp2_with fail
      go_ret2
      exact ⟨_, rfl, World.ownsRow_nil _ _ _ _, Below.refl _ _⟩
    | true =>
      have eb : ascB b = false := by cases eb : ascB b with | false => rfl | true => exact absurd ⟨ea, eb⟩ he
      rw [ea] at k1
      rw [eb] at k2
      have K1 := Lib.hid k1
      have K2 := Lib.hid k2
      clear k1 k2 ea eb he ha hb
      go_enter Try.func32, Try.ntmps32
      go_wp2_with fail
      refine K1.out.mono ?_
      rintro e w' ⟨rfl, rfl⟩
      go_wp2_with fail
      refine K2.out.mono ?_
      rintro e w' ⟨rfl, rfl⟩
      go_wp2_with fail
      go_ret2
      exact ⟨_, rfl, World.ownsRow_nil _ _ _ _, Below.refl _ _⟩
end Go.Proofs.Ytmojjfdamdgegaa
