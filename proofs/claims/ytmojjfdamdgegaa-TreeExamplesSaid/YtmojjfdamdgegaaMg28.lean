/- The text UniB. -/
import Derived.Test.YtmojjfdamdgegaaMg27
/- net.Union. -/
namespace Go.Proofs.Ytmojjfdamdgegaa
open Go.RowKit
set_option linter.unusedVariables false

theorem unionL_length (a b : List Int) : (unionL a b).length ≤ a.length + b.length := by
  have := Lib.compact_length_le ((a ++ b).mergeSort fun x y => decide (x ≤ y))
  simpa [unionL] using this

set_option maxRecDepth 100000 in
set_option maxHeartbeats 4000000 in
theorem union_ok (A A' : Option Addr) (c c' : Nat) (a b : List Int) (w : World) (ha : IntsR w w.heap.size A a) (hb : IntsR w w.heap.size A' b) (h1 : a.length ≤ 1000000) (h2 : b.length ≤ 1000000) (ea : ascB a = true) (eb : ascB b = true) :
    Calls Try.prog 32 #[.slice A a.length c, .slice A' b.length c'] w (IntsE w (unionL a b) 0) := by
  obtain ⟨i0, hi, hz0, hz1, hz2⟩ := info_parts info_int
  have k1 := asc_any A c a w ha h1
  have k2 := asc_any A' c' b w hb h2
  rw [ea] at k1
  rw [eb] at k2
  have K1 := Lib.hid k1
  have K2 := Lib.hid k2
  have HA := Lib.hid ha
  have HB := Lib.hid hb
  clear k1 k2 ha hb ea eb
  go_enter Try.func32, Try.ntmps32
  go_wp2_with fail
  refine K1.out.mono ?_
  rintro e w' ⟨rfl, rfl⟩
  go_wp2_with fail
  refine K2.out.mono ?_
  rintro e w' ⟨rfl, rfl⟩
  go_wp2_with (first
    | (at_builtin; refine wpList_append_any _ rfl (.tmp 15) (.tmp 16) _ rfl w.heap.size 3 i0 _ 1 8 Try.underlying25 hi hz0 hz1 hz2 rfl (by omega) (.slice none 0 0) 0 [] rfl ⟨by simp, .inl ⟨rfl, rfl⟩⟩ A a.length c (a.map (Value.int .i64)) rfl HA.out.toSrc (one_ints _) (by simp only [maxLen]; omega) (by omega) (Nat.le_refl _) ?_; intro v1 w1 hown1 hg1 _; simp only [Nat.zero_add, List.nil_append] at hown1; have HO1 := Lib.hid hown1; have HB1 := Lib.hid (show Below w.heap.size w w1 from (Below.refl _ _).grown hg1 (Nat.le_refl _) (by simp [Value.ownBlock])); clear hown1 hg1)
    | (at_builtin; refine wpList_append_any _ rfl (.tmp 18) (.tmp 19) _ rfl w.heap.size 3 i0 _ 1 8 Try.underlying25 hi hz0 hz1 hz2 rfl (by omega) v1 a.length _ rfl HO1.out A' b.length c' (b.map (Value.int .i64)) rfl (HB.out.below HB1.out).toSrc (one_ints _) (by simp only [maxLen]; omega) (by omega) HB1.out.size ?_; intro v2 w2 hown2 hg2 _; have HO2 := Lib.hid hown2; have HG2 := Lib.hid hg2; clear hown2 hg2))
  have hb2 : Below w.heap.size w w2 := HB1.out.grown HG2.out HB1.out.size (fun j ej => (HO1.out.lt j ej).1)
  have ho2 : w2.ownsRow w.heap.size 3 1 v2 (a ++ b).length ((a ++ b).map (Value.int .i64)) := by simpa using HO2.out
  have HB2 := Lib.hid hb2
  have HR2 := Lib.hid ho2
  clear hb2 ho2 HO1 HO2 HG2 HB1 HA HB K1 K2
  refine (sort_own w.heap.size v2 (a ++ b) w2 HR2.out (by simp; omega)).mono ?_
  rintro e w3 ⟨rfl, hown3, hg3⟩
  have ho3 : w3.ownsRow w.heap.size 3 1 v2 ((a ++ b).mergeSort fun x y => decide (x ≤ y)).length (((a ++ b).mergeSort fun x y => decide (x ≤ y)).map (Value.int .i64)) := by
    rw [List.length_mergeSort]; exact hown3
  have HB3 := Lib.hid (HB2.out.grown hg3 HB2.out.size (fun j ej => (HR2.out.lt j ej).1))
  have HR3 := Lib.hid ho3
  clear hown3 hg3 ho3 HB2 HR2
  go_wp2_with fail
  refine (compact_own w.heap.size v2 _ w3 HR3.out (by rw [List.length_mergeSort]; simp; omega)).mono ?_
  rintro e w4 ⟨v4, rfl, hown4, hg4⟩
  have HB4 := Lib.hid (HB3.out.grown hg4 HB3.out.size (fun j ej => (HR3.out.lt j ej).1))
  have HR4 := Lib.hid hown4
  clear hown4 hg4 HB3 HR3
  go_wp2_with fail
  go_ret2
  exact ⟨_, rfl, HR4.out, HB4.out⟩

set_option maxHeartbeats 1000000 in
theorem union_any (A A' : Option Addr) (c c' : Nat) (a b : List Int) (w : World) (ha : IntsR w w.heap.size A a) (hb : IntsR w w.heap.size A' b) (h1 : a.length ≤ 1000000) (h2 : b.length ≤ 1000000) :
    Calls Try.prog 32 #[.slice A a.length c, .slice A' b.length c'] w (IntsE w (uniL a b) (uniE a b)) := by
  by_cases he : ascB a = true ∧ ascB b = true
  · rw [uniL, uniE, if_pos he, if_pos he]
    exact union_ok A A' c c' a b w ha hb h1 h2 he.1 he.2
  · rw [uniL, uniE, if_neg he, if_neg he]
    have k1 := asc_any A c a w ha h1
    have k2 := asc_any A' c' b w hb h2
    cases ea : ascB a with
    | false =>
      rw [ea] at k1
      have K1 := Lib.hid k1
      clear k1 k2 ea he ha hb
      go_enter Try.func32, Try.ntmps32
      go_wp2_with fail
      refine K1.out.mono ?_
      rintro e w' ⟨rfl, rfl⟩
      go_wp2_with fail
      go_ret2
      exact ⟨_, rfl, World.ownsRow_nil _ _ _ _, Below.refl _ _⟩
    | true =>
      have eb : ascB b = false := by cases eb : ascB b with | false => rfl | true => exact absurd ⟨ea, eb⟩ he
      rw [ea] at k1
      rw [eb] at k2
      have K1 := Lib.hid k1
      have K2 := Lib.hid k2
      clear k1 k2 ea eb he ha hb
      go_enter Try.func32, Try.ntmps32
      go_wp2_with fail
      refine K1.out.mono ?_
      rintro e w' ⟨rfl, rfl⟩
      go_wp2_with fail
      refine K2.out.mono ?_
      rintro e w' ⟨rfl, rfl⟩
      go_wp2_with fail
      go_ret2
      exact ⟨_, rfl, World.ownsRow_nil _ _ _ _, Below.refl _ _⟩
end Go.Proofs.Ytmojjfdamdgegaa
