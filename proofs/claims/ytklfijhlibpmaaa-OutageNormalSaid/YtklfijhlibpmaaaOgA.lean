/- Small functions: pylonref14.Ints, outage.Covers, joins, the reference's less and touch, Same, own. -/
import Derived.Test.YtklfijhlibpmaaaOgW
namespace Go.Proofs.Ytklfijhlibpmaaa
open Go.RowKit
set_option linter.unusedVariables false

set_option maxHeartbeats 400000 in
theorem ints_any (A A' : Option Addr) (c c' : Nat) (xs ys : List Int) (w : World) (hx : IntsR w w.heap.size A xs) (hy : IntsR w w.heap.size A' ys)
    (h1 : xs.length ≤ 1000000) (h2 : ys.length ≤ 1000000) :
    Calls Try.prog 18 #[.slice A xs.length c, .slice A' ys.length c'] w fun e w' => e = .returned (.bool (decide (xs = ys))) ∧ ∃ n, w' = w.drewN n := by
  have HX := Lib.hid hx
  have HY := Lib.hid hy
  clear hx hy
  by_cases hl : xs.length = ys.length
  · have hl' : ((xs.length : Int) != ys.length) = false := by simp [hl]
    have HL := Lib.hid hl
    clear hl
    go_enter Try.func18, Try.ntmps18
    go_wp2
    go_loopw [5] (fun i w' => ∃ k n : Nat, k ≤ xs.length ∧ i = .int .i64 k ∧ xs.take k = ys.take k ∧ w' = w.drewN n) (fun i _ => xs.length - (intOf i).toNat)
    case atStart => exact ⟨0, 0, Nat.zero_le _, rfl, by simp, rfl⟩
    case round =>
      obtain ⟨k, n, hk, rfl, ht, rfl⟩ := hrel
      have HT := Lib.hid ht
      clear ht
      by_cases hlt : k < xs.length
      · obtain ⟨b, off, rfl, hb, hc⟩ := HX.out (by omega)
        obtain ⟨b', off', rfl, hb', hc'⟩ := HY.out (by have := HL.out; omega)
        have hlt2 : k < ys.length := by have := HL.out; omega
        have e1 := hc k hlt
        have e2 := hc' k hlt2
        clear hc hc'
        by_cases he : xs.getD k 0 = ys.getD k 0
        · have hne : (xs.getD k 0 != ys.getD k 0) = false := by simp only [he, bne_self_eq_false]
          have HT' := Lib.hid (take_eq_of_getD HT.out hlt hlt2 he)
          generalize xs.getD k 0 = xk at *
          generalize ys.getD k 0 = yk at *
          clear he
          go_wp2
          go_quiet (fail)
          go_wp2
          go_roundw
          case rel => exact ⟨k + 1, _, by omega, by go_num, HT'.out, rfl⟩
          case measure => simp [intOf]; omega
        · have hne : (xs.getD k 0 != ys.getD k 0) = true := by rw [bne_iff_ne]; exact he
          have HN : Hid (xs ≠ ys) := fun h => he (by rw [h])
          generalize xs.getD k 0 = xk at *
          generalize ys.getD k 0 = yk at *
          clear he
          go_wp2
          go_quiet (fail)
          go_wp2
          go_ret
          exact ⟨ret_bool (decide_eq_false HN.out).symm, _, World.drewN_drewN _ _ _⟩
      · have hk' : Hid (xs = ys) := by
          have := HT.out
          rw [List.take_of_length_le (by omega), List.take_of_length_le (by have := HL.out; omega)] at this
          exact this
        go_wp2
        go_ret
        exact ⟨ret_bool (decide_eq_true hk'.out).symm, _, rfl⟩
  · have hl' : ((xs.length : Int) != ys.length) = true := by rw [bne_iff_ne]; omega
    have HN : Hid (xs ≠ ys) := fun h => hl (by rw [h])
    clear hl
    go_enter Try.func18, Try.ntmps18
    go_wp2
    go_ret
    exact ⟨ret_bool (decide_eq_false HN.out).symm, 0, rfl⟩


theorem ints_same (A A' : Option Addr) (c c' : Nat) (xs : List Int) (w : World) (hx : IntsR w w.heap.size A xs) (hy : IntsR w w.heap.size A' xs) (h1 : xs.length ≤ 1000000) :
    Calls Try.prog 18 #[.slice A xs.length c, .slice A' xs.length c'] w fun e w' => e = .returned (.bool true) ∧ Below w.heap.size w w' := by
  refine (ints_any A A' c c' xs xs w hx hy h1 h1).mono ?_
  rintro e w' ⟨rfl, n, rfl⟩
  exact ⟨by simp, below_drewN (Below.refl _ _) n⟩
theorem IntsR.lit (w : World) (t : TypeId) (xs : List Int) (cs : Array Value) (h : cs = (xs.map (Value.int .i64)).toArray) : IntsR (w.alloc (.cells cs t)) (w.heap.size + 1) (some ⟨w.heap.size, 0, none⟩) xs := fun hn => by
  refine ⟨w.heap.size, 0, rfl, by omega, fun i hi => ?_⟩
  rw [cell_alloc_at _ _ _ _ _ rfl, h]
  simp [hi]
theorem IntsR.litU (w : World) (t : TypeId) (xs : List Int) (cs : Array Value) (h : cs = (xs.map (Value.int .i64)).toArray) : IntsR (w.alloc (.cells cs t)) (w.alloc (.cells cs t)).heap.size (some ⟨w.heap.size, 0, none⟩) xs := by
  rw [World.size_alloc]; exact IntsR.lit w t xs cs h

/-- Does the outage cover the hour? -/
def covB (o : Og) (h : Int) : Bool := decide (o.2.2.1 ≤ h) && decide (h ≤ o.2.2.2)
set_option maxHeartbeats 1000000 in
theorem covers_any (o : Og) (h : Int) (w : World) : Calls Try.prog 51 #[ogV o, .int .i64 h] w fun e w' => e = .returned (.bool (covB o h)) ∧ w' = w.alloc (.cells #[.int .u8 o.1, .int .i64 o.2.1, .int .i64 o.2.2.1, .int .i64 o.2.2.2] 27) := by
  obtain ⟨k, x, f, t⟩ := o
  unfold ogV covB
  simp only
  by_cases h1 : f ≤ h
  · have h1' : decide (f ≤ h) = true := decide_eq_true h1
    rw [h1']
    cases h2 : decide (h ≤ t) with
    | true =>
      go_enter Try.func51, Try.ntmps51
      go_wp2
      go_ret
      exact ⟨rfl, rfl⟩
    | false =>
      go_enter Try.func51, Try.ntmps51
      go_wp2
      go_ret
      exact ⟨rfl, rfl⟩
  · have h1' : decide (f ≤ h) = false := decide_eq_false h1
    rw [h1']
    go_enter Try.func51, Try.ntmps51
    go_wp2
    go_ret
    exact ⟨rfl, rfl⟩

theorem below_two (w : World) (o o' : Obj) : Below w.heap.size w ((w.alloc o).alloc o') := ((Below.refl _ _).alloc (Nat.le_refl _) _).alloc (by simp) _
/-- The two boxes. -/
def twoOg (w : World) (a b : Og) : World := (w.alloc (.cells #[.int .u8 a.1, .int .i64 a.2.1, .int .i64 a.2.2.1, .int .i64 a.2.2.2] 27)).alloc (.cells #[.int .u8 b.1, .int .i64 b.2.1, .int .i64 b.2.2.1, .int .i64 b.2.2.2] 27)
theorem twoOg_below (w : World) (a b : Og) : Below w.heap.size w (twoOg w a b) := below_two _ _ _
set_option maxHeartbeats 2000000 in
theorem joins_any (a b : Og) (ha : OgB a) (hb : OgB b) (w : World) : Calls Try.prog 27 #[ogV a, ogV b] w fun e w' => e = .returned (.bool (decide (ogJoin a b))) ∧ w' = twoOg w a b := by
  obtain ⟨ak, ax, af, at'⟩ := a
  obtain ⟨bk, bx, bf, bt⟩ := b
  unfold ogV twoOg
  simp only
  obtain ⟨ha1, ha2, ha3, ha4⟩ := ha
  obtain ⟨hb1, hb2, hb3, hb4⟩ := hb
  simp only at ha1 ha2 ha3 ha4 hb1 hb2 hb3 hb4
  by_cases h1 : ak = bk
  · have h1' : (ak != bk) = false := by rw [bne_eq_false_iff_eq]; exact h1
    by_cases h2 : ax = bx
    · have h2' : (ax != bx) = false := by rw [bne_eq_false_iff_eq]; exact h2
      by_cases h3 : bf ≤ at'
      · have h3' : decide (bf ≤ at') = true := decide_eq_true h3
        have hj : decide (ogJoin (ak, ax, af, at') (bk, bx, bf, bt)) = true := decide_eq_true ⟨h1, h2, .inl h3⟩
        rw [hj]
        clear h1 h2 h3 hj
        go_enter Try.func27, Try.ntmps27
        go_wp2
        go_ret
        exact ⟨rfl, rfl⟩
      · have h3' : decide (bf ≤ at') = false := decide_eq_false h3
        by_cases h4 : bf - 1 = at'
        · have h4' : (bf - 1 == at') = true := by rw [beq_iff_eq]; exact h4
          have hj : decide (ogJoin (ak, ax, af, at') (bk, bx, bf, bt)) = true := decide_eq_true ⟨h1, h2, .inr h4⟩
          rw [hj]
          clear h1 h2 h4 hj
          go_enter Try.func27, Try.ntmps27
          go_wp2
          go_ret
          exact ⟨rfl, rfl⟩
        · have h4' : (bf - 1 == at') = false := by rw [beq_eq_false_iff_ne]; exact h4
          have hj : decide (ogJoin (ak, ax, af, at') (bk, bx, bf, bt)) = false := decide_eq_false (by rintro ⟨_, _, h | h⟩; exact h3 h; exact h4 h)
          rw [hj]
          clear h1 h2 h4 hj
          go_enter Try.func27, Try.ntmps27
          go_wp2
          go_ret
          exact ⟨rfl, rfl⟩
    · have h2' : (ax != bx) = true := by rw [bne_iff_ne]; exact h2
      have hj : decide (ogJoin (ak, ax, af, at') (bk, bx, bf, bt)) = false := decide_eq_false (fun h => h2 h.2.1)
      rw [hj]
      clear h1 h2 hj
      go_enter Try.func27, Try.ntmps27
      go_wp2
      go_ret
      exact ⟨rfl, rfl⟩
  · have h1' : (ak != bk) = true := by rw [bne_iff_ne]; exact h1
    have hj : decide (ogJoin (ak, ax, af, at') (bk, bx, bf, bt)) = false := decide_eq_false (fun h => h1 h.1)
    rw [hj]
    clear h1 hj
    go_enter Try.func27, Try.ntmps27
    go_wp2
    go_ret
    exact ⟨rfl, rfl⟩
set_option maxHeartbeats 2000000 in
theorem touch_any (a b : Og) (ha : OgB a) (hb : OgB b) (w : World) : Calls Try.prog 29 #[ogV a, ogV b] w fun e w' => e = .returned (.bool (decide (ogJoin a b))) ∧ w' = twoOg w a b := by
  obtain ⟨ak, ax, af, at'⟩ := a
  obtain ⟨bk, bx, bf, bt⟩ := b
  unfold ogV twoOg
  simp only
  obtain ⟨ha1, ha2, ha3, ha4⟩ := ha
  obtain ⟨hb1, hb2, hb3, hb4⟩ := hb
  simp only at ha1 ha2 ha3 ha4 hb1 hb2 hb3 hb4
  by_cases h1 : ak = bk
  · have h1' : (ak == bk) = true := by rw [beq_iff_eq]; exact h1
    by_cases h2 : ax = bx
    · have h2' : (ax == bx) = true := by rw [beq_iff_eq]; exact h2
      by_cases h3 : bf ≤ at'
      · have h3' : decide (bf ≤ at') = true := decide_eq_true h3
        have hj : decide (ogJoin (ak, ax, af, at') (bk, bx, bf, bt)) = true := decide_eq_true ⟨h1, h2, .inl h3⟩
        rw [hj]
        clear h1 h2 h3 hj
        go_enter Try.func29, Try.ntmps29
        go_wp2
        go_ret
        exact ⟨rfl, rfl⟩
      · have h3' : decide (bf ≤ at') = false := decide_eq_false h3
        by_cases h4 : bf - 1 = at'
        · have h4' : (bf - 1 == at') = true := by rw [beq_iff_eq]; exact h4
          have hj : decide (ogJoin (ak, ax, af, at') (bk, bx, bf, bt)) = true := decide_eq_true ⟨h1, h2, .inr h4⟩
          rw [hj]
          clear h1 h2 h4 hj
          go_enter Try.func29, Try.ntmps29
          go_wp2
          go_ret
          exact ⟨rfl, rfl⟩
        · have h4' : (bf - 1 == at') = false := by rw [beq_eq_false_iff_ne]; exact h4
          have hj : decide (ogJoin (ak, ax, af, at') (bk, bx, bf, bt)) = false := decide_eq_false (by rintro ⟨_, _, h | h⟩; exact h3 h; exact h4 h)
          rw [hj]
          clear h1 h2 h4 hj
          go_enter Try.func29, Try.ntmps29
          go_wp2
          go_ret
          exact ⟨rfl, rfl⟩
    · have h2' : (ax == bx) = false := by rw [beq_eq_false_iff_ne]; exact h2
      have hj : decide (ogJoin (ak, ax, af, at') (bk, bx, bf, bt)) = false := decide_eq_false (fun h => h2 h.2.1)
      rw [hj]
      clear h1 h2 hj
      go_enter Try.func29, Try.ntmps29
      go_wp2
      go_ret
      exact ⟨rfl, rfl⟩
  · have h1' : (ak == bk) = false := by rw [beq_eq_false_iff_ne]; exact h1
    have hj : decide (ogJoin (ak, ax, af, at') (bk, bx, bf, bt)) = false := decide_eq_false (fun h => h1 h.1)
    rw [hj]
    clear h1 hj
    go_enter Try.func29, Try.ntmps29
    go_wp2
    go_ret
    exact ⟨rfl, rfl⟩
set_option maxHeartbeats 2000000 in
theorem less_any (a b : Og) (w : World) : Calls Try.prog 28 #[ogV a, ogV b] w fun e w' => e = .returned (.bool (decide (ogLt a b))) ∧ w' = twoOg w a b := by
  obtain ⟨ak, ax, af, at'⟩ := a
  obtain ⟨bk, bx, bf, bt⟩ := b
  unfold ogV twoOg
  simp only
  by_cases h1 : ak = bk
  · have h1' : (ak != bk) = false := by rw [bne_eq_false_iff_eq]; exact h1
    by_cases h2 : ax = bx
    · have h2' : (ax != bx) = false := by rw [bne_eq_false_iff_eq]; exact h2
      have hj : decide (ogLt (ak, ax, af, at') (bk, bx, bf, bt)) = decide (af < bf) := by rw [decide_eq_decide]; unfold ogLt; simp only; omega
      rw [hj]
      clear h1 h2 hj
      go_enter Try.func28, Try.ntmps28
      go_wp2
      go_ret
      exact ⟨rfl, rfl⟩
    · have h2' : (ax != bx) = true := by rw [bne_iff_ne]; exact h2
      have hj : decide (ogLt (ak, ax, af, at') (bk, bx, bf, bt)) = decide (ax < bx) := by rw [decide_eq_decide]; unfold ogLt; simp only; omega
      rw [hj]
      clear h1 h2 hj
      go_enter Try.func28, Try.ntmps28
      go_wp2
      go_ret
      exact ⟨rfl, rfl⟩
  · have h1' : (ak != bk) = true := by rw [bne_iff_ne]; exact h1
    have hj : decide (ogLt (ak, ax, af, at') (bk, bx, bf, bt)) = decide (ak < bk) := by rw [decide_eq_decide]; unfold ogLt; simp only; omega
    rw [hj]
    clear h1 hj
    go_enter Try.func28, Try.ntmps28
    go_wp2
    go_ret
    exact ⟨rfl, rfl⟩
set_option maxHeartbeats 1000000 in
theorem own_any (A : Option Addr) (c : Nat) (l : List Og) (w : World) (hl : OgsR w w.heap.size A l) (hm : l.length ≤ 1000000) :
    Calls Try.prog 9 #[.slice A l.length c] w (OgE w l) := by
  obtain ⟨i0, hi, hz0, hz1, hz2⟩ := info_parts info_og
  have HA := Lib.hid hl
  clear hl
  go_enter Try.func9, Try.ntmps9
  go_wp2_with (at_builtin; refine wpList_append_any _ rfl (.const (.slice none 0 0)) (.tmp 3) _ rfl w.heap.size 27 i0 _ 4 32 Try.underlying22 hi hz0 hz1 hz2 rfl (by omega) (.slice none 0 0) 0 [] rfl ⟨by simp, .inl ⟨rfl, rfl⟩⟩ A l.length c (ogCells l) rfl HA.out.toSrc (one_ogs _) (by simp only [maxLen]; omega) (by omega) (Nat.le_refl _) ?_; intro v1 w1 hown1 hg1 _; simp only [Nat.zero_add, List.nil_append] at hown1; have HO1 := Lib.hid hown1; have HB1 := Lib.hid (show Below w.heap.size w w1 from (Below.refl _ _).grown hg1 (Nat.le_refl _) (by simp [Value.ownBlock])); clear hown1 hg1)
  go_ret
  exact ⟨_, rfl, HO1.out, HB1.out⟩
end Go.Proofs.Ytklfijhlibpmaaa
