/- pylonref21.Same. -/
import Derived.Test.YtklfijhlibpmaaaOgA
namespace Go.Proofs.Ytklfijhlibpmaaa
open Go.RowKit
set_option linter.unusedVariables false

set_option maxRecDepth 100000 in
set_option maxHeartbeats 2000000 in
theorem same_any (A A' : Option Addr) (c c' : Nat) (xs ys : List Og) (w : World) (hx : OgsR w w.heap.size A xs) (hy : OgsR w w.heap.size A' ys) (h1 : xs.length ≤ 1000000) (h2 : ys.length ≤ 1000000) :
    Calls Try.prog 11 #[.slice A xs.length c, .slice A' ys.length c'] w fun e w' => e = .returned (.bool (decide (xs = ys))) ∧ ∃ n, w' = w.drewN n := by
  have HX := Lib.hid hx
  have HY := Lib.hid hy
  clear hx hy
  by_cases hl : xs.length = ys.length
  · have hl' : ((xs.length : Int) != ys.length) = false := by simp [hl]
    have HL := Lib.hid hl
    clear hl
    go_enter Try.func11, Try.ntmps11
    go_wp2
    go_loopg [4, 5] xs.length (fun g s4 i w' => ∃ k n : Nat, k + g = xs.length ∧ i = .int .i64 k ∧ xs.take k = ys.take k ∧ w' = w.drewN n)
    case atStart => exact ⟨0, 0, by omega, rfl, by simp, rfl⟩
    case round =>
      obtain ⟨k, n, hkg, rfl, ht, rfl⟩ := hrel
      have HT := Lib.hid ht
      clear ht
      cases gk with
      | zero =>
        obtain rfl : k = xs.length := by omega
        clear hkg
        have hk' : Hid (xs = ys) := by
          have := HT.out
          rw [List.take_of_length_le (by omega), List.take_of_length_le (by have := HL.out; omega)] at this
          exact this
        go_wp2
        go_ret
        exact ⟨ret_bool (decide_eq_true hk'.out).symm, _, rfl⟩
      | succ g =>
        have hlt : k < xs.length := by omega
        have HG := Lib.hid hkg
        clear hkg
        obtain ⟨b, off, rfl, hb, hc⟩ := HX.out (by omega)
        obtain ⟨b', off', rfl, hb', hc'⟩ := HY.out (by have := HL.out; omega)
        have hlt2 : k < ys.length := by have := HL.out; omega
        obtain ⟨e0, e1, e2, e3⟩ := hc k hlt
        obtain ⟨f0, f1, f2, f3⟩ := hc' k hlt2
        clear hc hc'
        have i1 : (0 : Int) ≤ (k : Int) := by omega
        have i2 : (k : Int) < (xs.length : Int) := by omega
        have i3 : (k : Int) < (ys.length : Int) := by omega
        have hneq := neq_og (xs.getD k (0, 0, 0, 0)) (ys.getD k (0, 0, 0, 0))
        by_cases he : xs.getD k (0, 0, 0, 0) = ys.getD k (0, 0, 0, 0)
        · have HT' := Lib.hid (take_ext HT.out hlt hlt2 he)
          rw [show decide (xs.getD k (0, 0, 0, 0) ≠ ys.getD k (0, 0, 0, 0)) = false by simp only [he, ne_eq, not_true_eq_false, decide_false]] at hneq
          clear he
          generalize xs.getD k (0, 0, 0, 0) = l at *
          generalize ys.getD k (0, 0, 0, 0) = m at *
          go_wp2_with fail
          go_quiet (fail)
          go_wp2_with fail
          go_roundg g
          case measure => omega
          case rel => exact ⟨k + 1, _, by have := HG.out; omega, by go_num, HT'.out, rfl⟩
        · have HN : Hid (xs ≠ ys) := fun h => he (by rw [h])
          rw [show decide (xs.getD k (0, 0, 0, 0) ≠ ys.getD k (0, 0, 0, 0)) = true by rw [decide_eq_true_eq]; exact he] at hneq
          clear he
          generalize xs.getD k (0, 0, 0, 0) = l at *
          generalize ys.getD k (0, 0, 0, 0) = m at *
          go_wp2_with fail
          go_quiet (fail)
          go_wp2_with fail
          go_ret
          exact ⟨ret_bool (decide_eq_false HN.out).symm, _, World.drewN_drewN _ _ _⟩
  · have hl' : ((xs.length : Int) != ys.length) = true := by rw [bne_iff_ne]; omega
    have HN : Hid (xs ≠ ys) := fun h => hl (by rw [h])
    clear hl
    go_enter Try.func11, Try.ntmps11
    go_wp2
    go_ret
    exact ⟨ret_bool (decide_eq_false HN.out).symm, 0, rfl⟩
end Go.Proofs.Ytklfijhlibpmaaa
