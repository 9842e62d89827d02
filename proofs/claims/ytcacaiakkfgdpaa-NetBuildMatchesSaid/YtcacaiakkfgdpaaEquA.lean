/- slices.Equal at lines, net.Equal, pylonref14.Same: whatever they are handed. -/
import Derived.Test.YtcacaiakkfgdpaaNetE
import Derived.Laws.StructEq
namespace Go.Proofs.Ytcacaiakkfgdpaa
open Go.RowKit
set_option linter.unusedVariables false

theorem neq_line (l m : Ln) (w : World) : (binOp .neq 51 (.agg #[.int .i64 l.1, .int .i64 l.2.1, .int .i64 l.2.2.1, .int .i64 l.2.2.2]) (.agg #[.int .i64 m.1, .int .i64 m.2.1, .int .i64 m.2.2.1, .int .i64 m.2.2.2])).run Try.prog w = .ok (.bool (decide (l ≠ m))) w := by
  have u3 := Try.underlying3
  have a3 := Try.isAgg3
  have z3 := Try.sizeOf3
  have u2 := Try.underlying2
  have a2 := Try.isAgg2
  have z2 := Try.sizeOf2
  have hS : Try.prog.underlying 51 = some (.struct (Try.prog.fieldsOf 51)) := by kernel_rfl
  have hp : Try.prog.stoodInHeld 51 = false := by kernel_rfl
  rw [run_neq_struct, show (10000 : Nat) = 9999 + 1 from rfl, run_equalIn_agg w 9999 51 _ _ hS hp]
  simp only [Program.fieldsOf, Try.underlying51]
  go_simp
  obtain ⟨l0, l1, l2, l3⟩ := l
  obtain ⟨m0, m1, m2, m3⟩ := m
  by_cases h1 : l0 = m0 <;> by_cases h2 : l1 = m1 <;> by_cases h3 : l2 = m2 <;> by_cases h4 : l3 = m3 <;> simp [h1, h2, h3, h4]

theorem take_ext {α : Type} {xs ys : List α} {k : Nat} {d : α} (h : xs.take k = ys.take k) (hx : k < xs.length) (hy : k < ys.length) (he : xs.getD k d = ys.getD k d) : xs.take (k + 1) = ys.take (k + 1) := by
  rw [List.take_succ_eq_append_getElem hx, List.take_succ_eq_append_getElem hy, h]
  rw [getD_eq _ _ _ hx, getD_eq _ _ _ hy] at he
  rw [he]

set_option maxRecDepth 100000 in
set_option maxHeartbeats 2000000 in
theorem equalL_any (A A' : Option Addr) (c c' : Nat) (xs ys : List Ln) (w : World) (hx : LinesR w w.heap.size A xs) (hy : LinesR w w.heap.size A' ys) (h1 : xs.length ≤ 1000000) (h2 : ys.length ≤ 1000000) :
    Calls Try.prog 47 #[.slice A xs.length c, .slice A' ys.length c'] w fun e w' => e = .returned (.bool (decide (xs = ys))) ∧ ∃ n, w' = w.drewN n := by
  have HX := Lib.hid hx
  have HY := Lib.hid hy
  clear hx hy
  by_cases hl : xs.length = ys.length
  · have hl' : ((xs.length : Int) != ys.length) = false := by simp [hl]
    have HL := Lib.hid hl
    clear hl
    go_enter Try.func47, Try.ntmps47
    go_wp2
    go_loopg [4, 5, 13] xs.length (fun g s4 s5 i w' => ∃ k n : Nat, k + g = xs.length ∧ i = .int .i64 k ∧ xs.take k = ys.take k ∧ w' = w.drewN n)
    case atStart => exact ⟨0, 0, by omega, rfl, by simp, rfl⟩
    case round =>
      obtain ⟨k, n, hkg, rfl, ht, rfl⟩ := hrel
      have HT := Lib.hid ht
      clear ht
      cases gk with
      | zero =>
        obtain rfl : k = xs.length := by omega
        clear hkg
        have hk' : Hid (xs = ys) := by
          have := HT.out
          rw [List.take_of_length_le (by omega), List.take_of_length_le (by have := HL.out; omega)] at this
          exact this
        go_wp2
        go_ret
        exact ⟨ret_bool (decide_eq_true hk'.out).symm, _, rfl⟩
      | succ g =>
        have hlt : k < xs.length := by omega
        have HG := Lib.hid hkg
        clear hkg
        obtain ⟨b, off, rfl, hb, hc⟩ := HX.out (by omega)
        obtain ⟨b', off', rfl, hb', hc'⟩ := HY.out (by have := HL.out; omega)
        have hlt2 : k < ys.length := by have := HL.out; omega
        obtain ⟨e0, e1, e2, e3⟩ := hc k hlt
        obtain ⟨f0, f1, f2, f3⟩ := hc' k hlt2
        clear hc hc'
        have i1 : (0 : Int) ≤ (k : Int) := by omega
        have i2 : (k : Int) < (xs.length : Int) := by omega
        have i3 : (k : Int) < (ys.length : Int) := by omega
        have hneq := neq_line (xs.getD k (0, 0, 0, 0)) (ys.getD k (0, 0, 0, 0))
        by_cases he : xs.getD k (0, 0, 0, 0) = ys.getD k (0, 0, 0, 0)
        · have HT' := Lib.hid (take_ext HT.out hlt hlt2 he)
          rw [show decide (xs.getD k (0, 0, 0, 0) ≠ ys.getD k (0, 0, 0, 0)) = false by simp only [he, ne_eq, not_true_eq_false, decide_false]] at hneq
          clear he
          generalize xs.getD k (0, 0, 0, 0) = l at *
          generalize ys.getD k (0, 0, 0, 0) = m at *
          go_wp2_with fail
          go_quiet (fail)
          go_wp2_with fail
          go_roundg g
          case measure => omega
          case rel => exact ⟨k + 1, _, by have := HG.out; omega, by go_num, HT'.out, rfl⟩
        · have HN : Hid (xs ≠ ys) := fun h => he (by rw [h])
          rw [show decide (xs.getD k (0, 0, 0, 0) ≠ ys.getD k (0, 0, 0, 0)) = true by rw [decide_eq_true_eq]; exact he] at hneq
          clear he
          generalize xs.getD k (0, 0, 0, 0) = l at *
          generalize ys.getD k (0, 0, 0, 0) = m at *
          go_wp2_with fail
          go_quiet (fail)
          go_wp2_with fail
          go_ret
          exact ⟨ret_bool (decide_eq_false HN.out).symm, _, World.drewN_drewN _ _ _⟩
  · have hl' : ((xs.length : Int) != ys.length) = true := by rw [bne_iff_ne]; omega
    have HN : Hid (xs ≠ ys) := fun h => hl (by rw [h])
    clear hl
    go_enter Try.func47, Try.ntmps47
    go_wp2
    go_ret
    exact ⟨ret_bool (decide_eq_false HN.out).symm, 0, rfl⟩
end Go.Proofs.Ytcacaiakkfgdpaa
