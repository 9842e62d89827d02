/- net.Equal and pylonref14.Same: whatever they are handed. -/
import Derived.Test.YtcacaiakkfgdpaaEquA
namespace Go.Proofs.Ytcacaiakkfgdpaa
open Go.RowKit
set_option linter.unusedVariables false

def netEq (nb nb' : Int) (xs ys : List Ln) : Bool := (nb == nb') && decide (xs = ys)
theorem netEq_self (nb : Int) (xs : List Ln) : netEq nb nb xs xs = true := by simp [netEq]

set_option maxRecDepth 100000 in
set_option maxHeartbeats 2000000 in
theorem equal_any (nb nb' : Int) (A A' : Option Addr) (c c' : Nat) (xs ys : List Ln) (w : World) (hx : LinesR w w.heap.size A xs) (hy : LinesR w w.heap.size A' ys) (h1 : xs.length ≤ 1000000) (h2 : ys.length ≤ 1000000) :
    Calls Try.prog 32 #[.agg #[.int .i64 nb, .slice A xs.length c], .agg #[.int .i64 nb', .slice A' ys.length c']] w fun e w' => e = .returned (.bool (netEq nb nb' xs ys)) ∧ Below w.heap.size w w' := by
  have k1 := fun W hx hy => equalL_any A A' c c' xs ys W hx hy h1 h2
  unfold netEq
  generalize decide (xs = ys) = d at *
  have K1 := Lib.hid k1
  have HX := Lib.hid hx
  have HY := Lib.hid hy
  have HB := Lib.hid (below_alloc2 w (.cells #[.int .i64 nb, .slice A xs.length c] 24) (.cells #[.int .i64 nb', .slice A' ys.length c'] 24))
  clear k1 hx hy
  cases hn : (nb == nb') with
  | true =>
    go_enter Try.func32, Try.ntmps32
    go_wp2_with fail
    refine (K1.out _ (by exact HX.out.upto HB.out) (by exact HY.out.upto HB.out)).mono ?_
    rintro e w' ⟨rfl, n, rfl⟩
    go_wp2_with fail
    go_ret
    exact ⟨ret_bool (by simp), below_drewN HB.out _⟩
  | false =>
    go_enter Try.func32, Try.ntmps32
    go_wp2_with fail
    go_ret
    exact ⟨ret_bool (by simp), HB.out⟩

set_option maxRecDepth 100000 in
set_option maxHeartbeats 2000000 in
theorem same_any (nb nb' : Int) (A A' : Option Addr) (c c' : Nat) (xs ys : List Ln) (w : World) (hx : LinesR w w.heap.size A xs) (hy : LinesR w w.heap.size A' ys) (h1 : xs.length ≤ 1000000) (h2 : ys.length ≤ 1000000) :
    Calls Try.prog 26 #[.agg #[.int .i64 nb, .slice A xs.length c], .agg #[.int .i64 nb', .slice A' ys.length c']] w fun e w' => e = .returned (.bool (netEq nb nb' xs ys)) ∧ Below w.heap.size w w' := by
  have HX := Lib.hid hx
  have HY := Lib.hid hy
  have HB := Lib.hid (below_alloc2 w (.cells #[.int .i64 nb, .slice A xs.length c] 24) (.cells #[.int .i64 nb', .slice A' ys.length c'] 24))
  clear hx hy
  unfold netEq
  by_cases hn : nb = nb'
  · have hn1 : (nb == nb') = true := by rw [beq_iff_eq]; exact hn
    have hn2 : (nb != nb') = false := by simp [hn]
    rw [hn1, Bool.true_and]
    clear hn hn1
    by_cases hl : xs.length = ys.length
    · have hl' : ((xs.length : Int) != ys.length) = false := by simp [hl]
      have HL := Lib.hid hl
      clear hl
      go_enter Try.func26, Try.ntmps26
      go_wp2_with fail
      go_loopg [4, 5] xs.length (fun g s4 i wr => ∃ k q : Nat, k + g = xs.length ∧ i = .int .i64 k ∧ xs.take k = ys.take k ∧ wr = ((w.alloc (.cells #[.int .i64 nb, .slice A xs.length c] 24)).alloc (.cells #[.int .i64 nb', .slice A' ys.length c'] 24)).drewN q)
      case atStart => exact ⟨0, 0, by omega, rfl, by simp, rfl⟩
      case round =>
        obtain ⟨k, q, hkg, rfl, ht, rfl⟩ := hrel
        have HT := Lib.hid ht
        clear ht
        cases gk with
        | zero =>
          obtain rfl : k = xs.length := by omega
          clear hkg
          have hk' : Hid (xs = ys) := by
            have := HT.out
            rw [List.take_of_length_le (by omega), List.take_of_length_le (by have := HL.out; omega)] at this
            exact this
          go_wp2_with fail
          go_ret
          exact ⟨ret_bool (decide_eq_true hk'.out).symm, below_drewN HB.out _⟩
        | succ g =>
          have hlt : k < xs.length := by omega
          have HG := Lib.hid hkg
          clear hkg
          obtain ⟨b, off, rfl, hb, hc⟩ := HX.out (by omega)
          obtain ⟨b', off', rfl, hb', hc'⟩ := HY.out (by have := HL.out; omega)
          have hlt2 : k < ys.length := by have := HL.out; omega
          obtain ⟨e0, e1, e2, e3⟩ := hc k hlt
          obtain ⟨f0, f1, f2, f3⟩ := hc' k hlt2
          clear hc hc'
          have z1 : b < w.heap.size + 1 := by omega
          have z2 : b' < w.heap.size + 1 := by omega
          have i1 : (0 : Int) ≤ (k : Int) := by omega
          have i2 : (k : Int) < (xs.length : Int) := by omega
          have i3 : (k : Int) < (ys.length : Int) := by omega
          have hneq := neq_line (xs.getD k (0, 0, 0, 0)) (ys.getD k (0, 0, 0, 0))
          by_cases he : xs.getD k (0, 0, 0, 0) = ys.getD k (0, 0, 0, 0)
          · have HT' := Lib.hid (take_ext HT.out hlt hlt2 he)
            rw [show decide (xs.getD k (0, 0, 0, 0) ≠ ys.getD k (0, 0, 0, 0)) = false by simp only [he, ne_eq, not_true_eq_false, decide_false]] at hneq
            clear he
            generalize xs.getD k (0, 0, 0, 0) = l at *
            generalize ys.getD k (0, 0, 0, 0) = m at *
            go_wp2_with fail
            go_quiet (fail)
            go_wp2_with fail
            go_roundg g
            case measure => omega
            case rel => exact ⟨k + 1, _, by have := HG.out; omega, by go_num, HT'.out, rfl⟩
          · have HN : Hid (xs ≠ ys) := fun h => he (by rw [h])
            rw [show decide (xs.getD k (0, 0, 0, 0) ≠ ys.getD k (0, 0, 0, 0)) = true by rw [decide_eq_true_eq]; exact he] at hneq
            clear he
            generalize xs.getD k (0, 0, 0, 0) = l at *
            generalize ys.getD k (0, 0, 0, 0) = m at *
            go_wp2_with fail
            go_quiet (fail)
            go_wp2_with fail
            go_ret
            exact ⟨ret_bool (decide_eq_false HN.out).symm, below_drewN (below_drewN HB.out _) _⟩
    · have hl' : ((xs.length : Int) != ys.length) = true := by rw [bne_iff_ne]; omega
      have HN : Hid (xs ≠ ys) := fun h => hl (by rw [h])
      clear hl
      go_enter Try.func26, Try.ntmps26
      go_wp2_with fail
      go_ret
      exact ⟨ret_bool (decide_eq_false HN.out).symm, HB.out⟩
  · have hn1 : (nb == nb') = false := by rw [beq_eq_false_iff_ne]; exact hn
    have hn2 : (nb != nb') = true := by rw [bne_iff_ne]; exact hn
    rw [hn1, Bool.false_and]
    clear hn hn1
    go_enter Try.func26, Try.ntmps26
    go_wp2_with fail
    go_ret
    exact ⟨rfl, HB.out⟩
end Go.Proofs.Ytcacaiakkfgdpaa
