/- The text NetA. -/
import Derived.Deep.QuietTactic
import Derived.BigQuiet
import Derived.BigGuardPart
import Derived.LoopTactic
import Derived.Deep.LoopGhost
import Derived.WalkMore
import Derived.Outline
import Derived.Test.YtmojjfdamdgegaaProg
import Derived.Test.YtmojjfdamdgegaaMg1
/- Contracts of the small functions of layer 14. -/
namespace Go.Proofs.Ytmojjfdamdgegaa
open Go.RowKit
set_option linter.unusedVariables false

set_option maxHeartbeats 400000 in
theorem ints_any (A A' : Option Addr) (c c' : Nat) (xs ys : List Int) (w : World) (hx : IntsR w w.heap.size A xs) (hy : IntsR w w.heap.size A' ys)
    (h1 : xs.length ≤ 1000000) (h2 : ys.length ≤ 1000000) :
    Calls Try.prog 19 #[.slice A xs.length c, .slice A' ys.length c'] w fun e w' => e = .returned (.bool (decide (xs = ys))) ∧ ∃ n, w' = w.drewN n := by
  have HX := Lib.hid hx
  have HY := Lib.hid hy
  clear hx hy
  by_cases hl : xs.length = ys.length
  · have hl' : ((xs.length : Int) != ys.length) = false := by simp [hl]
    have HL := Lib.hid hl
    clear hl
    go_enter Try.func19, Try.ntmps19
    go_wp2
    go_loopw [5] (fun i w' => ∃ k n : Nat, k ≤ xs.length ∧ i = .int .i64 k ∧ xs.take k = ys.take k ∧ w' = w.drewN n) (fun i _ => xs.length - (intOf i).toNat)
    case atStart => exact ⟨0, 0, Nat.zero_le _, rfl, by simp, rfl⟩
    case round =>
      obtain ⟨k, n, hk, rfl, ht, rfl⟩ := hrel
      have HT := Lib.hid ht
      clear ht
      by_cases hlt : k < xs.length
      · obtain ⟨b, off, rfl, hb, hc⟩ := HX.out (by omega)
        obtain ⟨b', off', rfl, hb', hc'⟩ := HY.out (by have := HL.out; omega)
        have hlt2 : k < ys.length := by have := HL.out; omega
        have e1 := hc k hlt
        have e2 := hc' k hlt2
        clear hc hc'
        by_cases he : xs.getD k 0 = ys.getD k 0
        · have hne : (xs.getD k 0 != ys.getD k 0) = false := by simp only [he, bne_self_eq_false]
          have HT' := Lib.hid (take_eq_of_getD HT.out hlt hlt2 he)
          generalize xs.getD k 0 = xk at *
          generalize ys.getD k 0 = yk at *
          clear he
          go_wp2
          go_quiet (fail)
          go_wp2
          go_roundw
          case rel => exact ⟨k + 1, _, by omega, by go_num, HT'.out, rfl⟩
          case measure => simp [intOf]; omega
        · have hne : (xs.getD k 0 != ys.getD k 0) = true := by rw [bne_iff_ne]; exact he
          have HN : Hid (xs ≠ ys) := fun h => he (by rw [h])
          generalize xs.getD k 0 = xk at *
          generalize ys.getD k 0 = yk at *
          clear he
          go_wp2
          go_quiet (fail)
          go_wp2
          go_ret
          exact ⟨ret_bool (decide_eq_false HN.out).symm, _, World.drewN_drewN _ _ _⟩
      · have hk' : Hid (xs = ys) := by
          have := HT.out
          rw [List.take_of_length_le (by omega), List.take_of_length_le (by have := HL.out; omega)] at this
          exact this
        go_wp2
        go_ret
        exact ⟨ret_bool (decide_eq_true hk'.out).symm, _, rfl⟩
  · have hl' : ((xs.length : Int) != ys.length) = true := by rw [bne_iff_ne]; omega
    have HN : Hid (xs ≠ ys) := fun h => hl (by rw [h])
    clear hl
    go_enter Try.func19, Try.ntmps19
    go_wp2
    go_ret
    exact ⟨ret_bool (decide_eq_false HN.out).symm, 0, rfl⟩

/-- The five conditions on a line. -/
def chk (nb : Int) (l : Ln) : Nat → Bool
  | 0 => decide (0 ≤ l.1) && decide (l.1 < nb)
  | 1 => decide (0 ≤ l.2.1) && decide (l.2.1 < nb)
  | 2 => l.1 != l.2.1
  | 3 => decide (1 ≤ l.2.2.1) && decide (l.2.2.1 ≤ 1000)
  | _ => decide (0 ≤ l.2.2.2) && decide (l.2.2.2 ≤ 1000000)

def busB (nb b : Int) : Bool := decide (0 ≤ b) && decide (b < nb)

set_option maxHeartbeats 400000 in
theorem isBus_any (nb b : Int) (L : Value) (w : World) :
    Calls Try.prog 64 #[.agg #[.int .i64 nb, L], .int .i64 b] w fun e w' => e = .returned (.bool (busB nb b)) ∧ Below w.heap.size w w' := by
  unfold busB
  by_cases h0 : 0 ≤ b
  · go_enter Try.func64, Try.ntmps64
    go_wp2
    go_ret
    exact ⟨ret_bool (by simp [h0]), (Below.refl _ _).alloc (Nat.le_refl _) _⟩
  · go_enter Try.func64, Try.ntmps64
    go_wp2
    go_ret
    exact ⟨ret_bool (by simp; omega), (Below.refl _ _).alloc (Nat.le_refl _) _⟩

theorem below_alloc2 (w : World) (o p : Obj) : Below w.heap.size w ((w.alloc o).alloc p) := ((Below.refl _ _).alloc (Nat.le_refl _) o).alloc (by simp) p

set_option maxHeartbeats 400000 in
theorem chk0_any (nb f t x c : Int) (L : Value) (w : World) :
    Calls Try.prog 63 #[.agg #[.int .i64 nb, L], .agg #[.int .i64 f, .int .i64 t, .int .i64 x, .int .i64 c]] w fun e w' => e = .returned (.bool (chk nb (f, t, x, c) 0)) ∧ Below w.heap.size w w' := by
  go_enter Try.func63, Try.ntmps63
  go_wp2_with (go_at_call 64; refine (isBus_any _ _ _ _).mono ?_; rintro e w' ⟨rfl, hb⟩)
  go_ret
  exact ⟨rfl, (below_alloc2 w _ _).trans (hb.mono (by simp; omega))⟩

set_option maxHeartbeats 400000 in
theorem chk1_any (nb f t x c : Int) (L : Value) (w : World) :
    Calls Try.prog 65 #[.agg #[.int .i64 nb, L], .agg #[.int .i64 f, .int .i64 t, .int .i64 x, .int .i64 c]] w fun e w' => e = .returned (.bool (chk nb (f, t, x, c) 1)) ∧ Below w.heap.size w w' := by
  go_enter Try.func65, Try.ntmps65
  go_wp2_with (go_at_call 64; refine (isBus_any _ _ _ _).mono ?_; rintro e w' ⟨rfl, hb⟩)
  go_ret
  exact ⟨rfl, (below_alloc2 w _ _).trans (hb.mono (by simp; omega))⟩

set_option maxHeartbeats 400000 in
theorem chk2_any (nb f t x c : Int) (L : Value) (w : World) :
    Calls Try.prog 66 #[.agg #[.int .i64 nb, L], .agg #[.int .i64 f, .int .i64 t, .int .i64 x, .int .i64 c]] w fun e w' => e = .returned (.bool (chk nb (f, t, x, c) 2)) ∧ Below w.heap.size w w' := by
  go_enter Try.func66, Try.ntmps66
  go_wp2
  go_ret
  exact ⟨rfl, below_alloc2 w _ _⟩

set_option maxHeartbeats 400000 in
theorem chk3_any (nb f t x c : Int) (L : Value) (w : World) :
    Calls Try.prog 67 #[.agg #[.int .i64 nb, L], .agg #[.int .i64 f, .int .i64 t, .int .i64 x, .int .i64 c]] w fun e w' => e = .returned (.bool (chk nb (f, t, x, c) 3)) ∧ Below w.heap.size w w' := by
  unfold chk
  by_cases h0 : 1 ≤ x
  · go_enter Try.func67, Try.ntmps67
    go_wp2
    go_ret
    exact ⟨ret_bool (by simp [h0]), below_alloc2 w _ _⟩
  · go_enter Try.func67, Try.ntmps67
    go_wp2
    go_ret
    exact ⟨ret_bool (by simp; omega), below_alloc2 w _ _⟩

set_option maxHeartbeats 400000 in
theorem chk4_any (nb f t x c : Int) (L : Value) (w : World) :
    Calls Try.prog 68 #[.agg #[.int .i64 nb, L], .agg #[.int .i64 f, .int .i64 t, .int .i64 x, .int .i64 c]] w fun e w' => e = .returned (.bool (chk nb (f, t, x, c) 4)) ∧ Below w.heap.size w w' := by
  unfold chk
  by_cases h0 : 0 ≤ c
  · go_enter Try.func68, Try.ntmps68
    go_wp2
    go_ret
    exact ⟨ret_bool (by simp [h0]), below_alloc2 w _ _⟩
  · go_enter Try.func68, Try.ntmps68
    go_wp2
    go_ret
    exact ⟨ret_bool (by simp; omega), below_alloc2 w _ _⟩

/-- The cells that checks() makes: five functions. -/
def chkFn : Nat → Value
  | 0 => .func (.func 63) #[] #[]
  | 1 => .func (.func 65) #[] #[]
  | 2 => .func (.func 66) #[] #[]
  | 3 => .func (.func 67) #[] #[]
  | _ => .func (.func 68) #[] #[]

set_option maxHeartbeats 400000 in
theorem checks_any (w : World) :
    Calls Try.prog 58 #[] w fun e w' => e = .returned (.slice (some ⟨w.heap.size, 0, none⟩) 5 5) ∧ w' = w.alloc (.cells #[chkFn 0, chkFn 1, chkFn 2, chkFn 3, chkFn 4] 74) := by
  go_enter Try.func58, Try.ntmps58
  go_wp2
  go_ret
  exact ⟨rfl, rfl⟩

/-- What Check answers. -/
def lineOk (nb : Int) (l : Ln) : Bool := chk nb l 0 && chk nb l 1 && chk nb l 2 && chk nb l 3 && chk nb l 4
def checkE (nb : Int) (ls : List Ln) : Int :=
  if nb < 1 ∨ 6 < nb then 1 else if 10 < ls.length then 5 else if ls.all (lineOk nb) then 0 else 1
end Go.Proofs.Ytmojjfdamdgegaa
