/- The text CkA. -/
import Derived.Deep.QuietTactic
import Derived.BigQuiet
import Derived.BigGuardPart
import Derived.LoopTactic
import Derived.Deep.LoopGhost
import Derived.WalkMore
import Derived.Outline
import Derived.Test.YtklanoppbbaolaaGreatProg
import Derived.Test.YtklanoppbbaolaaGreatMg1
/- The checks of a network's lines (as NetA, for seats without the net's laws). -/
namespace Go.Proofs.YtklanoppbbaolaaGreat
open Go.RowKit
set_option linter.unusedSimpArgs false
set_option linter.unusedVariables false
set_option maxRecDepth 100000


/-- The five conditions on a line. -/
def chk (nb : Int) (l : Ln) : Nat → Bool
  | 0 => decide (0 ≤ l.1) && decide (l.1 < nb)
  | 1 => decide (0 ≤ l.2.1) && decide (l.2.1 < nb)
  | 2 => l.1 != l.2.1
  | 3 => decide (1 ≤ l.2.2.1) && decide (l.2.2.1 ≤ 1000)
  | _ => decide (0 ≤ l.2.2.2) && decide (l.2.2.2 ≤ 1000000)

def busB (nb b : Int) : Bool := decide (0 ≤ b) && decide (b < nb)

set_option maxHeartbeats 400000 in
theorem isBus_any (nb b : Int) (L : Value) (w : World) :
    Calls Tryz.prog 154 #[.agg #[.int .i64 nb, L], .int .i64 b] w fun e w' => e = .returned (.bool (busB nb b)) ∧ Below w.heap.size w w' := by
  unfold busB
  by_cases h0 : 0 ≤ b
  · go_enter Tryz.func154, Tryz.ntmps154
    go_wp2
    go_ret
    exact ⟨ret_bool (by simp [h0]), (Below.refl _ _).alloc (Nat.le_refl _) _⟩
  · go_enter Tryz.func154, Tryz.ntmps154
    go_wp2
    go_ret
    exact ⟨ret_bool (by simp; omega), (Below.refl _ _).alloc (Nat.le_refl _) _⟩

theorem below_alloc2 (w : World) (o p : Obj) : Below w.heap.size w ((w.alloc o).alloc p) := ((Below.refl _ _).alloc (Nat.le_refl _) o).alloc (by simp) p

set_option maxHeartbeats 400000 in
theorem chk0_any (nb f t x c : Int) (L : Value) (w : World) :
    Calls Tryz.prog 153 #[.agg #[.int .i64 nb, L], .agg #[.int .i64 f, .int .i64 t, .int .i64 x, .int .i64 c]] w fun e w' => e = .returned (.bool (chk nb (f, t, x, c) 0)) ∧ Below w.heap.size w w' := by
  go_enter Tryz.func153, Tryz.ntmps153
  go_wp2_with (go_at_call 154; refine (isBus_any _ _ _ _).mono ?_; rintro e w' ⟨rfl, hb⟩)
  go_ret
  exact ⟨rfl, (below_alloc2 w _ _).trans (hb.mono (by simp; omega))⟩

set_option maxHeartbeats 400000 in
theorem chk1_any (nb f t x c : Int) (L : Value) (w : World) :
    Calls Tryz.prog 155 #[.agg #[.int .i64 nb, L], .agg #[.int .i64 f, .int .i64 t, .int .i64 x, .int .i64 c]] w fun e w' => e = .returned (.bool (chk nb (f, t, x, c) 1)) ∧ Below w.heap.size w w' := by
  go_enter Tryz.func155, Tryz.ntmps155
  go_wp2_with (go_at_call 154; refine (isBus_any _ _ _ _).mono ?_; rintro e w' ⟨rfl, hb⟩)
  go_ret
  exact ⟨rfl, (below_alloc2 w _ _).trans (hb.mono (by simp; omega))⟩

set_option maxHeartbeats 400000 in
theorem chk2_any (nb f t x c : Int) (L : Value) (w : World) :
    Calls Tryz.prog 156 #[.agg #[.int .i64 nb, L], .agg #[.int .i64 f, .int .i64 t, .int .i64 x, .int .i64 c]] w fun e w' => e = .returned (.bool (chk nb (f, t, x, c) 2)) ∧ Below w.heap.size w w' := by
  go_enter Tryz.func156, Tryz.ntmps156
  go_wp2
  go_ret
  exact ⟨rfl, below_alloc2 w _ _⟩

set_option maxHeartbeats 400000 in
theorem chk3_any (nb f t x c : Int) (L : Value) (w : World) :
    Calls Tryz.prog 157 #[.agg #[.int .i64 nb, L], .agg #[.int .i64 f, .int .i64 t, .int .i64 x, .int .i64 c]] w fun e w' => e = .returned (.bool (chk nb (f, t, x, c) 3)) ∧ Below w.heap.size w w' := by
  unfold chk
  by_cases h0 : 1 ≤ x
  · go_enter Tryz.func157, Tryz.ntmps157
    go_wp2
    go_ret
    exact ⟨ret_bool (by simp [h0]), below_alloc2 w _ _⟩
  · go_enter Tryz.func157, Tryz.ntmps157
    go_wp2
    go_ret
    exact ⟨ret_bool (by simp; omega), below_alloc2 w _ _⟩

set_option maxHeartbeats 400000 in
theorem chk4_any (nb f t x c : Int) (L : Value) (w : World) :
    Calls Tryz.prog 158 #[.agg #[.int .i64 nb, L], .agg #[.int .i64 f, .int .i64 t, .int .i64 x, .int .i64 c]] w fun e w' => e = .returned (.bool (chk nb (f, t, x, c) 4)) ∧ Below w.heap.size w w' := by
  unfold chk
  by_cases h0 : 0 ≤ c
  · go_enter Tryz.func158, Tryz.ntmps158
    go_wp2
    go_ret
    exact ⟨ret_bool (by simp [h0]), below_alloc2 w _ _⟩
  · go_enter Tryz.func158, Tryz.ntmps158
    go_wp2
    go_ret
    exact ⟨ret_bool (by simp; omega), below_alloc2 w _ _⟩

/-- The cells that checks() makes: five functions. -/
def chkFn : Nat → Value
  | 0 => .func (.func 153) #[] #[]
  | 1 => .func (.func 155) #[] #[]
  | 2 => .func (.func 156) #[] #[]
  | 3 => .func (.func 157) #[] #[]
  | _ => .func (.func 158) #[] #[]

set_option maxHeartbeats 400000 in
theorem checks_any (w : World) :
    Calls Tryz.prog 82 #[] w fun e w' => e = .returned (.slice (some ⟨w.heap.size, 0, none⟩) 5 5) ∧ w' = w.alloc (.cells #[chkFn 0, chkFn 1, chkFn 2, chkFn 3, chkFn 4] 173) := by
  go_enter Tryz.func82, Tryz.ntmps82
  go_wp2
  go_ret
  exact ⟨rfl, rfl⟩

/-- What Check answers. -/
def lineOk (nb : Int) (l : Ln) : Bool := chk nb l 0 && chk nb l 1 && chk nb l 2 && chk nb l 3 && chk nb l 4
def checkE (nb : Int) (ls : List Ln) : Int :=
  if nb < 1 ∨ 6 < nb then 1 else if 10 < ls.length then 5 else if ls.all (lineOk nb) then 0 else 1
end Go.Proofs.YtklanoppbbaolaaGreat
