/- The text RefA. -/
import Derived.Test.YtmojjfdamdgegaaMg11
/- Contracts of the reference functions of layer 14. -/
namespace Go.Proofs.Ytmojjfdamdgegaa
open Go.RowKit
set_option linter.unusedVariables false

theorem lineOk_iff (nb lf lt lx lc : Int) : lineOk nb (lf, lt, lx, lc) = true ↔ 0 ≤ lf ∧ lf < nb ∧ 0 ≤ lt ∧ lt < nb ∧ lf ≠ lt ∧ 1 ≤ lx ∧ lx ≤ 1000 ∧ 0 ≤ lc ∧ lc ≤ 1000000 := by
  simp only [lineOk, chk, Bool.and_eq_true, decide_eq_true_eq, bne_iff_ne]
  constructor
  · intro h; omega
  · intro h; omega

def allV (nb : Int) (ls : List Ln) : Int := if ls.all (lineOk nb) then 0 else 1

set_option maxRecDepth 100000 in
set_option maxHeartbeats 8000000 in
theorem refcheck_main (nb : Int) (A : Option Addr) (c : Nat) (ls : List Ln) (w : World) (hl : LinesR w w.heap.size A ls) (h0 : 1 ≤ nb) (h1 : nb ≤ 6) (h2 : ls.length ≤ 10) :
    Calls Try.prog 50 #[.agg #[.int .i64 nb, .slice A ls.length c]] w fun e w' => e = .returned (.int .i64 (allV nb ls)) ∧ Below w.heap.size w w' := by
  have HL := Lib.hid hl
  clear hl
  have b1 : decide (6 < nb) = false := by simp; omega
  have b2 : decide ((10 : Int) < ls.length) = false := by simp; omega
  go_enter Try.func50, Try.ntmps50
  go_wp2_with fail
  go_loopg [2, 3] ls.length (fun g e i w' => ∃ k : Nat, k + g = ls.length ∧ i = .int .i64 k ∧ (ls.take k).all (lineOk nb) = true ∧
    w'.cell? ⟨w.heap.size, 0, none⟩ = some (.int .i64 nb) ∧ w'.cell? ⟨w.heap.size, 1, none⟩ = some (.slice A ls.length c) ∧ w.heap.size + 1 ≤ w'.heap.size ∧ Below w.heap.size w w')
  case atStart => exact ⟨0, by omega, rfl, by simp, by simp, by simp, by simp, (Below.refl _ _).alloc (Nat.le_refl _) _⟩
  case round =>
    obtain ⟨k, hkg, rfl, hall, c0, c1, hz, hb⟩ := hrel
    have HA := Lib.hid hall
    have HB := Lib.hid hb
    clear hall hb
    cases gk with
    | zero =>
      obtain rfl : k = ls.length := by omega
      clear hkg
      have hA := HA.out
      rw [List.take_length] at hA
      have HA' := Lib.hid hA
      clear hA
      go_wp2_with fail
      go_ret
      exact ⟨ret_int (by rw [allV, if_pos HA'.out]), HB.out⟩
    | succ g =>
      have hk : k < ls.length := by omega
      have HG := Lib.hid hkg
      clear hkg
      obtain ⟨b, off, rfl, hbl, hc⟩ := HL.out (by omega)
      obtain ⟨e0, e1, e2, e3⟩ := hc k (by omega)
      have f0 := (HB.out.cell (p := ⟨b, off + k * 4, none⟩) hbl).trans e0
      have f1 := (HB.out.cell (p := ⟨b, off + k * 4 + 1, none⟩) hbl).trans e1
      have f2 := (HB.out.cell (p := ⟨b, off + k * 4 + 2, none⟩) hbl).trans e2
      have f3 := (HB.out.cell (p := ⟨b, off + k * 4 + 3, none⟩) hbl).trans e3
      clear e0 e1 e2 e3 hc
      obtain ⟨l, hgl⟩ : ∃ l, ls.getD k (0, 0, 0, 0) = l := ⟨_, rfl⟩
      rw [hgl] at f0 f1 f2 f3
      obtain ⟨lf, lt, lx, lc⟩ := l
      have HGL := Lib.hid hgl
      clear hgl
      have hz' : w.heap.size < wr.heap.size := by omega
      by_cases q0 : lf < 0
      · have p0 : decide (lf < 0) = true := decide_eq_true q0
        go_wp2_with fail
        go_ret
        refine ⟨ret_int ?_, HB.out.alloc (by omega) _⟩
        rw [allV, if_neg]
        rw [all_not (lineOk nb) (0, 0, 0, 0) ls k hk (by rw [HGL.out, Bool.eq_false_iff]; intro hh; have := (lineOk_iff _ _ _ _ _).1 hh; omega)]
        simp
      have p0 : decide (lf < 0) = false := decide_eq_false q0
      by_cases q1 : nb ≤ lf
      · have p1 : decide (nb ≤ lf) = true := decide_eq_true q1
        go_wp2_with fail
        go_ret
        refine ⟨ret_int ?_, HB.out.alloc (by omega) _⟩
        rw [allV, if_neg]
        rw [all_not (lineOk nb) (0, 0, 0, 0) ls k hk (by rw [HGL.out, Bool.eq_false_iff]; intro hh; have := (lineOk_iff _ _ _ _ _).1 hh; omega)]
        simp
      have p1 : decide (nb ≤ lf) = false := decide_eq_false q1
      by_cases q2 : lt < 0
      · have p2 : decide (lt < 0) = true := decide_eq_true q2
        go_wp2_with fail
        go_ret
        refine ⟨ret_int ?_, HB.out.alloc (by omega) _⟩
        rw [allV, if_neg]
        rw [all_not (lineOk nb) (0, 0, 0, 0) ls k hk (by rw [HGL.out, Bool.eq_false_iff]; intro hh; have := (lineOk_iff _ _ _ _ _).1 hh; omega)]
        simp
      have p2 : decide (lt < 0) = false := decide_eq_false q2
      by_cases q3 : nb ≤ lt
      · have p3 : decide (nb ≤ lt) = true := decide_eq_true q3
        go_wp2_with fail
        go_ret
        refine ⟨ret_int ?_, HB.out.alloc (by omega) _⟩
        rw [allV, if_neg]
        rw [all_not (lineOk nb) (0, 0, 0, 0) ls k hk (by rw [HGL.out, Bool.eq_false_iff]; intro hh; have := (lineOk_iff _ _ _ _ _).1 hh; omega)]
        simp
      have p3 : decide (nb ≤ lt) = false := decide_eq_false q3
      by_cases q4 : lf = lt
      · have p4 : (lf == lt) = true := by rw [beq_iff_eq]; exact q4
        have Q4 := Lib.hid q4
        clear q4
        go_wp2_with fail
        go_ret
        refine ⟨ret_int ?_, HB.out.alloc (by omega) _⟩
        rw [allV, if_neg]
        rw [all_not (lineOk nb) (0, 0, 0, 0) ls k hk (by rw [HGL.out, Bool.eq_false_iff]; intro hh; have := Q4.out; have := (lineOk_iff _ _ _ _ _).1 hh; omega)]
        simp
      have p4 : (lf == lt) = false := by rw [beq_eq_false_iff_ne]; exact q4
      have Q4 := Lib.hid q4
      clear q4
      by_cases q5 : lx < 1
      · have p5 : decide (lx < 1) = true := decide_eq_true q5
        go_wp2_with fail
        go_ret
        refine ⟨ret_int ?_, HB.out.alloc (by omega) _⟩
        rw [allV, if_neg]
        rw [all_not (lineOk nb) (0, 0, 0, 0) ls k hk (by rw [HGL.out, Bool.eq_false_iff]; intro hh; have := (lineOk_iff _ _ _ _ _).1 hh; omega)]
        simp
      have p5 : decide (lx < 1) = false := decide_eq_false q5
      by_cases q6 : 1000 < lx
      · have p6 : decide (1000 < lx) = true := decide_eq_true q6
        go_wp2_with fail
        go_ret
        refine ⟨ret_int ?_, HB.out.alloc (by omega) _⟩
        rw [allV, if_neg]
        rw [all_not (lineOk nb) (0, 0, 0, 0) ls k hk (by rw [HGL.out, Bool.eq_false_iff]; intro hh; have := (lineOk_iff _ _ _ _ _).1 hh; omega)]
        simp
      have p6 : decide (1000 < lx) = false := decide_eq_false q6
      by_cases q7 : lc < 0
      · have p7 : decide (lc < 0) = true := decide_eq_true q7
        go_wp2_with fail
        go_ret
        refine ⟨ret_int ?_, HB.out.alloc (by omega) _⟩
        rw [allV, if_neg]
        rw [all_not (lineOk nb) (0, 0, 0, 0) ls k hk (by rw [HGL.out, Bool.eq_false_iff]; intro hh; have := (lineOk_iff _ _ _ _ _).1 hh; omega)]
        simp
      have p7 : decide (lc < 0) = false := decide_eq_false q7
      by_cases q8 : 1000000 < lc
      · have p8 : decide (1000000 < lc) = true := decide_eq_true q8
        go_wp2_with fail
        go_ret
        refine ⟨ret_int ?_, HB.out.alloc (by omega) _⟩
        rw [allV, if_neg]
        rw [all_not (lineOk nb) (0, 0, 0, 0) ls k hk (by rw [HGL.out, Bool.eq_false_iff]; intro hh; have := (lineOk_iff _ _ _ _ _).1 hh; omega)]
        simp
      have p8 : decide (1000000 < lc) = false := decide_eq_false q8
      go_wp2_with fail
      go_roundg g
      case measure => omega
      case rel =>
        refine ⟨k + 1, by have := HG.out; omega, by go_num, all_take_succ _ _ _ _ hk HA.out (by rw [HGL.out]; exact (lineOk_iff _ _ _ _ _).2 (by have := Q4.out; omega)), ?_, ?_, by simp; omega, HB.out.alloc (by omega) _⟩
        · exact cell_alloc_of _ c0
        · exact cell_alloc_of _ c1

set_option maxHeartbeats 1000000 in
theorem refcheck_any (nb : Int) (A : Option Addr) (c : Nat) (ls : List Ln) (w : World) (hl : LinesR w w.heap.size A ls) :
    Calls Try.prog 50 #[.agg #[.int .i64 nb, .slice A ls.length c]] w fun e w' => e = .returned (.int .i64 (checkE nb ls)) ∧ Below w.heap.size w w' := by
  have HL := Lib.hid hl
  clear hl
  by_cases h0 : nb < 1
  · have : checkE nb ls = 1 := by simp [checkE, h0]
    rw [this]
    clear this
    go_enter Try.func50, Try.ntmps50
    go_wp2_with fail
    go_ret
    exact ⟨rfl, (Below.refl _ _).alloc (Nat.le_refl _) _⟩
  by_cases h1 : 6 < nb
  · have : checkE nb ls = 1 := by simp [checkE, h1]
    rw [this]
    clear this
    go_enter Try.func50, Try.ntmps50
    go_wp2_with fail
    go_ret
    exact ⟨rfl, (Below.refl _ _).alloc (Nat.le_refl _) _⟩
  by_cases h2 : 10 < ls.length
  · have : checkE nb ls = 5 := by rw [checkE, if_neg (by omega), if_pos h2]
    rw [this]
    clear this
    go_enter Try.func50, Try.ntmps50
    go_wp2_with fail
    go_ret
    exact ⟨rfl, (Below.refl _ _).alloc (Nat.le_refl _) _⟩
  have hE : checkE nb ls = allV nb ls := by rw [checkE, if_neg (by omega), if_neg h2, allV]
  rw [hE]
  exact refcheck_main nb A c ls w HL.out (by omega) (by omega) (by omega)
end Go.Proofs.Ytmojjfdamdgegaa
