/- pylonref14.Both. -/
import Derived.Test.YtcacaiakkfgdpaaLawA
import Derived.Test.YtcacaiakkfgdpaaRefC
import Derived.Deep.DeepCutAuto
namespace Go.Proofs.Ytcacaiakkfgdpaa
open Go.RowKit
set_option linter.unusedVariables false

def bothL : List Int → List Int → List Int
  | a, [] => a
  | [], y :: b => y :: bothL [] b
  | x :: a, y :: b => if x < y then x :: bothL a (y :: b) else if y < x then y :: bothL (x :: a) b else x :: bothL a b
termination_by a b => a.length + b.length

theorem ints_tail {w : World} {B b off : Nat} {x : Int} {l : List Int} (hb : b < B) (hc : ∀ i, i < (x :: l).length → w.cell? ⟨b, off + i, none⟩ = some (.int .i64 ((x :: l).getD i 0))) : IntsR w B (some ⟨b, off + 1, none⟩) l := fun _ => by
  refine ⟨b, off + 1, rfl, hb, fun i hi => ?_⟩
  have := hc (i + 1) (by simp; omega)
  rw [Nat.add_assoc, Nat.add_comm 1 i, this]
  rfl

set_option maxRecDepth 100000 in
set_option maxHeartbeats 4000000 in
theorem both_any (A A' : Option Addr) (c c' : Nat) (a b : List Int) (w : World) (ha : IntsR w w.heap.size A a) (hb : IntsR w w.heap.size A' b) (hc : a.length ≤ c) (hc' : b.length ≤ c') (h1 : a.length ≤ 1000000) (h2 : b.length ≤ 1000000) :
    Calls Try.prog 30 #[.slice A a.length c, .slice A' b.length c'] w (RowE w (bothL a b)) := by
  obtain ⟨i0, hi0, hz0, hz1, hz2⟩ := info_parts info_int
  have HA := Lib.hid ha
  have HB := Lib.hid hb
  clear ha hb
  go_enter Try.func30, Try.ntmps30
  go_wp2_with fail
  go_loopg [0, 1, 5, 22, 48] (a.length + b.length) (fun g s0 s1 s5 s22 s48 wr => ∃ (a' b' pre : List Int) (A1 A2 : Option Addr) (c1 c2 : Nat), s0 = .slice A1 a'.length c1 ∧ s1 = .slice A2 b'.length c2 ∧ a'.length ≤ c1 ∧ b'.length ≤ c2 ∧ a'.length + b'.length ≤ g ∧ pre.length + g ≤ 2000000 ∧
    pre ++ bothL a' b' = bothL a b ∧ IntsR w w.heap.size A1 a' ∧ IntsR w w.heap.size A2 b' ∧ wr.ownsRow w.heap.size 3 1 s5 pre.length (pre.map (Value.int .i64)) ∧ Below w.heap.size w wr)
  case atStart => exact ⟨a, b, [], A, A', c, c', rfl, rfl, hc, hc', Nat.le_refl _, by simp; omega, rfl, HA.out, HB.out, World.ownsRow_nil _ _ _ _, Below.refl _ _⟩
  case round =>
    clear HA HB
    obtain ⟨a', b', pre, A1, A2, c1, c2, rfl, rfl, hl1, hl2, hg, hpg, hpre, hI1, hI2, hrow, hbel⟩ := hrel
    have HPRE := Lib.hid hpre
    have HI1 := Lib.hid hI1
    have HI2 := Lib.hid hI2
    have HBW := Lib.hid hbel
    clear hpre hI1 hI2 hbel
    rcases b' with _ | ⟨y, b'⟩
    · rcases a' with _ | ⟨x, a'⟩
      · simp only [List.length_nil] at hg hl1 hl2 ⊢
        go_wp2_with fail
        go_ret
        exact ⟨_, rfl, by rw [← HPRE.out]; simpa [bothL] using hrow, HBW.out⟩
      · obtain ⟨g, rfl⟩ : ∃ g, gk = g + 1 := ⟨gk - 1, by simp at hg; omega⟩
        obtain ⟨ba, offa, rfl, hba, hca⟩ := HI1.out (by simp)
        have ex := (HBW.out.cell (p := ⟨ba, offa + 0, none⟩) hba).trans (hca 0 (by simp))
        have HTA := Lib.hid (ints_tail hba hca)
        simp only [List.length_cons, List.length_nil, Nat.add_zero, List.getD_cons_zero] at hg hl1 hl2 ex ⊢
        have s1 : decide ((0 : Int) < (a'.length : Int) + 1) = true := decide_eq_true (by omega)
        go_wp2_with fail
        go_quiet (fail)
        have hrow1 : (wr.drewN nq).ownsRow w.heap.size 3 1 u5 pre.length (pre.map (Value.int .i64)) := hrow
        have hbd : Below w.heap.size w (wr.drewN nq) := below_drewN HBW.out nq
        replace ex : (wr.drewN nq).cell? ⟨ba, offa, none⟩ = some (.int .i64 x) := ex
        clear hrow HBW
        generalize wr.drewN nq = wd at *
        have hsz := hbd.size
        have HBD := Lib.hid hbd
        clear hbd
        go_wp2_with (at_builtin; refine wpList_append_own _ rfl _ _ 25 rfl w.heap.size 3 i0 (.int .i64 0) 1 8 Try.underlying25 hi0 hz0 hz1 hz2 rfl (by decide) _ _ _ rfl (hrow1.alloc _) ⟨wd.heap.size, 0, none⟩ 1 1 [.int .i64 x] rfl rfl (cell_one_new _ _ _) (by simp [Value.oneCell']) (by unfold maxLen; omega) (by omega) (by simp; omega) ?_; intro v' w2 hown' hgrow _)
        all_goals (
          have hb2 := below_append hrow1 hsz hgrow
          have HOWN := Lib.hid hown'
          clear hgrow hrow1 hown'
          try go_wp2_with fail
          go_roundg g
          case measure => omega
          case rel =>
            refine ⟨a', [], pre ++ [x], _, _, _, _, rfl, rfl, ?_, ?_, ?_, ?_, ?_, (by first | exact HTA.out | exact fun h => absurd h (by omega)), HI2.out, by simpa using HOWN.out, HBD.out.trans hb2⟩
            all_goals first | (rw [← HPRE.out, List.append_assoc]; simp [bothL]) | (simp; omega) | omega)
    · obtain ⟨g, rfl⟩ : ∃ g, gk = g + 1 := ⟨gk - 1, by simp at hg; omega⟩
      rcases a' with _ | ⟨x, a'⟩
      · obtain ⟨bb, offb, rfl, hbb, hcb⟩ := HI2.out (by simp)
        have ey := (HBW.out.cell (p := ⟨bb, offb + 0, none⟩) hbb).trans (hcb 0 (by simp))
        have HTB := Lib.hid (ints_tail hbb hcb)
        simp only [List.length_cons, List.length_nil, Nat.add_zero, List.getD_cons_zero] at hg hl1 hl2 ey ⊢
        have s1 : decide ((0 : Int) < (b'.length : Int) + 1) = true := decide_eq_true (by omega)
        have s2 : (((b'.length : Int) + 1) == 0) = false := by rw [beq_eq_false_iff_ne]; omega
        go_wp2_with fail
        go_quiet (fail)
        have hrow1 : (wr.drewN nq).ownsRow w.heap.size 3 1 u5 pre.length (pre.map (Value.int .i64)) := hrow
        have hbd : Below w.heap.size w (wr.drewN nq) := below_drewN HBW.out nq
        replace ey : (wr.drewN nq).cell? ⟨bb, offb, none⟩ = some (.int .i64 y) := ey
        clear hrow HBW
        generalize wr.drewN nq = wd at *
        have HBW := Lib.hid hbd
        have hrow := hrow1
        clear hbd hrow1
        go_wp2_with fail
        clear nq
        go_quiet (fail)
        have hrow1 : (wd.drewN nq).ownsRow w.heap.size 3 1 u5 pre.length (pre.map (Value.int .i64)) := hrow
        have hbd : Below w.heap.size w (wd.drewN nq) := below_drewN HBW.out nq
        replace ey : (wd.drewN nq).cell? ⟨bb, offb, none⟩ = some (.int .i64 y) := ey
        clear hrow HBW
        generalize wd.drewN nq = we at *
        have hsz := hbd.size
        have HBD := Lib.hid hbd
        clear hbd
        go_wp2_with (at_builtin; refine wpList_append_own _ rfl _ _ 25 rfl w.heap.size 3 i0 (.int .i64 0) 1 8 Try.underlying25 hi0 hz0 hz1 hz2 rfl (by decide) _ _ _ rfl (hrow1.alloc _) ⟨we.heap.size, 0, none⟩ 1 1 [.int .i64 y] rfl rfl (cell_one_new _ _ _) (by simp [Value.oneCell']) (by unfold maxLen; omega) (by omega) (by simp; omega) ?_; intro v' w2 hown' hgrow _)
        all_goals (
          have hb2 := below_append hrow1 hsz hgrow
          have HOWN := Lib.hid hown'
          clear hgrow hrow1 hown'
          try go_wp2_with fail
          go_roundg g
          case measure => omega
          case rel =>
            refine ⟨[], b', pre ++ [y], _, _, _, _, rfl, rfl, ?_, ?_, ?_, ?_, ?_, HI1.out, (by first | exact HTB.out | exact fun h => absurd h (by omega)), by simpa using HOWN.out, HBD.out.trans hb2⟩
            all_goals first | (rw [← HPRE.out, List.append_assoc]; simp [bothL]) | (simp; omega) | omega)
      · obtain ⟨bb, offb, rfl, hbb, hcb⟩ := HI2.out (by simp)
        have ey := (HBW.out.cell (p := ⟨bb, offb + 0, none⟩) hbb).trans (hcb 0 (by simp))
        have HTB := Lib.hid (ints_tail hbb hcb)
        obtain ⟨ba, offa, rfl, hba, hca⟩ := HI1.out (by simp)
        have ex := (HBW.out.cell (p := ⟨ba, offa + 0, none⟩) hba).trans (hca 0 (by simp))
        have HTA := Lib.hid (ints_tail hba hca)
        simp only [List.length_cons, Nat.add_zero, List.getD_cons_zero] at hg hl1 hl2 ex ey ⊢
        have s1 : decide ((0 : Int) < (a'.length : Int) + 1) = true := decide_eq_true (by omega)
        have s2 : (((b'.length : Int) + 1) == 0) = false := by rw [beq_eq_false_iff_ne]; omega
        have s3 : (((a'.length : Int) + 1) == 0) = false := by rw [beq_eq_false_iff_ne]; omega
        have s4 : decide ((0 : Int) < (a'.length : Int) + 1 + ((b'.length : Int) + 1)) = true := decide_eq_true (by omega)
        by_cases hxy : x < y
        · have d1 : decide (x < y) = true := decide_eq_true hxy
          have HXY := Lib.hid hxy
          clear hxy
          go_wp2_with fail
          go_quiet (fail)
          have hrow1 : (wr.drewN nq).ownsRow w.heap.size 3 1 u5 pre.length (pre.map (Value.int .i64)) := hrow
          have hbd : Below w.heap.size w (wr.drewN nq) := below_drewN HBW.out nq
          replace ex : (wr.drewN nq).cell? ⟨ba, offa, none⟩ = some (.int .i64 x) := ex
          replace ey : (wr.drewN nq).cell? ⟨bb, offb, none⟩ = some (.int .i64 y) := ey
          clear hrow HBW
          generalize wr.drewN nq = wd at *
          have hsz := hbd.size
          have HBD := Lib.hid hbd
          clear hbd
          go_wp2_with (at_builtin; refine wpList_append_own _ rfl _ _ 25 rfl w.heap.size 3 i0 (.int .i64 0) 1 8 Try.underlying25 hi0 hz0 hz1 hz2 rfl (by decide) _ _ _ rfl (hrow1.alloc _) ⟨wd.heap.size, 0, none⟩ 1 1 [.int .i64 x] rfl rfl (cell_one_new _ _ _) (by simp [Value.oneCell']) (by unfold maxLen; omega) (by omega) (by simp; omega) ?_; intro v' w2 hown' hgrow _)
          all_goals (
            have hb2 := below_append hrow1 hsz hgrow
            have HOWN := Lib.hid hown'
            clear hgrow hrow1 hown'
            try go_wp2_with fail
            go_roundg g
            case measure => omega
            case rel =>
              refine ⟨a', (y :: b'), pre ++ [x], _, _, _, _, rfl, rfl, ?_, ?_, ?_, ?_, ?_, (by first | exact HTA.out | exact fun h => absurd h (by omega)), HI2.out, by simpa using HOWN.out, HBD.out.trans hb2⟩
              all_goals first | (rw [← HPRE.out, List.append_assoc]; simp [bothL, HXY.out]) | (simp; omega) | omega)
        · have d1 : decide (x < y) = false := decide_eq_false hxy
          have HXY := Lib.hid hxy
          clear hxy
          by_cases hyx : y < x
          · have d2 : decide (y < x) = true := decide_eq_true hyx
            have HYX := Lib.hid hyx
            clear hyx
            go_wp2_with fail
            go_quiet (fail)
            have hrow1 : (wr.drewN nq).ownsRow w.heap.size 3 1 u5 pre.length (pre.map (Value.int .i64)) := hrow
            have hbd : Below w.heap.size w (wr.drewN nq) := below_drewN HBW.out nq
            replace ex : (wr.drewN nq).cell? ⟨ba, offa, none⟩ = some (.int .i64 x) := ex
            replace ey : (wr.drewN nq).cell? ⟨bb, offb, none⟩ = some (.int .i64 y) := ey
            clear hrow HBW
            generalize wr.drewN nq = wd at *
            have HBW := Lib.hid hbd
            have hrow := hrow1
            clear hbd hrow1
            go_wp2_with fail
            clear nq
            go_quiet (fail)
            have hrow1 : (wd.drewN nq).ownsRow w.heap.size 3 1 u5 pre.length (pre.map (Value.int .i64)) := hrow
            have hbd : Below w.heap.size w (wd.drewN nq) := below_drewN HBW.out nq
            replace ex : (wd.drewN nq).cell? ⟨ba, offa, none⟩ = some (.int .i64 x) := ex
            replace ey : (wd.drewN nq).cell? ⟨bb, offb, none⟩ = some (.int .i64 y) := ey
            clear hrow HBW
            generalize wd.drewN nq = we at *
            have hsz := hbd.size
            have HBD := Lib.hid hbd
            clear hbd
            go_wp2_with (at_builtin; refine wpList_append_own _ rfl _ _ 25 rfl w.heap.size 3 i0 (.int .i64 0) 1 8 Try.underlying25 hi0 hz0 hz1 hz2 rfl (by decide) _ _ _ rfl (hrow1.alloc _) ⟨we.heap.size, 0, none⟩ 1 1 [.int .i64 y] rfl rfl (cell_one_new _ _ _) (by simp [Value.oneCell']) (by unfold maxLen; omega) (by omega) (by simp; omega) ?_; intro v' w2 hown' hgrow _)
            all_goals (
              have hb2 := below_append hrow1 hsz hgrow
              have HOWN := Lib.hid hown'
              clear hgrow hrow1 hown'
              try go_wp2_with fail
              go_roundg g
              case measure => omega
              case rel =>
                refine ⟨(x :: a'), b', pre ++ [y], _, _, _, _, rfl, rfl, ?_, ?_, ?_, ?_, ?_, HI1.out, (by first | exact HTB.out | exact fun h => absurd h (by omega)), by simpa using HOWN.out, HBD.out.trans hb2⟩
                all_goals first | (rw [← HPRE.out, List.append_assoc]; have q1 : ¬ x < y := (by have := HXY.out; omega); have q2 : y < x := (by have := HYX.out; omega); simp [bothL, q1, q2]) | (simp; omega) | omega)
          · have d2 : decide (y < x) = false := decide_eq_false hyx
            have HYX := Lib.hid hyx
            clear hyx
            go_wp2_with fail
            go_quiet (fail)
            have hrow1 : (wr.drewN nq).ownsRow w.heap.size 3 1 u5 pre.length (pre.map (Value.int .i64)) := hrow
            have hbd : Below w.heap.size w (wr.drewN nq) := below_drewN HBW.out nq
            replace ex : (wr.drewN nq).cell? ⟨ba, offa, none⟩ = some (.int .i64 x) := ex
            replace ey : (wr.drewN nq).cell? ⟨bb, offb, none⟩ = some (.int .i64 y) := ey
            clear hrow HBW
            generalize wr.drewN nq = wd at *
            have HBW := Lib.hid hbd
            have hrow := hrow1
            clear hbd hrow1
            go_wp2_with fail
            clear nq
            go_quiet (fail)
            have hrow1 : (wd.drewN nq).ownsRow w.heap.size 3 1 u5 pre.length (pre.map (Value.int .i64)) := hrow
            have hbd : Below w.heap.size w (wd.drewN nq) := below_drewN HBW.out nq
            replace ex : (wd.drewN nq).cell? ⟨ba, offa, none⟩ = some (.int .i64 x) := ex
            replace ey : (wd.drewN nq).cell? ⟨bb, offb, none⟩ = some (.int .i64 y) := ey
            clear hrow HBW
            generalize wd.drewN nq = we at *
            have hsz := hbd.size
            have HBD := Lib.hid hbd
            clear hbd
            go_wp2_with (at_builtin; refine wpList_append_own _ rfl _ _ 25 rfl w.heap.size 3 i0 (.int .i64 0) 1 8 Try.underlying25 hi0 hz0 hz1 hz2 rfl (by decide) _ _ _ rfl (hrow1.alloc _) ⟨we.heap.size, 0, none⟩ 1 1 [.int .i64 x] rfl rfl (cell_one_new _ _ _) (by simp [Value.oneCell']) (by unfold maxLen; omega) (by omega) (by simp; omega) ?_; intro v' w2 hown' hgrow _)
            all_goals (
              have hb2 := below_append hrow1 hsz hgrow
              have HOWN := Lib.hid hown'
              clear hgrow hrow1 hown'
              try go_wp2_with fail
              go_roundg g
              case measure => omega
              case rel =>
                refine ⟨a', b', pre ++ [x], _, _, _, _, rfl, rfl, ?_, ?_, ?_, ?_, ?_, (by first | exact HTA.out | exact fun h => absurd h (by omega)), (by first | exact HTB.out | exact fun h => absurd h (by omega)), by simpa using HOWN.out, HBD.out.trans hb2⟩
                all_goals first | (rw [← HPRE.out, List.append_assoc]; have q1 : ¬ x < y := (by have := HXY.out; omega); have q2 : ¬ y < x := (by have := HYX.out; omega); simp [bothL, q1, q2]) | (simp; omega) | omega)
end Go.Proofs.Ytcacaiakkfgdpaa
