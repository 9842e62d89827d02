/- The text RefB. -/
import Derived.Test.YtmojjfdamdgegaaMg12
/- Contracts of the reference functions Outs, Has, In of layer 14. -/
namespace Go.Proofs.Ytmojjfdamdgegaa
open Go.RowKit
set_option linter.unusedVariables false

set_option maxRecDepth 100000 in
set_option maxHeartbeats 4000000 in
theorem refouts_main (nb : Int) (A A' : Option Addr) (c c' : Nat) (ls : List Ln) (out : List Int) (w : World) (hl : LinesR w w.heap.size A ls) (ho : IntsR w w.heap.size A' out)
    (he : checkE nb ls = 0) (hm : ls.length ≤ 1000000) (hn : out.length ≤ 1000000) :
    Calls Try.prog 34 #[.agg #[.int .i64 nb, .slice A ls.length c], .slice A' out.length c'] w fun e w' => e = .returned (.int .i64 (outsV ls.length out)) ∧ Below w.heap.size w w' := by
  have hcall := fun W hl => refcheck_any nb A c ls W hl
  rw [he] at hcall
  have HCALL := Lib.hid hcall
  have HL := Lib.hid hl
  have HO := Lib.hid ho
  clear hl ho hcall he
  go_enter Try.func34, Try.ntmps34
  go_wp2_with (go_at_call 50; refine (HCALL.out _ (by exact (HL.out.alloc (Nat.le_refl _) _).more (by simp))).mono ?_; rintro e w1 ⟨rfl, hb1⟩)
  have hb0 : Below w.heap.size w w1 := ((Below.refl _ _).alloc (Nat.le_refl _) _).trans (hb1.mono (by simp))
  have c1 : w1.cell? ⟨w.heap.size, 1, none⟩ = some (.slice A ls.length c) := (hb1.cell (by simp)).trans (by simp)
  have HB0 := Lib.hid hb0
  clear hb1 hb0
  go_loopg [4, 6] out.length (fun g e i w' => ∃ k q : Nat, k + g = out.length ∧ i = .int .i64 k ∧ (∀ i, i < k → outOk ls.length out i) ∧ w' = w1.drewN q)
  case atStart => exact ⟨0, 0, by omega, rfl, fun i hi => absurd hi (by omega), rfl⟩
  case round =>
    obtain ⟨k, q, hkg, rfl, hall, rfl⟩ := hrel
    have HA := Lib.hid hall
    clear hall
    cases gk with
    | zero =>
      obtain rfl : k = out.length := by omega
      clear hkg
      go_wp2_with fail
      go_ret
      refine ⟨ret_int ?_, below_drewN HB0.out _⟩
      rw [outsV, if_pos]
      exact decide_eq_true HA.out
    | succ g =>
      have hk : k < out.length := by omega
      have HG := Lib.hid hkg
      clear hkg
      obtain ⟨b, off, rfl, hbl, hc⟩ := HO.out (by omega)
      have f0 := (HB0.out.cell (p := ⟨b, off + k, none⟩) hbl).trans (hc k hk)
      have f1 : 0 < k → w1.cell? ⟨b, off + (k - 1), none⟩ = _ := fun _ => (HB0.out.cell (p := ⟨b, off + (k - 1), none⟩) hbl).trans (hc (k - 1) (by omega))
      have F1 := Lib.hid f1
      clear hc f1
      obtain ⟨x, hgx⟩ : ∃ x, out.getD k 0 = x := ⟨_, rfl⟩
      obtain ⟨y, hgy⟩ : ∃ y, out.getD (k - 1) 0 = y := ⟨_, rfl⟩
      rw [hgx] at f0
      have HX := Lib.hid hgx
      have HY := Lib.hid hgy
      clear hgx hgy
      by_cases h0 : x < 0
      · have h0' : decide (x < 0) = true := decide_eq_true h0
        go_wp2_with fail
        go_quiet (fail)
        go_wp2_with fail
        go_ret
        exact ⟨ret_int (by rw [outsV, if_neg]; rw [outsB_not hk (by unfold outOk; rw [HX.out]; omega)]; simp), below_drewN (below_drewN HB0.out _) _⟩
      have h0' : decide (x < 0) = false := decide_eq_false h0
      by_cases h1 : (ls.length : Int) ≤ x
      · have h1' : decide ((ls.length : Int) ≤ x) = true := decide_eq_true h1
        go_wp2_with fail
        go_quiet (fail)
        go_wp2_with fail
        go_ret
        exact ⟨ret_int (by rw [outsV, if_neg]; rw [outsB_not hk (by unfold outOk; rw [HX.out]; omega)]; simp), below_drewN (below_drewN HB0.out _) _⟩
      have h1' : decide ((ls.length : Int) ≤ x) = false := decide_eq_false h1
      by_cases h2 : k = 0
      · have H2 := Lib.hid h2
        have h2' : decide (0 < k) = false := by simp [h2]
        have h3' : decide ((0 : Int) < (k : Int)) = false := by simp [h2]
        clear h2
        go_wp2_with fail
        go_quiet (fail)
        go_wp2_with fail
        go_roundg g
        case measure => omega
        case rel =>
          refine ⟨k + 1, _, by have := HG.out; omega, by go_num, fun i hi => ?_, rfl⟩
          have := H2.out
          obtain rfl : i = k := by omega
          unfold outOk
          rw [HX.out]
          omega
      have h2' : 0 < k := by omega
      have h2'' : decide (0 < k) = true := by simp; omega
      have h3'' : decide ((0 : Int) < (k : Int)) = true := by simp; omega
      have g1 := F1.out h2'
      rw [HY.out] at g1
      by_cases h3 : x ≤ y
      · have h3' : decide (x ≤ y) = true := decide_eq_true h3
        have w1' : IntKind.i64.wrap ((k : Int) - 1) = (k : Int) - 1 := IntWalk.i64_in _ (by omega)
        have w2' : (0 : Int) ≤ (k : Int) - 1 := by omega
        have w3' : ((k : Int) - 1).toNat = k - 1 := by omega
        go_wp2_with fail
        go_quiet (fail)
        go_wp2_with fail
        go_ret
        exact ⟨ret_int (by rw [outsV, if_neg]; rw [outsB_not hk (by unfold outOk; rw [HX.out, HY.out]; omega)]; simp), below_drewN (below_drewN HB0.out _) _⟩
      · have h3' : decide (x ≤ y) = false := decide_eq_false h3
        have w1' : IntKind.i64.wrap ((k : Int) - 1) = (k : Int) - 1 := IntWalk.i64_in _ (by omega)
        have w2' : (0 : Int) ≤ (k : Int) - 1 := by omega
        have w3' : ((k : Int) - 1).toNat = k - 1 := by omega
        go_wp2_with fail
        go_quiet (fail)
        clear w1' w3'
        go_wp2_with fail
        go_roundg g
        case measure => omega
        case rel =>
          refine ⟨k + 1, _, by have := HG.out; omega, by go_num, fun i hi => ?_, rfl⟩
          rcases Nat.lt_or_ge i k with h | h
          · exact HA.out i h
          · obtain rfl : i = k := by omega
            unfold outOk
            rw [HX.out, HY.out]
            omega
end Go.Proofs.Ytmojjfdamdgegaa
