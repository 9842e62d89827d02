/- The text NetC. -/
import Derived.Test.YtmojjfdamdgegaaMg5
/- The contract of net.Outs. -/
namespace Go.Proofs.Ytmojjfdamdgegaa
open Go.RowKit
set_option linter.unusedVariables false

/-- Entry i of the list of lines out of service is in range and above its forerunner. -/
def outOk (m : Nat) (out : List Int) (i : Nat) : Prop := 0 ≤ out.getD i 0 ∧ out.getD i 0 < m ∧ (0 < i → out.getD (i - 1) 0 < out.getD i 0)
instance (m : Nat) (out : List Int) (i : Nat) : Decidable (outOk m out i) := by unfold outOk; infer_instance
def outsB (m : Nat) (out : List Int) : Bool := decide (∀ i, i < out.length → outOk m out i)
def outsV (m : Nat) (out : List Int) : Int := if outsB m out then 0 else 1
def outsE (nb : Int) (ls : List Ln) (out : List Int) : Int :=
  if checkE nb ls = 0 then outsV ls.length out else checkE nb ls

theorem outsB_not {m : Nat} {out : List Int} {i : Nat} (hi : i < out.length) (h : ¬ outOk m out i) : outsB m out = false := by
  unfold outsB; simp only [decide_eq_false_iff_not]; exact fun hh => h (hh i hi)

set_option maxHeartbeats 1000000 in
theorem outs_main (nb : Int) (A A' : Option Addr) (c c' : Nat) (ls : List Ln) (out : List Int) (w : World) (hl : LinesR w w.heap.size A ls) (ho : IntsR w w.heap.size A' out)
    (he : checkE nb ls = 0) (hm : ls.length ≤ 1000000) (hn : out.length ≤ 1000000) :
    Calls Try.prog 25 #[.agg #[.int .i64 nb, .slice A ls.length c], .slice A' out.length c'] w fun e w' => e = .returned (.int .i64 (outsV ls.length out)) ∧ Below w.heap.size w w' := by
  have hcall := fun W hl => check_any nb A c ls W hl
  rw [he] at hcall
  have HCALL := Lib.hid hcall
  have HL := Lib.hid hl
  have HO := Lib.hid ho
  clear hl ho hcall he
  go_enter Try.func25, Try.ntmps25
  go_wp2_with (go_at_call 43; refine (HCALL.out _ (by exact (HL.out.alloc (Nat.le_refl _) _).more (by simp))).mono ?_; rintro e w1 ⟨rfl, hb1⟩)
  have hb0 : Below w.heap.size w w1 := ((Below.refl _ _).alloc (Nat.le_refl _) _).trans (hb1.mono (by simp))
  have c1 : w1.cell? ⟨w.heap.size, 1, none⟩ = some (.slice A ls.length c) := (hb1.cell (by simp)).trans (by simp)
  have HB0 := Lib.hid hb0
  clear hb1 hb0
  go_loopg [4, 15] out.length (fun g e i w' => ∃ k : Nat, k + g = out.length ∧ i = .int .i64 k ∧ (∀ i, i < k → outOk ls.length out i) ∧ w1 = w')
  case atStart => exact ⟨0, by omega, rfl, fun i hi => absurd hi (by omega), rfl⟩
  case round =>
    obtain ⟨k, hkg, rfl, hall, rfl⟩ := hrel
    have HA := Lib.hid hall
    clear hall
    cases gk with
    | zero =>
      obtain rfl : k = out.length := by omega
      clear hkg
      go_wp2
      go_ret
      refine ⟨ret_int ?_, HB0.out⟩
      rw [outsV, if_pos]
      exact decide_eq_true HA.out
    | succ g =>
      have hk : k < out.length := by omega
      have HG := Lib.hid hkg
      clear hkg
      obtain ⟨b, off, rfl, hbl, hc⟩ := HO.out (by omega)
      have f0 := (HB0.out.cell (p := ⟨b, off + k, none⟩) hbl).trans (hc k hk)
      have f1 : 0 < k → w1.cell? ⟨b, off + (k - 1), none⟩ = _ := fun _ => (HB0.out.cell (p := ⟨b, off + (k - 1), none⟩) hbl).trans (hc (k - 1) (by omega))
      have F1 := Lib.hid f1
      clear hc f1
      have hgx : ∃ x, out.getD k 0 = x := ⟨_, rfl⟩
      obtain ⟨x, hgx⟩ := hgx
      have hgy : ∃ y, out.getD (k - 1) 0 = y := ⟨_, rfl⟩
      obtain ⟨y, hgy⟩ := hgy
      rw [hgx] at f0
      have HX := Lib.hid hgx
      have HY := Lib.hid hgy
      clear hgx hgy
      by_cases h0 : x < 0
      · go_wp2
        go_ret
        exact ⟨ret_int (by rw [outsV, if_neg]; rw [outsB_not hk (by unfold outOk; rw [HX.out]; omega)]; simp), HB0.out⟩
      by_cases h1 : (ls.length : Int) ≤ x
      · have h0' : decide (x < 0) = false := by simp; omega
        go_wp2
        go_ret
        exact ⟨ret_int (by rw [outsV, if_neg]; rw [outsB_not hk (by unfold outOk; rw [HX.out]; omega)]; simp), HB0.out⟩
      have h0' : decide (x < 0) = false := by simp; omega
      have h1' : decide ((ls.length : Int) ≤ x) = false := by simp; omega
      by_cases h2 : k = 0
      · have H2 := Lib.hid h2
        have h2' : decide (0 < k) = false := by simp [h2]
        clear h2
        go_wp2
        go_roundg g
        case measure => omega
        case rel =>
          refine ⟨k + 1, by have := HG.out; omega, by go_num, fun i hi => ?_, rfl⟩
          have := H2.out
          obtain rfl : i = k := by omega
          unfold outOk
          rw [HX.out]
          omega
      have h2' : 0 < k := by omega
      have h2'' : decide (0 < k) = true := by simp; omega
      have g1 := F1.out h2'
      rw [HY.out] at g1
      have e1 : ((k : Int) - 1).toNat = k - 1 := by omega
      by_cases h3 : x ≤ y
      · go_wp2
        go_ret
        exact ⟨ret_int (by rw [outsV, if_neg]; rw [outsB_not hk (by unfold outOk; rw [HX.out, HY.out]; omega)]; simp), HB0.out⟩
      · have h3' : decide (x ≤ y) = false := by simp; omega
        go_wp2
        go_roundg g
        case measure => omega
        case rel =>
          refine ⟨k + 1, by have := HG.out; omega, by go_num, fun i hi => ?_, rfl⟩
          rcases Nat.lt_or_ge i k with h | h
          · exact HA.out i h
          · obtain rfl : i = k := by omega
            unfold outOk
            rw [HX.out, HY.out]
            omega

set_option maxHeartbeats 1000000 in
theorem outs_any (nb : Int) (A A' : Option Addr) (c c' : Nat) (ls : List Ln) (out : List Int) (w : World) (hl : LinesR w w.heap.size A ls) (ho : IntsR w w.heap.size A' out)
    (hm : ls.length ≤ 1000000) (hn : out.length ≤ 1000000) :
    Calls Try.prog 25 #[.agg #[.int .i64 nb, .slice A ls.length c], .slice A' out.length c'] w fun e w' => e = .returned (.int .i64 (outsE nb ls out)) ∧ Below w.heap.size w w' := by
  by_cases he : checkE nb ls = 0
  · rw [outsE, if_pos he]
    exact outs_main nb A A' c c' ls out w hl ho he hm hn
  · rw [outsE, if_neg he]
    have hcall := fun W hl => check_any nb A c ls W hl
    have he' : (checkE nb ls != 0) = true := by rw [bne_iff_ne]; exact he
    generalize checkE nb ls = e at *
    have HCALL := Lib.hid hcall
    have HL := Lib.hid hl
    clear hl ho hcall he
    go_enter Try.func25, Try.ntmps25
    go_wp2_with (go_at_call 43; refine (HCALL.out _ (by exact (HL.out.alloc (Nat.le_refl _) _).more (by simp))).mono ?_; rintro e w1 ⟨rfl, hb1⟩)
    go_ret
    exact ⟨rfl, ((Below.refl _ _).alloc (Nat.le_refl _) _).trans (hb1.mono (by simp))⟩
end Go.Proofs.Ytmojjfdamdgegaa
