/- The text IslG. -/
import Derived.Test.YtmojjfdamdgegaaMg19
/- The contract of island.Connected. -/
namespace Go.Proofs.Ytmojjfdamdgegaa
open Go.RowKit
set_option linter.unusedVariables false

/-- What Connected answers. -/
def connE (nb : Int) (ls : List Ln) (out : List Int) (a b : Int) : Int := if outsE nb ls out = 0 then (if a < 0 ∨ nb ≤ a ∨ b < 0 ∨ nb ≤ b then 1 else 0) else outsE nb ls out
def connB (nb : Int) (ls : List Ln) (out : List Int) (a b : Int) : Bool := if outsE nb ls out = 0 ∧ ¬ (a < 0 ∨ nb ≤ a ∨ b < 0 ∨ nb ≤ b) then (ofL nb ls out).getD a.toNat 0 == (ofL nb ls out).getD b.toNat 0 else false

set_option maxRecDepth 100000 in
set_option maxHeartbeats 2000000 in
theorem conn_any (nb : Int) (A A' : Option Addr) (c c' : Nat) (ls : List Ln) (out : List Int) (a b : Int) (w : World) (hl : LinesR w w.heap.size A ls) (ho : IntsR w w.heap.size A' out)
    (hm : ls.length ≤ 1000000) (hn : out.length ≤ 1000000) :
    Calls Try.prog 31 #[.agg #[.int .i64 nb, .slice A ls.length c], .slice A' out.length c', .int .i64 a, .int .i64 b] w (BoolE w (connB nb ls out a b) (connE nb ls out a b)) := by
  have hcall := fun W hl ho => of_any nb A A' c c' ls out W hl ho hm hn
  have HL := Lib.hid hl
  have HO := Lib.hid ho
  clear hl ho
  by_cases he : outsE nb ls out = 0
  · have hll := ofL_length he
    have hv := valid_of_check (check_of_outs he).1
    have hlo := hv.lo
    have hhi := hv.hi
    rw [he] at hcall
    unfold connB connE
    rw [if_pos he]
    have HE := Lib.hid he
    clear he hv
    generalize ofL nb ls out = l at *
    have HCALL := Lib.hid hcall
    have HLL := Lib.hid hll
    clear hcall hll
    have hT : ∀ (R : Prop), R ↔ R := fun _ => Iff.rfl
    clear hT
    by_cases h0 : a < 0
    · rw [if_neg (by have := HE.out; omega), if_pos (by omega)]
      have p0 : decide (a < 0) = true := decide_eq_true h0
      go_enter Try.func31, Try.ntmps31
      go_wp2_with (go_at_call 26; refine (HCALL.out _ (by exact (HL.out.alloc (Nat.le_refl _) _).more (by simp)) (by exact (HO.out.alloc (Nat.le_refl _) _).more (by simp))).mono ?_; rintro e w1 ⟨v, rfl, hown, hb1⟩; obtain ⟨A1, c1, rfl, hI⟩ := ownsRow_ints hown; have k0 : w1.cell? ⟨w.heap.size, 0, none⟩ = some (.int .i64 nb) := (hb1.cell (by simp)).trans (by simp); have HB1 := Lib.hid hb1; clear hown hI hb1)
      go_ret2
      exact ⟨rfl, ((Below.refl _ _).alloc (Nat.le_refl _) _).trans (HB1.out.mono (by simp))⟩
    have p0 : decide (a < 0) = false := decide_eq_false h0
    by_cases h1 : nb ≤ a
    · rw [if_neg (by have := HE.out; omega), if_pos (by omega)]
      have p1 : decide (nb ≤ a) = true := decide_eq_true h1
      go_enter Try.func31, Try.ntmps31
      go_wp2_with (go_at_call 26; refine (HCALL.out _ (by exact (HL.out.alloc (Nat.le_refl _) _).more (by simp)) (by exact (HO.out.alloc (Nat.le_refl _) _).more (by simp))).mono ?_; rintro e w1 ⟨v, rfl, hown, hb1⟩; obtain ⟨A1, c1, rfl, hI⟩ := ownsRow_ints hown; have k0 : w1.cell? ⟨w.heap.size, 0, none⟩ = some (.int .i64 nb) := (hb1.cell (by simp)).trans (by simp); have HB1 := Lib.hid hb1; clear hown hI hb1)
      go_ret2
      exact ⟨rfl, ((Below.refl _ _).alloc (Nat.le_refl _) _).trans (HB1.out.mono (by simp))⟩
    have p1 : decide (nb ≤ a) = false := decide_eq_false h1
    by_cases h2 : b < 0
    · rw [if_neg (by have := HE.out; omega), if_pos (by omega)]
      have p2 : decide (b < 0) = true := decide_eq_true h2
      go_enter Try.func31, Try.ntmps31
      go_wp2_with (go_at_call 26; refine (HCALL.out _ (by exact (HL.out.alloc (Nat.le_refl _) _).more (by simp)) (by exact (HO.out.alloc (Nat.le_refl _) _).more (by simp))).mono ?_; rintro e w1 ⟨v, rfl, hown, hb1⟩; obtain ⟨A1, c1, rfl, hI⟩ := ownsRow_ints hown; have k0 : w1.cell? ⟨w.heap.size, 0, none⟩ = some (.int .i64 nb) := (hb1.cell (by simp)).trans (by simp); have HB1 := Lib.hid hb1; clear hown hI hb1)
      go_ret2
      exact ⟨rfl, ((Below.refl _ _).alloc (Nat.le_refl _) _).trans (HB1.out.mono (by simp))⟩
    have p2 : decide (b < 0) = false := decide_eq_false h2
    by_cases h3 : nb ≤ b
    · rw [if_neg (by have := HE.out; omega), if_pos (by omega)]
      have p3 : decide (nb ≤ b) = true := decide_eq_true h3
      go_enter Try.func31, Try.ntmps31
      go_wp2_with (go_at_call 26; refine (HCALL.out _ (by exact (HL.out.alloc (Nat.le_refl _) _).more (by simp)) (by exact (HO.out.alloc (Nat.le_refl _) _).more (by simp))).mono ?_; rintro e w1 ⟨v, rfl, hown, hb1⟩; obtain ⟨A1, c1, rfl, hI⟩ := ownsRow_ints hown; have k0 : w1.cell? ⟨w.heap.size, 0, none⟩ = some (.int .i64 nb) := (hb1.cell (by simp)).trans (by simp); have HB1 := Lib.hid hb1; clear hown hI hb1)
      go_ret2
      exact ⟨rfl, ((Below.refl _ _).alloc (Nat.le_refl _) _).trans (HB1.out.mono (by simp))⟩
    have p3 : decide (nb ≤ b) = false := decide_eq_false h3
    rw [if_pos ⟨HE.out, by omega⟩, if_neg (by omega)]
    obtain ⟨x, rfl⟩ := Int.eq_ofNat_of_zero_le (show 0 ≤ a by omega)
    obtain ⟨y, rfl⟩ := Int.eq_ofNat_of_zero_le (show 0 ≤ b by omega)
    rw [Int.toNat_natCast, Int.toNat_natCast]
    have hx : x < l.length := by have := HLL.out; omega
    have hy : y < l.length := by have := HLL.out; omega
    obtain ⟨X, hX⟩ : ∃ X, l.getD x 0 = X := ⟨_, rfl⟩
    obtain ⟨Y, hY⟩ : ∃ Y, l.getD y 0 = Y := ⟨_, rfl⟩
    rw [hX, hY]
    have HX := Lib.hid hX
    have HY := Lib.hid hY
    clear hX hY
    go_enter Try.func31, Try.ntmps31
    go_wp2_with (go_at_call 26; refine (HCALL.out _ (by exact (HL.out.alloc (Nat.le_refl _) _).more (by simp)) (by exact (HO.out.alloc (Nat.le_refl _) _).more (by simp))).mono ?_; rintro e w1 ⟨v, rfl, hown, hb1⟩; obtain ⟨A1, c1, rfl, hI⟩ := ownsRow_ints hown; have k0 : w1.cell? ⟨w.heap.size, 0, none⟩ = some (.int .i64 nb) := (hb1.cell (by simp)).trans (by simp); have HB1 := Lib.hid hb1; obtain ⟨b1, off, rfl, hb, hc⟩ := hI (by omega); have ex := hc x hx; have ey := hc y hy; rw [HX.out] at ex; rw [HY.out] at ey; clear hown hI hb1 hc)
    go_quiet (fail)
    go_wp2_with fail
    go_ret2
    exact ⟨rfl, below_drewN (((Below.refl _ _).alloc (Nat.le_refl _) _).trans (HB1.out.mono (by simp))) _⟩
  · unfold connB connE
    rw [if_neg (by omega), if_neg he]
    have he' : (outsE nb ls out != 0) = true := by rw [bne_iff_ne]; exact he
    generalize outsE nb ls out = e at *
    have HCALL := Lib.hid hcall
    clear hcall he
    go_enter Try.func31, Try.ntmps31
    go_wp2_with (go_at_call 26; refine (HCALL.out _ (by exact (HL.out.alloc (Nat.le_refl _) _).more (by simp)) (by exact (HO.out.alloc (Nat.le_refl _) _).more (by simp))).mono ?_; rintro e w1 ⟨v, rfl, _, hb1⟩)
    go_ret2
    exact ⟨rfl, ((Below.refl _ _).alloc (Nat.le_refl _) _).trans (hb1.mono (by simp))⟩
end Go.Proofs.Ytmojjfdamdgegaa
