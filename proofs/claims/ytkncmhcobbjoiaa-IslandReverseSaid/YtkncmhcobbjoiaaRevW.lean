/- The walk of IslandReverse. -/
import Derived.Test.YtkncmhcobbjoiaaRevP
import Derived.Test.YtkncmhcobbjoiaaIslF
namespace Go.Proofs.Ytkncmhcobbjoiaa
open Go.RowKit
set_option linter.unusedVariables false

set_option maxRecDepth 100000 in
set_option maxHeartbeats 4000000 in
theorem rev_walk (nb : Int) (A : Option Addr) (c : Nat) (ls : List Ln) (A' : Option Addr) (c' : Nat) (out : List Int) (x xx lim : Int) (w : World) (hl : LinesR w w.heap.size A ls) (ho : IntsR w w.heap.size A' out)
    (_ : -9223372036854775808 ≤ x) (_ : x ≤ 9223372036854775807) (_ : -9223372036854775808 ≤ xx) (_ : xx ≤ 9223372036854775807) (_ : -9223372036854775808 ≤ lim) (_ : lim ≤ 9223372036854775807) :
    Calls Try.prog 4 #[.agg #[.int .i64 nb, .slice A ls.length c], .slice A' out.length c', .int .i64 x, .int .i64 xx, .int .i64 lim] w fun e w' => e = .returned (.bool true) ∧ Below w.heap.size w w' := by
  have HL := Lib.hid hl
  have HO := Lib.hid ho
  clear hl ho
  have k1 := fun b W hb => long_lit1 (.int .i64 nb) A ls.length c 25 W b hb A' out.length c'
  cases hlong : longB [out.length] ls.length with
  | true =>
    rw [hlong] at k1
    have K1 := Lib.hid k1
    clear k1 hlong
    go_enter Try.func4, Try.ntmps4
    go_wp2_with fail
    refine (K1.out _ _ (by simp)).mono ?_
    rintro e w1 ⟨rfl, hb1⟩
    have hz := hb1.size
    go_wp2_with fail
    refine (awake_any _).mono ?_
    rintro e w2 ⟨rfl, hb2⟩
    go_wp2_with fail
    go_ret
    refine ⟨rfl, (below_alloc2 w _ _).trans ((hb1.mono (by simp; omega)).trans (hb2.mono ?_))⟩
    simp at hz
    omega
  | false =>
    rw [hlong] at k1
    have hb100 := longB_false hlong
    have ho1 : out.length ≤ 100 := hb100.1 _ (by simp)
    have hm1 : ls.length ≤ 100 := hb100.2
    have K1 := Lib.hid k1
    clear k1 hlong hb100
    go_enter Try.func4, Try.ntmps4
    go_wp2_with fail
    refine (K1.out _ _ (by simp)).mono ?_
    rintro e w1 ⟨rfl, hb1⟩
    have hz := hb1.size
    simp only [World.size_alloc] at hz
    have hB1 : Below w.heap.size w w1 := (below_alloc2 w _ _).trans (hb1.mono (by simp; omega))
    have q0 : w1.cell? ⟨w.heap.size, 0, none⟩ = some (.int .i64 nb) := (hb1.cell (by simp; omega)).trans (by simp)
    have q1 : w1.cell? ⟨w.heap.size, 1, none⟩ = some (.slice A ls.length c) := (hb1.cell (by simp; omega)).trans (by simp)
    have HB1 := Lib.hid hB1
    clear hb1 hB1
    go_wp2_with fail
    refine (awake_any _).mono ?_
    rintro e w2 ⟨rfl, hb2⟩
    replace q0 := (hb2.cell (p := ⟨w.heap.size, 0, none⟩) (by show w.heap.size < _; omega)).trans q0
    replace q1 := (hb2.cell (p := ⟨w.heap.size, 1, none⟩) (by show w.heap.size < _; omega)).trans q1
    have HB2 := Lib.hid (HB1.out.trans (hb2.mono HB1.out.size))
    have hz2 : w.heap.size + 1 ≤ w2.heap.size := by have := hb2.size; omega
    clear hb2 HB1 hz K1
    replace HL := Lib.hid (HL.out.upto HB2.out)
    replace HO := Lib.hid (HO.out.upto HB2.out)
    have rv := fun W hl => rev_any nb A c ls x W hl (by omega)
    by_cases he : revE nb ls x = 0
    · rw [revNb, revL, if_pos he, if_pos he, he] at rv
      have hxr : 0 ≤ x ∧ x < ls.length := by
        unfold revE at he
        split at he
        · split at he <;> omega
        · omega
      have hck : checkE nb ls = 0 := by
        unfold revE at he
        split at he
        · assumption
        · omega
      obtain ⟨k, rfl⟩ := Int.eq_ofNat_of_zero_le hxr.1
      have hk : k < ls.length := by omega
      rw [Int.toNat_natCast] at rv
      have RV := Lib.hid rv
      have CK := Lib.hid hck
      clear rv he hck hxr
      go_wp2_with fail
      refine (RV.out _ HL.out).mono ?_
      rintro e w3 ⟨A3, c3, rfl, hown, hb⟩
      have HB3 := Lib.hid (HB2.out.trans (hb.mono HB2.out.size))
      replace q0 := (hb.cell (p := ⟨w.heap.size, 0, none⟩) (by show w.heap.size < _; omega)).trans q0
      replace q1 := (hb.cell (p := ⟨w.heap.size, 1, none⟩) (by show w.heap.size < _; omega)).trans q1
      have hz3 : w.heap.size + 1 ≤ w3.heap.size := by have := hb.size; omega
      have HB23 := Lib.hid hb
      clear hb HB2
      obtain ⟨g, rfl⟩ : ∃ g, A3 = some ⟨g, 0, none⟩ := by
        rcases hown.2 with ⟨h, h0⟩ | ⟨g, cap, cur, h, _⟩
        · rw [swapAt_length] at h0; omega
        · simp at h; exact ⟨g, h.1⟩
      obtain ⟨hg1, hg2⟩ := hown.lt g rfl
      have hzz3 : w.heap.size < w3.heap.size := by omega
      have hl0 : ((ls.length : Int) != ls.length) = false := by simp
      have HW := Lib.hid hown
      clear hown
      rw [swapAt_length]
      go_wp2_with fail
      have hown := HW.out.alloc (.cells #[.int .i64 nb, .slice (some ⟨g, 0, none⟩) ls.length c3] 24)
      have p0 : (w3.alloc (.cells #[.int .i64 nb, .slice (some ⟨g, 0, none⟩) ls.length c3] 24)).cell? ⟨w3.heap.size, 0, none⟩ = some (.int .i64 nb) := cell_alloc_at _ _ _ _ _ rfl
      have p1 : (w3.alloc (.cells #[.int .i64 nb, .slice (some ⟨g, 0, none⟩) ls.length c3] 24)).cell? ⟨w3.heap.size, 1, none⟩ = some (.slice (some ⟨g, 0, none⟩) ls.length c3) := cell_alloc_at _ _ _ _ _ rfl
      have hb : Below w3.heap.size w3 (w3.alloc (.cells #[.int .i64 nb, .slice (some ⟨g, 0, none⟩) ls.length c3] 24)) := (Below.refl _ _).alloc (Nat.le_refl _) _
      have hsz : (w3.alloc (.cells #[.int .i64 nb, .slice (some ⟨g, 0, none⟩) ls.length c3] 24)).heap.size = w3.heap.size + 1 := by simp
      generalize w3.alloc (.cells #[.int .i64 nb, .slice (some ⟨g, 0, none⟩) ls.length c3] 24) = w4 at *
      have HB4 := Lib.hid (HB3.out.trans (hb.mono HB3.out.size))
      replace q0 := (hb.cell (p := ⟨w.heap.size, 0, none⟩) (by show w.heap.size < _; omega)).trans q0
      replace q1 := (hb.cell (p := ⟨w.heap.size, 1, none⟩) (by show w.heap.size < _; omega)).trans q1
      replace HB23 := Lib.hid (HB23.out.trans (hb.mono HB23.out.size))
      have htn := owns_turn (r := xx) (l := lim) hown hk
      have o2 := (hown.cellAt (k * 4 + 2) (by rw [swapAt_length]; omega)).trans (lnCells_at (swapAt ls k) k (by rw [swapAt_length]; exact hk)).2.2.1
      have o3 := (hown.cellAt (k * 4 + 3) (by rw [swapAt_length]; omega)).trans (lnCells_at (swapAt ls k) k (by rw [swapAt_length]; exact hk)).2.2.2
      have z2 := hown.frozenAt (k * 4 + 2)
      have z3 := hown.frozenAt (k * 4 + 3)
      have hwB : w3.heap.size < w4.heap.size := by omega
      have hwz : w.heap.size < w4.heap.size := by omega
      have hgB : ¬ g = w3.heap.size := by omega
      have hgB' : ¬ w3.heap.size = g := by omega
      clear hown hsz HW hb
      generalize w3.heap.size = B at *
      have HT := Lib.hid htn
      clear htn
      generalize ((swapAt ls k).getD k (0, 0, 0, 0)).2.2.1 = y2 at *
      generalize ((swapAt ls k).getD k (0, 0, 0, 0)).2.2.2 = y3 at *
      have i1 : (0 : Int) ≤ (k : Int) := by omega
      have i2 : (k : Int) < (ls.length : Int) := by omega
      have hwg : ¬ w.heap.size = g := by omega
      have hwg' : ¬ g = w.heap.size := by omega
      have BG := Lib.hid (And.intro hg1 hg2)
      have BH := Lib.hid hz2
      clear hg1 hg2 hz3 hzz3 hz2
      go_region_held3 (fun w' => w'.cell? ⟨B, 1, none⟩ = some (.slice (some ⟨g, 0, none⟩) ls.length c3)) (go_keep) (fail)
      have hb : Below g w4 ((w4.setCell ⟨g, k * 4 + 2, none⟩ (.int .i64 xx)).setCell ⟨g, k * 4 + 3, none⟩ (.int .i64 lim)).drew := ((((Below.refl _ _).setCell (p := ⟨g, k * 4 + 2, none⟩) (Nat.le_refl _) _).setCell (p := ⟨g, k * 4 + 3, none⟩) (Nat.le_refl _) _)).drew
      have p0' : ((w4.setCell ⟨g, k * 4 + 2, none⟩ (.int .i64 xx)).setCell ⟨g, k * 4 + 3, none⟩ (.int .i64 lim)).drew.cell? ⟨B, 0, none⟩ = some (.int .i64 nb) := by rw [World.cell?_drew, World.cell?_setCell_other _ _ _ _ (by intro h; injection h; omega), World.cell?_setCell_other _ _ _ _ (by intro h; injection h; omega)]; exact p0
      have p1' : ((w4.setCell ⟨g, k * 4 + 2, none⟩ (.int .i64 xx)).setCell ⟨g, k * 4 + 3, none⟩ (.int .i64 lim)).drew.cell? ⟨B, 1, none⟩ = some (.slice (some ⟨g, 0, none⟩) ls.length c3) := by rw [World.cell?_drew, World.cell?_setCell_other _ _ _ _ (by intro h; injection h; omega), World.cell?_setCell_other _ _ _ _ (by intro h; injection h; omega)]; exact p1
      replace HT := Lib.hid HT.out.drew
      have hsz := hb.size
      generalize ((w4.setCell ⟨g, k * 4 + 2, none⟩ (.int .i64 xx)).setCell ⟨g, k * 4 + 3, none⟩ (.int .i64 lim)).drew = w5 at *
      have hgw : w.heap.size < g := by have := BG.out; have := BH.out; omega
      have HB5 := Lib.hid (HB4.out.trans (hb.mono (by omega)))
      have hlow := hb.mono (B' := w2.heap.size) (by have := BG.out; omega)
      replace q0 := (hb.cell (p := ⟨w.heap.size, 0, none⟩) hgw).trans q0
      replace q1 := (hb.cell (p := ⟨w.heap.size, 1, none⟩) hgw).trans q1
      have hb25 := HB23.out.trans hlow
      replace HL := Lib.hid (HL.out.upto hb25)
      replace HO := Lib.hid (HO.out.upto hb25)
      have hwz5 : w.heap.size < w5.heap.size := by omega
      have hB5 : B < w5.heap.size := by omega
      rw [turnAt_length] at HT
      clear p0 p1 hb25 hlow hb HB23 HB4 hsz o2 o3 z2 z3 hgB hgB' hwg hwg' hwz hwB hgw
      obtain ⟨A5, c5, he5, hl5⟩ := ownsRow_linesR (ls := turnAt ls k xx lim) (by rw [turnAt_length]; exact HT.out)
      rw [turnAt_length] at he5
      simp only [Value.slice.injEq] at he5
      obtain ⟨rfl, _, rfl⟩ := he5
      have HM := Lib.hid hl5
      clear hl5 HT
      have kc := fun W hl => check_any nb (some ⟨g, 0, none⟩) c3 (turnAt ls k xx lim) W hl
      by_cases hc2 : checkE nb (turnAt ls k xx lim) = 0
      · rw [hc2] at kc
        have ka := fun W hl ho => of_any nb A A' c c' ls out W hl ho (by omega) (by omega)
        have kb := fun W hl ho => of_any nb (some ⟨g, 0, none⟩) A' c3 c' (turnAt ls k xx lim) out W hl ho (by rw [turnAt_length]; omega) (by omega)
        rw [turn_of CK.out hc2, turn_outs CK.out hc2] at kb
        have hol := ofL_length_le nb ls out
        generalize outsE nb ls out = er at *
        generalize ofL nb ls out = ol at *
        simp only [turnAt_length] at kc kb
        have KC := Lib.hid kc
        have KA := Lib.hid ka
        have KB := Lib.hid kb
        clear kc ka kb hc2
        have b3 : (er == er) = true := by simp
        go_wp2_with fail
        refine (KC.out _ HM.out).mono ?_
        rintro e w6 ⟨rfl, hb⟩
        have HB6 := Lib.hid (HB5.out.trans (hb.mono HB5.out.size))
        replace q0 := (hb.cell (p := ⟨w.heap.size, 0, none⟩) hwz5).trans q0
        replace q1 := (hb.cell (p := ⟨w.heap.size, 1, none⟩) hwz5).trans q1
        replace p0' := (hb.cell (p := ⟨B, 0, none⟩) hB5).trans p0'
        replace p1' := (hb.cell (p := ⟨B, 1, none⟩) hB5).trans p1'
        have hwz6 : w.heap.size < w6.heap.size := by have := hb.size; omega
        have hB6 : B < w6.heap.size := by have := hb.size; omega
        replace HL := Lib.hid (HL.out.upto hb)
        replace HO := Lib.hid (HO.out.upto hb)
        replace HM := Lib.hid (HM.out.upto hb)
        clear hb hwz5 hB5 HB5
        go_wp2_with fail
        refine (KA.out _ HL.out HO.out).mono ?_
        rintro e w7 ⟨v, rfl, hown, hb⟩
        obtain ⟨A7, c7, rfl, hI⟩ := ownsRow_ints hown
        have HI := Lib.hid hI
        have HB7 := Lib.hid (HB6.out.trans (hb.mono HB6.out.size))
        replace p0' := (hb.cell (p := ⟨B, 0, none⟩) hB6).trans p0'
        replace p1' := (hb.cell (p := ⟨B, 1, none⟩) hB6).trans p1'
        replace HO := Lib.hid (HO.out.upto hb)
        replace HM := Lib.hid (HM.out.upto hb)
        clear hb hwz6 hB6 HB6 hI hown HL q0 q1
        go_wp2_with fail
        refine (KB.out _ HM.out HO.out).mono ?_
        rintro e w8 ⟨v, rfl, hown, hb⟩
        obtain ⟨A8, c8, rfl, hI⟩ := ownsRow_ints hown
        have HJ := Lib.hid hI
        have HB8 := Lib.hid (HB7.out.trans (hb.mono HB7.out.size))
        replace HI := Lib.hid (HI.out.upto hb)
        clear hb HB7 hI hown p0' p1'
        go_wp2_with fail
        refine (ints_same A7 A8 c7 c8 ol _ HI.out HJ.out (by omega)).mono ?_
        rintro e w9 ⟨rfl, hb⟩
        have HB9 := Lib.hid (HB8.out.trans (hb.mono HB8.out.size))
        clear hb
        go_wp2_with fail
        go_ret
        exact ⟨rfl, HB9.out⟩
      · have b3 : (checkE nb (turnAt ls k xx lim) != 0) = true := by rw [bne_iff_ne]; exact hc2
        clear hc2
        generalize checkE nb (turnAt ls k xx lim) = er at *
        simp only [turnAt_length] at kc
        have KC := Lib.hid kc
        clear kc
        go_wp2_with fail
        refine (KC.out _ HM.out).mono ?_
        rintro e w6 ⟨rfl, hb⟩
        have HB6 := Lib.hid (HB5.out.trans (hb.mono HB5.out.size))
        clear hb
        go_wp2_with fail
        go_ret
        exact ⟨rfl, HB6.out⟩
    · rw [revNb, revL, if_neg he, if_neg he] at rv
      have b1 : (revE nb ls x == 0) = false := by rw [beq_eq_false_iff_ne]; exact he
      have b2 : (revE nb ls x != 0) = true := by rw [bne_iff_ne]; exact he
      clear he
      generalize revE nb ls x = er at *
      have RV := Lib.hid rv
      clear rv
      go_wp2_with fail
      refine (RV.out _ HL.out).mono ?_
      rintro e w3 ⟨A3, c3, rfl, hown, hb⟩
      have HB3 := Lib.hid (HB2.out.trans (hb.mono HB2.out.size))
      clear hown hb
      go_wp2_with fail
      go_ret
      exact ⟨rfl, HB3.out.alloc HB3.out.size _⟩
end Go.Proofs.Ytkncmhcobbjoiaa
