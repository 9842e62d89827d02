/- The text DvaW. -/
import Derived.Test.YtklanoppbbaolaaGreatMg17
import Derived.Test.YtklanoppbbaolaaGreatMg23
import Derived.Test.YtklanoppbbaolaaGreatMg28
import Derived.Test.YtklanoppbbaolaaGreatMg49
/- The walk of DayValidates. -/
namespace Go.Proofs.YtklanoppbbaolaaGreat
open Go.RowKit
set_option linter.unusedVariables false
set_option linter.unusedSimpArgs false
set_option maxRecDepth 100000
set_option maxHeartbeats 8000000 in
theorem validates_any (x : Cs) (A1 A2 A3 A4 A5 : Option Addr) (c1 c2 c3 c4 c5 : Nat) (w : World)
    (h1 : RowR LnE 4 w w.heap.size A1 x.net.lines) (h2 : RowR UnR 9 w w.heap.size A2 x.units) (h3 : RowR HrR 3 w w.heap.size A3 x.hours) (h4 : RowR OgE' 4 w w.heap.size A4 x.outs) (h5 : RowR RtE 3 w w.heap.size A5 x.rights) :
    Calls Tryz.prog 4 #[.agg #[.int .i64 x.net.buses, .slice A1 x.net.lines.length c1, .slice A2 x.units.length c2, .slice A3 x.hours.length c3, .slice A4 x.outs.length c4, .slice A5 x.rights.length c5]] w (fun e w' => e = .returned (.bool true) ∧ Below w.heap.size w w') := by
  have K1 := Lib.hid fun W h2 h3 => long40_any x A1 A2 A3 A4 A5 c1 c2 c3 c4 c5 W h2 h3
  have K2 := Lib.hid fun W ho hr h1 h2 h3 h4 h5 => day_any x.net.buses x.net.lines x.units x.hours x.outs x.rights A1 A2 A3 A4 A5 c1 c2 c3 c4 c5 W h1 h2 h3 h4 h5 ho hr
  have K3 := Lib.hid fun W ho hr h1 h2 h3 h4 h5 => refDay_any x.net.buses x.net.lines x.units x.hours x.outs x.rights A1 A2 A3 A4 A5 c1 c2 c3 c4 c5 W h1 h2 h3 h4 h5 ho hr
  have K4 := Lib.hid fun W => awr_true W
  have HB : Hid (Below w.heap.size w (w.alloc (.cells #[.int .i64 x.net.buses, .slice A1 x.net.lines.length c1, .slice A2 x.units.length c2, .slice A3 x.hours.length c3, .slice A4 x.outs.length c4, .slice A5 x.rights.length c5] 34))) := (Below.refl _ _).alloc (Nat.le_refl _) _
  have H1 := Lib.hid h1
  have H2 := Lib.hid h2
  have H3 := Lib.hid h3
  have H4 := Lib.hid h4
  have H5 := Lib.hid h5
  clear h1 h2 h3 h4 h5
  go_enter Tryz.func4, Tryz.ntmps4
  go_wp2_with fail
  refine (K1.out _ (H2.out.upto UnR.keep HB.out) (H3.out.upto HrR.keep HB.out)).mono ?_
  rintro e w1 ⟨b, rfl, hl, hb1⟩
  have HX1 := Lib.hid ((Box.new w #[.int .i64 x.net.buses, .slice A1 x.net.lines.length c1, .slice A2 x.units.length c2, .slice A3 x.hours.length c3, .slice A4 x.outs.length c4, .slice A5 x.rights.length c5] 34).up hb1 (by simp))
  have HB1 := Lib.hid (HB.out.trans (hb1.mono (by simp)))
  have hlt : w.heap.size < w1.heap.size := by have := hb1.size; simp at this; omega
  have HLn := Lib.hid hl
  clear hb1 hl
  cases b with
  | true =>
    go_wp2_with fail
    refine (K4.out _).mono ?_
    rintro e w2 ⟨rfl, hb2⟩
    have HB2 := Lib.hid (HB1.out.trans (hb2.mono (by omega)))
    clear hb2
    go_wp2_with fail
    go_ret
    exact ⟨rfl, HB2.out⟩
  | false =>
    obtain ⟨ho, hr⟩ := HLn.out (by trivial)
    have HBW := Lib.hid fun W (hI : Below w1.heap.size w1 W) => HB1.out.trans (hI.mono (B' := w.heap.size) (by omega))
    have C2 := Lib.hid fun W hI => K2.out W (by omega) (by omega) (H1.out.upto LnE.keep (HBW.out W hI)) (H2.out.upto UnR.keep (HBW.out W hI)) (H3.out.upto HrR.keep (HBW.out W hI)) (H4.out.upto OgE'.keep (HBW.out W hI)) (H5.out.upto RtE.keep (HBW.out W hI))
    have C3 := Lib.hid fun W hI => K3.out W (by omega) (by omega) (H1.out.upto LnE.keep (HBW.out W hI)) (H2.out.upto UnR.keep (HBW.out W hI)) (H3.out.upto HrR.keep (HBW.out W hI)) (H4.out.upto OgE'.keep (HBW.out W hI)) (H5.out.upto RtE.keep (HBW.out W hI))
    have q0 := HX1.out.c 0 _ rfl
    have q1 := HX1.out.c 1 _ rfl
    have q2 := HX1.out.c 2 _ rfl
    have q3 := HX1.out.c 3 _ rfl
    have q4 := HX1.out.c 4 _ rfl
    have q5 := HX1.out.c 5 _ rfl
    generalize dayE ⟨⟨x.net.buses, x.net.lines⟩, x.units, x.hours, x.outs, x.rights⟩ = R at *
    go_upto_region 3 with fail
    refine region_T (w0 := w1) [(1, .pointer (some ⟨w.heap.size, 0, none⟩)), (6, .agg #[.int .i64 x.net.buses, .slice A1 x.net.lines.length c1, .slice A2 x.units.length c2, .slice A3 x.hours.length c3, .slice A4 x.outs.length c4, .slice A5 x.rights.length c5]), (7, .int .i64 R), (8, .agg #[.int .i64 x.net.buses, .slice A1 x.net.lines.length c1, .slice A2 x.units.length c2, .slice A3 x.hours.length c3, .slice A4 x.outs.length c4, .slice A5 x.rights.length c5]), (9, .int .i64 R), (10, .bool true), (11, .bool true), (12, .bool true), (13, .bool true), (2, .bool true)] [] [1] ?_ ?_
    · intro T hT W hI
      simp only [HoldsT, and_true] at hT
      have l0 := (hI.cell (p := ⟨w.heap.size, 0, none⟩) hlt).trans q0
      have l1 := (hI.cell (p := ⟨w.heap.size, 1, none⟩) hlt).trans q1
      have l2 := (hI.cell (p := ⟨w.heap.size, 2, none⟩) hlt).trans q2
      have l3 := (hI.cell (p := ⟨w.heap.size, 3, none⟩) hlt).trans q3
      have l4 := (hI.cell (p := ⟨w.heap.size, 4, none⟩) hlt).trans q4
      have l5 := (hI.cell (p := ⟨w.heap.size, 5, none⟩) hlt).trans q5
      repeat' first | exact AllO.nil | apply AllO.cons
      all_goals try ((first | refine oV ?_ | refine oN ?_ | refine oG (t := by simp only [hT]) (h := ?_)); simp [go_sem, EvT, hT, l0, l1, l2, l3, l4, l5, valT]; done)
      · refine opT_r (runT_c 8 #[.agg #[.int .i64 x.net.buses, .slice A1 x.net.lines.length c1, .slice A2 x.units.length c2, .slice A3 x.hours.length c3, .slice A4 x.outs.length c4, .slice A5 x.rights.length c5]] (by simp [go_sem, EvT, hT]) ?_)
        simp only [valT, hT]
        exact C2.out W hI
      · refine opT_r (runT_c 15 #[.agg #[.int .i64 x.net.buses, .slice A1 x.net.lines.length c1, .slice A2 x.units.length c2, .slice A3 x.hours.length c3, .slice A4 x.outs.length c4, .slice A5 x.rights.length c5]] (by simp [go_sem, EvT, hT]) ?_)
        simp only [valT, hT]
        exact C3.out W hI
      · refine opT_g (t := by simp only [hT]) (h := runT_c 5 #[] (by simp [go_sem, EvT, hT]) ?_)
        simp only [valT, hT]
        exact K4.out W
    intro wx hb
    simp (decide := true) only [putT, valT, look, Act.put, List.setIfInBounds_toArray, List.set_cons_zero, List.set_cons_succ, Nat.reduceAdd, if_true, if_false]
    have HB2 := Lib.hid (HB1.out.trans (hb.mono (by omega)))
    clear hb
    go_wp2_with fail
    go_ret
    exact ⟨rfl, HB2.out⟩
end Go.Proofs.YtklanoppbbaolaaGreat
