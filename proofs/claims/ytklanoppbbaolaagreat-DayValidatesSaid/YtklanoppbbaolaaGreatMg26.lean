/- The text FrD. -/
import Derived.Test.YtklanoppbbaolaaGreatMg25
/- The reference: pylonref26.Max and Check. -/
namespace Go.Proofs.YtklanoppbbaolaaGreat
open Go.RowKit
set_option linter.unusedVariables false
set_option linter.unusedSimpArgs false
set_option maxRecDepth 100000
set_option maxHeartbeats 8000000
theorem refMax_ok (bus mn up down start idle spin on : Int) (steps : List St) (A : Option Addr) (c : Nat) (w : World) (hr : RowR StE 2 w w.heap.size A steps) (hok : stepsE rises steps = 0) :
    Calls Tryz.prog 98 #[.agg #[.int .i64 bus, .int .i64 mn, .slice A steps.length c, .int .i64 up, .int .i64 down, .int .i64 start, .int .i64 idle, .int .i64 spin, .int .i64 on]] w fun e w' => e = .returned (.int .i64 (qtySum steps)) ∧ Below w.heap.size w w' := by
  have K1 := Lib.hid fun W h => refOffer_any A c steps W h
  have K2 := Lib.hid fun W h => refSum_ok A c steps W h hok
  rw [hok] at K1
  have HR := Lib.hid hr
  have HB0 := Lib.hid ((Below.refl w.heap.size w).alloc (Nat.le_refl _) (.cells #[.int .i64 bus, .int .i64 mn, .slice A steps.length c, .int .i64 up, .int .i64 down, .int .i64 start, .int .i64 idle, .int .i64 spin, .int .i64 on] 81))
  have HX0 : Hid (Box (w.alloc (.cells #[.int .i64 bus, .int .i64 mn, .slice A steps.length c, .int .i64 up, .int .i64 down, .int .i64 start, .int .i64 idle, .int .i64 spin, .int .i64 on] 81)) w.heap.size [.int .i64 bus, .int .i64 mn, .slice A steps.length c, .int .i64 up, .int .i64 down, .int .i64 start, .int .i64 idle, .int .i64 spin, .int .i64 on]) := Box.new w #[.int .i64 bus, .int .i64 mn, .slice A steps.length c, .int .i64 up, .int .i64 down, .int .i64 start, .int .i64 idle, .int .i64 spin, .int .i64 on] _
  have hz0 : w.heap.size < (w.alloc (.cells #[.int .i64 bus, .int .i64 mn, .slice A steps.length c, .int .i64 up, .int .i64 down, .int .i64 start, .int .i64 idle, .int .i64 spin, .int .i64 on] 81)).heap.size := by simp
  clear hr hok
  generalize qtySum steps = qs at *
  go_enter Tryz.func98, Tryz.ntmps98
  go_wp2_with fail
  refine (K1.out _ (HR.out.upto StE.keep HB0.out)).mono ?_
  rintro e w1 ⟨rfl, hb1⟩
  have HX1 := Lib.hid (HX0.out.up hb1 hz0)
  have HB1 := Lib.hid (HB0.out.trans (hb1.mono (Nat.le_of_lt hz0)))
  clear hb1 HX0 HB0 hz0 K1
  have q2 := HX1.out.c 2 _ rfl
  go_wp2_with fail
  refine (K2.out _ (HR.out.upto StE.keep HB1.out)).mono ?_
  rintro e w2 ⟨rfl, hb2⟩
  have HB2 := Lib.hid (HB1.out.trans (hb2.mono HB1.out.size))
  clear hb2
  go_wp2_with fail
  go_ret
  exact ⟨rfl, HB2.out⟩
theorem refUnit_any (u : Un) (A : Option Addr) (c : Nat) (n : Int) (w : World) (hr : RowR StE 2 w w.heap.size A u.steps) :
    Calls Tryz.prog 46 #[.agg #[.int .i64 u.bus, .int .i64 u.min, .slice A u.steps.length c, .int .i64 u.up, .int .i64 u.down, .int .i64 u.start, .int .i64 u.idle, .int .i64 u.spin, .int .i64 u.on], .int .i64 n] w (ErrE w (unitE n u)) := by
  obtain ⟨bus, mn, steps, up, down, start, idle, spin, on⟩ := u
  have E : Hid (unitE n ⟨bus, mn, steps, up, down, start, idle, spin, on⟩ = if !inB bus n then 1 else if stepsE rises steps ≠ 0 then stepsE rises steps else if unRest ⟨bus, mn, steps, up, down, start, idle, spin, on⟩ then 0 else 1) := rfl
  generalize unitE n ⟨bus, mn, steps, up, down, start, idle, spin, on⟩ = R at *
  dsimp only at hr ⊢
  have K1 := Lib.hid fun W h => refOffer_any A c steps W h
  have K2 := Lib.hid fun W h hok => refMax_ok bus mn up down start idle spin on steps A c W h hok
  have HR := Lib.hid hr
  have HB0 := Lib.hid ((Below.refl w.heap.size w).alloc (Nat.le_refl _) (.cells #[.int .i64 bus, .int .i64 mn, .slice A steps.length c, .int .i64 up, .int .i64 down, .int .i64 start, .int .i64 idle, .int .i64 spin, .int .i64 on] 81))
  clear hr
  go_enter Tryz.func46, Tryz.ntmps46
  by_cases hb : inB bus n = true
  · have hb' := hb
    unfold inB at hb'
    simp only [Bool.and_eq_true, decide_eq_true_eq] at hb'
    have d1 : decide (bus < 0) = false := decide_eq_false (by omega)
    have d2 : decide (n ≤ bus) = false := decide_eq_false (by omega)
    replace E : Hid (R = _) := E.out.trans (if_neg (by rw [hb]; simp))
    clear hb hb'
    go_wp2_with fail
    refine (K1.out _ (HR.out.upto StE.keep ((Below.refl w.heap.size w).alloc (Nat.le_refl _) _))).mono ?_
    rintro e w1 ⟨rfl, hb1⟩
    have HX1 : Hid (Box w1 w.heap.size [.int .i64 bus, .int .i64 mn, .slice A steps.length c, .int .i64 up, .int .i64 down, .int .i64 start, .int .i64 idle, .int .i64 spin, .int .i64 on]) := (Box.new w #[.int .i64 bus, .int .i64 mn, .slice A steps.length c, .int .i64 up, .int .i64 down, .int .i64 start, .int .i64 idle, .int .i64 spin, .int .i64 on] 81).up hb1 (by simp)
    have HB1 := Lib.hid (HB0.out.trans (hb1.mono (by simp)))
    clear hb1 HB0 K1
    by_cases hs : stepsE rises steps = 0
    · replace E : Hid (R = _) := E.out.trans (if_neg (fun h => h hs))
      rw [hs]
      have hlt : w.heap.size < w1.heap.size := HX1.out.lt (by simp)
      have K3 := Lib.hid fun W (hb : Below w1.heap.size w1 W) => K2.out W (HR.out.upto StE.keep (HB1.out.trans (hb.mono HB1.out.size))) hs
      have HU : unRest ⟨bus, mn, steps, up, down, start, idle, spin, on⟩ = decide (0 ≤ mn ∧ mn ≤ qtySum steps ∧ 1 ≤ up ∧ up ≤ 6 ∧ 1 ≤ down ∧ down ≤ 6 ∧ 0 ≤ start ∧ start ≤ 1000000000 ∧ 0 ≤ idle ∧ idle ≤ 1000000000 ∧ 0 ≤ spin ∧ spin ≤ 1000000 ∧ on ≠ 0 ∧ -6 ≤ on ∧ on ≤ 6) := by
        rw [Bool.eq_iff_iff]
        simp [unRest, and_assoc]
      rw [HU] at E
      clear HU hs K2 d1 d2
      generalize qtySum steps = qs at *
      obtain ⟨p1, e1⟩ : ∃ b, decide (mn < 0) = b := ⟨_, rfl⟩
      obtain ⟨c2, e2⟩ : ∃ b, decide (qs < mn) = b := ⟨_, rfl⟩
      obtain ⟨c3, e3⟩ : ∃ b, decide (up < 1) = b := ⟨_, rfl⟩
      obtain ⟨c4, e4⟩ : ∃ b, decide (6 < up) = b := ⟨_, rfl⟩
      obtain ⟨c5, e5⟩ : ∃ b, decide (down < 1) = b := ⟨_, rfl⟩
      obtain ⟨c6, e6⟩ : ∃ b, decide (6 < down) = b := ⟨_, rfl⟩
      obtain ⟨c7, e7⟩ : ∃ b, decide (start < 0) = b := ⟨_, rfl⟩
      obtain ⟨c8, e8⟩ : ∃ b, decide (1000000000 < start) = b := ⟨_, rfl⟩
      obtain ⟨c9, e9⟩ : ∃ b, decide (idle < 0) = b := ⟨_, rfl⟩
      obtain ⟨c10, e10⟩ : ∃ b, decide (1000000000 < idle) = b := ⟨_, rfl⟩
      obtain ⟨c11, e11⟩ : ∃ b, decide (spin < 0) = b := ⟨_, rfl⟩
      obtain ⟨c12, e12⟩ : ∃ b, decide (1000000 < spin) = b := ⟨_, rfl⟩
      obtain ⟨c13, e13⟩ : ∃ b, decide (on = 0) = b := ⟨_, rfl⟩
      obtain ⟨c14, e14⟩ : ∃ b, decide (on < -6) = b := ⟨_, rfl⟩
      obtain ⟨c15, e15⟩ : ∃ b, decide (6 < on) = b := ⟨_, rfl⟩
      obtain ⟨p2, h2⟩ : ∃ b, b = (p1 || c2) := ⟨_, rfl⟩
      obtain ⟨p3, h3⟩ : ∃ b, b = (p2 || c3) := ⟨_, rfl⟩
      obtain ⟨p4, h4⟩ : ∃ b, b = (p3 || c4) := ⟨_, rfl⟩
      obtain ⟨p5, h5⟩ : ∃ b, b = (p4 || c5) := ⟨_, rfl⟩
      obtain ⟨p6, h6⟩ : ∃ b, b = (p5 || c6) := ⟨_, rfl⟩
      obtain ⟨p7, h7⟩ : ∃ b, b = (p6 || c7) := ⟨_, rfl⟩
      obtain ⟨p8, h8⟩ : ∃ b, b = (p7 || c8) := ⟨_, rfl⟩
      obtain ⟨p9, h9⟩ : ∃ b, b = (p8 || c9) := ⟨_, rfl⟩
      obtain ⟨p10, h10⟩ : ∃ b, b = (p9 || c10) := ⟨_, rfl⟩
      obtain ⟨p11, h11⟩ : ∃ b, b = (p10 || c11) := ⟨_, rfl⟩
      obtain ⟨p12, h12⟩ : ∃ b, b = (p11 || c12) := ⟨_, rfl⟩
      obtain ⟨p13, h13⟩ : ∃ b, b = (p12 || c13) := ⟨_, rfl⟩
      obtain ⟨p14, h14⟩ : ∃ b, b = (p13 || c14) := ⟨_, rfl⟩
      obtain ⟨p15, h15⟩ : ∃ b, b = (p14 || c15) := ⟨_, rfl⟩
      have e13' : (on == 0) = c13 := by rw [← e13, Bool.eq_iff_iff]; simp
      obtain ⟨y25, hy25⟩ : ∃ y, y = (bif p1 then undef else .pointer (some ⟨w.heap.size, 1, none⟩)) := ⟨_, rfl⟩
      obtain ⟨y26, hy26⟩ : ∃ y, y = (bif p1 then undef else .int .i64 mn) := ⟨_, rfl⟩
      obtain ⟨y27, hy27⟩ : ∃ y, y = (bif p1 then undef else .agg #[.int .i64 bus, .int .i64 mn, .slice A steps.length c, .int .i64 up, .int .i64 down, .int .i64 start, .int .i64 idle, .int .i64 spin, .int .i64 on]) := ⟨_, rfl⟩
      obtain ⟨y28, hy28⟩ : ∃ y, y = (bif p1 then undef else .int .i64 qs) := ⟨_, rfl⟩
      obtain ⟨y29, hy29⟩ : ∃ y, y = (bif p1 then undef else .bool c2) := ⟨_, rfl⟩
      obtain ⟨y32, hy32⟩ : ∃ y, y = (bif p2 then undef else .pointer (some ⟨w.heap.size, 3, none⟩)) := ⟨_, rfl⟩
      obtain ⟨y33, hy33⟩ : ∃ y, y = (bif p2 then undef else .int .i64 up) := ⟨_, rfl⟩
      obtain ⟨y34, hy34⟩ : ∃ y, y = (bif p2 then undef else .bool c3) := ⟨_, rfl⟩
      obtain ⟨y37, hy37⟩ : ∃ y, y = (bif p3 then undef else .pointer (some ⟨w.heap.size, 3, none⟩)) := ⟨_, rfl⟩
      obtain ⟨y38, hy38⟩ : ∃ y, y = (bif p3 then undef else .int .i64 up) := ⟨_, rfl⟩
      obtain ⟨y39, hy39⟩ : ∃ y, y = (bif p3 then undef else .bool c4) := ⟨_, rfl⟩
      obtain ⟨y42, hy42⟩ : ∃ y, y = (bif p4 then undef else .pointer (some ⟨w.heap.size, 4, none⟩)) := ⟨_, rfl⟩
      obtain ⟨y43, hy43⟩ : ∃ y, y = (bif p4 then undef else .int .i64 down) := ⟨_, rfl⟩
      obtain ⟨y44, hy44⟩ : ∃ y, y = (bif p4 then undef else .bool c5) := ⟨_, rfl⟩
      obtain ⟨y47, hy47⟩ : ∃ y, y = (bif p5 then undef else .pointer (some ⟨w.heap.size, 4, none⟩)) := ⟨_, rfl⟩
      obtain ⟨y48, hy48⟩ : ∃ y, y = (bif p5 then undef else .int .i64 down) := ⟨_, rfl⟩
      obtain ⟨y49, hy49⟩ : ∃ y, y = (bif p5 then undef else .bool c6) := ⟨_, rfl⟩
      obtain ⟨y52, hy52⟩ : ∃ y, y = (bif p6 then undef else .pointer (some ⟨w.heap.size, 5, none⟩)) := ⟨_, rfl⟩
      obtain ⟨y53, hy53⟩ : ∃ y, y = (bif p6 then undef else .int .i64 start) := ⟨_, rfl⟩
      obtain ⟨y54, hy54⟩ : ∃ y, y = (bif p6 then undef else .bool c7) := ⟨_, rfl⟩
      obtain ⟨y57, hy57⟩ : ∃ y, y = (bif p7 then undef else .pointer (some ⟨w.heap.size, 5, none⟩)) := ⟨_, rfl⟩
      obtain ⟨y58, hy58⟩ : ∃ y, y = (bif p7 then undef else .int .i64 start) := ⟨_, rfl⟩
      obtain ⟨y59, hy59⟩ : ∃ y, y = (bif p7 then undef else .bool c8) := ⟨_, rfl⟩
      obtain ⟨y62, hy62⟩ : ∃ y, y = (bif p8 then undef else .pointer (some ⟨w.heap.size, 6, none⟩)) := ⟨_, rfl⟩
      obtain ⟨y63, hy63⟩ : ∃ y, y = (bif p8 then undef else .int .i64 idle) := ⟨_, rfl⟩
      obtain ⟨y64, hy64⟩ : ∃ y, y = (bif p8 then undef else .bool c9) := ⟨_, rfl⟩
      obtain ⟨y67, hy67⟩ : ∃ y, y = (bif p9 then undef else .pointer (some ⟨w.heap.size, 6, none⟩)) := ⟨_, rfl⟩
      obtain ⟨y68, hy68⟩ : ∃ y, y = (bif p9 then undef else .int .i64 idle) := ⟨_, rfl⟩
      obtain ⟨y69, hy69⟩ : ∃ y, y = (bif p9 then undef else .bool c10) := ⟨_, rfl⟩
      obtain ⟨y72, hy72⟩ : ∃ y, y = (bif p10 then undef else .pointer (some ⟨w.heap.size, 7, none⟩)) := ⟨_, rfl⟩
      obtain ⟨y73, hy73⟩ : ∃ y, y = (bif p10 then undef else .int .i64 spin) := ⟨_, rfl⟩
      obtain ⟨y74, hy74⟩ : ∃ y, y = (bif p10 then undef else .bool c11) := ⟨_, rfl⟩
      obtain ⟨y77, hy77⟩ : ∃ y, y = (bif p11 then undef else .pointer (some ⟨w.heap.size, 7, none⟩)) := ⟨_, rfl⟩
      obtain ⟨y78, hy78⟩ : ∃ y, y = (bif p11 then undef else .int .i64 spin) := ⟨_, rfl⟩
      obtain ⟨y79, hy79⟩ : ∃ y, y = (bif p11 then undef else .bool c12) := ⟨_, rfl⟩
      obtain ⟨y82, hy82⟩ : ∃ y, y = (bif p12 then undef else .pointer (some ⟨w.heap.size, 8, none⟩)) := ⟨_, rfl⟩
      obtain ⟨y83, hy83⟩ : ∃ y, y = (bif p12 then undef else .int .i64 on) := ⟨_, rfl⟩
      obtain ⟨y84, hy84⟩ : ∃ y, y = (bif p12 then undef else .bool c13) := ⟨_, rfl⟩
      obtain ⟨y87, hy87⟩ : ∃ y, y = (bif p13 then undef else .pointer (some ⟨w.heap.size, 8, none⟩)) := ⟨_, rfl⟩
      obtain ⟨y88, hy88⟩ : ∃ y, y = (bif p13 then undef else .int .i64 on) := ⟨_, rfl⟩
      obtain ⟨y89, hy89⟩ : ∃ y, y = (bif p13 then undef else .bool c14) := ⟨_, rfl⟩
      obtain ⟨y92, hy92⟩ : ∃ y, y = (bif p14 then undef else .pointer (some ⟨w.heap.size, 8, none⟩)) := ⟨_, rfl⟩
      obtain ⟨y93, hy93⟩ : ∃ y, y = (bif p14 then undef else .int .i64 on) := ⟨_, rfl⟩
      obtain ⟨y94, hy94⟩ : ∃ y, y = (bif p14 then undef else .bool c15) := ⟨_, rfl⟩
      have HE : Hid (R = if p15 = true then 1 else 0) := by
        show _ = _
        rw [E.out]
        have hp : p15 = true ↔ (mn < 0 ∨ qs < mn ∨ up < 1 ∨ 6 < up ∨ down < 1 ∨ 6 < down ∨ start < 0 ∨ 1000000000 < start ∨ idle < 0 ∨ 1000000000 < idle ∨ spin < 0 ∨ 1000000 < spin ∨ on = 0 ∨ on < -6 ∨ 6 < on) := by
          rw [h15, h14, h13, h12, h11, h10, h9, h8, h7, h6, h5, h4, h3, h2, ← e1, ← e2, ← e3, ← e4, ← e5, ← e6, ← e7, ← e8, ← e9, ← e10, ← e11, ← e12, ← e13, ← e14, ← e15]
          simp only [Bool.or_eq_true, decide_eq_true_eq, or_assoc]
        by_cases h : p15 = true
        · have := hp.1 h
          rw [if_pos h, if_neg (by simp only [decide_eq_true_eq]; omega)]
        · have : ¬ _ := fun x => h (hp.2 x)
          rw [if_neg h, if_pos (by simp only [decide_eq_true_eq]; omega)]
      clear E
      go_wp2_with fail
      refine region_T (w0 := w1) [(2, .pointer (some ⟨w.heap.size, 0, none⟩)), (21, .pointer (some ⟨w.heap.size, 1, none⟩)), (22, .int .i64 mn), (23, .bool p1), (24, .bool p1), (25, y25), (26, y26), (27, y27), (28, y28), (29, y29), (30, .bool p2), (31, .bool p2), (32, y32), (33, y33), (34, y34), (35, .bool p3), (36, .bool p3), (37, y37), (38, y38), (39, y39), (40, .bool p4), (41, .bool p4), (42, y42), (43, y43), (44, y44), (45, .bool p5), (46, .bool p5), (47, y47), (48, y48), (49, y49), (50, .bool p6), (51, .bool p6), (52, y52), (53, y53), (54, y54), (55, .bool p7), (56, .bool p7), (57, y57), (58, y58), (59, y59), (60, .bool p8), (61, .bool p8), (62, y62), (63, y63), (64, y64), (65, .bool p9), (66, .bool p9), (67, y67), (68, y68), (69, y69), (70, .bool p10), (71, .bool p10), (72, y72), (73, y73), (74, y74), (75, .bool p11), (76, .bool p11), (77, y77), (78, y78), (79, y79), (80, .bool p12), (81, .bool p12), (82, y82), (83, y83), (84, y84), (85, .bool p13), (86, .bool p13), (87, y87), (88, y88), (89, y89), (90, .bool p14), (91, .bool p14), (92, y92), (93, y93), (94, y94), (95, .bool p15)] [] [2] ?_ ?_
      · intro T hT W hI
        simp only [HoldsT, and_true] at hT
        have HX2 := HX1.out.up hI hlt
        have l0 := HX2.c 0 _ rfl
        have l1 := HX2.c 1 _ rfl
        have l2 := HX2.c 2 _ rfl
        have l3 := HX2.c 3 _ rfl
        have l4 := HX2.c 4 _ rfl
        have l5 := HX2.c 5 _ rfl
        have l6 := HX2.c 6 _ rfl
        have l7 := HX2.c 7 _ rfl
        have l8 := HX2.c 8 _ rfl
        have hlW : w.heap.size < W.heap.size := HX2.lt (by simp)
        have K4 := K3.out W hI
        clear HX2 HX1 HB1 K3 HR HE
        repeat' first | exact AllO.nil | apply AllO.cons
        · refine oV ?_; simp [go_sem, EvT, hT, valT, l1]
        · refine oV ?_; simp [go_sem, EvT, hT, valT, l1]
        · refine oV ?_; simp [go_sem, EvT, hT, valT, e1]
        · refine oV ?_; simp [go_sem, EvT, hT, valT]
        · cases p1 with
          | true => exact opT_s true (t := by simp only [hT]) (n := by decide) (e := by simp [valT, hT, hy25])
          | false => refine oG (t := by simp only [hT]) (h := ?_); simp [go_sem, EvT, hT, valT, hy25]
        · cases p1 with
          | true => exact opT_s true (t := by simp only [hT]) (n := by decide) (e := by simp [valT, hT, hy26])
          | false => refine oG (t := by simp only [hT]) (h := ?_); simp [go_sem, EvT, hT, valT, hy26, hy25, l1]
        · cases p1 with
          | true => exact opT_s true (t := by simp only [hT]) (n := by decide) (e := by simp [valT, hT, hy27])
          | false => refine oG (t := by simp only [hT]) (h := ?_); simp [go_sem, EvT, hT, valT, hy27, l0, l1, l2, l3, l4, l5, l6, l7, l8]
        · cases p1 with
          | true => exact opT_s true (t := by simp only [hT]) (n := by decide) (e := by simp [valT, hT, hy28])
          | false => refine opT_g (t := by simp only [hT]) (h := runT_c 98 #[.agg #[.int .i64 bus, .int .i64 mn, .slice A steps.length c, .int .i64 up, .int .i64 down, .int .i64 start, .int .i64 idle, .int .i64 spin, .int .i64 on]] (by simp [go_sem, EvT, hT, hy27]) ?_); simp only [valT, hT, hy28, cond_false]; exact K4
        · cases p1 with
          | true => exact opT_s true (t := by simp only [hT]) (n := by decide) (e := by simp [valT, hT, hy29])
          | false => refine oG (t := by simp only [hT]) (h := ?_); simp [go_sem, EvT, hT, valT, hy29, hy26, hy28, e2]
        · refine oV ?_; cases p1 <;> simp [go_sem, EvT, hT, valT, hy29, h2]
        · refine oV ?_; simp [go_sem, EvT, hT, valT]
        · cases p2 with
          | true => exact opT_s true (t := by simp only [hT]) (n := by decide) (e := by simp [valT, hT, hy32])
          | false => refine oG (t := by simp only [hT]) (h := ?_); simp [go_sem, EvT, hT, valT, hy32]
        · cases p2 with
          | true => exact opT_s true (t := by simp only [hT]) (n := by decide) (e := by simp [valT, hT, hy33])
          | false => refine oG (t := by simp only [hT]) (h := ?_); simp [go_sem, EvT, hT, valT, hy33, hy32, l3]
        · cases p2 with
          | true => exact opT_s true (t := by simp only [hT]) (n := by decide) (e := by simp [valT, hT, hy34])
          | false => refine oG (t := by simp only [hT]) (h := ?_); simp [go_sem, EvT, hT, valT, hy34, hy33, e3]
        · refine oV ?_; cases p2 <;> simp [go_sem, EvT, hT, valT, hy34, h3]
        · refine oV ?_; simp [go_sem, EvT, hT, valT]
        · cases p3 with
          | true => exact opT_s true (t := by simp only [hT]) (n := by decide) (e := by simp [valT, hT, hy37])
          | false => refine oG (t := by simp only [hT]) (h := ?_); simp [go_sem, EvT, hT, valT, hy37]
        · cases p3 with
          | true => exact opT_s true (t := by simp only [hT]) (n := by decide) (e := by simp [valT, hT, hy38])
          | false => refine oG (t := by simp only [hT]) (h := ?_); simp [go_sem, EvT, hT, valT, hy38, hy37, l3]
        · cases p3 with
          | true => exact opT_s true (t := by simp only [hT]) (n := by decide) (e := by simp [valT, hT, hy39])
          | false => refine oG (t := by simp only [hT]) (h := ?_); simp [go_sem, EvT, hT, valT, hy39, hy38, e4]
        · refine oV ?_; cases p3 <;> simp [go_sem, EvT, hT, valT, hy39, h4]
        · refine oV ?_; simp [go_sem, EvT, hT, valT]
        · cases p4 with
          | true => exact opT_s true (t := by simp only [hT]) (n := by decide) (e := by simp [valT, hT, hy42])
          | false => refine oG (t := by simp only [hT]) (h := ?_); simp [go_sem, EvT, hT, valT, hy42]
        · cases p4 with
          | true => exact opT_s true (t := by simp only [hT]) (n := by decide) (e := by simp [valT, hT, hy43])
          | false => refine oG (t := by simp only [hT]) (h := ?_); simp [go_sem, EvT, hT, valT, hy43, hy42, l4]
        · cases p4 with
          | true => exact opT_s true (t := by simp only [hT]) (n := by decide) (e := by simp [valT, hT, hy44])
          | false => refine oG (t := by simp only [hT]) (h := ?_); simp [go_sem, EvT, hT, valT, hy44, hy43, e5]
        · refine oV ?_; cases p4 <;> simp [go_sem, EvT, hT, valT, hy44, h5]
        · refine oV ?_; simp [go_sem, EvT, hT, valT]
        · cases p5 with
          | true => exact opT_s true (t := by simp only [hT]) (n := by decide) (e := by simp [valT, hT, hy47])
          | false => refine oG (t := by simp only [hT]) (h := ?_); simp [go_sem, EvT, hT, valT, hy47]
        · cases p5 with
          | true => exact opT_s true (t := by simp only [hT]) (n := by decide) (e := by simp [valT, hT, hy48])
          | false => refine oG (t := by simp only [hT]) (h := ?_); simp [go_sem, EvT, hT, valT, hy48, hy47, l4]
        · cases p5 with
          | true => exact opT_s true (t := by simp only [hT]) (n := by decide) (e := by simp [valT, hT, hy49])
          | false => refine oG (t := by simp only [hT]) (h := ?_); simp [go_sem, EvT, hT, valT, hy49, hy48, e6]
        · refine oV ?_; cases p5 <;> simp [go_sem, EvT, hT, valT, hy49, h6]
        · refine oV ?_; simp [go_sem, EvT, hT, valT]
        · cases p6 with
          | true => exact opT_s true (t := by simp only [hT]) (n := by decide) (e := by simp [valT, hT, hy52])
          | false => refine oG (t := by simp only [hT]) (h := ?_); simp [go_sem, EvT, hT, valT, hy52]
        · cases p6 with
          | true => exact opT_s true (t := by simp only [hT]) (n := by decide) (e := by simp [valT, hT, hy53])
          | false => refine oG (t := by simp only [hT]) (h := ?_); simp [go_sem, EvT, hT, valT, hy53, hy52, l5]
        · cases p6 with
          | true => exact opT_s true (t := by simp only [hT]) (n := by decide) (e := by simp [valT, hT, hy54])
          | false => refine oG (t := by simp only [hT]) (h := ?_); simp [go_sem, EvT, hT, valT, hy54, hy53, e7]
        · refine oV ?_; cases p6 <;> simp [go_sem, EvT, hT, valT, hy54, h7]
        · refine oV ?_; simp [go_sem, EvT, hT, valT]
        · cases p7 with
          | true => exact opT_s true (t := by simp only [hT]) (n := by decide) (e := by simp [valT, hT, hy57])
          | false => refine oG (t := by simp only [hT]) (h := ?_); simp [go_sem, EvT, hT, valT, hy57]
        · cases p7 with
          | true => exact opT_s true (t := by simp only [hT]) (n := by decide) (e := by simp [valT, hT, hy58])
          | false => refine oG (t := by simp only [hT]) (h := ?_); simp [go_sem, EvT, hT, valT, hy58, hy57, l5]
        · cases p7 with
          | true => exact opT_s true (t := by simp only [hT]) (n := by decide) (e := by simp [valT, hT, hy59])
          | false => refine oG (t := by simp only [hT]) (h := ?_); simp [go_sem, EvT, hT, valT, hy59, hy58, e8]
        · refine oV ?_; cases p7 <;> simp [go_sem, EvT, hT, valT, hy59, h8]
        · refine oV ?_; simp [go_sem, EvT, hT, valT]
        · cases p8 with
          | true => exact opT_s true (t := by simp only [hT]) (n := by decide) (e := by simp [valT, hT, hy62])
          | false => refine oG (t := by simp only [hT]) (h := ?_); simp [go_sem, EvT, hT, valT, hy62]
        · cases p8 with
          | true => exact opT_s true (t := by simp only [hT]) (n := by decide) (e := by simp [valT, hT, hy63])
          | false => refine oG (t := by simp only [hT]) (h := ?_); simp [go_sem, EvT, hT, valT, hy63, hy62, l6]
        · cases p8 with
          | true => exact opT_s true (t := by simp only [hT]) (n := by decide) (e := by simp [valT, hT, hy64])
          | false => refine oG (t := by simp only [hT]) (h := ?_); simp [go_sem, EvT, hT, valT, hy64, hy63, e9]
        · refine oV ?_; cases p8 <;> simp [go_sem, EvT, hT, valT, hy64, h9]
        · refine oV ?_; simp [go_sem, EvT, hT, valT]
        · cases p9 with
          | true => exact opT_s true (t := by simp only [hT]) (n := by decide) (e := by simp [valT, hT, hy67])
          | false => refine oG (t := by simp only [hT]) (h := ?_); simp [go_sem, EvT, hT, valT, hy67]
        · cases p9 with
          | true => exact opT_s true (t := by simp only [hT]) (n := by decide) (e := by simp [valT, hT, hy68])
          | false => refine oG (t := by simp only [hT]) (h := ?_); simp [go_sem, EvT, hT, valT, hy68, hy67, l6]
        · cases p9 with
          | true => exact opT_s true (t := by simp only [hT]) (n := by decide) (e := by simp [valT, hT, hy69])
          | false => refine oG (t := by simp only [hT]) (h := ?_); simp [go_sem, EvT, hT, valT, hy69, hy68, e10]
        · refine oV ?_; cases p9 <;> simp [go_sem, EvT, hT, valT, hy69, h10]
        · refine oV ?_; simp [go_sem, EvT, hT, valT]
        · cases p10 with
          | true => exact opT_s true (t := by simp only [hT]) (n := by decide) (e := by simp [valT, hT, hy72])
          | false => refine oG (t := by simp only [hT]) (h := ?_); simp [go_sem, EvT, hT, valT, hy72]
        · cases p10 with
          | true => exact opT_s true (t := by simp only [hT]) (n := by decide) (e := by simp [valT, hT, hy73])
          | false => refine oG (t := by simp only [hT]) (h := ?_); simp [go_sem, EvT, hT, valT, hy73, hy72, l7]
        · cases p10 with
          | true => exact opT_s true (t := by simp only [hT]) (n := by decide) (e := by simp [valT, hT, hy74])
          | false => refine oG (t := by simp only [hT]) (h := ?_); simp [go_sem, EvT, hT, valT, hy74, hy73, e11]
        · refine oV ?_; cases p10 <;> simp [go_sem, EvT, hT, valT, hy74, h11]
        · refine oV ?_; simp [go_sem, EvT, hT, valT]
        · cases p11 with
          | true => exact opT_s true (t := by simp only [hT]) (n := by decide) (e := by simp [valT, hT, hy77])
          | false => refine oG (t := by simp only [hT]) (h := ?_); simp [go_sem, EvT, hT, valT, hy77]
        · cases p11 with
          | true => exact opT_s true (t := by simp only [hT]) (n := by decide) (e := by simp [valT, hT, hy78])
          | false => refine oG (t := by simp only [hT]) (h := ?_); simp [go_sem, EvT, hT, valT, hy78, hy77, l7]
        · cases p11 with
          | true => exact opT_s true (t := by simp only [hT]) (n := by decide) (e := by simp [valT, hT, hy79])
          | false => refine oG (t := by simp only [hT]) (h := ?_); simp [go_sem, EvT, hT, valT, hy79, hy78, e12]
        · refine oV ?_; cases p11 <;> simp [go_sem, EvT, hT, valT, hy79, h12]
        · refine oV ?_; simp [go_sem, EvT, hT, valT]
        · cases p12 with
          | true => exact opT_s true (t := by simp only [hT]) (n := by decide) (e := by simp [valT, hT, hy82])
          | false => refine oG (t := by simp only [hT]) (h := ?_); simp [go_sem, EvT, hT, valT, hy82]
        · cases p12 with
          | true => exact opT_s true (t := by simp only [hT]) (n := by decide) (e := by simp [valT, hT, hy83])
          | false => refine oG (t := by simp only [hT]) (h := ?_); simp [go_sem, EvT, hT, valT, hy83, hy82, l8]
        · cases p12 with
          | true => exact opT_s true (t := by simp only [hT]) (n := by decide) (e := by simp [valT, hT, hy84])
          | false => refine oG (t := by simp only [hT]) (h := ?_); simp [go_sem, EvT, hT, valT, hy84, hy83, e13, e13']
        · refine oV ?_; cases p12 <;> simp [go_sem, EvT, hT, valT, hy84, h13]
        · refine oV ?_; simp [go_sem, EvT, hT, valT]
        · cases p13 with
          | true => exact opT_s true (t := by simp only [hT]) (n := by decide) (e := by simp [valT, hT, hy87])
          | false => refine oG (t := by simp only [hT]) (h := ?_); simp [go_sem, EvT, hT, valT, hy87]
        · cases p13 with
          | true => exact opT_s true (t := by simp only [hT]) (n := by decide) (e := by simp [valT, hT, hy88])
          | false => refine oG (t := by simp only [hT]) (h := ?_); simp [go_sem, EvT, hT, valT, hy88, hy87, l8]
        · cases p13 with
          | true => exact opT_s true (t := by simp only [hT]) (n := by decide) (e := by simp [valT, hT, hy89])
          | false => refine oG (t := by simp only [hT]) (h := ?_); simp [go_sem, EvT, hT, valT, hy89, hy88, e14]
        · refine oV ?_; cases p13 <;> simp [go_sem, EvT, hT, valT, hy89, h14]
        · refine oV ?_; simp [go_sem, EvT, hT, valT]
        · cases p14 with
          | true => exact opT_s true (t := by simp only [hT]) (n := by decide) (e := by simp [valT, hT, hy92])
          | false => refine oG (t := by simp only [hT]) (h := ?_); simp [go_sem, EvT, hT, valT, hy92]
        · cases p14 with
          | true => exact opT_s true (t := by simp only [hT]) (n := by decide) (e := by simp [valT, hT, hy93])
          | false => refine oG (t := by simp only [hT]) (h := ?_); simp [go_sem, EvT, hT, valT, hy93, hy92, l8]
        · cases p14 with
          | true => exact opT_s true (t := by simp only [hT]) (n := by decide) (e := by simp [valT, hT, hy94])
          | false => refine oG (t := by simp only [hT]) (h := ?_); simp [go_sem, EvT, hT, valT, hy94, hy93, e15]
        · refine oV ?_; cases p14 <;> simp [go_sem, EvT, hT, valT, hy94, h15]
      intro wx hb
      simp (decide := true) only [List.append, putT, valT, look, Act.put, List.setIfInBounds_toArray, List.set_cons_zero, List.set_cons_succ, Nat.reduceAdd, if_true, if_false]
      have HB2 := Lib.hid (HB1.out.trans (hb.mono HB1.out.size))
      clear hb HX1 HB1 K3 HR h2 h3 h4 h5 h6 h7 h8 h9 h10 h11 h12 h13 h14 h15 hy25 hy26 hy27 hy28 hy29 hy32 hy33 hy34 hy37 hy38 hy39 hy42 hy43 hy44 hy47 hy48 hy49 hy52 hy53 hy54 hy57 hy58 hy59 hy62 hy63 hy64 hy67 hy68 hy69 hy72 hy73 hy74 hy77 hy78 hy79 hy82 hy83 hy84 hy87 hy88 hy89 hy92 hy93 hy94
      cases p15 with
      | true =>
        go_wp2_with fail
        go_ret
        exact ⟨ret_int HE.out.symm, HB2.out⟩
      | false =>
        go_wp2_with fail
        go_ret
        exact ⟨ret_int HE.out.symm, HB2.out⟩
    · have HE : Hid (R = stepsE rises steps) := E.out.trans (if_pos hs)
      have e0 : (stepsE rises steps == 0) = false := beq_eq_false_iff_ne.2 hs
      have e1 : (stepsE rises steps != 0) = true := bne_iff_ne.2 hs
      clear hs E
      go_wp2_with fail
      go_ret
      exact ⟨ret_int HE.out.symm, HB1.out⟩
  · have hb' : bus < 0 ∨ (¬ bus < 0 ∧ n ≤ bus) := by
      simp [inB] at hb
      omega
    have HE : Hid (R = 1) := E.out.trans (if_pos (by simp [hb]))
    clear hb E
    rcases hb' with h | ⟨h1, h2⟩
    · have d1 : decide (bus < 0) = true := decide_eq_true h
      go_wp2_with fail
      go_ret
      exact ⟨ret_int HE.out.symm, HB0.out⟩
    · have d1 : decide (bus < 0) = false := decide_eq_false h1
      have d2 : decide (n ≤ bus) = true := decide_eq_true h2
      go_wp2_with fail
      go_ret
      exact ⟨ret_int HE.out.symm, HB0.out⟩
end Go.Proofs.YtklanoppbbaolaaGreat
