/- Texts in one: FrD, FrE. -/
import Derived.Test.YtkfhpefmmhljmaaGreatDoorF48
set_option linter.unusedVariables false
set_option linter.unusedSimpArgs false
set_option maxHeartbeats 16000000
set_option maxRecDepth 100000
namespace Go.Proofs.YtkfhpefmmhljmaaGreatDoor
open Go.RowKit
set_option maxHeartbeats 8000000
theorem cF (bus mn up down start idle spin on : Int) (steps : List St) (A : Option Addr) (c : Nat) (w : World) (hr : RowR StE 2 w w A steps) (hok : zP rises steps = 0) :
  Calls Tryz.prog 136 #[.agg #[.int .i64 bus, .int .i64 mn, .slice A steps.length c, .int .i64 up, .int .i64 down, .int .i64 start, .int .i64 idle, .int .i64 spin, .int .i64 on]] w fun e w' => e = .returned (.int .i64 (qC steps)) ∧ Below w w w' := by
 have K1 := η fun W h => vE A c steps W h
 have K2 := η fun W h => cE A c steps W h hok
 rw [hok] at K1;have HR := η hr;have HB0 := η ((Below.refl w w).alloc (νr _) (.cells #[.int .i64 bus, .int .i64 mn, .slice A steps.length c, .int .i64 up, .int .i64 down, .int .i64 start, .int .i64 idle, .int .i64 spin, .int .i64 on] 62));have HX0 : Hid (Box (w.alloc (.cells #[.int .i64 bus, .int .i64 mn, .slice A steps.length c, .int .i64 up, .int .i64 down, .int .i64 start, .int .i64 idle, .int .i64 spin, .int .i64 on] 62)) w [.int .i64 bus, .int .i64 mn, .slice A steps.length c, .int .i64 up, .int .i64 down, .int .i64 start, .int .i64 idle, .int .i64 spin, .int .i64 on]) := Box.new w #[.int .i64 bus, .int .i64 mn, .slice A steps.length c, .int .i64 up, .int .i64 down, .int .i64 start, .int .i64 idle, .int .i64 spin, .int .i64 on] _;have hz0 : w < (w.alloc (.cells #[.int .i64 bus, .int .i64 mn, .slice A steps.length c, .int .i64 up, .int .i64 down, .int .i64 start, .int .i64 idle, .int .i64 spin, .int .i64 on] 62)).heap.size := by simp
 clear hr hok;generalize qC steps = qs at *;go_enter Tryz.func136, Tryz.ntmps136;go_wp2_with fail;refine (K1.out _ (HR.out.upto StE.keep HB0.out)).mono ?_;rintro e w1 ⟨rfl, hb1⟩;have HX1 := η (HX0.out.up hb1 hz0);have HB1 := η (HB0.out.trans (hb1.mono (κl hz0)));clear hb1 HX0 HB0 hz0 K1;have q2 := HX1.out.c 2 _ rfl;go_wp2_with fail;refine (K2.out _ (HR.out.upto StE.keep HB1.out)).mono ?_;rintro e w2 ⟨rfl, hb2⟩;have HB2 := βT HB1 hb2;clear hb2;go_wp2_with fail;go_ret;exact ⟨rfl, HB2.out⟩
theorem pT (u : Un) (A : Option Addr) (c : Nat) (n : Int) (w : World) (hr : RowR StE 2 w w A u.steps) :
  Calls Tryz.prog 74 #[.agg #[.int .i64 u.bus, .int .i64 u.min, .slice A u.steps.length c, .int .i64 u.up, .int .i64 u.down, .int .i64 u.start, .int .i64 u.idle, .int .i64 u.spin, .int .i64 u.on], .int .i64 n] w (ErrE w (unitE n u)) := by
 obtain ⟨bus, mn, steps, up, down, start, idle, spin, on⟩ := u;have E : Hid (unitE n ⟨bus, mn, steps, up, down, start, idle, spin, on⟩ = if !inB bus n then 1 else if zP rises steps ≠ 0 then zP rises steps else if vB ⟨bus, mn, steps, up, down, start, idle, spin, on⟩ then 0 else 1) := rfl;generalize unitE n ⟨bus, mn, steps, up, down, start, idle, spin, on⟩ = R at *;dsimp only at hr ⊢;have K1 := η fun W h => vE A c steps W h
 have K2 := η fun W h hok => cF bus mn up down start idle spin on steps A c W h hok
 have HR := η hr;have HB0 := η ((Below.refl w w).alloc (νr _) (.cells #[.int .i64 bus, .int .i64 mn, .slice A steps.length c, .int .i64 up, .int .i64 down, .int .i64 start, .int .i64 idle, .int .i64 spin, .int .i64 on] 62));clear hr;go_enter Tryz.func74, Tryz.ntmps74;by_cases hb : inB bus n = true
 ·have hb' := hb;unfold inB at hb';simp only [κb, κe] at hb';have d1 : decide (bus < 0) = false := κf (by omega);have d2 : decide (n ≤ bus) = false := κf (by omega);replace E : Hid (R = _) := E.out.trans (if_neg (by rw [hb]; simp));clear hb hb';go_wp2_with fail;refine (K1.out _ (HR.out.upto StE.keep ((Below.refl w w).alloc (νr _) _))).mono ?_;rintro e w1 ⟨rfl, hb1⟩;have HX1 : Hid (Box w1 w [.int .i64 bus, .int .i64 mn, .slice A steps.length c, .int .i64 up, .int .i64 down, .int .i64 start, .int .i64 idle, .int .i64 spin, .int .i64 on]) := (Box.new w #[.int .i64 bus, .int .i64 mn, .slice A steps.length c, .int .i64 up, .int .i64 down, .int .i64 start, .int .i64 idle, .int .i64 spin, .int .i64 on] 62).up hb1 (by simp);have HB1 := η (HB0.out.trans (hb1.mono (by simp)));clear hb1 HB0 K1;by_cases hs : zP rises steps = 0
  ·replace E : Hid (R = _) := E.out.trans (if_neg (fun h => h hs));rw [hs];have hlt : w < w1.heap.size := HX1.out.lt (by simp);have K3 := η fun W (hb : Below w1 w1 W) => K2.out W (HR.out.upto StE.keep (HB1.out.trans (hb.mono HB1.out.size))) hs
   have HU : vB ⟨bus, mn, steps, up, down, start, idle, spin, on⟩ = decide (0 ≤ mn ∧ mn ≤ qC steps ∧ 1 ≤ up ∧ up ≤ 6 ∧ 1 ≤ down ∧ down ≤ 6 ∧ 0 ≤ start ∧ start ≤ 1000000000 ∧ 0 ≤ idle ∧ idle ≤ 1000000000 ∧ 0 ≤ spin ∧ spin ≤ 1000000 ∧ on ≠ 0 ∧ -6 ≤ on ∧ on ≤ 6) := by
    rw [Bool.eq_iff_iff];simp [vB, and_assoc]
   rw [HU] at E;clear HU hs K2 d1 d2;generalize qC steps = qs at *;obtain ⟨p1, e1⟩ : ∃ b, decide (mn < 0) = b := ⟨_, rfl⟩;obtain ⟨c2, e2⟩ : ∃ b, decide (qs < mn) = b := ⟨_, rfl⟩;obtain ⟨c3, e3⟩ : ∃ b, decide (up < 1) = b := ⟨_, rfl⟩;obtain ⟨c4, e4⟩ : ∃ b, decide (6 < up) = b := ⟨_, rfl⟩;obtain ⟨c5, e5⟩ : ∃ b, decide (down < 1) = b := ⟨_, rfl⟩;obtain ⟨c6, e6⟩ : ∃ b, decide (6 < down) = b := ⟨_, rfl⟩;obtain ⟨c7, e7⟩ : ∃ b, decide (start < 0) = b := ⟨_, rfl⟩;obtain ⟨c8, e8⟩ : ∃ b, decide (1000000000 < start) = b := ⟨_, rfl⟩;obtain ⟨c9, e9⟩ : ∃ b, decide (idle < 0) = b := ⟨_, rfl⟩;obtain ⟨c10, e10⟩ : ∃ b, decide (1000000000 < idle) = b := ⟨_, rfl⟩;obtain ⟨c11, e11⟩ : ∃ b, decide (spin < 0) = b := ⟨_, rfl⟩;obtain ⟨c12, e12⟩ : ∃ b, decide (1000000 < spin) = b := ⟨_, rfl⟩;obtain ⟨c13, e13⟩ : ∃ b, decide (on = 0) = b := ⟨_, rfl⟩;obtain ⟨c14, e14⟩ : ∃ b, decide (on < -6) = b := ⟨_, rfl⟩;obtain ⟨c15, e15⟩ : ∃ b, decide (6 < on) = b := ⟨_, rfl⟩;obtain ⟨p2, h2⟩ : ∃ b, b = (p1 || c2) := ⟨_, rfl⟩;obtain ⟨p3, h3⟩ : ∃ b, b = (p2 || c3) := ⟨_, rfl⟩;obtain ⟨p4, h4⟩ : ∃ b, b = (p3 || c4) := ⟨_, rfl⟩;obtain ⟨p5, h5⟩ : ∃ b, b = (p4 || c5) := ⟨_, rfl⟩;obtain ⟨p6, h6⟩ : ∃ b, b = (p5 || c6) := ⟨_, rfl⟩;obtain ⟨p7, h7⟩ : ∃ b, b = (p6 || c7) := ⟨_, rfl⟩;obtain ⟨p8, h8⟩ : ∃ b, b = (p7 || c8) := ⟨_, rfl⟩;obtain ⟨p9, h9⟩ : ∃ b, b = (p8 || c9) := ⟨_, rfl⟩;obtain ⟨p10, h10⟩ : ∃ b, b = (p9 || c10) := ⟨_, rfl⟩;obtain ⟨p11, h11⟩ : ∃ b, b = (p10 || c11) := ⟨_, rfl⟩;obtain ⟨p12, h12⟩ : ∃ b, b = (p11 || c12) := ⟨_, rfl⟩;obtain ⟨p13, h13⟩ : ∃ b, b = (p12 || c13) := ⟨_, rfl⟩;obtain ⟨p14, h14⟩ : ∃ b, b = (p13 || c14) := ⟨_, rfl⟩;obtain ⟨p15, h15⟩ : ∃ b, b = (p14 || c15) := ⟨_, rfl⟩;have e13' : (on == 0) = c13 := by rw [← e13, Bool.eq_iff_iff]; simp
   obtain ⟨y25, hy25⟩ : ∃ y, y = (bif p1 then undef else .pointer (some ⟨w, 1, none⟩)) := ⟨_, rfl⟩;obtain ⟨y26, hy26⟩ : ∃ y, y = (bif p1 then undef else .int .i64 mn) := ⟨_, rfl⟩;obtain ⟨y27, hy27⟩ : ∃ y, y = (bif p1 then undef else .agg #[.int .i64 bus, .int .i64 mn, .slice A steps.length c, .int .i64 up, .int .i64 down, .int .i64 start, .int .i64 idle, .int .i64 spin, .int .i64 on]) := ⟨_, rfl⟩;obtain ⟨y28, hy28⟩ : ∃ y, y = (bif p1 then undef else .int .i64 qs) := ⟨_, rfl⟩;obtain ⟨y29, hy29⟩ : ∃ y, y = (bif p1 then undef else .bool c2) := ⟨_, rfl⟩;obtain ⟨y32, hy32⟩ : ∃ y, y = (bif p2 then undef else .pointer (some ⟨w, 3, none⟩)) := ⟨_, rfl⟩;obtain ⟨y33, hy33⟩ : ∃ y, y = (bif p2 then undef else .int .i64 up) := ⟨_, rfl⟩;obtain ⟨y34, hy34⟩ : ∃ y, y = (bif p2 then undef else .bool c3) := ⟨_, rfl⟩;obtain ⟨y37, hy37⟩ : ∃ y, y = (bif p3 then undef else .pointer (some ⟨w, 3, none⟩)) := ⟨_, rfl⟩;obtain ⟨y38, hy38⟩ : ∃ y, y = (bif p3 then undef else .int .i64 up) := ⟨_, rfl⟩;obtain ⟨y39, hy39⟩ : ∃ y, y = (bif p3 then undef else .bool c4) := ⟨_, rfl⟩;obtain ⟨y42, hy42⟩ : ∃ y, y = (bif p4 then undef else .pointer (some ⟨w, 4, none⟩)) := ⟨_, rfl⟩;obtain ⟨y43, hy43⟩ : ∃ y, y = (bif p4 then undef else .int .i64 down) := ⟨_, rfl⟩;obtain ⟨y44, hy44⟩ : ∃ y, y = (bif p4 then undef else .bool c5) := ⟨_, rfl⟩;obtain ⟨y47, hy47⟩ : ∃ y, y = (bif p5 then undef else .pointer (some ⟨w, 4, none⟩)) := ⟨_, rfl⟩;obtain ⟨y48, hy48⟩ : ∃ y, y = (bif p5 then undef else .int .i64 down) := ⟨_, rfl⟩;obtain ⟨y49, hy49⟩ : ∃ y, y = (bif p5 then undef else .bool c6) := ⟨_, rfl⟩;obtain ⟨y52, hy52⟩ : ∃ y, y = (bif p6 then undef else .pointer (some ⟨w, 5, none⟩)) := ⟨_, rfl⟩;obtain ⟨y53, hy53⟩ : ∃ y, y = (bif p6 then undef else .int .i64 start) := ⟨_, rfl⟩;obtain ⟨y54, hy54⟩ : ∃ y, y = (bif p6 then undef else .bool c7) := ⟨_, rfl⟩;obtain ⟨y57, hy57⟩ : ∃ y, y = (bif p7 then undef else .pointer (some ⟨w, 5, none⟩)) := ⟨_, rfl⟩;obtain ⟨y58, hy58⟩ : ∃ y, y = (bif p7 then undef else .int .i64 start) := ⟨_, rfl⟩;obtain ⟨y59, hy59⟩ : ∃ y, y = (bif p7 then undef else .bool c8) := ⟨_, rfl⟩;obtain ⟨y62, hy62⟩ : ∃ y, y = (bif p8 then undef else .pointer (some ⟨w, 6, none⟩)) := ⟨_, rfl⟩;obtain ⟨y63, hy63⟩ : ∃ y, y = (bif p8 then undef else .int .i64 idle) := ⟨_, rfl⟩;obtain ⟨y64, hy64⟩ : ∃ y, y = (bif p8 then undef else .bool c9) := ⟨_, rfl⟩;obtain ⟨y67, hy67⟩ : ∃ y, y = (bif p9 then undef else .pointer (some ⟨w, 6, none⟩)) := ⟨_, rfl⟩;obtain ⟨y68, hy68⟩ : ∃ y, y = (bif p9 then undef else .int .i64 idle) := ⟨_, rfl⟩;obtain ⟨y69, hy69⟩ : ∃ y, y = (bif p9 then undef else .bool c10) := ⟨_, rfl⟩;obtain ⟨y72, hy72⟩ : ∃ y, y = (bif p10 then undef else .pointer (some ⟨w, 7, none⟩)) := ⟨_, rfl⟩;obtain ⟨y73, hy73⟩ : ∃ y, y = (bif p10 then undef else .int .i64 spin) := ⟨_, rfl⟩;obtain ⟨y74, hy74⟩ : ∃ y, y = (bif p10 then undef else .bool c11) := ⟨_, rfl⟩;obtain ⟨y77, hy77⟩ : ∃ y, y = (bif p11 then undef else .pointer (some ⟨w, 7, none⟩)) := ⟨_, rfl⟩;obtain ⟨y78, hy78⟩ : ∃ y, y = (bif p11 then undef else .int .i64 spin) := ⟨_, rfl⟩;obtain ⟨y79, hy79⟩ : ∃ y, y = (bif p11 then undef else .bool c12) := ⟨_, rfl⟩;obtain ⟨y82, hy82⟩ : ∃ y, y = (bif p12 then undef else .pointer (some ⟨w, 8, none⟩)) := ⟨_, rfl⟩;obtain ⟨y83, hy83⟩ : ∃ y, y = (bif p12 then undef else .int .i64 on) := ⟨_, rfl⟩;obtain ⟨y84, hy84⟩ : ∃ y, y = (bif p12 then undef else .bool c13) := ⟨_, rfl⟩;obtain ⟨y87, hy87⟩ : ∃ y, y = (bif p13 then undef else .pointer (some ⟨w, 8, none⟩)) := ⟨_, rfl⟩;obtain ⟨y88, hy88⟩ : ∃ y, y = (bif p13 then undef else .int .i64 on) := ⟨_, rfl⟩;obtain ⟨y89, hy89⟩ : ∃ y, y = (bif p13 then undef else .bool c14) := ⟨_, rfl⟩;obtain ⟨y92, hy92⟩ : ∃ y, y = (bif p14 then undef else .pointer (some ⟨w, 8, none⟩)) := ⟨_, rfl⟩;obtain ⟨y93, hy93⟩ : ∃ y, y = (bif p14 then undef else .int .i64 on) := ⟨_, rfl⟩;obtain ⟨y94, hy94⟩ : ∃ y, y = (bif p14 then undef else .bool c15) := ⟨_, rfl⟩
   have HE : Hid (R = if p15 = true then 1 else 0) := by
    show _ = _
    rw [E.out];have hp : p15 = true ↔ (mn < 0 ∨ qs < mn ∨ up < 1 ∨ 6 < up ∨ down < 1 ∨ 6 < down ∨ start < 0 ∨ 1000000000 < start ∨ idle < 0 ∨ 1000000000 < idle ∨ spin < 0 ∨ 1000000 < spin ∨ on = 0 ∨ on < -6 ∨ 6 < on) := by
     rw [h15, h14, h13, h12, h11, h10, h9, h8, h7, h6, h5, h4, h3, h2, ← e1, ← e2, ← e3, ← e4, ← e5, ← e6, ← e7, ← e8, ← e9, ← e10, ← e11, ← e12, ← e13, ← e14, ← e15];simp only [Bool.or_eq_true, κe, or_assoc]
    by_cases h : p15 = true
    ·have := hp.1 h;rw [if_pos h, if_neg (by simp only [κe]; omega)]
    ·have : ¬ _ := fun x => h (hp.2 x)
     rw [if_neg h, if_pos (by simp only [κe]; omega)]
   clear E;go_wp2_with fail;refine zE (w0 := w1) [(2, .pointer (some ⟨w, 0, none⟩)), (21, .pointer (some ⟨w, 1, none⟩)), (22, .int .i64 mn), (23, .bool p1), (24, .bool p1), (25, y25), (26, y26), (27, y27), (28, y28), (29, y29), (30, .bool p2), (31, .bool p2), (32, y32), (33, y33), (34, y34), (35, .bool p3), (36, .bool p3), (37, y37), (38, y38), (39, y39), (40, .bool p4), (41, .bool p4), (42, y42), (43, y43), (44, y44), (45, .bool p5), (46, .bool p5), (47, y47), (48, y48), (49, y49), (50, .bool p6), (51, .bool p6), (52, y52), (53, y53), (54, y54), (55, .bool p7), (56, .bool p7), (57, y57), (58, y58), (59, y59), (60, .bool p8), (61, .bool p8), (62, y62), (63, y63), (64, y64), (65, .bool p9), (66, .bool p9), (67, y67), (68, y68), (69, y69), (70, .bool p10), (71, .bool p10), (72, y72), (73, y73), (74, y74), (75, .bool p11), (76, .bool p11), (77, y77), (78, y78), (79, y79), (80, .bool p12), (81, .bool p12), (82, y82), (83, y83), (84, y84), (85, .bool p13), (86, .bool p13), (87, y87), (88, y88), (89, y89), (90, .bool p14), (91, .bool p14), (92, y92), (93, y93), (94, y94), (95, .bool p15)] [] [2] ?_ ?_
   ·intro T hT W hI;simp only [zA, and_true] at hT;have HX2 := HX1.out.up hI hlt;have l0 := HX2.c 0 _ rfl;have l1 := HX2.c 1 _ rfl;have l2 := HX2.c 2 _ rfl;have l3 := HX2.c 3 _ rfl;have l4 := HX2.c 4 _ rfl;have l5 := HX2.c 5 _ rfl;have l6 := HX2.c 6 _ rfl;have l7 := HX2.c 7 _ rfl;have l8 := HX2.c 8 _ rfl;have hlW : w < W.heap.size := HX2.lt (by simp);have K4 := K3.out W hI;clear HX2 HX1 HB1 K3 HR HE
    repeat' first | exact AllO.nil | apply AllO.cons
    ·refine oV ?_; simp [go_sem, EvT, hT, valT, l1]
    ·refine oV ?_; simp [go_sem, EvT, hT, valT, l1]
    ·refine oV ?_; simp [go_sem, EvT, hT, valT, e1]
    ·refine oV ?_; simp [go_sem, EvT, hT, valT]
    ·cases p1 with
     | true => exact opT_s true (t := by simp only [hT]) (n := by decide) (e := by simp [valT, hT, hy25])
     | false => refine oG (t := by simp only [hT]) (h := ?_); simp [go_sem, EvT, hT, valT, hy25]
    ·cases p1 with
     | true => exact opT_s true (t := by simp only [hT]) (n := by decide) (e := by simp [valT, hT, hy26])
     | false => refine oG (t := by simp only [hT]) (h := ?_); simp [go_sem, EvT, hT, valT, hy26, hy25, l1]
    ·cases p1 with
     | true => exact opT_s true (t := by simp only [hT]) (n := by decide) (e := by simp [valT, hT, hy27])
     | false => refine oG (t := by simp only [hT]) (h := ?_); simp [go_sem, EvT, hT, valT, hy27, l0, l1, l2, l3, l4, l5, l6, l7, l8]
    ·cases p1 with
     | true => exact opT_s true (t := by simp only [hT]) (n := by decide) (e := by simp [valT, hT, hy28])
     | false => refine opT_g (t := by simp only [hT]) (h := zO 136 #[.agg #[.int .i64 bus, .int .i64 mn, .slice A steps.length c, .int .i64 up, .int .i64 down, .int .i64 start, .int .i64 idle, .int .i64 spin, .int .i64 on]] (by simp [go_sem, EvT, hT, hy27]) ?_); simp only [valT, hT, hy28, cond_false]; exact K4
    ·cases p1 with
     | true => exact opT_s true (t := by simp only [hT]) (n := by decide) (e := by simp [valT, hT, hy29])
     | false => refine oG (t := by simp only [hT]) (h := ?_); simp [go_sem, EvT, hT, valT, hy29, hy26, hy28, e2]
    ·refine oV ?_; cases p1 <;> simp [go_sem, EvT, hT, valT, hy29, h2]
    ·refine oV ?_; simp [go_sem, EvT, hT, valT]
    ·cases p2 with
     | true => exact opT_s true (t := by simp only [hT]) (n := by decide) (e := by simp [valT, hT, hy32])
     | false => refine oG (t := by simp only [hT]) (h := ?_); simp [go_sem, EvT, hT, valT, hy32]
    ·cases p2 with
     | true => exact opT_s true (t := by simp only [hT]) (n := by decide) (e := by simp [valT, hT, hy33])
     | false => refine oG (t := by simp only [hT]) (h := ?_); simp [go_sem, EvT, hT, valT, hy33, hy32, l3]
    ·cases p2 with
     | true => exact opT_s true (t := by simp only [hT]) (n := by decide) (e := by simp [valT, hT, hy34])
     | false => refine oG (t := by simp only [hT]) (h := ?_); simp [go_sem, EvT, hT, valT, hy34, hy33, e3]
    ·refine oV ?_; cases p2 <;> simp [go_sem, EvT, hT, valT, hy34, h3]
    ·refine oV ?_; simp [go_sem, EvT, hT, valT]
    ·cases p3 with
     | true => exact opT_s true (t := by simp only [hT]) (n := by decide) (e := by simp [valT, hT, hy37])
     | false => refine oG (t := by simp only [hT]) (h := ?_); simp [go_sem, EvT, hT, valT, hy37]
    ·cases p3 with
     | true => exact opT_s true (t := by simp only [hT]) (n := by decide) (e := by simp [valT, hT, hy38])
     | false => refine oG (t := by simp only [hT]) (h := ?_); simp [go_sem, EvT, hT, valT, hy38, hy37, l3]
    ·cases p3 with
     | true => exact opT_s true (t := by simp only [hT]) (n := by decide) (e := by simp [valT, hT, hy39])
     | false => refine oG (t := by simp only [hT]) (h := ?_); simp [go_sem, EvT, hT, valT, hy39, hy38, e4]
    ·refine oV ?_; cases p3 <;> simp [go_sem, EvT, hT, valT, hy39, h4]
    ·refine oV ?_; simp [go_sem, EvT, hT, valT]
    ·cases p4 with
     | true => exact opT_s true (t := by simp only [hT]) (n := by decide) (e := by simp [valT, hT, hy42])
     | false => refine oG (t := by simp only [hT]) (h := ?_); simp [go_sem, EvT, hT, valT, hy42]
    ·cases p4 with
     | true => exact opT_s true (t := by simp only [hT]) (n := by decide) (e := by simp [valT, hT, hy43])
     | false => refine oG (t := by simp only [hT]) (h := ?_); simp [go_sem, EvT, hT, valT, hy43, hy42, l4]
    ·cases p4 with
     | true => exact opT_s true (t := by simp only [hT]) (n := by decide) (e := by simp [valT, hT, hy44])
     | false => refine oG (t := by simp only [hT]) (h := ?_); simp [go_sem, EvT, hT, valT, hy44, hy43, e5]
    ·refine oV ?_; cases p4 <;> simp [go_sem, EvT, hT, valT, hy44, h5]
    ·refine oV ?_; simp [go_sem, EvT, hT, valT]
    ·cases p5 with
     | true => exact opT_s true (t := by simp only [hT]) (n := by decide) (e := by simp [valT, hT, hy47])
     | false => refine oG (t := by simp only [hT]) (h := ?_); simp [go_sem, EvT, hT, valT, hy47]
    ·cases p5 with
     | true => exact opT_s true (t := by simp only [hT]) (n := by decide) (e := by simp [valT, hT, hy48])
     | false => refine oG (t := by simp only [hT]) (h := ?_); simp [go_sem, EvT, hT, valT, hy48, hy47, l4]
    ·cases p5 with
     | true => exact opT_s true (t := by simp only [hT]) (n := by decide) (e := by simp [valT, hT, hy49])
     | false => refine oG (t := by simp only [hT]) (h := ?_); simp [go_sem, EvT, hT, valT, hy49, hy48, e6]
    ·refine oV ?_; cases p5 <;> simp [go_sem, EvT, hT, valT, hy49, h6]
    ·refine oV ?_; simp [go_sem, EvT, hT, valT]
    ·cases p6 with
     | true => exact opT_s true (t := by simp only [hT]) (n := by decide) (e := by simp [valT, hT, hy52])
     | false => refine oG (t := by simp only [hT]) (h := ?_); simp [go_sem, EvT, hT, valT, hy52]
    ·cases p6 with
     | true => exact opT_s true (t := by simp only [hT]) (n := by decide) (e := by simp [valT, hT, hy53])
     | false => refine oG (t := by simp only [hT]) (h := ?_); simp [go_sem, EvT, hT, valT, hy53, hy52, l5]
    ·cases p6 with
     | true => exact opT_s true (t := by simp only [hT]) (n := by decide) (e := by simp [valT, hT, hy54])
     | false => refine oG (t := by simp only [hT]) (h := ?_); simp [go_sem, EvT, hT, valT, hy54, hy53, e7]
    ·refine oV ?_; cases p6 <;> simp [go_sem, EvT, hT, valT, hy54, h7]
    ·refine oV ?_; simp [go_sem, EvT, hT, valT]
    ·cases p7 with
     | true => exact opT_s true (t := by simp only [hT]) (n := by decide) (e := by simp [valT, hT, hy57])
     | false => refine oG (t := by simp only [hT]) (h := ?_); simp [go_sem, EvT, hT, valT, hy57]
    ·cases p7 with
     | true => exact opT_s true (t := by simp only [hT]) (n := by decide) (e := by simp [valT, hT, hy58])
     | false => refine oG (t := by simp only [hT]) (h := ?_); simp [go_sem, EvT, hT, valT, hy58, hy57, l5]
    ·cases p7 with
     | true => exact opT_s true (t := by simp only [hT]) (n := by decide) (e := by simp [valT, hT, hy59])
     | false => refine oG (t := by simp only [hT]) (h := ?_); simp [go_sem, EvT, hT, valT, hy59, hy58, e8]
    ·refine oV ?_; cases p7 <;> simp [go_sem, EvT, hT, valT, hy59, h8]
    ·refine oV ?_; simp [go_sem, EvT, hT, valT]
    ·cases p8 with
     | true => exact opT_s true (t := by simp only [hT]) (n := by decide) (e := by simp [valT, hT, hy62])
     | false => refine oG (t := by simp only [hT]) (h := ?_); simp [go_sem, EvT, hT, valT, hy62]
    ·cases p8 with
     | true => exact opT_s true (t := by simp only [hT]) (n := by decide) (e := by simp [valT, hT, hy63])
     | false => refine oG (t := by simp only [hT]) (h := ?_); simp [go_sem, EvT, hT, valT, hy63, hy62, l6]
    ·cases p8 with
     | true => exact opT_s true (t := by simp only [hT]) (n := by decide) (e := by simp [valT, hT, hy64])
     | false => refine oG (t := by simp only [hT]) (h := ?_); simp [go_sem, EvT, hT, valT, hy64, hy63, e9]
    ·refine oV ?_; cases p8 <;> simp [go_sem, EvT, hT, valT, hy64, h9]
    ·refine oV ?_; simp [go_sem, EvT, hT, valT]
    ·cases p9 with
     | true => exact opT_s true (t := by simp only [hT]) (n := by decide) (e := by simp [valT, hT, hy67])
     | false => refine oG (t := by simp only [hT]) (h := ?_); simp [go_sem, EvT, hT, valT, hy67]
    ·cases p9 with
     | true => exact opT_s true (t := by simp only [hT]) (n := by decide) (e := by simp [valT, hT, hy68])
     | false => refine oG (t := by simp only [hT]) (h := ?_); simp [go_sem, EvT, hT, valT, hy68, hy67, l6]
    ·cases p9 with
     | true => exact opT_s true (t := by simp only [hT]) (n := by decide) (e := by simp [valT, hT, hy69])
     | false => refine oG (t := by simp only [hT]) (h := ?_); simp [go_sem, EvT, hT, valT, hy69, hy68, e10]
    ·refine oV ?_; cases p9 <;> simp [go_sem, EvT, hT, valT, hy69, h10]
    ·refine oV ?_; simp [go_sem, EvT, hT, valT]
    ·cases p10 with
     | true => exact opT_s true (t := by simp only [hT]) (n := by decide) (e := by simp [valT, hT, hy72])
     | false => refine oG (t := by simp only [hT]) (h := ?_); simp [go_sem, EvT, hT, valT, hy72]
    ·cases p10 with
     | true => exact opT_s true (t := by simp only [hT]) (n := by decide) (e := by simp [valT, hT, hy73])
     | false => refine oG (t := by simp only [hT]) (h := ?_); simp [go_sem, EvT, hT, valT, hy73, hy72, l7]
    ·cases p10 with
     | true => exact opT_s true (t := by simp only [hT]) (n := by decide) (e := by simp [valT, hT, hy74])
     | false => refine oG (t := by simp only [hT]) (h := ?_); simp [go_sem, EvT, hT, valT, hy74, hy73, e11]
    ·refine oV ?_; cases p10 <;> simp [go_sem, EvT, hT, valT, hy74, h11]
    ·refine oV ?_; simp [go_sem, EvT, hT, valT]
    ·cases p11 with
     | true => exact opT_s true (t := by simp only [hT]) (n := by decide) (e := by simp [valT, hT, hy77])
     | false => refine oG (t := by simp only [hT]) (h := ?_); simp [go_sem, EvT, hT, valT, hy77]
    ·cases p11 with
     | true => exact opT_s true (t := by simp only [hT]) (n := by decide) (e := by simp [valT, hT, hy78])
     | false => refine oG (t := by simp only [hT]) (h := ?_); simp [go_sem, EvT, hT, valT, hy78, hy77, l7]
    ·cases p11 with
     | true => exact opT_s true (t := by simp only [hT]) (n := by decide) (e := by simp [valT, hT, hy79])
     | false => refine oG (t := by simp only [hT]) (h := ?_); simp [go_sem, EvT, hT, valT, hy79, hy78, e12]
    ·refine oV ?_; cases p11 <;> simp [go_sem, EvT, hT, valT, hy79, h12]
    ·refine oV ?_; simp [go_sem, EvT, hT, valT]
    ·cases p12 with
     | true => exact opT_s true (t := by simp only [hT]) (n := by decide) (e := by simp [valT, hT, hy82])
     | false => refine oG (t := by simp only [hT]) (h := ?_); simp [go_sem, EvT, hT, valT, hy82]
    ·cases p12 with
     | true => exact opT_s true (t := by simp only [hT]) (n := by decide) (e := by simp [valT, hT, hy83])
     | false => refine oG (t := by simp only [hT]) (h := ?_); simp [go_sem, EvT, hT, valT, hy83, hy82, l8]
    ·cases p12 with
     | true => exact opT_s true (t := by simp only [hT]) (n := by decide) (e := by simp [valT, hT, hy84])
     | false => refine oG (t := by simp only [hT]) (h := ?_); simp [go_sem, EvT, hT, valT, hy84, hy83, e13, e13']
    ·refine oV ?_; cases p12 <;> simp [go_sem, EvT, hT, valT, hy84, h13]
    ·refine oV ?_; simp [go_sem, EvT, hT, valT]
    ·cases p13 with
     | true => exact opT_s true (t := by simp only [hT]) (n := by decide) (e := by simp [valT, hT, hy87])
     | false => refine oG (t := by simp only [hT]) (h := ?_); simp [go_sem, EvT, hT, valT, hy87]
    ·cases p13 with
     | true => exact opT_s true (t := by simp only [hT]) (n := by decide) (e := by simp [valT, hT, hy88])
     | false => refine oG (t := by simp only [hT]) (h := ?_); simp [go_sem, EvT, hT, valT, hy88, hy87, l8]
    ·cases p13 with
     | true => exact opT_s true (t := by simp only [hT]) (n := by decide) (e := by simp [valT, hT, hy89])
     | false => refine oG (t := by simp only [hT]) (h := ?_); simp [go_sem, EvT, hT, valT, hy89, hy88, e14]
    ·refine oV ?_; cases p13 <;> simp [go_sem, EvT, hT, valT, hy89, h14]
    ·refine oV ?_; simp [go_sem, EvT, hT, valT]
    ·cases p14 with
     | true => exact opT_s true (t := by simp only [hT]) (n := by decide) (e := by simp [valT, hT, hy92])
     | false => refine oG (t := by simp only [hT]) (h := ?_); simp [go_sem, EvT, hT, valT, hy92]
    ·cases p14 with
     | true => exact opT_s true (t := by simp only [hT]) (n := by decide) (e := by simp [valT, hT, hy93])
     | false => refine oG (t := by simp only [hT]) (h := ?_); simp [go_sem, EvT, hT, valT, hy93, hy92, l8]
    ·cases p14 with
     | true => exact opT_s true (t := by simp only [hT]) (n := by decide) (e := by simp [valT, hT, hy94])
     | false => refine oG (t := by simp only [hT]) (h := ?_); simp [go_sem, EvT, hT, valT, hy94, hy93, e15]
    ·refine oV ?_; cases p14 <;> simp [go_sem, EvT, hT, valT, hy94, h15]
   intro wx hb;simp (decide := true) only [List.append, putT, valT, look, Act.put, σi, σo, σs, Nat.reduceAdd, if_true, if_false];have HB2 := βT HB1 hb;clear hb HX1 HB1 K3 HR h2 h3 h4 h5 h6 h7 h8 h9 h10 h11 h12 h13 h14 h15 hy25 hy26 hy27 hy28 hy29 hy32 hy33 hy34 hy37 hy38 hy39 hy42 hy43 hy44 hy47 hy48 hy49 hy52 hy53 hy54 hy57 hy58 hy59 hy62 hy63 hy64 hy67 hy68 hy69 hy72 hy73 hy74 hy77 hy78 hy79 hy82 hy83 hy84 hy87 hy88 hy89 hy92 hy93 hy94;cases p15 with
   | true =>
    go_wp2_with fail;go_ret;exact ⟨zC HE.out.symm, HB2.out⟩
   | false =>
    go_wp2_with fail;go_ret;exact ⟨zC HE.out.symm, HB2.out⟩
  ·have HE : Hid (R = zP rises steps) := E.out.trans (if_pos hs);have e0 : (zP rises steps == 0) = false := βf hs;have e1 : (zP rises steps != 0) = true := βt hs;clear hs E;go_wp2_with fail;go_ret;exact ⟨zC HE.out.symm, HB1.out⟩
 ·have hb' : bus < 0 ∨ (¬ bus < 0 ∧ n ≤ bus) := by
   simp [inB] at hb;omega
  have HE : Hid (R = 1) := E.out.trans (if_pos (by simp [hb]));clear hb E;rcases hb' with h | ⟨h1, h2⟩
  ·have d1 : decide (bus < 0) = true := κt h;go_wp2_with fail;go_ret;exact ⟨zC HE.out.symm, HB0.out⟩
  ·have d1 : decide (bus < 0) = false := κf h1;have d2 : decide (n ≤ bus) = true := κt h2;go_wp2_with fail;go_ret;exact ⟨zC HE.out.symm, HB0.out⟩
set_option maxHeartbeats 8000000
def bidsE (n : Int) (l : List Bd) : Int := if 6 < l.length then 5 else fstE (bidE n) l
theorem pX (l : List Bd) (A : Option Addr) (c : Nat) (n : Int) (w : World) (hr : RowR BdR 2 w w A l) :
  Calls Tryz.prog 137 #[.slice A l.length c, .int .i64 n] w (ErrE w (bidsE n l)) := by
 have HR := η hr;have HB0 := η (Below.refl w w);have E : Hid (bidsE n l = if 6 < l.length then 5 else fstE (bidE n) l) := rfl;generalize bidsE n l = R at *;clear hr;by_cases h6 : 6 < l.length
 ·have HE : Hid (R = 5) := E.out.trans (if_pos h6);have d1 : decide ((6 : Int) < (l.length : Int)) = true := κt (by omega);clear h6 E;go_enter Tryz.func137, Tryz.ntmps137;go_wp2_with fail;go_ret;exact ⟨zC HE.out.symm, HB0.out⟩
 have d1 : decide ((6 : Int) < (l.length : Int)) = false := κf (by omega);replace E : Hid (R = _) := E.out.trans (if_neg h6);have hm : l.length ≤ 6 := by omega
 clear h6;go_enter Tryz.func137, Tryz.ntmps137;go_wp2_with fail;go_loopg [4, 5, 6] l.length (fun g s4 s5 s6 wr => ∃ k : Nat, k + g = l.length ∧ s5 = .int .i64 (k : Int) ∧ fstE (bidE n) l = fstE (bidE n) (l.drop k) ∧ Below w w wr)
 case atStart => exact ⟨0, by omega, rfl, rfl, HB0.out⟩
 case round =>
  clear HB0 d1;obtain ⟨k, hkg, rfl, hs, hb⟩ := hrel;have HS := η hs;have HB := η hb;clear hs hb;cases gk with
  | zero =>
   obtain rfl : k = l.length := by omega
   have HE : Hid (R = 0) := E.out.trans (HS.out.trans (vW _ _));clear hkg HS HR E;go_wp2_with fail
   try rw [κx]
   go_ret;exact ⟨zC HE.out.symm, HB.out⟩
  | succ g =>
   have hk : k < l.length := by omega
   have HG := η hkg;clear hkg;have HS2 : Hid (fstE (bidE n) l = _) := HS.out.trans (xI bd0 hk);obtain ⟨b, off, A', c', rfl, hbl, f0, f1, hrs⟩ := vL HR.out (fun p hp => HB.out.cell hp) k hk;have HRS := η hrs;have HBD : Hid (bidE n (l.getD k bd0) = if !inB (l.getD k bd0).bus n then 1 else zP falls (l.getD k bd0).steps) := rfl;clear hrs HS;generalize bidE n (l.getD k bd0) = bv at *;generalize (l.getD k bd0).bus = bus at *;generalize (l.getD k bd0).steps = steps at *;have K1 := η fun W hr => yE A' c' steps W hr
   by_cases hi : inB bus n = true
   ·have hb' := hi;unfold inB at hb';simp only [κb, κe] at hb';have d1 : decide (bus < 0) = false := κf (by omega);have d2 : decide (n ≤ bus) = false := κf (by omega);replace HBD : Hid (bv = _) := HBD.out.trans (if_neg (by rw [hi]; simp));clear hi hb';go_wp2_with fail;refine (K1.out _ (HRS.out.keep (w' := wr) StE.keep (fun _ _ => rfl) HB.out.size)).mono ?_;rintro e w3 ⟨rfl, hb3⟩;have HB2 := βT HB hb3;clear hb3 K1;by_cases hv : bv = 0
    ·have HF : Hid (fstE (bidE n) l = _) := HS2.out.trans (if_neg (fun hh => hh hv));rw [← HBD.out, hv];clear HS2 hv;go_wp2_with fail;go_roundg g
     case measure => omega
     case rel => exact ⟨k + 1, by have := HG.out; omega, by go_num, HF.out, HB2.out⟩
    ·have HF : Hid (fstE (bidE n) l = bv) := HS2.out.trans (if_pos hv);have HE : Hid (R = bv) := E.out.trans HF.out;rw [← HBD.out];have e0 : (bv == 0) = false := βf hv;have e1 : (bv != 0) = true := βt hv;clear HS2 HF hv HBD E;go_wp2_with fail
     try rw [κx]
     go_ret;exact ⟨zC HE.out.symm, HB2.out⟩
   ·have hb' : bus < 0 ∨ (¬ bus < 0 ∧ n ≤ bus) := by
     simp [inB] at hi;omega
    have hv : bv = 1 := HBD.out.trans (if_pos (by simp [hi]));have HE : Hid (R = 1) := by
     show _ = _
     rw [E.out, HS2.out, if_pos (by rw [hv]; decide), hv]
    clear hi hv HS2 HBD E;rcases hb' with h1 | ⟨h1, h2⟩
    ·have d1 : decide (bus < 0) = true := κt h1;go_wp2_with fail
     try rw [κx]
     go_ret;exact ⟨zC HE.out.symm, HB.out⟩
    ·have d1 : decide (bus < 0) = false := κf h1;have d2 : decide (n ≤ bus) = true := κt h2;go_wp2_with fail
     try rw [κx]
     go_ret;exact ⟨zC HE.out.symm, HB.out⟩
theorem pV (h f : Hr) (A A1 A2 A3 : Option Addr) (c c1 c2 c3 : Nat) (n : Int) (w : World) (hr : RowR BdR 2 w w A h.bids) (hr1 : RowR BdR 2 w w A1 h.real) (hr2 : RowR BdR 2 w w A2 f.bids) :
  Calls Tryz.prog 75 #[.agg #[.slice A h.bids.length c, .slice A1 h.real.length c1, .int .i64 h.need], .agg #[.slice A2 f.bids.length c2, .slice A3 f.real.length c3, .int .i64 f.need], .int .i64 n] w (ErrE w (hourE n f h)) := by
 have HR := η hr;have HR1 := η hr1;have HR2 := η hr2;have E0 : Hid (hourE n f h = if bidsE n h.bids ≠ 0 then bidsE n h.bids
  else if h.real.length ≠ h.bids.length then 3
  else if fstE realE (h.real.zip h.bids) ≠ 0 then fstE realE (h.real.zip h.bids)
  else if h.need < 0 ∨ 1000000 < h.need then 1
  else if h.bids.length ≠ f.bids.length then 3
  else fstE busNe (h.bids.zip f.bids)) := by
  show _ = _
  unfold hourE bidsE;by_cases h6 : 6 < h.bids.length
  ·simp [h6]
  ·simp [h6]
 have HL6 : Hid (bidsE n h.bids = 0 → h.bids.length ≤ 6) := fun hh => by
  unfold bidsE at hh;by_cases h6 : 6 < h.bids.length
  ·rw [if_pos h6] at hh; cases hh
  ·omega
 have KB := η fun W hr => pX h.bids A c n W hr
 have KF := η fun A c l W hr => yE A c l W hr
 generalize hourE n f h = R at *;generalize bidsE n h.bids = be at *;have HB0 := η (pM w (.cells #[.slice A h.bids.length c, .slice A1 h.real.length c1, .int .i64 h.need] 49) (.cells #[.slice A2 f.bids.length c2, .slice A3 f.real.length c3, .int .i64 f.need] 49));have HXh : Hid (Box ((w.alloc (.cells #[.slice A h.bids.length c, .slice A1 h.real.length c1, .int .i64 h.need] 49)).alloc (.cells #[.slice A2 f.bids.length c2, .slice A3 f.real.length c3, .int .i64 f.need] 49)) w [.slice A h.bids.length c, .slice A1 h.real.length c1, .int .i64 h.need]) := (Box.new w #[.slice A h.bids.length c, .slice A1 h.real.length c1, .int .i64 h.need] 49).alloc (by simp) _;have HXf : Hid (Box ((w.alloc (.cells #[.slice A h.bids.length c, .slice A1 h.real.length c1, .int .i64 h.need] 49)).alloc (.cells #[.slice A2 f.bids.length c2, .slice A3 f.real.length c3, .int .i64 f.need] 49)) (w + 1) [.slice A2 f.bids.length c2, .slice A3 f.real.length c3, .int .i64 f.need]) := by
  have := Box.new (w.alloc (.cells #[.slice A h.bids.length c, .slice A1 h.real.length c1, .int .i64 h.need] 49)) #[.slice A2 f.bids.length c2, .slice A3 f.real.length c3, .int .i64 f.need] 49;show Box _ _ _
  simpa using this
 clear hr hr1 hr2;go_enter Tryz.func75, Tryz.ntmps75;go_wp2_with fail;refine (KB.out _ (HR.out.upto BdR.keep HB0.out)).mono ?_;rintro e wr ⟨rfl, hb⟩;have HB : Hid (Below w w wr) := HB0.out.trans (hb.mono (by simp; omega));have HXh1 := η (HXh.out.up hb (by simp; omega));have HXf1 := η (HXf.out.up hb (by simp));clear hb HXh HXf HB0 KB;obtain ⟨q0, s0, q1, s1, q2, s2⟩ := sqX3 HXh1.out;obtain ⟨g0, y0, g1, y1, g2, y2⟩ := sqX3 HXf1.out;clear s0 s1 s2 y0 y1 y2;by_cases hbe : be = 0
 case neg =>
  have HE : Hid (R = be) := E0.out.trans (if_pos hbe);have e0 : (be == 0) = false := βf hbe;have e1 : (be != 0) = true := βt hbe;clear hbe E0;go_wp2_with fail;go_ret;exact ⟨zC HE.out.symm, HB.out⟩
 have E : Hid (R = _) := E0.out.trans (if_neg (fun hh => hh hbe));have hl1 : h.bids.length ≤ 6 := HL6.out hbe;subst hbe;clear E0 HL6;by_cases hlen : h.real.length = h.bids.length
 case neg =>
  have HE : Hid (R = 3) := E.out.trans (if_pos hlen);have e1 : ((h.real.length : Int) != (h.bids.length : Int)) = true := βt (by omega);clear hlen E;go_wp2_with fail;go_ret;exact ⟨zC HE.out.symm, HB.out⟩
 replace E : Hid (R = _) := E.out.trans (if_neg (fun hh => hh hlen));have e1 : ((h.real.length : Int) != (h.bids.length : Int)) = false := by rw [hlen]; simp
 have HLN := η hlen;have hl2 : h.real.length ≤ 6 := by omega
 clear hlen;obtain ⟨wo, rfl⟩ : ∃ wo : World, wo = wr := ⟨_, rfl⟩;go_wp2_with fail;clear e1;go_loopg [6, 7, 8] h.real.length (fun g s6 s7 s8 wx => ∃ k : Nat, k + g = h.real.length ∧ s8 = .int .i64 (k : Int) ∧ fstE realE (h.real.zip h.bids) = fstE realE ((h.real.zip h.bids).drop k) ∧ Below (w + 2) wo wx)
 case atStart => exact ⟨0, by omega, rfl, rfl, Below.refl _ _⟩
 case round =>
  obtain ⟨k, hkg, rfl, hs, hb⟩ := hrel;have HB2 : Hid (Below w w wr) := HB.out.trans (hb.mono (by omega));have HXh2 := η (HXh1.out.up hb (by omega));have HXf2 := η (HXf1.out.up hb (by omega));have hlth : w < wr.heap.size := HXh2.out.lt (by simp);have HBO := η hb;have HS := η hs;clear hs hb q0 q1 q2 g0 g1 g2;obtain ⟨q0, s0, q1, s1, q2, s2⟩ := sqX3 HXh2.out;obtain ⟨g0, y0, g1, y1, g2, y2⟩ := sqX3 HXf2.out;clear s0 s1 s2 y0 y1 y2;cases gk with
  | succ g =>
   have hk : k < h.real.length := by omega
   have HG := η hkg;clear hkg;have hkb : k < h.bids.length := by have := HLN.out; omega
   have hkz : k < (h.real.zip h.bids).length := by rw [List.length_zip]; omega
   have HS2 : Hid (fstE realE (h.real.zip h.bids) = if realE (h.real.getD k bd0, h.bids.getD k bd0) ≠ 0 then realE (h.real.getD k bd0, h.bids.getD k bd0) else fstE realE ((h.real.zip h.bids).drop (k + 1))) := by
    show _ = _
    rw [HS.out, xI (bd0, bd0) hkz, yV _ _ _ hk hkb]
   obtain ⟨b, off, A', c', rfl, hbl, f0, f1, hrs⟩ := vL HR1.out (fun p hp => HB2.out.cell hp) k hk;obtain ⟨b', off', A'', c'', rfl, hbl', f2, f3, _⟩ := vL HR.out (fun p hp => HB2.out.cell hp) k hkb;have HRS := η hrs;have HBD : Hid (realE (h.real.getD k bd0, h.bids.getD k bd0) = if (h.real.getD k bd0).bus ≠ (h.bids.getD k bd0).bus then 3 else zP falls (h.real.getD k bd0).steps) := rfl;clear hrs HS f3;generalize realE (h.real.getD k bd0, h.bids.getD k bd0) = bv at *;generalize (h.real.getD k bd0).bus = bus at *;generalize (h.bids.getD k bd0).bus = bush at *;generalize (h.real.getD k bd0).steps = steps at *;have K1 := η fun W hr => KF.out A' c' steps W hr
   have hkr : (k : Int) < (h.real.length : Int) := by omega
   have hkl : (k : Int) < (h.bids.length : Int) := by omega
   have hbl2 : b' < wr := νl hbl' HB2.out.size;have hbl1 : b < wr := νl hbl HB2.out.size;obtain ⟨nb, hnb⟩ : ∃ x, (bus != bush) = x := ⟨_, rfl⟩;go_wp2_with fail;refine zE (w0 := wr) [(3, .pointer (some ⟨w, 0, none⟩)), (8, .int .i64 (k : Int)), (31, .pointer (some ⟨w, 1, none⟩)), (32, .slice (some ⟨b, off, none⟩) h.real.length c1), (33, .int .i64 (k : Int)), (34, .pointer (some ⟨b, off + k * 2, none⟩)), (35, .pointer (some ⟨b, off + k * 2, none⟩)), (36, .int .i64 bus), (37, .pointer (some ⟨w, 0, none⟩)), (38, .slice (some ⟨b', off', none⟩) h.bids.length c), (39, .int .i64 (k : Int)), (40, .pointer (some ⟨b', off' + k * 2, none⟩)), (41, .pointer (some ⟨b', off' + k * 2, none⟩)), (42, .int .i64 bush), (43, .bool nb)] [] [3, 8] ?_ ?_
   ·intro T hT W hI;simp only [zA, and_true] at hT;have l0 := (hI.cell (p := ⟨w, 0, none⟩) hlth).trans q0;have l1 := (hI.cell (p := ⟨w, 1, none⟩) hlth).trans q1;have F0 := (hI.cell (p := ⟨b, off + k * 2, none⟩) hbl1).trans f0;have F2 := (hI.cell (p := ⟨b', off' + k * 2, none⟩) hbl2).trans f2
    repeat' first | exact AllO.nil | apply AllO.cons
    all_goals try ((first | refine oV ?_ | refine oN ?_ | refine oG (t := by simp only [hT]) (h := ?_)); simp [go_sem, EvT, hT, l0, l1, F0, F2, hkr, hkl, hnb, valT]; done)
   intro wx hbx;simp (decide := true) only [putT, valT, look, Act.put, σi, σo, σs, Nat.reduceAdd, if_true, if_false];have HB4 := βT HB2 hbx;have HBO4 := η (HBO.out.trans (hbx.mono (by have := HXf2.out.lt (by simp); omega)));have HX4 := η (HXh2.out.up hbx hlth);have f1' := (hbx.cell (p := ⟨b, off + k * 2 + 1, none⟩) hbl1).trans f1;have hlt4 : w < wx.heap.size := HX4.out.lt (by simp);have hbl4 : b < wx := νl hbl1 hbx.size;clear hbx f0 f1 f2 q0 q1 q2 g0 g1 g2;have q1 := HX4.out.c 1 _ rfl;by_cases hi : bus = bush
   ·obtain rfl : nb = false := by rw [← hnb, hi]; simp
    replace HBD : Hid (bv = _) := HBD.out.trans (if_neg (fun hh => hh hi));clear hi hnb;go_wp2_with fail;refine (K1.out _ (HRS.out.keep (w' := wx) StE.keep (fun p hp => (HB4.out.cell hp).trans (HB2.out.cell hp).symm) HB4.out.size)).mono ?_;rintro e w4 ⟨rfl, hb4⟩;have HB5 := βT HB4 hb4;have HBO5 := η (HBO4.out.trans (hb4.mono (by have := HXf1.out.lt (by simp); have := HBO4.out.size; omega)));clear hb4 K1;by_cases hv : bv = 0
    ·have HF : Hid (fstE realE (h.real.zip h.bids) = _) := HS2.out.trans (if_neg (fun hh => hh hv));rw [← HBD.out, hv];clear HS2 hv;go_wp2_with fail;go_roundg g
     case measure => omega
     case rel => exact ⟨k + 1, by have := HG.out; omega, by go_num, HF.out, HBO5.out⟩
    ·have HF : Hid (fstE realE (h.real.zip h.bids) = bv) := HS2.out.trans (if_pos hv);have HE : Hid (R = bv) := E.out.trans (by rw [HF.out, if_pos hv]);rw [← HBD.out];have e0 : (bv == 0) = false := βf hv;have e1 : (bv != 0) = true := βt hv;clear HS2 HF hv HBD E;go_wp2_with fail
     try rw [κx]
     go_ret;exact ⟨zC HE.out.symm, HB5.out⟩
   ·obtain rfl : nb = true := by rw [← hnb]; exact βt hi
    have hv : bv = 3 := HBD.out.trans (if_pos hi);have HF : Hid (fstE realE (h.real.zip h.bids) = 3) := by
     show _ = _
     rw [HS2.out, if_pos (by rw [hv]; decide), hv]
    have HE : Hid (R = 3) := E.out.trans (by rw [HF.out]; rfl);clear hi hv HS2 HF HBD E hnb;go_wp2_with fail
    try rw [κx]
    go_ret;exact ⟨zC HE.out.symm, HB4.out⟩
  | zero =>
   obtain rfl : k = h.real.length := by omega
   have h0 : fstE realE (h.real.zip h.bids) = 0 := by
    have e := HS.out;rwa [List.drop_eq_nil_of_le (by rw [List.length_zip]; omega)] at e
   replace E : Hid (R = _) := E.out.trans (if_neg (fun hh => hh h0));clear hkg h0 HS;by_cases hn : h.need < 0 ∨ 1000000 < h.need
   ·have HE : Hid (R = 1) := E.out.trans (if_pos hn);clear E;have hn' : decide (h.need < 0) = true ∨ (decide (h.need < 0) = false ∧ decide (1000000 < h.need) = true) := by
     by_cases hh : h.need < 0
     ·exact .inl (κt hh)
     ·exact .inr ⟨κf hh, κt (by omega)⟩
    clear hn;rcases hn' with d1 | ⟨d1, d2⟩
    all_goals
     go_wp2_with fail;go_ret;exact ⟨zC HE.out.symm, HB2.out⟩
   replace E : Hid (R = _) := E.out.trans (if_neg hn);have d1 : decide (h.need < 0) = false := κf (by omega);have d2 : decide (1000000 < h.need) = false := κf (by omega);clear hn;by_cases hlf : h.bids.length = f.bids.length
   case neg =>
    have HE : Hid (R = 3) := E.out.trans (if_pos hlf);have e1 : ((h.bids.length : Int) != (f.bids.length : Int)) = true := βt (by omega);clear hlf E;go_wp2_with fail;go_ret;exact ⟨zC HE.out.symm, HB2.out⟩
   replace E : Hid (R = _) := E.out.trans (if_neg (fun hh => hh hlf));have HLF := η hlf;have e1 : ((h.bids.length : Int) != (f.bids.length : Int)) = false := by rw [hlf]; simp
   obtain ⟨wy, rfl⟩ : ∃ wy : World, wy = wr := ⟨_, rfl⟩;clear hlf;go_wp2_with fail;clear e1 d1 d2;go_loopg [6, 9] h.bids.length (fun g s6 s9 wx => ∃ k : Nat, k + g = h.bids.length ∧ s9 = .int .i64 (k : Int) ∧ fstE busNe (h.bids.zip f.bids) = fstE busNe ((h.bids.zip f.bids).drop k) ∧ Below (w + 2) wy wx)
   case atStart => exact ⟨0, by omega, rfl, rfl, Below.refl _ _⟩
   case round =>
    obtain ⟨k, hkg, rfl, hs, hb⟩ := hrel;have HB3 : Hid (Below w w wr) := HB2.out.trans (hb.mono (by omega));have HXh3 := η (HXh2.out.up hb (by omega));have HXf3 := η (HXf2.out.up hb (by omega));have hlth3 : w < wr.heap.size := HXh3.out.lt (by simp);have hltf3 : w + 1 < wr.heap.size := HXf3.out.lt (by simp);have HBO3 := η hb;have HS := η hs;clear hs hb q0 q1 q2 g0 g1 g2;obtain ⟨q0, s0, q1, s1, q2, s2⟩ := sqX3 HXh3.out;obtain ⟨g0, y0, g1, y1, g2, y2⟩ := sqX3 HXf3.out;clear s0 s1 s2 y0 y1 y2;cases gk with
    | zero =>
     obtain rfl : k = h.bids.length := by omega
     have h0 : fstE busNe (h.bids.zip f.bids) = 0 := by
      have e := HS.out;rwa [List.drop_eq_nil_of_le (by rw [List.length_zip]; omega)] at e
     have HE : Hid (R = 0) := E.out.trans h0;clear hkg h0 HS E;go_wp2_with fail
     try rw [κx]
     go_ret;exact ⟨zC HE.out.symm, HB3.out⟩
    | succ g =>
     have hk : k < h.bids.length := by omega
     have HG := η hkg;clear hkg;have hkf : k < f.bids.length := by have := HLF.out; omega
     have hkz : k < (h.bids.zip f.bids).length := by rw [List.length_zip]; omega
     have HS2 : Hid (fstE busNe (h.bids.zip f.bids) = if busNe (h.bids.getD k bd0, f.bids.getD k bd0) ≠ 0 then busNe (h.bids.getD k bd0, f.bids.getD k bd0) else fstE busNe ((h.bids.zip f.bids).drop (k + 1))) := by
      show _ = _
      rw [HS.out, xI (bd0, bd0) hkz, yV _ _ _ hk hkf]
     obtain ⟨b, off, A', c', rfl, hbl, f0, f1, _⟩ := vL HR.out (fun p hp => HB3.out.cell hp) k hk;obtain ⟨b', off', A'', c'', rfl, hbl', f2, f3, _⟩ := vL HR2.out (fun p hp => HB3.out.cell hp) k hkf;have HBD : Hid (busNe (h.bids.getD k bd0, f.bids.getD k bd0) = if (h.bids.getD k bd0).bus ≠ (f.bids.getD k bd0).bus then 3 else 0) := rfl;clear HS f3 f1;generalize busNe (h.bids.getD k bd0, f.bids.getD k bd0) = bv at *;generalize (h.bids.getD k bd0).bus = bus at *;generalize (f.bids.getD k bd0).bus = bush at *;have hkr : (k : Int) < (h.bids.length : Int) := by omega
     have hkl : (k : Int) < (f.bids.length : Int) := by omega
     have hbl2 : b' < wr := νl hbl' HB3.out.size;have hbl1 : b < wr := νl hbl HB3.out.size;obtain ⟨nb, hnb⟩ : ∃ x, (bus != bush) = x := ⟨_, rfl⟩;go_wp2_with fail;refine zE (w0 := wr) [(3, .pointer (some ⟨w, 0, none⟩)), (4, .pointer (some ⟨(w + 1), 0, none⟩)), (9, .int .i64 (k : Int)), (76, .pointer (some ⟨w, 0, none⟩)), (77, .slice (some ⟨b, off, none⟩) h.bids.length c), (78, .int .i64 (k : Int)), (79, .pointer (some ⟨b, off + k * 2, none⟩)), (80, .pointer (some ⟨b, off + k * 2, none⟩)), (81, .int .i64 bus), (82, .pointer (some ⟨(w + 1), 0, none⟩)), (83, .slice (some ⟨b', off', none⟩) f.bids.length c2), (84, .int .i64 (k : Int)), (85, .pointer (some ⟨b', off' + k * 2, none⟩)), (86, .pointer (some ⟨b', off' + k * 2, none⟩)), (87, .int .i64 bush), (88, .bool nb)] [] [3, 4, 9] ?_ ?_
     ·intro T hT W hI;simp only [zA, and_true] at hT;have l0 := (hI.cell (p := ⟨w, 0, none⟩) hlth3).trans q0;have l1 := (hI.cell (p := ⟨w + 1, 0, none⟩) hltf3).trans g0;have F0 := (hI.cell (p := ⟨b, off + k * 2, none⟩) hbl1).trans f0;have F2 := (hI.cell (p := ⟨b', off' + k * 2, none⟩) hbl2).trans f2
      repeat' first | exact AllO.nil | apply AllO.cons
      all_goals try ((first | refine oV ?_ | refine oN ?_ | refine oG (t := by simp only [hT]) (h := ?_)); simp [go_sem, EvT, hT, l0, l1, F0, F2, hkr, hkl, hnb, valT]; done)
     intro wx hbx;simp (decide := true) only [putT, valT, look, Act.put, σi, σo, σs, Nat.reduceAdd, if_true, if_false];have HB4 := βT HB3 hbx;have HBO4 := η (HBO3.out.trans (hbx.mono (by omega)));clear hbx f0 f2 q0 q1 q2 g0 g1 g2;by_cases hi : bus = bush
     ·obtain rfl : nb = false := by rw [← hnb, hi]; simp
      have hv : bv = 0 := HBD.out.trans (if_neg (fun hh => hh hi));have HF : Hid (fstE busNe (h.bids.zip f.bids) = _) := HS2.out.trans (if_neg (fun hh => hh hv));clear hi hnb hv HS2 HBD;go_wp2_with fail;go_roundg g
      case measure => omega
      case rel => exact ⟨k + 1, by have := HG.out; omega, by go_num, HF.out, HBO4.out⟩
     ·obtain rfl : nb = true := by rw [← hnb]; exact βt hi
      have hv : bv = 3 := HBD.out.trans (if_pos hi);have HE : Hid (R = 3) := by
       show _ = _
       rw [E.out, HS2.out, if_pos (by rw [hv]; decide), hv]
      clear hi hv HS2 HBD E hnb;go_wp2_with fail
      try rw [κx]
      go_ret;exact ⟨zC HE.out.symm, HB4.out⟩
end Go.Proofs.YtkfhpefmmhljmaaGreatDoor
