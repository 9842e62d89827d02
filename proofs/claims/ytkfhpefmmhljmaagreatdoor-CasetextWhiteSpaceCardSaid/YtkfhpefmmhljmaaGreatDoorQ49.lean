/- Texts in one: SmE, SmF. -/
import Derived.Test.YtkfhpefmmhljmaaGreatDoorQ48
import Derived.Test.YtkfhpefmmhljmaaGreatDoorQ19
set_option linter.unusedVariables false
set_option linter.unusedSimpArgs false
set_option maxRecDepth 100000
/- SmE -/
namespace Go.Proofs.YtkfhpefmmhljmaaGreatDoor
open Go.RowKit
set_option maxRecDepth 100000
theorem RowR.hour1 (w : World) : RowR HrR 3 (w.alloc (.cells #[.slice none 0 0, .slice none 0 0, .int .i64 0] 49)) (w.alloc (.cells #[.slice none 0 0, .slice none 0 0, .int .i64 0] 49)).heap.size (some ⟨w.heap.size, 0, none⟩) [⟨[], [], 0⟩] := by
 refine ⟨[[.slice none 0 0, .slice none 0 0, .int .i64 0]], rfl, fun c hc => by simp at hc; subst hc; rfl, fun i c x hc hx => ?_, fun _ => ⟨_, 0, rfl, by simp, fun i j c v hc hv => ?_⟩⟩
 ·rcases i with _ | i
  ·simp at hc hx;subst hc;subst hx;exact ⟨none, 0, none, 0, rfl, Nat.le_refl _, Nat.le_refl _, RowR.nil_, RowR.nil_⟩
  ·simp at hx
 ·rcases i with _ | i
  ·simp at hc;subst hc;rw [cell_alloc_at _ _ _ _ _ rfl];simpa using hv
  ·simp at hc
set_option maxHeartbeats 8000000 in
theorem awake_any (w : World) (ht : TabW w) : Calls Tryz.prog 10 #[] w (BoolE true w) := by
 have HT := Lib.hid ht;clear ht;have KP := Lib.hid (parseC_any smallT w (slok_no (by decide +kernel)) (by decide +kernel));have KF := Lib.hid (fun W (hT : TabW W) => fcase_any x1 none none (some ⟨W.heap.size, 0, none⟩) none none 0 0 1 0 0 (W.alloc (.cells #[.slice none 0 0, .slice none 0 0, .int .i64 0] 49)) RowR.nil_ RowR.nil_ (RowR.hour1 W) RowR.nil_ RowR.nil_ (by decide) (by decide) (hT.below ((Below.refl _ _).alloc (Nat.le_refl _) _)));rw [small_fmt] at KF;rw [small_eq] at KP;have KR0 := Lib.hid (fun W => rejected_any [40, 99, 97, 115, 101, 32, 40, 110, 101, 116, 32, 49, 41, 32, 40, 117, 110, 105, 116, 115, 41, 32, 40, 104, 111, 117, 114, 115, 41, 32, 40, 111, 117, 116, 97, 103, 101, 115, 41, 32, 40, 114, 105, 103, 104, 116, 115, 41, 41] 4 W (slok_no (by decide +kernel)) (by decide +kernel) (by kernel_rfl) (by decide));have KR1 := Lib.hid (fun W => rejected_any [40, 99, 97, 115, 101] 4 W (slok_no (by decide +kernel)) (by decide +kernel) (by kernel_rfl) (by decide));have KR2 := Lib.hid (fun W => rejected_any [40, 99, 97, 115, 101, 32, 40, 110, 101, 116, 32, 49, 41, 32, 40, 117, 110, 105, 116, 115, 41, 32, 40, 104, 111, 117, 114, 115, 32, 40, 104, 111, 117, 114, 32, 48, 32, 40, 98, 105, 100, 115, 41, 32, 40, 114, 101, 97, 108, 41, 41, 41, 32, 40, 111, 117, 116, 97, 103, 101, 115, 41, 32, 40, 114, 105, 103, 104, 116, 115, 32, 40, 114, 105, 103, 104, 116, 32, 48, 32, 49, 32, 53, 41, 41, 41] 1 W (slok_no (by decide +kernel)) (by decide +kernel) (by kernel_rfl) (by decide));have KR3 := Lib.hid (fun W => rejected_any [40, 99, 97, 115, 101, 32, 40, 110, 101, 116, 32, 49, 41, 32, 40, 117, 110, 105, 116, 115, 41, 32, 40, 104, 111, 117, 114, 115, 32, 40, 104, 111, 117, 114, 32, 48, 32, 40, 98, 105, 100, 115, 41, 32, 40, 114, 101, 97, 108, 41, 41, 41, 32, 40, 111, 117, 116, 97, 103, 101, 115, 41, 32, 40, 114, 105, 103, 104, 116, 115, 41, 41, 32, 120] 6 W (slok_no (by decide +kernel)) (by decide +kernel) (by kernel_rfl) (by decide));go_enter Tryz.func10, Tryz.ntmps10;go_wp2_with fail;refine KP.out.mono ?_;rintro e w1 ⟨hb1, cells, er', rfl, hcs, hER⟩;obtain rfl : er' = 0 := by rcases hER with ⟨_, h⟩ | ⟨h, _⟩; exact h; exact absurd h (by decide)
 obtain ⟨A1, c1, A2, c2, A3, c3, A4, c4, A5, c5, hcc⟩ : ∃ A1 c1 A2 c2 A3 c3 A4 c4 A5 c5, cells = [.int .i64 1, .slice A1 0 c1, .slice A2 0 c2, .slice A3 1 c3, .slice A4 0 c4, .slice A5 0 c5] := hcs.form;subst hcc;have HC1 := Lib.hid hcs;have HB1 := Lib.hid hb1;clear hcs hb1 hER KP;have HX2 : Hid (Box (w1.alloc (.cells #[.int .i64 1, .slice A1 0 c1, .slice A2 0 c2, .slice A3 1 c3, .slice A4 0 c4, .slice A5 0 c5] 30)) w1.heap.size [.int .i64 1, .slice A1 0 c1, .slice A2 0 c2, .slice A3 1 c3, .slice A4 0 c4, .slice A5 0 c5]) := Box.new w1 #[.int .i64 1, .slice A1 0 c1, .slice A2 0 c2, .slice A3 1 c3, .slice A4 0 c4, .slice A5 0 c5] 30;have HB2 : Hid (Below w.heap.size w (w1.alloc (.cells #[.int .i64 1, .slice A1 0 c1, .slice A2 0 c2, .slice A3 1 c3, .slice A4 0 c4, .slice A5 0 c5] 30))) := HB1.out.alloc HB1.out.size _;have HC2 := Lib.hid (CsO.own.up HC1.out (w' := (w1.alloc (.cells #[.int .i64 1, .slice A1 0 c1, .slice A2 0 c2, .slice A3 1 c3, .slice A4 0 c4, .slice A5 0 c5] 30))) ((Below.refl _ _).alloc (Nat.le_refl _) _));have hz2 : w1.heap.size < (w1.alloc (.cells #[.int .i64 1, .slice A1 0 c1, .slice A2 0 c2, .slice A3 1 c3, .slice A4 0 c4, .slice A5 0 c5] 30)).heap.size := by simp
 have KF2 := Lib.hid (KF.out (w1.alloc (.cells #[.int .i64 1, .slice A1 0 c1, .slice A2 0 c2, .slice A3 1 c3, .slice A4 0 c4, .slice A5 0 c5] 30)) (HT.out.below HB2.out));clear HC1 HB1 KF;go_upto_region 2 with fail
 generalize (w1.alloc (.cells #[.int .i64 1, .slice A1 0 c1, .slice A2 0 c2, .slice A3 1 c3, .slice A4 0 c4, .slice A5 0 c5] 30)) = w2 at *;go_wp2_with fail;refine KF2.out.mono ?_;rintro e w3 ⟨rfl, hb3⟩;have hz3 : w1.heap.size < w3.heap.size := Nat.lt_of_lt_of_le (by simp; omega) hb3.size;have HX3 := Lib.hid ((HX2.out.alloc hz2 (.cells #[.slice none 0 0, .slice none 0 0, .int .i64 0] 49)).up hb3 (by simp; omega));have HB3 := Lib.hid ((HB2.out.alloc HB2.out.size (.cells #[.slice none 0 0, .slice none 0 0, .int .i64 0] 49)).trans (hb3.mono (by have := HB2.out.size; simp; omega)));have HC3 := Lib.hid (CsO.own.up (CsO.own.up HC2.out ((Below.refl _ _).alloc (Nat.le_refl _) (.cells #[.slice none 0 0, .slice none 0 0, .int .i64 0] 49))) hb3);clear hb3 HX2 HB2 HC2 KF2;obtain ⟨q0, s0, q1, s1, q2, s2, q3, s3, q4, s4, q5, s5⟩ := sqX6 HX3.out;obtain ⟨B1, e1, B2, e2, B3, e3, B4, e4, B5, e5, hce, r1, r2, r3, r4, r5⟩ := (CsO.own.up HC3.out (w' := (w3.alloc (.cells #[.slice none 0 0, .slice none 0 0, .int .i64 0] 49))) ((Below.refl _ _).alloc (Nat.le_refl _) _)).read;injection hce with g0 hce; clear g0; injection hce with g1 hce; injection hce with g2 hce; injection hce with g3 hce; injection hce with g4 hce; injection hce with g5 hce; clear hce
 injection g1 with a1 m1 b1; subst a1; subst b1; clear m1
 injection g2 with a2 m2 b2; subst a2; subst b2; clear m2
 injection g3 with a3 m3 b3; subst a3; subst b3; clear m3
 injection g4 with a4 m4 b4; subst a4; subst b4; clear m4
 injection g5 with a5 m5 b5; subst a5; subst b5; clear m5
 have KS := Lib.hid (show Calls Tryz.prog 15 #[.agg #[.int .i64 1, .slice A1 0 c1, .slice A2 0 c2, .slice A3 1 c3, .slice A4 0 c4, .slice A5 0 c5], .agg #[.int .i64 1, .slice none 0 0, .slice none 0 0, .slice (some ⟨w3.heap.size, 0, none⟩) 1 1, .slice none 0 0, .slice none 0 0]] (w3.alloc (.cells #[.slice none 0 0, .slice none 0 0, .int .i64 0] 49)) (BoolE true (w3.alloc (.cells #[.slice none 0 0, .slice none 0 0, .int .i64 0] 49))) from sCase_any x1 A1 A2 A3 A4 A5 none none (some ⟨w3.heap.size, 0, none⟩) none none c1 c2 c3 c4 c5 0 0 1 0 0 (w3.alloc (.cells #[.slice none 0 0, .slice none 0 0, .int .i64 0] 49)) x1_len r1 r2 r3 r4 r5 RowR.nil_ RowR.nil_ (RowR.hour1 w3) RowR.nil_ RowR.nil_);clear r1 r2 r3 r4 r5 HC3;go_wp2_with fail;refine KS.out.mono ?_;rintro e w4 ⟨rfl, hb4⟩;have HB4 := Lib.hid ((HB3.out.alloc HB3.out.size _).trans (hb4.mono (by have := HB3.out.size; simp; omega)));clear hb4 HB3 HX3 KS q0 q1 q2 q3 q4 q5 s0 s1 s2 s3 s4 s5;have hes : (bstr smallT).toList = [40, 99, 97, 115, 101, 32, 40, 110, 101, 116, 32, 49, 41, 32, 40, 117, 110, 105, 116, 115, 41, 32, 40, 104, 111, 117, 114, 115, 32, 40, 104, 111, 117, 114, 32, 48, 32, 40, 98, 105, 100, 115, 41, 32, 40, 114, 101, 97, 108, 41, 41, 41, 32, 40, 111, 117, 116, 97, 103, 101, 115, 41, 32, 40, 114, 105, 103, 104, 116, 115, 41, 41] := by rw [bstr_toList]; rfl
 go_wp2_with fail;refine (KR0.out _).mono ?_;rintro e w5 ⟨rfl, hb5⟩;have HB5 := Lib.hid (HB4.out.trans (hb5.mono HB4.out.size));clear hb5 HB4 KR0;go_wp2_with fail;refine (KR1.out _).mono ?_;rintro e w6 ⟨rfl, hb6⟩;have HB6 := Lib.hid (HB5.out.trans (hb6.mono HB5.out.size));clear hb6 HB5 KR1;go_wp2_with fail;refine (KR2.out _).mono ?_;rintro e w7 ⟨rfl, hb7⟩;have HB7 := Lib.hid (HB6.out.trans (hb7.mono HB6.out.size));clear hb7 HB6 KR2;go_wp2_with fail;refine (KR3.out _).mono ?_;rintro e w8 ⟨rfl, hb8⟩;have HB8 := Lib.hid (HB7.out.trans (hb8.mono HB7.out.size));clear hb8 HB7 KR3;go_wp2_with fail;go_ret;exact ⟨rfl, HB8.out⟩
end Go.Proofs.YtkfhpefmmhljmaaGreatDoor
/- SmF -/
namespace Go.Proofs.YtkfhpefmmhljmaaGreatDoor
open Go.RowKit
set_option maxRecDepth 100000
def LongE (x : Cs) (w : World) (e : Ending) (w' : World) : Prop := ∃ b : Bool, e = .returned (.bool b) ∧ (b = false → x.outs.length ≤ 40 ∧ x.rights.length ≤ 40) ∧ Below w.heap.size w w'
theorem LongE.yes {x : Cs} {w w' : World} (hb : Below w.heap.size w w') : LongE x w (.returned (.bool true)) w' := ⟨true, rfl, (fun h => by cases h), hb⟩
theorem LongE.no {x : Cs} {w w' : World} (h : x.outs.length ≤ 40 ∧ x.rights.length ≤ 40) (hb : Below w.heap.size w w') : LongE x w (.returned (.bool false)) w' := ⟨false, rfl, fun _ => h, hb⟩
set_option maxHeartbeats 8000000 in
theorem long_any (x : Cs) (A1 A2 A3 A4 A5 : Option Addr) (c1 c2 c3 c4 c5 : Nat) (w : World) (h3 : RowR HrR 3 w w.heap.size A3 x.hours) :
  Calls Tryz.prog 9 #[.agg #[.int .i64 x.net.buses, .slice A1 x.net.lines.length c1, .slice A2 x.units.length c2, .slice A3 x.hours.length c3, .slice A4 x.outs.length c4, .slice A5 x.rights.length c5]] w (LongE x w) := by
 have HX : Hid (Box (w.alloc (.cells #[.int .i64 x.net.buses, .slice A1 x.net.lines.length c1, .slice A2 x.units.length c2, .slice A3 x.hours.length c3, .slice A4 x.outs.length c4, .slice A5 x.rights.length c5] 30)) w.heap.size [.int .i64 x.net.buses, .slice A1 x.net.lines.length c1, .slice A2 x.units.length c2, .slice A3 x.hours.length c3, .slice A4 x.outs.length c4, .slice A5 x.rights.length c5]) := Box.new w #[.int .i64 x.net.buses, .slice A1 x.net.lines.length c1, .slice A2 x.units.length c2, .slice A3 x.hours.length c3, .slice A4 x.outs.length c4, .slice A5 x.rights.length c5] 30;have HB : Hid (Below w.heap.size w (w.alloc (.cells #[.int .i64 x.net.buses, .slice A1 x.net.lines.length c1, .slice A2 x.units.length c2, .slice A3 x.hours.length c3, .slice A4 x.outs.length c4, .slice A5 x.rights.length c5] 30))) := (Below.refl _ _).alloc (Nat.le_refl _) _;have hz : w.heap.size < (w.alloc (.cells #[.int .i64 x.net.buses, .slice A1 x.net.lines.length c1, .slice A2 x.units.length c2, .slice A3 x.hours.length c3, .slice A4 x.outs.length c4, .slice A5 x.rights.length c5] 30)).heap.size := by simp
 have HH := Lib.hid h3;clear h3;by_cases b2 : 20 < x.net.lines.length
 ·have d2 : decide ((20 : Int) < (x.net.lines.length : Int)) = true := decide_eq_true (by omega);go_enter Tryz.func9, Tryz.ntmps9;go_wp2_with fail;go_ret;exact LongE.yes HB.out
 ·have d2 : decide ((20 : Int) < (x.net.lines.length : Int)) = false := decide_eq_false (by omega);by_cases b4 : 10 < x.units.length
  ·have d4 : decide ((10 : Int) < (x.units.length : Int)) = true := decide_eq_true (by omega);go_enter Tryz.func9, Tryz.ntmps9;go_wp2_with fail;go_ret;exact LongE.yes HB.out
  ·have d4 : decide ((10 : Int) < (x.units.length : Int)) = false := decide_eq_false (by omega);by_cases b6 : 12 < x.hours.length
   ·have d6 : decide ((12 : Int) < (x.hours.length : Int)) = true := decide_eq_true (by omega);go_enter Tryz.func9, Tryz.ntmps9;go_wp2_with fail;go_ret;exact LongE.yes HB.out
   ·have d6 : decide ((12 : Int) < (x.hours.length : Int)) = false := decide_eq_false (by omega);by_cases b8 : 40 < x.outs.length
    ·have d8 : decide ((40 : Int) < (x.outs.length : Int)) = true := decide_eq_true (by omega);go_enter Tryz.func9, Tryz.ntmps9;go_wp2_with fail;go_ret;exact LongE.yes HB.out
    ·have d8 : decide ((40 : Int) < (x.outs.length : Int)) = false := decide_eq_false (by omega);by_cases b10 : 40 < x.rights.length
     ·have d10 : decide ((40 : Int) < (x.rights.length : Int)) = true := decide_eq_true (by omega);go_enter Tryz.func9, Tryz.ntmps9;go_wp2_with fail;go_ret;exact LongE.yes HB.out
     ·have d10 : decide ((40 : Int) < (x.rights.length : Int)) = false := decide_eq_false (by omega);go_enter Tryz.func9, Tryz.ntmps9;go_wp2_with fail;go_loopg [3] x.hours.length (fun gk s wr => ∃ k : Nat, k + gk = x.hours.length ∧ s = .int .i64 (k : Int) ∧ wr = (w.alloc (.cells #[.int .i64 x.net.buses, .slice A1 x.net.lines.length c1, .slice A2 x.units.length c2, .slice A3 x.hours.length c3, .slice A4 x.outs.length c4, .slice A5 x.rights.length c5] 30)))
      case atStart => exact ⟨0, by omega, rfl, rfl⟩
      case round =>
       obtain ⟨k, hkg, rfl, rfl⟩ := hrel;cases gk with
       | zero =>
        obtain rfl : k = x.hours.length := by omega
        clear hkg;go_wp2_with fail;go_ret;exact LongE.no ⟨by omega, by omega⟩ HB.out
       | succ g =>
        have hk : k < x.hours.length := by omega
        have HG := Lib.hid hkg;clear hkg;obtain ⟨b, off, cc, rfl, hb, hc1, hc2, hc3⟩ := HH.out.at_ k hr0 hk;generalize hxx : x.hours.getD k hr0 = h at *;have HXX := Lib.hid hxx;clear hxx;obtain ⟨Ax, cx, Ay, cy, rfl, _, _, _, _⟩ := hc2;have f0 := hc3 0 _ rfl;have f1 := hc3 1 _ rfl;have f2 := hc3 2 _ rfl;rw [Nat.add_zero] at f0;clear hc3 hc1;have i2 : (k : Int) < (x.hours.length : Int) := by omega
        by_cases e1 : 12 < h.bids.length
        ·have d1 : decide ((12 : Int) < (h.bids.length : Int)) = true := decide_eq_true (by omega);go_wp2_with fail;go_ret;exact LongE.yes HB.out
        have d1 : decide ((12 : Int) < (h.bids.length : Int)) = false := decide_eq_false (by omega);by_cases e2 : 12 < h.real.length
        ·have d2 : decide ((12 : Int) < (h.real.length : Int)) = true := decide_eq_true (by omega);go_wp2_with fail;go_ret;exact LongE.yes HB.out
        have d2 : decide ((12 : Int) < (h.real.length : Int)) = false := decide_eq_false (by omega);go_wp2_with fail;go_roundg g
        case measure => omega
        case rel => exact ⟨k + 1, by have := HG.out; omega, by go_num, rfl⟩
end Go.Proofs.YtkfhpefmmhljmaaGreatDoor
