/- Texts in one: FrF, FrO. -/
import Derived.Test.YtkfhpefmmhljmaaGreatDoorF49
set_option linter.unusedVariables false
set_option linter.unusedSimpArgs false
set_option maxHeartbeats 16000000
set_option maxRecDepth 100000
namespace Go.Proofs.YtkfhpefmmhljmaaGreatDoor
open Go.RowKit
theorem aG (buses : Int) (lines : List Ln) (units : List Un) (hours : List Hr) (outs : List Og) (rights : List Rt) (A1 A2 A3 A4 A5 : Option Addr) (c1 c2 c3 c4 c5 : Nat) (w : World)
  (h1 : RowR LnE 4 w w A1 lines) (h2 : RowR UnR 9 w w A2 units) (h3 : RowR HrR 3 w w A3 hours) (h4 : RowR OgE' 4 w w A4 outs) (h5 : RowR RtE 3 w w A5 rights) (ho : outs.length ≤ 1000000) (hr : rights.length ≤ 1000000) :
  Calls Tryz.prog 30 #[.agg #[.int .i64 buses, .slice A1 lines.length c1, .slice A2 units.length c2, .slice A3 hours.length c3, .slice A4 outs.length c4, .slice A5 rights.length c5]] w (ErrE w (dayE ⟨⟨buses, lines⟩, units, hours, outs, rights⟩)) := by
 have E : Hid (dayE ⟨⟨buses, lines⟩, units, hours, outs, rights⟩ = if zX buses lines ≠ 0 then zX buses lines
  else if 5 < units.length then 5
  else if fstE (unitE buses) units ≠ 0 then fstE (unitE buses) units
  else if hours.length = 0 then 4
  else if 8 < hours.length then 5
  else if fstE (hourE buses (hours.getD 0 hr0)) hours ≠ 0 then fstE (hourE buses (hours.getD 0 hr0)) hours
  else if qV lines.length units.length hours.length outs ≠ 0 then qV lines.length units.length hours.length outs
  else jF buses rights) := rfl
 generalize dayE ⟨⟨buses, lines⟩, units, hours, outs, rights⟩ = R at *;have hb0 : Below w w (w.alloc (.cells #[.int .i64 buses, .slice A1 lines.length c1, .slice A2 units.length c2, .slice A3 hours.length c3, .slice A4 outs.length c4, .slice A5 rights.length c5] 30)) := βA _;have HB0 := η hb0;have HX0 : Hid (Box (w.alloc (.cells #[.int .i64 buses, .slice A1 lines.length c1, .slice A2 units.length c2, .slice A3 hours.length c3, .slice A4 outs.length c4, .slice A5 rights.length c5] 30)) w [.int .i64 buses, .slice A1 lines.length c1, .slice A2 units.length c2, .slice A3 hours.length c3, .slice A4 outs.length c4, .slice A5 rights.length c5]) := Box.new w #[.int .i64 buses, .slice A1 lines.length c1, .slice A2 units.length c2, .slice A3 hours.length c3, .slice A4 outs.length c4, .slice A5 rights.length c5] 30;have K1 := η (gP buses A1 c1 lines (w.alloc (.cells #[.int .i64 buses, .slice A1 lines.length c1, .slice A2 units.length c2, .slice A3 hours.length c3, .slice A4 outs.length c4, .slice A5 rights.length c5] 30)) ((h1.upto LnE.keep hb0).lines));have H2 := η h2;have H3 := η h3;have H4 := η h4;have H5 := η h5;have KU := η fun u A c n W hr => pT u A c n W hr
 have KH := η fun h f A A1 A2 A3 c c1 c2 c3 n W hr hr1 hr2 => pV h f A A1 A2 A3 c c1 c2 c3 n W hr hr1 hr2
 have HHO := η ho;have HHR := η hr;clear h1 h2 h3 h4 h5 hb0 ho hr;go_enter Tryz.func30, Tryz.ntmps30;go_wp2_with fail;refine K1.out.mono ?_;rintro e w1 ⟨rfl, hb1⟩;have HX1 := η (HX0.out.up hb1 (by simp));have HB1 := η (HB0.out.trans (hb1.mono (by simp)));have hz1 : w < w1.heap.size := HX1.out.lt (by simp);clear hb1 HB0 K1 HX0;obtain ⟨q0, s0, q1, s1, q2, s2, q3, s3, q4, s4, q5, s5⟩ := sqX6 HX1.out;clear s0 s1 s2 s3 s4 s5;by_cases e1 : zX buses lines = 0
 case neg =>
  have HE : Hid (R = zX buses lines) := E.out.trans (if_pos e1);have d0 : (zX buses lines == 0) = false := βf e1;have d1 : (zX buses lines != 0) = true := βt e1;clear E e1;go_wp2_with fail;go_ret;exact ⟨zC HE.out.symm, HB1.out⟩
 replace E : Hid (R = _) := E.out.trans (if_neg (fun hh => hh e1));rw [e1];clear e1;by_cases e2 : 5 < units.length
 ·have HE : Hid (R = 5) := E.out.trans (if_pos e2);have d1 : decide ((5 : Int) < (units.length : Int)) = true := κt (by omega);clear E e2;go_wp2_with fail;go_ret;exact ⟨zC HE.out.symm, HB1.out⟩
 replace E : Hid (R = _) := E.out.trans (if_neg e2);have d1 : decide ((5 : Int) < (units.length : Int)) = false := κf (by omega);have hul : units.length ≤ 5 := by omega
 clear e2;go_wp2_with fail;clear d1;go_loopg [2, 3, 4] units.length (fun g s2 s3 s4 wr => ∃ k : Nat, k + g = units.length ∧ s4 = .int .i64 (k : Int) ∧ fstE (unitE buses) units = fstE (unitE buses) (units.drop k) ∧ Below (w + 1) w1 wr)
 case atStart => exact ⟨0, by omega, rfl, rfl, Below.refl _ _⟩
 case round =>
  obtain ⟨k, hkg, rfl, hs, hb⟩ := hrel;have HB2 : Hid (Below w w wr) := HB1.out.trans (hb.mono (by omega));have HX2 := η (HX1.out.up hb (by omega));have hz2 : w < wr.heap.size := HX2.out.lt (by simp);have HBO := η hb;have HS := η hs;clear hs hb q0 q1 q2 q3 q4 q5;obtain ⟨q0, s0, q1, s1, q2, s2, q3, s3, q4, s4, q5, s5⟩ := sqX6 HX2.out;clear s0 s1 s2 s3 s4 s5;cases gk with
  | succ g =>
   have hk : k < units.length := by omega
   have HG := η hkg;clear hkg;have HS2 : Hid (fstE (unitE buses) units = _) := HS.out.trans (xI un0 hk);obtain ⟨b, off, A', c', rfl, hbl, ⟨f0, f1, f2, f3, f4, f5, f6, f7, f8⟩, hrs⟩ := pQ H2.out (fun p hp => HB2.out.cell hp) k hk;have HRS := η hrs;clear hrs HS;generalize units.getD k un0 = u at *;have KU1 := η fun W hr => KU.out u A' c' buses W hr
   generalize unitE buses u = bv at *;obtain ⟨ubus, umin, usteps, uup, udown, ustart, uidle, uspin, uon⟩ := u;dsimp only at f0 f1 f2 f3 f4 f5 f6 f7 f8 HRS KU1;have hku : (k : Int) < (units.length : Int) := by omega
   have hbw : b < wr := νl hbl HB2.out.size;go_wp2_with fail;refine zE (w0 := wr) [(1, .pointer (some ⟨w, 0, none⟩)), (4, .int .i64 (k : Int)), (23, .pointer (some ⟨w, 2, none⟩)), (24, .slice (some ⟨b, off, none⟩) units.length c2), (25, .int .i64 (k : Int)), (26, .pointer (some ⟨b, off + k * 9, none⟩)), (27, .agg #[.int .i64 ubus, .int .i64 umin, (Value.slice A' usteps.length c'), .int .i64 uup, .int .i64 udown, .int .i64 ustart, .int .i64 uidle, .int .i64 uspin, .int .i64 uon]), (28, .pointer (some ⟨w, 0, none⟩)), (29, .pointer (some ⟨w, 0, none⟩)), (30, .int .i64 buses), (31, .int .i64 bv)] [(3, .int .i64 bv)] [1, 4] ?_ ?_
   ·intro T hT W hI;simp only [zA, and_true] at hT;have l0 := (hI.cell (p := ⟨w, 0, none⟩) hz2).trans q0;have l2 := (hI.cell (p := ⟨w, 2, none⟩) hz2).trans q2;have F0 := (hI.cell (p := ⟨b, off + k * 9, none⟩) hbw).trans f0;have F1 := (hI.cell (p := ⟨b, off + k * 9 + 1, none⟩) hbw).trans f1;have F2 := (hI.cell (p := ⟨b, off + k * 9 + 2, none⟩) hbw).trans f2;have F3 := (hI.cell (p := ⟨b, off + k * 9 + 3, none⟩) hbw).trans f3;have F4 := (hI.cell (p := ⟨b, off + k * 9 + 4, none⟩) hbw).trans f4;have F5 := (hI.cell (p := ⟨b, off + k * 9 + 5, none⟩) hbw).trans f5;have F6 := (hI.cell (p := ⟨b, off + k * 9 + 6, none⟩) hbw).trans f6;have F7 := (hI.cell (p := ⟨b, off + k * 9 + 7, none⟩) hbw).trans f7;have F8 := (hI.cell (p := ⟨b, off + k * 9 + 8, none⟩) hbw).trans f8
    repeat' first | exact AllO.nil | apply AllO.cons
    all_goals try ((first | refine oV ?_ | refine oN ?_ | refine oG (t := by simp only [hT]) (h := ?_)); simp [go_sem, EvT, hT, l0, l2, hku, F0, F1, F2, F3, F4, F5, F6, F7, F8, valT]; done)
    ·refine opT_r (zO 74 #[.agg #[.int .i64 ubus, .int .i64 umin, (Value.slice A' usteps.length c'), .int .i64 uup, .int .i64 udown, .int .i64 ustart, .int .i64 uidle, .int .i64 uspin, .int .i64 uon], .int .i64 buses] (by simp [go_sem, EvT, hT, l0, l2, hku, F0, F1, F2, F3, F4, F5, F6, F7, F8]) ?_);simp only [valT, hT];exact KU1.out W ((HRS.out.keep (w' := wr) StE.keep (fun _ _ => rfl) HB2.out.size).upto StE.keep hI)
   intro wx hbx;simp (decide := true) only [putT, valT, look, Act.put, σi, σo, σs, Nat.reduceAdd, if_true, if_false];have HB4 := βT HB2 hbx;have HBO4 := η (HBO.out.trans (hbx.mono (by omega)));clear hbx KU1 f0 f1 f2 f3 f4 f5 f6 f7 f8 q0 q1 q2 q3 q4 q5;by_cases hv : bv = 0
   ·have HF : Hid (fstE (unitE buses) units = _) := HS2.out.trans (if_neg (fun hh => hh hv));subst hv;clear HS2;go_wp2_with fail;go_roundg g
    case measure => omega
    case rel => exact ⟨k + 1, by have := HG.out; omega, by go_num, HF.out, HBO4.out⟩
   ·have HF : Hid (fstE (unitE buses) units = bv) := HS2.out.trans (if_pos hv);have HE : Hid (R = bv) := E.out.trans (by rw [HF.out, if_pos hv]);have e0 : (bv == 0) = false := βf hv;have e1 : (bv != 0) = true := βt hv;clear HS2 HF hv E;go_wp2_with fail
    try rw [κx]
    go_ret;exact ⟨zC HE.out.symm, HB4.out⟩
  | zero =>
   obtain rfl : k = units.length := by omega
   have h0 : fstE (unitE buses) units = 0 := HS.out.trans (vW _ _);replace E : Hid (R = _) := E.out.trans (if_neg (fun hh => hh h0));clear hkg h0 HS HBO HB1 HX1;by_cases e3 : hours.length = 0
   ·have HE : Hid (R = 4) := E.out.trans (if_pos e3);have d1 : ((hours.length : Int) == 0) = true := by rw [e3]; rfl
    clear E e3;go_wp2_with fail;go_ret;exact ⟨zC HE.out.symm, HB2.out⟩
   have d1 : ((hours.length : Int) == 0) = false := βf (by omega);replace E : Hid (R = _) := E.out.trans (if_neg e3);by_cases e4 : 8 < hours.length
   ·have HE : Hid (R = 5) := E.out.trans (if_pos e4);have d2 : decide ((8 : Int) < (hours.length : Int)) = true := κt (by omega);clear E e3 e4;go_wp2_with fail;go_ret;exact ⟨zC HE.out.symm, HB2.out⟩
   have d2 : decide ((8 : Int) < (hours.length : Int)) = false := κf (by omega);replace E : Hid (R = _) := E.out.trans (if_neg e4);have hhl : hours.length ≤ 8 := by omega
   have hhp : 0 < hours.length := by omega
   clear e3 e4;obtain ⟨wo, rfl⟩ : ∃ wo : World, wo = wr := ⟨_, rfl⟩;go_wp2_with fail;clear d1 d2;generalize hff : hours.getD 0 hr0 = ff at *;have HFF := η hff;clear hff;go_loopg [2, 3, 5] hours.length (fun g s2 s3 s5 wx => ∃ k : Nat, k + g = hours.length ∧ s5 = .int .i64 (k : Int) ∧ fstE (hourE buses ff) hours = fstE (hourE buses ff) (hours.drop k) ∧ Below (w + 1) wo wx)
   case atStart => exact ⟨0, by omega, rfl, rfl, Below.refl _ _⟩
   case round =>
    obtain ⟨k, hkg, rfl, hs, hb⟩ := hrel;have HB3 : Hid (Below w w wr) := HB2.out.trans (hb.mono (by omega));have HX3 := η (HX2.out.up hb (by omega));have hz3 : w < wr.heap.size := HX3.out.lt (by simp);have HBO := η hb;have HS := η hs;clear hs hb q0 q1 q2 q3 q4 q5;obtain ⟨q0, s0, q1, s1, q2, s2, q3, s3, q4, s4, q5, s5⟩ := sqX6 HX3.out;clear s0 s1 s2 s3 s4 s5;cases gk with
    | succ g =>
     have hk : k < hours.length := by omega
     have HG := η hkg;clear hkg;have HS2 : Hid (fstE (hourE buses ff) hours = _) := HS.out.trans (xI hr0 hk);obtain ⟨b, off, Ab, cb, Ar, cr, rfl, hbl, ⟨f0, f1, f2⟩, hrb, hrr⟩ := uY H3.out (fun p hp => HB3.out.cell hp) k hk;obtain ⟨b', off', Ab', cb', Ar', cr', hA', hbl', ⟨g0, g1, g2⟩, hrb', hrr'⟩ := uY H3.out (fun p hp => HB3.out.cell hp) 0 hhp;obtain ⟨rfl, rfl⟩ : b' = b ∧ off' = off := by injection hA' with h; injection h with h1 h2; exact ⟨h1.symm, h2.symm⟩
     rw [HFF.out] at g0 g1 g2 hrb' hrr';have HRB := η hrb;have HRR := η hrr;have HRB' := η hrb';clear hrb hrr hrb' hrr' HS hA' hbl';generalize hours.getD k hr0 = u at *;have KH1 := η fun W hr hr1 hr2 => KH.out u ff Ab Ar Ab' Ar' cb cr cb' cr' buses W hr hr1 hr2
     generalize hourE buses ff u = bv at *;obtain ⟨ubids, ureal, uneed⟩ := u;obtain ⟨fbids, freal, fneed⟩ := ff;dsimp only at f0 f1 f2 g0 g1 g2 HRB HRR HRB' KH1;replace g0 : wr.cell? ⟨b', off', none⟩ = some (.slice Ab' fbids.length cb') := by simpa using g0
     replace g1 : wr.cell? ⟨b', off' + 1, none⟩ = some (.slice Ar' freal.length cr') := by simpa using g1
     replace g2 : wr.cell? ⟨b', off' + 2, none⟩ = some (.int .i64 fneed) := by simpa using g2
     have hbl2 : b' < wr := νl hbl HB3.out.size;have hkh : (k : Int) < (hours.length : Int) := by omega
     have hh0 : (0 : Int) < (hours.length : Int) := by omega
     have hh1 : ¬ hours = [] := fun hn => by rw [hn] at hhp; simp at hhp
     have KH2 := η fun W (hw : Below wr wr W) =>
      have h1 : ∀ p : Addr, p.block < w → W.cell? p = wr.cell? p := fun p hp => hw.cell (by omega)
      have h2 : w ≤ W.heap.size := Nat.le_trans HB3.out.size hw.size
      KH1.out W (HRB.out.keep BdR.keep h1 h2) (HRR.out.keep BdR.keep h1 h2) (HRB'.out.keep BdR.keep h1 h2)
     clear KH1 HRB HRR HRB';go_wp2_with fail;refine zE (w0 := wr) [(1, .pointer (some ⟨w, 0, none⟩)), (5, .int .i64 (k : Int)), (50, .pointer (some ⟨w, 3, none⟩)), (51, .slice (some ⟨b', off', none⟩) hours.length c3), (52, .int .i64 (k : Int)), (53, .pointer (some ⟨b', off' + k * 3, none⟩)), (54, .agg #[.slice Ab ubids.length cb, .slice Ar ureal.length cr, .int .i64 uneed]), (55, .pointer (some ⟨w, 3, none⟩)), (56, .slice (some ⟨b', off', none⟩) hours.length c3), (57, .pointer (some ⟨b', off', none⟩)), (58, .agg #[(Value.slice Ab' fbids.length cb'), (Value.slice Ar' freal.length cr'), .int .i64 fneed]), (59, .pointer (some ⟨w, 0, none⟩)), (60, .pointer (some ⟨w, 0, none⟩)), (61, .int .i64 buses), (62, .int .i64 bv)] [(3, .int .i64 bv)] [1, 5] ?_ ?_
     ·intro T hT W hI;simp only [zA, and_true] at hT;have l0 := (hI.cell (p := ⟨w, 0, none⟩) hz3).trans q0;have l3 := (hI.cell (p := ⟨w, 3, none⟩) hz3).trans q3;have F0 := (hI.cell (p := ⟨b', off' + k * 3, none⟩) hbl2).trans f0;have F1 := (hI.cell (p := ⟨b', off' + k * 3 + 1, none⟩) hbl2).trans f1;have F2 := (hI.cell (p := ⟨b', off' + k * 3 + 2, none⟩) hbl2).trans f2;have G0 := (hI.cell (p := ⟨b', off', none⟩) hbl2).trans g0;have G1 := (hI.cell (p := ⟨b', off' + 1, none⟩) hbl2).trans g1;have G2 := (hI.cell (p := ⟨b', off' + 2, none⟩) hbl2).trans g2
      repeat' first | exact AllO.nil | apply AllO.cons
      all_goals try ((first | refine oV ?_ | refine oN ?_ | refine oG (t := by simp only [hT]) (h := ?_)); simp [go_sem, EvT, hT, l0, l3, hkh, hh0, hh1, F0, F1, F2, G0, G1, G2, valT]; done)
      ·refine opT_r (zO 75 #[.agg #[.slice Ab ubids.length cb, .slice Ar ureal.length cr, .int .i64 uneed], .agg #[(Value.slice Ab' fbids.length cb'), (Value.slice Ar' freal.length cr'), .int .i64 fneed], .int .i64 buses] (by simp [go_sem, EvT, hT, l0, l3, hkh, hh0, hh1, F0, F1, F2, G0, G1, G2]) ?_);simp only [valT, hT];exact KH2.out W hI
     intro wx hbx;simp (decide := true) only [putT, valT, look, Act.put, σi, σo, σs, Nat.reduceAdd, if_true, if_false];have HB5 := βT HB3 hbx;have HBO5 := η (HBO.out.trans (hbx.mono (by omega)));clear hbx KH2 f0 f1 f2 g0 g1 g2 q0 q1 q2 q3 q4 q5;by_cases hv : bv = 0
     ·have HF : Hid (fstE (hourE buses ⟨fbids, freal, fneed⟩) hours = _) := HS2.out.trans (if_neg (fun hh => hh hv));subst hv;clear HS2;go_wp2_with fail;go_roundg g
      case measure => omega
      case rel => exact ⟨k + 1, by have := HG.out; omega, by go_num, HF.out, HBO5.out⟩
     ·have HF : Hid (fstE (hourE buses ⟨fbids, freal, fneed⟩) hours = bv) := HS2.out.trans (if_pos hv);have HE : Hid (R = bv) := E.out.trans (by rw [HF.out, if_pos hv]);have e0 : (bv == 0) = false := βf hv;have e1 : (bv != 0) = true := βt hv;clear HS2 HF hv E;go_wp2_with fail
      try rw [κx]
      go_ret;exact ⟨zC HE.out.symm, HB5.out⟩
    | zero =>
     obtain rfl : k = hours.length := by omega
     have h0 : fstE (hourE buses ff) hours = 0 := HS.out.trans (vW _ _);replace E : Hid (R = _) := E.out.trans (if_neg (fun hh => hh h0));have KO := η fun W hl => pU (lines.length : Int) (units.length : Int) (hours.length : Int) A4 c4 outs W hl HHO.out
     have KR := η fun W hl => dL A5 c5 rights buses W hl HHR.out
     generalize qV lines.length units.length hours.length outs = ow at *;clear hkg h0 HS HBO HB2 HX2;go_wp2_with fail;refine (KO.out wr (H4.out.keep OgE'.keep (fun p hp => HB3.out.cell hp) HB3.out.size).ogs).mono ?_;rintro e w5 ⟨pw, rfl, hb5⟩;have HX5 := η (HX3.out.up hb5 hz3);have HB5 := βT HB3 hb5;clear hb5 KO HX3 HB3 q0 q1 q2 q3 q4 q5;obtain ⟨q0, s0, q1, s1, q2, s2, q3, s3, q4, s4, q5, s5⟩ := sqX6 HX5.out;clear s0 s1 s2 s3 s4 s5;by_cases hv : ow = 0
     ·replace E : Hid (R = _) := E.out.trans (if_neg (fun hh => hh hv));subst hv;go_wp2_with fail;refine (KR.out w5 (H5.out.keep RtE.keep (fun p hp => HB5.out.cell hp) HB5.out.size)).mono ?_;rintro e w6 ⟨pl, rfl, hb6⟩;have HB6 := βT HB5 hb6;clear hb6;go_wp2_with fail;go_ret;exact ⟨zC E.out.symm, HB6.out⟩
     ·have HE : Hid (R = ow) := E.out.trans (if_pos hv);have e0 : (ow == 0) = false := βf hv;have e1 : (ow != 0) = true := βt hv;clear hv E;go_wp2_with fail;go_ret;exact ⟨zC HE.out.symm, HB5.out⟩
set_option maxHeartbeats 4000000
theorem vR {α : Type} {f : α → Bytes} {m : Nat} {l : List α} (h : ∀ x ∈ l, (f x).length ≤ m) : (rowS f l).length ≤ l.length * (m + 1) :=
 kX (f := fun x => 32 :: f x) (m := m + 1) fun x hx => by have := h x hx; simp; omega
theorem vC {α : Type} (f : α → Bytes) {l : List α} {k : Nat} (d : α) (hk : k < l.length) : rowS f (l.take (k + 1)) = rowS f (l.take k) ++ (32 :: f (l.getD k d)) := hM (fun x => 32 :: f x) d hk
theorem rE {nb : Int} (hnb : nb ≤ 6) {b : Bd} (h : bidE nb b = 0) : (bidS b).length ≤ 110 := nT (xY hnb h).2.1 (xY hnb h).2.2.2 (xY hnb h).2.2.1
theorem dM (y : Bytes) (A : Option Addr) (c : Nat) (l : List Bd) (w : World) (hr : RowR BdR 2 w w A l) (nb : Int) (hnb : nb ≤ 6) (hok : ∀ b ∈ l, bidE nb b = 0) (hl : l.length ≤ 6) (hy : y.length ≤ 10) :
  Calls Tryz.prog 34 #[.string (bstr y), .slice A l.length c] w (StrE w (bidsS y l)) := by
 have HR := η hr;have HS := η hok;have HB0 := η (Below.refl w w);have ep0 := fun W => zF [32, 40] y W (by simp only [κc, κn]; omega)
 rw [show bstr [32, 40] = ⟨#[32, 40]⟩ from rfl] at ep0;have ER : Hid (bidsS y l = ([32, 40] ++ y) ++ rowS bidS l ++ [41]) := rfl;have hu : ([32, 40] ++ y).length ≤ 12 := by simp only [κa, κc, κn]; omega
 generalize bidsS y l = R at *;generalize [32, 40] ++ y = u at *;clear hr hok hy;go_enter Tryz.func34, Tryz.ntmps34;go_wp2_with fail;clear ep0;go_loopg [5, 6] l.length (fun g s5 s6 wr => ∃ k : Nat, k + g = l.length ∧ s6 = .int .i64 (k : Int) ∧ s5 = .string (bstr (u ++ rowS bidS (l.take k))) ∧ Below w w wr)
 case atStart => exact ⟨0, by omega, rfl, by simp [rowS], HB0.out⟩
 case round =>
  clear HB0;obtain ⟨k, hkg, rfl, rfl, hb⟩ := hrel;have HB := η hb;clear hb;have h0 := vR (f := bidS) (l := l.take k) (m := 110) fun b hb => rE hnb (HS.out b (List.mem_of_mem_take hb))
  rw [κk] at h0;have hq : (u ++ rowS bidS (l.take k)).length ≤ 700 := by rw [κa]; omega
  cases gk with
  | zero =>
   obtain rfl : k = l.length := by omega
   rw [List.take_length] at hq ⊢;generalize hs : u ++ rowS bidS l = s at *;have ER2 : Hid (R = s ++ [41]) := by show _ = _; rw [ER.out]
   have ep := fun W => zF s [41] W (by simp only [κc, κn]; omega)
   rw [show bstr [41] = ⟨#[41]⟩ from rfl] at ep;clear hkg h0 hq ER hs;go_wp2_with fail
   try rw [κx]
   go_ret;exact ⟨xG ER2.out.symm, HB.out⟩
  | succ g =>
   have hk : k < l.length := by omega
   have HG := η hkg;clear hkg;obtain ⟨b, off, A', c', rfl, hbl, f0, f1, hrs⟩ := vL HR.out (fun p hp => HB.out.cell hp) k hk;obtain ⟨_, hsb, hsl, hss⟩ := xY hnb (HS.out (l.getD k bd0) (xW _ hk));have HT : Hid (u ++ rowS bidS (l.take (k + 1)) = (u ++ rowS bidS (l.take k)) ++ (32 :: bidS (l.getD k bd0))) := by show _ = _; rw [vC bidS bd0 hk, κq]
   have hrs' := hrs.keep (w' := wr) StE.keep (fun _ _ => rfl) HB.out.size;generalize u ++ rowS bidS (l.take k) = s at *;obtain ⟨⟨bus, steps⟩, hx⟩ : ∃ x, l.getD k bd0 = x := ⟨_, rfl⟩;rw [hx] at f0 f1 hrs' hsb hsl hss HT;clear hx hrs h0;dsimp only at f0 f1 hrs' hsb hsl hss;have K1 := η (sB bus steps A' c' wr hrs' hsb hss hsl);have h1 := nT hsb hss hsl;obtain ⟨t1, ht1⟩ : ∃ t, t = bidS ⟨bus, steps⟩ := ⟨_, rfl⟩;rw [← ht1] at K1 h1;obtain ⟨s1, hs1⟩ : ∃ x, x = s ++ [32] := ⟨_, rfl⟩;have qs1 : s1.length ≤ 701 := by rw [hs1]; simp only [κa, κc, κn]; omega
   have es1 : ∀ W : World, (Op.stringOp .add (bstr s) ⟨#[32]⟩).run Tryz.prog W = .ok (.string (bstr s1)) W := fun W => by rw [hs1]; exact zF (s) ([32]) W (by (try simp only [κc, κn]); omega)
   obtain ⟨s2, hs2⟩ : ∃ x, x = s1 ++ t1 := ⟨_, rfl⟩;have qs2 : s2.length ≤ 811 := by rw [hs2]; simp only [κa, κc, κn]; omega
   have es2 : ∀ W : World, (Op.stringOp .add (bstr s1) (bstr t1)).run Tryz.prog W = .ok (.string (bstr s2)) W := fun W => by rw [hs2]; exact zF (s1) (t1) W (by (try simp only [κc, κn]); omega)
   have HT2 : Hid (u ++ rowS bidS (l.take (k + 1)) = s2) := by
    show _ = _
    rw [HT.out, hs2, hs1, ht1];simp
   have hkl : (k : Int) < (l.length : Int) := by omega
   clear HT hs1 hs2 qs1 qs2 ht1 hq h1 hrs' hsb hsl hss;go_wp2_with fail;refine K1.out.mono ?_;rintro e w2 ⟨rfl, hb2⟩;have HB2 := βT HB hb2;clear hb2 K1 f0 f1;go_wp2_with fail;go_roundg g
   case measure => omega
   case rel => exact ⟨k + 1, by have := HG.out; omega, by go_num, by rw [HT2.out], HB2.out⟩
theorem nA {nb : Int} (hnb : nb ≤ 6) {u : Un} (h : unitE nb u = 0) : (unitS u).length ≤ 200 := by
 obtain ⟨_, h1, h2, h3⟩ := vO hnb h;have h4 := vQ h3 h2;have a0 := zN (h1 u.bus (by simp [zW]));have a1 := zN (h1 u.min (by simp [zW]));have a2 := zN (h1 u.up (by simp [zW]));have a3 := zN (h1 u.down (by simp [zW]));have a4 := zN (h1 u.start (by simp [zW]));have a5 := zN (h1 u.idle (by simp [zW]));have a6 := zN (h1 u.spin (by simp [zW]));have a7 := zN (h1 u.on (by simp [zW]));unfold unitS;simp only [κa, κc, κn];omega
theorem yB {y : Bytes} {l : List Bd} {nb : Int} (hnb : nb ≤ 6) (hok : ∀ b ∈ l, bidE nb b = 0) (hl : l.length ≤ 6) (hy : y.length ≤ 10) : (bidsS y l).length ≤ 700 := by
 have h0 := vR (f := bidS) (l := l) (m := 110) fun b hb => rE hnb (hok b hb)
 unfold bidsS;simp only [κa, κc, κn];omega
theorem oM {nb : Int} (hnb : nb ≤ 6) {h : Hr} (hh : HrOk nb h) : (hrS h).length ≤ 1500 := by
 have h1 := yB (y := [98, 105, 100, 115]) hnb hh.a hh.c (by decide);have h2 := yB (y := [114, 101, 97, 108]) hnb hh.b hh.d (by decide);have h3 := zN hh.e;unfold hrS;simp only [κa, κc, κn];omega
theorem cV {o : Og} (h : qG o = true) : (outS o).length ≤ 50 := by
 have hs : small o.2.1 ∧ small o.2.2.1 ∧ small o.2.2.2 := by
  unfold qG at h;simp only [κb, κe] at h;unfold small;split at h <;> omega
 have h1 := zN hs.1;have h2 := zN hs.2.1;have h3 := zN hs.2.2;have h4 : (kindW o.1).length ≤ 4 := by unfold kindW; (repeat' split) <;> simp
 unfold outS;simp only [κa, κc, κn];omega
theorem oJ {r : Rt} (h : RtOk r) : (rtS r).length ≤ 50 := by
 have h1 := zN h.1;have h2 := zN h.2.1;have h3 := zN h.2.2;unfold rtS;simp only [κa, κc, κn];omega
theorem iY {nb : Int} {ls : List Ln} (h : zX nb ls = 0) : (netS ⟨nb, ls⟩).length ≤ 600 := by
 obtain ⟨h1, h2, h3, h4⟩ := xC h;have h5 := kX (f := lineS) (l := ls) (m := 55) fun x hx => dZ (h4 x hx)
 have h6 := zN (n := nb) (by unfold small; omega);unfold netS;simp only [κa, κc, κn];omega
end Go.Proofs.YtkfhpefmmhljmaaGreatDoor
