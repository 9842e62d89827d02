/- The text FrF. -/
import Derived.Test.YtklanoppbbaolaaGreatMg27
import Derived.Test.YtklanoppbbaolaaGreatMg23
/- The reference: pylonref40.Check. -/
namespace Go.Proofs.YtklanoppbbaolaaGreat
open Go.RowKit
set_option linter.unusedVariables false
set_option linter.unusedSimpArgs false
set_option maxRecDepth 100000

set_option maxHeartbeats 16000000 in
theorem refDay_any (buses : Int) (lines : List Ln) (units : List Un) (hours : List Hr) (outs : List Og) (rights : List Rt) (A1 A2 A3 A4 A5 : Option Addr) (c1 c2 c3 c4 c5 : Nat) (w : World)
    (h1 : RowR LnE 4 w w.heap.size A1 lines) (h2 : RowR UnR 9 w w.heap.size A2 units) (h3 : RowR HrR 3 w w.heap.size A3 hours) (h4 : RowR OgE' 4 w w.heap.size A4 outs) (h5 : RowR RtE 3 w w.heap.size A5 rights) (ho : outs.length ≤ 1000000) (hr : rights.length ≤ 1000000) :
    Calls Tryz.prog 15 #[.agg #[.int .i64 buses, .slice A1 lines.length c1, .slice A2 units.length c2, .slice A3 hours.length c3, .slice A4 outs.length c4, .slice A5 rights.length c5]] w (ErrE w (dayE ⟨⟨buses, lines⟩, units, hours, outs, rights⟩)) := by
  have E : Hid (dayE ⟨⟨buses, lines⟩, units, hours, outs, rights⟩ = if checkE buses lines ≠ 0 then checkE buses lines
    else if 5 < units.length then 5
    else if fstE (unitE buses) units ≠ 0 then fstE (unitE buses) units
    else if hours.length = 0 then 4
    else if 8 < hours.length then 5
    else if fstE (hourE buses (hours.getD 0 hr0)) hours ≠ 0 then fstE (hourE buses (hours.getD 0 hr0)) hours
    else if ogWrong lines.length units.length hours.length outs ≠ 0 then ogWrong lines.length units.length hours.length outs
    else rightsE buses rights) := rfl
  generalize dayE ⟨⟨buses, lines⟩, units, hours, outs, rights⟩ = R at *
  have hb0 : Below w.heap.size w (w.alloc (.cells #[.int .i64 buses, .slice A1 lines.length c1, .slice A2 units.length c2, .slice A3 hours.length c3, .slice A4 outs.length c4, .slice A5 rights.length c5] 34)) := (Below.refl _ _).alloc (Nat.le_refl _) _
  have HB0 := Lib.hid hb0
  have HX0 : Hid (Box (w.alloc (.cells #[.int .i64 buses, .slice A1 lines.length c1, .slice A2 units.length c2, .slice A3 hours.length c3, .slice A4 outs.length c4, .slice A5 rights.length c5] 34)) w.heap.size [.int .i64 buses, .slice A1 lines.length c1, .slice A2 units.length c2, .slice A3 hours.length c3, .slice A4 outs.length c4, .slice A5 rights.length c5]) := Box.new w #[.int .i64 buses, .slice A1 lines.length c1, .slice A2 units.length c2, .slice A3 hours.length c3, .slice A4 outs.length c4, .slice A5 rights.length c5] 34
  have K1 := Lib.hid (refNet_any buses A1 c1 lines (w.alloc (.cells #[.int .i64 buses, .slice A1 lines.length c1, .slice A2 units.length c2, .slice A3 hours.length c3, .slice A4 outs.length c4, .slice A5 rights.length c5] 34)) ((h1.upto LnE.keep hb0).lines))
  have H2 := Lib.hid h2
  have H3 := Lib.hid h3
  have H4 := Lib.hid h4
  have H5 := Lib.hid h5
  have KU := Lib.hid fun u A c n W hr => refUnit_any u A c n W hr
  have KH := Lib.hid fun h f A A1 A2 A3 c c1 c2 c3 n W hr hr1 hr2 => refHour_any h f A A1 A2 A3 c c1 c2 c3 n W hr hr1 hr2
  have HHO := Lib.hid ho
  have HHR := Lib.hid hr
  clear h1 h2 h3 h4 h5 hb0 ho hr
  go_enter Tryz.func15, Tryz.ntmps15
  go_wp2_with fail
  refine K1.out.mono ?_
  rintro e w1 ⟨rfl, hb1⟩
  have HX1 := Lib.hid (HX0.out.up hb1 (by simp))
  have HB1 := Lib.hid (HB0.out.trans (hb1.mono (by simp)))
  have hz1 : w.heap.size < w1.heap.size := HX1.out.lt (by simp)
  clear hb1 HB0 K1 HX0
  have q0 := HX1.out.c 0 _ rfl
  have s0 := HX1.out.f 0 (by simp)
  have q1 := HX1.out.c 1 _ rfl
  have s1 := HX1.out.f 1 (by simp)
  have q2 := HX1.out.c 2 _ rfl
  have s2 := HX1.out.f 2 (by simp)
  have q3 := HX1.out.c 3 _ rfl
  have s3 := HX1.out.f 3 (by simp)
  have q4 := HX1.out.c 4 _ rfl
  have s4 := HX1.out.f 4 (by simp)
  have q5 := HX1.out.c 5 _ rfl
  have s5 := HX1.out.f 5 (by simp)
  clear s0 s1 s2 s3 s4 s5
  by_cases e1 : checkE buses lines = 0
  case neg =>
    have HE : Hid (R = checkE buses lines) := E.out.trans (if_pos e1)
    have d0 : (checkE buses lines == 0) = false := beq_eq_false_iff_ne.2 e1
    have d1 : (checkE buses lines != 0) = true := bne_iff_ne.2 e1
    clear E e1
    go_wp2_with fail
    go_ret
    exact ⟨ret_int HE.out.symm, HB1.out⟩
  replace E : Hid (R = _) := E.out.trans (if_neg (fun hh => hh e1))
  rw [e1]
  clear e1
  by_cases e2 : 5 < units.length
  · have HE : Hid (R = 5) := E.out.trans (if_pos e2)
    have d1 : decide ((5 : Int) < (units.length : Int)) = true := decide_eq_true (by omega)
    clear E e2
    go_wp2_with fail
    go_ret
    exact ⟨ret_int HE.out.symm, HB1.out⟩
  replace E : Hid (R = _) := E.out.trans (if_neg e2)
  have d1 : decide ((5 : Int) < (units.length : Int)) = false := decide_eq_false (by omega)
  have hul : units.length ≤ 5 := by omega
  clear e2
  go_wp2_with fail
  clear d1
  go_loopg [2, 3, 4] units.length (fun g s2 s3 s4 wr => ∃ k : Nat, k + g = units.length ∧ s4 = .int .i64 (k : Int) ∧ fstE (unitE buses) units = fstE (unitE buses) (units.drop k) ∧ Below (w.heap.size + 1) w1 wr)
  case atStart => exact ⟨0, by omega, rfl, rfl, Below.refl _ _⟩
  case round =>
    obtain ⟨k, hkg, rfl, hs, hb⟩ := hrel
    have HB2 : Hid (Below w.heap.size w wr) := HB1.out.trans (hb.mono (by omega))
    have HX2 := Lib.hid (HX1.out.up hb (by omega))
    have hz2 : w.heap.size < wr.heap.size := HX2.out.lt (by simp)
    have HBO := Lib.hid hb
    have HS := Lib.hid hs
    clear hs hb q0 q1 q2 q3 q4 q5
    have q0 := HX2.out.c 0 _ rfl
    have s0 := HX2.out.f 0 (by simp)
    have q1 := HX2.out.c 1 _ rfl
    have s1 := HX2.out.f 1 (by simp)
    have q2 := HX2.out.c 2 _ rfl
    have s2 := HX2.out.f 2 (by simp)
    have q3 := HX2.out.c 3 _ rfl
    have s3 := HX2.out.f 3 (by simp)
    have q4 := HX2.out.c 4 _ rfl
    have s4 := HX2.out.f 4 (by simp)
    have q5 := HX2.out.c 5 _ rfl
    have s5 := HX2.out.f 5 (by simp)
    clear s0 s1 s2 s3 s4 s5
    cases gk with
    | succ g =>
      have hk : k < units.length := by omega
      have HG := Lib.hid hkg
      clear hkg
      have HS2 : Hid (fstE (unitE buses) units = _) := HS.out.trans (fstE_at un0 hk)
      obtain ⟨b, off, A', c', rfl, hbl, ⟨f0, f1, f2, f3, f4, f5, f6, f7, f8⟩, hrs⟩ := unit_at H2.out (fun p hp => HB2.out.cell hp) k hk
      have HRS := Lib.hid hrs
      clear hrs HS
      generalize units.getD k un0 = u at *
      have KU1 := Lib.hid fun W hr => KU.out u A' c' buses W hr
      generalize unitE buses u = bv at *
      obtain ⟨ubus, umin, usteps, uup, udown, ustart, uidle, uspin, uon⟩ := u
      dsimp only at f0 f1 f2 f3 f4 f5 f6 f7 f8 HRS KU1
      have hku : (k : Int) < (units.length : Int) := by omega
      have hbw : b < wr.heap.size := Nat.lt_of_lt_of_le hbl HB2.out.size
      go_wp2_with fail
      refine region_T (w0 := wr) [(1, .pointer (some ⟨w.heap.size, 0, none⟩)), (4, .int .i64 (k : Int)), (23, .pointer (some ⟨w.heap.size, 2, none⟩)), (24, .slice (some ⟨b, off, none⟩) units.length c2), (25, .int .i64 (k : Int)), (26, .pointer (some ⟨b, off + k * 9, none⟩)), (27, .agg #[.int .i64 ubus, .int .i64 umin, (Value.slice A' usteps.length c'), .int .i64 uup, .int .i64 udown, .int .i64 ustart, .int .i64 uidle, .int .i64 uspin, .int .i64 uon]), (28, .pointer (some ⟨w.heap.size, 0, none⟩)), (29, .pointer (some ⟨w.heap.size, 0, none⟩)), (30, .int .i64 buses), (31, .int .i64 bv)] [(3, .int .i64 bv)] [1, 4] ?_ ?_
      · intro T hT W hI
        simp only [HoldsT, and_true] at hT
        have l0 := (hI.cell (p := ⟨w.heap.size, 0, none⟩) hz2).trans q0
        have l2 := (hI.cell (p := ⟨w.heap.size, 2, none⟩) hz2).trans q2
        have F0 := (hI.cell (p := ⟨b, off + k * 9, none⟩) hbw).trans f0
        have F1 := (hI.cell (p := ⟨b, off + k * 9 + 1, none⟩) hbw).trans f1
        have F2 := (hI.cell (p := ⟨b, off + k * 9 + 2, none⟩) hbw).trans f2
        have F3 := (hI.cell (p := ⟨b, off + k * 9 + 3, none⟩) hbw).trans f3
        have F4 := (hI.cell (p := ⟨b, off + k * 9 + 4, none⟩) hbw).trans f4
        have F5 := (hI.cell (p := ⟨b, off + k * 9 + 5, none⟩) hbw).trans f5
        have F6 := (hI.cell (p := ⟨b, off + k * 9 + 6, none⟩) hbw).trans f6
        have F7 := (hI.cell (p := ⟨b, off + k * 9 + 7, none⟩) hbw).trans f7
        have F8 := (hI.cell (p := ⟨b, off + k * 9 + 8, none⟩) hbw).trans f8
        repeat' first | exact AllO.nil | apply AllO.cons
        all_goals try ((first | refine oV ?_ | refine oN ?_ | refine oG (t := by simp only [hT]) (h := ?_)); simp [go_sem, EvT, hT, l0, l2, hku, F0, F1, F2, F3, F4, F5, F6, F7, F8, valT]; done)
        · refine opT_r (runT_c 46 #[.agg #[.int .i64 ubus, .int .i64 umin, (Value.slice A' usteps.length c'), .int .i64 uup, .int .i64 udown, .int .i64 ustart, .int .i64 uidle, .int .i64 uspin, .int .i64 uon], .int .i64 buses] (by simp [go_sem, EvT, hT, l0, l2, hku, F0, F1, F2, F3, F4, F5, F6, F7, F8]) ?_)
          simp only [valT, hT]
          exact KU1.out W ((HRS.out.keep (w' := wr) StE.keep (fun _ _ => rfl) HB2.out.size).upto StE.keep hI)
      intro wx hbx
      simp (decide := true) only [putT, valT, look, Act.put, List.setIfInBounds_toArray, List.set_cons_zero, List.set_cons_succ, Nat.reduceAdd, if_true, if_false]
      have HB4 := Lib.hid (HB2.out.trans (hbx.mono HB2.out.size))
      have HBO4 := Lib.hid (HBO.out.trans (hbx.mono (by omega)))
      clear hbx KU1 f0 f1 f2 f3 f4 f5 f6 f7 f8 q0 q1 q2 q3 q4 q5
      by_cases hv : bv = 0
      · have HF : Hid (fstE (unitE buses) units = _) := HS2.out.trans (if_neg (fun hh => hh hv))
        subst hv
        clear HS2
        go_wp2_with fail
        go_roundg g
        case measure => omega
        case rel => exact ⟨k + 1, by have := HG.out; omega, by go_num, HF.out, HBO4.out⟩
      · have HF : Hid (fstE (unitE buses) units = bv) := HS2.out.trans (if_pos hv)
        have HE : Hid (R = bv) := E.out.trans (by rw [HF.out, if_pos hv])
        have e0 : (bv == 0) = false := beq_eq_false_iff_ne.2 hv
        have e1 : (bv != 0) = true := bne_iff_ne.2 hv
        clear HS2 HF hv E
        go_wp2_with fail
        try rw [Exit.noGoto_ret]
        go_ret
        exact ⟨ret_int HE.out.symm, HB4.out⟩
    | zero =>
      obtain rfl : k = units.length := by omega
      have h0 : fstE (unitE buses) units = 0 := HS.out.trans (fstE_end _ _)
      replace E : Hid (R = _) := E.out.trans (if_neg (fun hh => hh h0))
      clear hkg h0 HS HBO HB1 HX1
      by_cases e3 : hours.length = 0
      · have HE : Hid (R = 4) := E.out.trans (if_pos e3)
        have d1 : ((hours.length : Int) == 0) = true := by rw [e3]; rfl
        clear E e3
        go_wp2_with fail
        go_ret
        exact ⟨ret_int HE.out.symm, HB2.out⟩
      have d1 : ((hours.length : Int) == 0) = false := beq_eq_false_iff_ne.2 (by omega)
      replace E : Hid (R = _) := E.out.trans (if_neg e3)
      by_cases e4 : 8 < hours.length
      · have HE : Hid (R = 5) := E.out.trans (if_pos e4)
        have d2 : decide ((8 : Int) < (hours.length : Int)) = true := decide_eq_true (by omega)
        clear E e3 e4
        go_wp2_with fail
        go_ret
        exact ⟨ret_int HE.out.symm, HB2.out⟩
      have d2 : decide ((8 : Int) < (hours.length : Int)) = false := decide_eq_false (by omega)
      replace E : Hid (R = _) := E.out.trans (if_neg e4)
      have hhl : hours.length ≤ 8 := by omega
      have hhp : 0 < hours.length := by omega
      clear e3 e4
      obtain ⟨wo, rfl⟩ : ∃ wo : World, wo = wr := ⟨_, rfl⟩
      go_wp2_with fail
      clear d1 d2
      generalize hff : hours.getD 0 hr0 = ff at *
      have HFF := Lib.hid hff
      clear hff
      go_loopg [2, 3, 5] hours.length (fun g s2 s3 s5 wx => ∃ k : Nat, k + g = hours.length ∧ s5 = .int .i64 (k : Int) ∧ fstE (hourE buses ff) hours = fstE (hourE buses ff) (hours.drop k) ∧ Below (w.heap.size + 1) wo wx)
      case atStart => exact ⟨0, by omega, rfl, rfl, Below.refl _ _⟩
      case round =>
        obtain ⟨k, hkg, rfl, hs, hb⟩ := hrel
        have HB3 : Hid (Below w.heap.size w wr) := HB2.out.trans (hb.mono (by omega))
        have HX3 := Lib.hid (HX2.out.up hb (by omega))
        have hz3 : w.heap.size < wr.heap.size := HX3.out.lt (by simp)
        have HBO := Lib.hid hb
        have HS := Lib.hid hs
        clear hs hb q0 q1 q2 q3 q4 q5
        have q0 := HX3.out.c 0 _ rfl
        have s0 := HX3.out.f 0 (by simp)
        have q1 := HX3.out.c 1 _ rfl
        have s1 := HX3.out.f 1 (by simp)
        have q2 := HX3.out.c 2 _ rfl
        have s2 := HX3.out.f 2 (by simp)
        have q3 := HX3.out.c 3 _ rfl
        have s3 := HX3.out.f 3 (by simp)
        have q4 := HX3.out.c 4 _ rfl
        have s4 := HX3.out.f 4 (by simp)
        have q5 := HX3.out.c 5 _ rfl
        have s5 := HX3.out.f 5 (by simp)
        clear s0 s1 s2 s3 s4 s5
        cases gk with
        | succ g =>
          have hk : k < hours.length := by omega
          have HG := Lib.hid hkg
          clear hkg
          have HS2 : Hid (fstE (hourE buses ff) hours = _) := HS.out.trans (fstE_at hr0 hk)
          obtain ⟨b, off, Ab, cb, Ar, cr, rfl, hbl, ⟨f0, f1, f2⟩, hrb, hrr⟩ := hour_at H3.out (fun p hp => HB3.out.cell hp) k hk
          obtain ⟨b', off', Ab', cb', Ar', cr', hA', hbl', ⟨g0, g1, g2⟩, hrb', hrr'⟩ := hour_at H3.out (fun p hp => HB3.out.cell hp) 0 hhp
          obtain ⟨rfl, rfl⟩ : b' = b ∧ off' = off := by injection hA' with h; injection h with h1 h2; exact ⟨h1.symm, h2.symm⟩
          rw [HFF.out] at g0 g1 g2 hrb' hrr'
          have HRB := Lib.hid hrb
          have HRR := Lib.hid hrr
          have HRB' := Lib.hid hrb'
          clear hrb hrr hrb' hrr' HS hA' hbl'
          generalize hours.getD k hr0 = u at *
          have KH1 := Lib.hid fun W hr hr1 hr2 => KH.out u ff Ab Ar Ab' Ar' cb cr cb' cr' buses W hr hr1 hr2
          generalize hourE buses ff u = bv at *
          obtain ⟨ubids, ureal, uneed⟩ := u
          obtain ⟨fbids, freal, fneed⟩ := ff
          dsimp only at f0 f1 f2 g0 g1 g2 HRB HRR HRB' KH1
          replace g0 : wr.cell? ⟨b', off', none⟩ = some (.slice Ab' fbids.length cb') := by simpa using g0
          replace g1 : wr.cell? ⟨b', off' + 1, none⟩ = some (.slice Ar' freal.length cr') := by simpa using g1
          replace g2 : wr.cell? ⟨b', off' + 2, none⟩ = some (.int .i64 fneed) := by simpa using g2
          have hbl2 : b' < wr.heap.size := Nat.lt_of_lt_of_le hbl HB3.out.size
          have hkh : (k : Int) < (hours.length : Int) := by omega
          have hh0 : (0 : Int) < (hours.length : Int) := by omega
          have hh1 : ¬ hours = [] := fun hn => by rw [hn] at hhp; simp at hhp
          have KH2 := Lib.hid fun W (hw : Below wr.heap.size wr W) =>
            have h1 : ∀ p : Addr, p.block < w.heap.size → W.cell? p = wr.cell? p := fun p hp => hw.cell (by omega)
            have h2 : w.heap.size ≤ W.heap.size := Nat.le_trans HB3.out.size hw.size
            KH1.out W (HRB.out.keep BdR.keep h1 h2) (HRR.out.keep BdR.keep h1 h2) (HRB'.out.keep BdR.keep h1 h2)
          clear KH1 HRB HRR HRB'
          go_wp2_with fail
          refine region_T (w0 := wr) [(1, .pointer (some ⟨w.heap.size, 0, none⟩)), (5, .int .i64 (k : Int)), (50, .pointer (some ⟨w.heap.size, 3, none⟩)), (51, .slice (some ⟨b', off', none⟩) hours.length c3), (52, .int .i64 (k : Int)), (53, .pointer (some ⟨b', off' + k * 3, none⟩)), (54, .agg #[.slice Ab ubids.length cb, .slice Ar ureal.length cr, .int .i64 uneed]), (55, .pointer (some ⟨w.heap.size, 3, none⟩)), (56, .slice (some ⟨b', off', none⟩) hours.length c3), (57, .pointer (some ⟨b', off', none⟩)), (58, .agg #[(Value.slice Ab' fbids.length cb'), (Value.slice Ar' freal.length cr'), .int .i64 fneed]), (59, .pointer (some ⟨w.heap.size, 0, none⟩)), (60, .pointer (some ⟨w.heap.size, 0, none⟩)), (61, .int .i64 buses), (62, .int .i64 bv)] [(3, .int .i64 bv)] [1, 5] ?_ ?_
          · intro T hT W hI
            simp only [HoldsT, and_true] at hT
            have l0 := (hI.cell (p := ⟨w.heap.size, 0, none⟩) hz3).trans q0
            have l3 := (hI.cell (p := ⟨w.heap.size, 3, none⟩) hz3).trans q3
            have F0 := (hI.cell (p := ⟨b', off' + k * 3, none⟩) hbl2).trans f0
            have F1 := (hI.cell (p := ⟨b', off' + k * 3 + 1, none⟩) hbl2).trans f1
            have F2 := (hI.cell (p := ⟨b', off' + k * 3 + 2, none⟩) hbl2).trans f2
            have G0 := (hI.cell (p := ⟨b', off', none⟩) hbl2).trans g0
            have G1 := (hI.cell (p := ⟨b', off' + 1, none⟩) hbl2).trans g1
            have G2 := (hI.cell (p := ⟨b', off' + 2, none⟩) hbl2).trans g2
            repeat' first | exact AllO.nil | apply AllO.cons
            all_goals try ((first | refine oV ?_ | refine oN ?_ | refine oG (t := by simp only [hT]) (h := ?_)); simp [go_sem, EvT, hT, l0, l3, hkh, hh0, hh1, F0, F1, F2, G0, G1, G2, valT]; done)
            · refine opT_r (runT_c 47 #[.agg #[.slice Ab ubids.length cb, .slice Ar ureal.length cr, .int .i64 uneed], .agg #[(Value.slice Ab' fbids.length cb'), (Value.slice Ar' freal.length cr'), .int .i64 fneed], .int .i64 buses] (by simp [go_sem, EvT, hT, l0, l3, hkh, hh0, hh1, F0, F1, F2, G0, G1, G2]) ?_)
              simp only [valT, hT]
              exact KH2.out W hI
          intro wx hbx
          simp (decide := true) only [putT, valT, look, Act.put, List.setIfInBounds_toArray, List.set_cons_zero, List.set_cons_succ, Nat.reduceAdd, if_true, if_false]
          have HB5 := Lib.hid (HB3.out.trans (hbx.mono HB3.out.size))
          have HBO5 := Lib.hid (HBO.out.trans (hbx.mono (by omega)))
          clear hbx KH2 f0 f1 f2 g0 g1 g2 q0 q1 q2 q3 q4 q5
          by_cases hv : bv = 0
          · have HF : Hid (fstE (hourE buses ⟨fbids, freal, fneed⟩) hours = _) := HS2.out.trans (if_neg (fun hh => hh hv))
            subst hv
            clear HS2
            go_wp2_with fail
            go_roundg g
            case measure => omega
            case rel => exact ⟨k + 1, by have := HG.out; omega, by go_num, HF.out, HBO5.out⟩
          · have HF : Hid (fstE (hourE buses ⟨fbids, freal, fneed⟩) hours = bv) := HS2.out.trans (if_pos hv)
            have HE : Hid (R = bv) := E.out.trans (by rw [HF.out, if_pos hv])
            have e0 : (bv == 0) = false := beq_eq_false_iff_ne.2 hv
            have e1 : (bv != 0) = true := bne_iff_ne.2 hv
            clear HS2 HF hv E
            go_wp2_with fail
            try rw [Exit.noGoto_ret]
            go_ret
            exact ⟨ret_int HE.out.symm, HB5.out⟩
        | zero =>
          obtain rfl : k = hours.length := by omega
          have h0 : fstE (hourE buses ff) hours = 0 := HS.out.trans (fstE_end _ _)
          replace E : Hid (R = _) := E.out.trans (if_neg (fun hh => hh h0))
          have KO := Lib.hid fun W hl => refOuts_any (lines.length : Int) (units.length : Int) (hours.length : Int) A4 c4 outs W hl HHO.out
          have KR := Lib.hid fun W hl => refRight_any A5 c5 rights buses W hl HHR.out
          generalize ogWrong lines.length units.length hours.length outs = ow at *
          clear hkg h0 HS HBO HB2 HX2
          go_wp2_with fail
          refine (KO.out wr (H4.out.keep OgE'.keep (fun p hp => HB3.out.cell hp) HB3.out.size).ogs).mono ?_
          rintro e w5 ⟨pw, rfl, hb5⟩
          have HX5 := Lib.hid (HX3.out.up hb5 hz3)
          have HB5 := Lib.hid (HB3.out.trans (hb5.mono HB3.out.size))
          clear hb5 KO HX3 HB3 q0 q1 q2 q3 q4 q5
          have q0 := HX5.out.c 0 _ rfl
          have s0 := HX5.out.f 0 (by simp)
          have q1 := HX5.out.c 1 _ rfl
          have s1 := HX5.out.f 1 (by simp)
          have q2 := HX5.out.c 2 _ rfl
          have s2 := HX5.out.f 2 (by simp)
          have q3 := HX5.out.c 3 _ rfl
          have s3 := HX5.out.f 3 (by simp)
          have q4 := HX5.out.c 4 _ rfl
          have s4 := HX5.out.f 4 (by simp)
          have q5 := HX5.out.c 5 _ rfl
          have s5 := HX5.out.f 5 (by simp)
          clear s0 s1 s2 s3 s4 s5
          by_cases hv : ow = 0
          · replace E : Hid (R = _) := E.out.trans (if_neg (fun hh => hh hv))
            subst hv
            go_wp2_with fail
            refine (KR.out w5 (H5.out.keep RtE.keep (fun p hp => HB5.out.cell hp) HB5.out.size)).mono ?_
            rintro e w6 ⟨pl, rfl, hb6⟩
            have HB6 := Lib.hid (HB5.out.trans (hb6.mono HB5.out.size))
            clear hb6
            go_wp2_with fail
            go_ret
            exact ⟨ret_int E.out.symm, HB6.out⟩
          · have HE : Hid (R = ow) := E.out.trans (if_pos hv)
            have e0 : (ow == 0) = false := beq_eq_false_iff_ne.2 hv
            have e1 : (ow != 0) = true := bne_iff_ne.2 hv
            clear hv E
            go_wp2_with fail
            go_ret
            exact ⟨ret_int HE.out.symm, HB5.out⟩
end Go.Proofs.YtklanoppbbaolaaGreat
