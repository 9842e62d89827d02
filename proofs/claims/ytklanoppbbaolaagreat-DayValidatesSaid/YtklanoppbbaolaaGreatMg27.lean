/- The text FrE. -/
import Derived.Test.YtklanoppbbaolaaGreatMg26
import Derived.Test.YtklanoppbbaolaaGreatMg22
/- The reference: pylonref40.bids and hour. -/
namespace Go.Proofs.YtklanoppbbaolaaGreat
open Go.RowKit
set_option linter.unusedVariables false
set_option linter.unusedSimpArgs false
set_option maxRecDepth 100000
set_option maxHeartbeats 8000000
def bidsE (n : Int) (l : List Bd) : Int := if 6 < l.length then 5 else fstE (bidE n) l
theorem refBids_any (l : List Bd) (A : Option Addr) (c : Nat) (n : Int) (w : World) (hr : RowR BdR 2 w w.heap.size A l) :
    Calls Tryz.prog 99 #[.slice A l.length c, .int .i64 n] w (ErrE w (bidsE n l)) := by
  have HR := Lib.hid hr
  have HB0 := Lib.hid (Below.refl w.heap.size w)
  have E : Hid (bidsE n l = if 6 < l.length then 5 else fstE (bidE n) l) := rfl
  generalize bidsE n l = R at *
  clear hr
  by_cases h6 : 6 < l.length
  · have HE : Hid (R = 5) := E.out.trans (if_pos h6)
    have d1 : decide ((6 : Int) < (l.length : Int)) = true := decide_eq_true (by omega)
    clear h6 E
    go_enter Tryz.func99, Tryz.ntmps99
    go_wp2_with fail
    go_ret
    exact ⟨ret_int HE.out.symm, HB0.out⟩
  have d1 : decide ((6 : Int) < (l.length : Int)) = false := decide_eq_false (by omega)
  replace E : Hid (R = _) := E.out.trans (if_neg h6)
  have hm : l.length ≤ 6 := by omega
  clear h6
  go_enter Tryz.func99, Tryz.ntmps99
  go_wp2_with fail
  go_loopg [4, 5, 6] l.length (fun g s4 s5 s6 wr => ∃ k : Nat, k + g = l.length ∧ s5 = .int .i64 (k : Int) ∧ fstE (bidE n) l = fstE (bidE n) (l.drop k) ∧ Below w.heap.size w wr)
  case atStart => exact ⟨0, by omega, rfl, rfl, HB0.out⟩
  case round =>
    clear HB0 d1
    obtain ⟨k, hkg, rfl, hs, hb⟩ := hrel
    have HS := Lib.hid hs
    have HB := Lib.hid hb
    clear hs hb
    cases gk with
    | zero =>
      obtain rfl : k = l.length := by omega
      have HE : Hid (R = 0) := E.out.trans (HS.out.trans (fstE_end _ _))
      clear hkg HS HR E
      go_wp2_with fail
      try rw [Exit.noGoto_ret]
      go_ret
      exact ⟨ret_int HE.out.symm, HB.out⟩
    | succ g =>
      have hk : k < l.length := by omega
      have HG := Lib.hid hkg
      clear hkg
      have HS2 : Hid (fstE (bidE n) l = _) := HS.out.trans (fstE_at bd0 hk)
      obtain ⟨b, off, A', c', rfl, hbl, f0, f1, hrs⟩ := bid_at HR.out (fun p hp => HB.out.cell hp) k hk
      have HRS := Lib.hid hrs
      have HBD : Hid (bidE n (l.getD k bd0) = if !inB (l.getD k bd0).bus n then 1 else stepsE falls (l.getD k bd0).steps) := rfl
      clear hrs HS
      generalize bidE n (l.getD k bd0) = bv at *
      generalize (l.getD k bd0).bus = bus at *
      generalize (l.getD k bd0).steps = steps at *
      have K1 := Lib.hid fun W hr => refBid_any A' c' steps W hr
      by_cases hi : inB bus n = true
      · have hb' := hi
        unfold inB at hb'
        simp only [Bool.and_eq_true, decide_eq_true_eq] at hb'
        have d1 : decide (bus < 0) = false := decide_eq_false (by omega)
        have d2 : decide (n ≤ bus) = false := decide_eq_false (by omega)
        replace HBD : Hid (bv = _) := HBD.out.trans (if_neg (by rw [hi]; simp))
        clear hi hb'
        go_wp2_with fail
        refine (K1.out _ (HRS.out.keep (w' := wr) StE.keep (fun _ _ => rfl) HB.out.size)).mono ?_
        rintro e w3 ⟨rfl, hb3⟩
        have HB2 := Lib.hid (HB.out.trans (hb3.mono HB.out.size))
        clear hb3 K1
        by_cases hv : bv = 0
        · have HF : Hid (fstE (bidE n) l = _) := HS2.out.trans (if_neg (fun hh => hh hv))
          rw [← HBD.out, hv]
          clear HS2 hv
          go_wp2_with fail
          go_roundg g
          case measure => omega
          case rel => exact ⟨k + 1, by have := HG.out; omega, by go_num, HF.out, HB2.out⟩
        · have HF : Hid (fstE (bidE n) l = bv) := HS2.out.trans (if_pos hv)
          have HE : Hid (R = bv) := E.out.trans HF.out
          rw [← HBD.out]
          have e0 : (bv == 0) = false := beq_eq_false_iff_ne.2 hv
          have e1 : (bv != 0) = true := bne_iff_ne.2 hv
          clear HS2 HF hv HBD E
          go_wp2_with fail
          try rw [Exit.noGoto_ret]
          go_ret
          exact ⟨ret_int HE.out.symm, HB2.out⟩
      · have hb' : bus < 0 ∨ (¬ bus < 0 ∧ n ≤ bus) := by
          simp [inB] at hi
          omega
        have hv : bv = 1 := HBD.out.trans (if_pos (by simp [hi]))
        have HE : Hid (R = 1) := by
          show _ = _
          rw [E.out, HS2.out, if_pos (by rw [hv]; decide), hv]
        clear hi hv HS2 HBD E
        rcases hb' with h1 | ⟨h1, h2⟩
        · have d1 : decide (bus < 0) = true := decide_eq_true h1
          go_wp2_with fail
          try rw [Exit.noGoto_ret]
          go_ret
          exact ⟨ret_int HE.out.symm, HB.out⟩
        · have d1 : decide (bus < 0) = false := decide_eq_false h1
          have d2 : decide (n ≤ bus) = true := decide_eq_true h2
          go_wp2_with fail
          try rw [Exit.noGoto_ret]
          go_ret
          exact ⟨ret_int HE.out.symm, HB.out⟩
set_option maxHeartbeats 16000000 in
theorem refHour_any (h f : Hr) (A A1 A2 A3 : Option Addr) (c c1 c2 c3 : Nat) (n : Int) (w : World) (hr : RowR BdR 2 w w.heap.size A h.bids) (hr1 : RowR BdR 2 w w.heap.size A1 h.real) (hr2 : RowR BdR 2 w w.heap.size A2 f.bids) :
    Calls Tryz.prog 47 #[.agg #[.slice A h.bids.length c, .slice A1 h.real.length c1, .int .i64 h.need], .agg #[.slice A2 f.bids.length c2, .slice A3 f.real.length c3, .int .i64 f.need], .int .i64 n] w (ErrE w (hourE n f h)) := by
  have HR := Lib.hid hr
  have HR1 := Lib.hid hr1
  have HR2 := Lib.hid hr2
  have E0 : Hid (hourE n f h = if bidsE n h.bids ≠ 0 then bidsE n h.bids
    else if h.real.length ≠ h.bids.length then 3
    else if fstE realE (h.real.zip h.bids) ≠ 0 then fstE realE (h.real.zip h.bids)
    else if h.need < 0 ∨ 1000000 < h.need then 1
    else if h.bids.length ≠ f.bids.length then 3
    else fstE busNe (h.bids.zip f.bids)) := by
    show _ = _
    unfold hourE bidsE
    by_cases h6 : 6 < h.bids.length
    · simp [h6]
    · simp [h6]
  have HL6 : Hid (bidsE n h.bids = 0 → h.bids.length ≤ 6) := fun hh => by
    unfold bidsE at hh
    by_cases h6 : 6 < h.bids.length
    · rw [if_pos h6] at hh; cases hh
    · omega
  have KB := Lib.hid fun W hr => refBids_any h.bids A c n W hr
  have KF := Lib.hid fun A c l W hr => refBid_any A c l W hr
  generalize hourE n f h = R at *
  generalize bidsE n h.bids = be at *
  have HB0 := Lib.hid (below_two w (.cells #[.slice A h.bids.length c, .slice A1 h.real.length c1, .int .i64 h.need] 25) (.cells #[.slice A2 f.bids.length c2, .slice A3 f.real.length c3, .int .i64 f.need] 25))
  have HXh : Hid (Box ((w.alloc (.cells #[.slice A h.bids.length c, .slice A1 h.real.length c1, .int .i64 h.need] 25)).alloc (.cells #[.slice A2 f.bids.length c2, .slice A3 f.real.length c3, .int .i64 f.need] 25)) w.heap.size [.slice A h.bids.length c, .slice A1 h.real.length c1, .int .i64 h.need]) := (Box.new w #[.slice A h.bids.length c, .slice A1 h.real.length c1, .int .i64 h.need] 25).alloc (by simp) _
  have HXf : Hid (Box ((w.alloc (.cells #[.slice A h.bids.length c, .slice A1 h.real.length c1, .int .i64 h.need] 25)).alloc (.cells #[.slice A2 f.bids.length c2, .slice A3 f.real.length c3, .int .i64 f.need] 25)) (w.heap.size + 1) [.slice A2 f.bids.length c2, .slice A3 f.real.length c3, .int .i64 f.need]) := by
    have := Box.new (w.alloc (.cells #[.slice A h.bids.length c, .slice A1 h.real.length c1, .int .i64 h.need] 25)) #[.slice A2 f.bids.length c2, .slice A3 f.real.length c3, .int .i64 f.need] 25
    show Box _ _ _
    simpa using this
  clear hr hr1 hr2
  go_enter Tryz.func47, Tryz.ntmps47
  go_wp2_with fail
  refine (KB.out _ (HR.out.upto BdR.keep HB0.out)).mono ?_
  rintro e wr ⟨rfl, hb⟩
  have HB : Hid (Below w.heap.size w wr) := HB0.out.trans (hb.mono (by simp; omega))
  have HXh1 := Lib.hid (HXh.out.up hb (by simp; omega))
  have HXf1 := Lib.hid (HXf.out.up hb (by simp))
  clear hb HXh HXf HB0 KB
  have q0 := HXh1.out.c 0 _ rfl
  have s0 := HXh1.out.f 0 (by simp)
  have q1 := HXh1.out.c 1 _ rfl
  have s1 := HXh1.out.f 1 (by simp)
  have q2 := HXh1.out.c 2 _ rfl
  have s2 := HXh1.out.f 2 (by simp)
  have g0 := HXf1.out.c 0 _ rfl
  have y0 := HXf1.out.f 0 (by simp)
  have g1 := HXf1.out.c 1 _ rfl
  have y1 := HXf1.out.f 1 (by simp)
  have g2 := HXf1.out.c 2 _ rfl
  have y2 := HXf1.out.f 2 (by simp)
  clear s0 s1 s2 y0 y1 y2
  by_cases hbe : be = 0
  case neg =>
    have HE : Hid (R = be) := E0.out.trans (if_pos hbe)
    have e0 : (be == 0) = false := beq_eq_false_iff_ne.2 hbe
    have e1 : (be != 0) = true := bne_iff_ne.2 hbe
    clear hbe E0
    go_wp2_with fail
    go_ret
    exact ⟨ret_int HE.out.symm, HB.out⟩
  have E : Hid (R = _) := E0.out.trans (if_neg (fun hh => hh hbe))
  have hl1 : h.bids.length ≤ 6 := HL6.out hbe
  subst hbe
  clear E0 HL6
  by_cases hlen : h.real.length = h.bids.length
  case neg =>
    have HE : Hid (R = 3) := E.out.trans (if_pos hlen)
    have e1 : ((h.real.length : Int) != (h.bids.length : Int)) = true := bne_iff_ne.2 (by omega)
    clear hlen E
    go_wp2_with fail
    go_ret
    exact ⟨ret_int HE.out.symm, HB.out⟩
  replace E : Hid (R = _) := E.out.trans (if_neg (fun hh => hh hlen))
  have e1 : ((h.real.length : Int) != (h.bids.length : Int)) = false := by rw [hlen]; simp
  have HLN := Lib.hid hlen
  have hl2 : h.real.length ≤ 6 := by omega
  clear hlen
  obtain ⟨wo, rfl⟩ : ∃ wo : World, wo = wr := ⟨_, rfl⟩
  go_wp2_with fail
  clear e1
  go_loopg [6, 7, 8] h.real.length (fun g s6 s7 s8 wx => ∃ k : Nat, k + g = h.real.length ∧ s8 = .int .i64 (k : Int) ∧ fstE realE (h.real.zip h.bids) = fstE realE ((h.real.zip h.bids).drop k) ∧ Below (w.heap.size + 2) wo wx)
  case atStart => exact ⟨0, by omega, rfl, rfl, Below.refl _ _⟩
  case round =>
    obtain ⟨k, hkg, rfl, hs, hb⟩ := hrel
    have HB2 : Hid (Below w.heap.size w wr) := HB.out.trans (hb.mono (by omega))
    have HXh2 := Lib.hid (HXh1.out.up hb (by omega))
    have HXf2 := Lib.hid (HXf1.out.up hb (by omega))
    have hlth : w.heap.size < wr.heap.size := HXh2.out.lt (by simp)
    have HBO := Lib.hid hb
    have HS := Lib.hid hs
    clear hs hb
    clear q0 q1 q2 g0 g1 g2
    have q0 := HXh2.out.c 0 _ rfl
    have s0 := HXh2.out.f 0 (by simp)
    have q1 := HXh2.out.c 1 _ rfl
    have s1 := HXh2.out.f 1 (by simp)
    have q2 := HXh2.out.c 2 _ rfl
    have s2 := HXh2.out.f 2 (by simp)
    have g0 := HXf2.out.c 0 _ rfl
    have y0 := HXf2.out.f 0 (by simp)
    have g1 := HXf2.out.c 1 _ rfl
    have y1 := HXf2.out.f 1 (by simp)
    have g2 := HXf2.out.c 2 _ rfl
    have y2 := HXf2.out.f 2 (by simp)
    clear s0 s1 s2 y0 y1 y2
    cases gk with
    | succ g =>
      have hk : k < h.real.length := by omega
      have HG := Lib.hid hkg
      clear hkg
      have hkb : k < h.bids.length := by have := HLN.out; omega
      have hkz : k < (h.real.zip h.bids).length := by rw [List.length_zip]; omega
      have HS2 : Hid (fstE realE (h.real.zip h.bids) = if realE (h.real.getD k bd0, h.bids.getD k bd0) ≠ 0 then realE (h.real.getD k bd0, h.bids.getD k bd0) else fstE realE ((h.real.zip h.bids).drop (k + 1))) := by
        show _ = _
        rw [HS.out, fstE_at (bd0, bd0) hkz, zip_getD _ _ _ hk hkb]
      obtain ⟨b, off, A', c', rfl, hbl, f0, f1, hrs⟩ := bid_at HR1.out (fun p hp => HB2.out.cell hp) k hk
      obtain ⟨b', off', A'', c'', rfl, hbl', f2, f3, _⟩ := bid_at HR.out (fun p hp => HB2.out.cell hp) k hkb
      have HRS := Lib.hid hrs
      have HBD : Hid (realE (h.real.getD k bd0, h.bids.getD k bd0) = if (h.real.getD k bd0).bus ≠ (h.bids.getD k bd0).bus then 3 else stepsE falls (h.real.getD k bd0).steps) := rfl
      clear hrs HS f3
      generalize realE (h.real.getD k bd0, h.bids.getD k bd0) = bv at *
      generalize (h.real.getD k bd0).bus = bus at *
      generalize (h.bids.getD k bd0).bus = bush at *
      generalize (h.real.getD k bd0).steps = steps at *
      have K1 := Lib.hid fun W hr => KF.out A' c' steps W hr
      have hkr : (k : Int) < (h.real.length : Int) := by omega
      have hkl : (k : Int) < (h.bids.length : Int) := by omega
      have hbl2 : b' < wr.heap.size := Nat.lt_of_lt_of_le hbl' HB2.out.size
      have hbl1 : b < wr.heap.size := Nat.lt_of_lt_of_le hbl HB2.out.size
      obtain ⟨nb, hnb⟩ : ∃ x, (bus != bush) = x := ⟨_, rfl⟩
      go_wp2_with fail
      refine region_T (w0 := wr) [(3, .pointer (some ⟨w.heap.size, 0, none⟩)), (8, .int .i64 (k : Int)), (31, .pointer (some ⟨w.heap.size, 1, none⟩)), (32, .slice (some ⟨b, off, none⟩) h.real.length c1), (33, .int .i64 (k : Int)), (34, .pointer (some ⟨b, off + k * 2, none⟩)), (35, .pointer (some ⟨b, off + k * 2, none⟩)), (36, .int .i64 bus), (37, .pointer (some ⟨w.heap.size, 0, none⟩)), (38, .slice (some ⟨b', off', none⟩) h.bids.length c), (39, .int .i64 (k : Int)), (40, .pointer (some ⟨b', off' + k * 2, none⟩)), (41, .pointer (some ⟨b', off' + k * 2, none⟩)), (42, .int .i64 bush), (43, .bool nb)] [] [3, 8] ?_ ?_
      · intro T hT W hI
        simp only [HoldsT, and_true] at hT
        have l0 := (hI.cell (p := ⟨w.heap.size, 0, none⟩) hlth).trans q0
        have l1 := (hI.cell (p := ⟨w.heap.size, 1, none⟩) hlth).trans q1
        have F0 := (hI.cell (p := ⟨b, off + k * 2, none⟩) hbl1).trans f0
        have F2 := (hI.cell (p := ⟨b', off' + k * 2, none⟩) hbl2).trans f2
        repeat' first | exact AllO.nil | apply AllO.cons
        all_goals try ((first | refine oV ?_ | refine oN ?_ | refine oG (t := by simp only [hT]) (h := ?_)); simp [go_sem, EvT, hT, l0, l1, F0, F2, hkr, hkl, hnb, valT]; done)
      intro wx hbx
      simp (decide := true) only [putT, valT, look, Act.put, List.setIfInBounds_toArray, List.set_cons_zero, List.set_cons_succ, Nat.reduceAdd, if_true, if_false]
      have HB4 := Lib.hid (HB2.out.trans (hbx.mono HB2.out.size))
      have HBO4 := Lib.hid (HBO.out.trans (hbx.mono (by have := HXf2.out.lt (by simp); omega)))
      have HX4 := Lib.hid (HXh2.out.up hbx hlth)
      have f1' := (hbx.cell (p := ⟨b, off + k * 2 + 1, none⟩) hbl1).trans f1
      have hlt4 : w.heap.size < wx.heap.size := HX4.out.lt (by simp)
      have hbl4 : b < wx.heap.size := Nat.lt_of_lt_of_le hbl1 hbx.size
      clear hbx f0 f1 f2 q0 q1 q2 g0 g1 g2
      have q1 := HX4.out.c 1 _ rfl
      by_cases hi : bus = bush
      · obtain rfl : nb = false := by rw [← hnb, hi]; simp
        replace HBD : Hid (bv = _) := HBD.out.trans (if_neg (fun hh => hh hi))
        clear hi hnb
        go_wp2_with fail
        refine (K1.out _ (HRS.out.keep (w' := wx) StE.keep (fun p hp => (HB4.out.cell hp).trans (HB2.out.cell hp).symm) HB4.out.size)).mono ?_
        rintro e w4 ⟨rfl, hb4⟩
        have HB5 := Lib.hid (HB4.out.trans (hb4.mono HB4.out.size))
        have HBO5 := Lib.hid (HBO4.out.trans (hb4.mono (by have := HXf1.out.lt (by simp); have := HBO4.out.size; omega)))
        clear hb4 K1
        by_cases hv : bv = 0
        · have HF : Hid (fstE realE (h.real.zip h.bids) = _) := HS2.out.trans (if_neg (fun hh => hh hv))
          rw [← HBD.out, hv]
          clear HS2 hv
          go_wp2_with fail
          go_roundg g
          case measure => omega
          case rel => exact ⟨k + 1, by have := HG.out; omega, by go_num, HF.out, HBO5.out⟩
        · have HF : Hid (fstE realE (h.real.zip h.bids) = bv) := HS2.out.trans (if_pos hv)
          have HE : Hid (R = bv) := E.out.trans (by rw [HF.out, if_pos hv])
          rw [← HBD.out]
          have e0 : (bv == 0) = false := beq_eq_false_iff_ne.2 hv
          have e1 : (bv != 0) = true := bne_iff_ne.2 hv
          clear HS2 HF hv HBD E
          go_wp2_with fail
          try rw [Exit.noGoto_ret]
          go_ret
          exact ⟨ret_int HE.out.symm, HB5.out⟩
      · obtain rfl : nb = true := by rw [← hnb]; exact bne_iff_ne.2 hi
        have hv : bv = 3 := HBD.out.trans (if_pos hi)
        have HF : Hid (fstE realE (h.real.zip h.bids) = 3) := by
          show _ = _
          rw [HS2.out, if_pos (by rw [hv]; decide), hv]
        have HE : Hid (R = 3) := E.out.trans (by rw [HF.out]; rfl)
        clear hi hv HS2 HF HBD E hnb
        go_wp2_with fail
        try rw [Exit.noGoto_ret]
        go_ret
        exact ⟨ret_int HE.out.symm, HB4.out⟩
    | zero =>
      obtain rfl : k = h.real.length := by omega
      have h0 : fstE realE (h.real.zip h.bids) = 0 := by
        have e := HS.out
        rwa [List.drop_eq_nil_of_le (by rw [List.length_zip]; omega)] at e
      replace E : Hid (R = _) := E.out.trans (if_neg (fun hh => hh h0))
      clear hkg h0 HS
      by_cases hn : h.need < 0 ∨ 1000000 < h.need
      · have HE : Hid (R = 1) := E.out.trans (if_pos hn)
        clear E
        have hn' : decide (h.need < 0) = true ∨ (decide (h.need < 0) = false ∧ decide (1000000 < h.need) = true) := by
          by_cases hh : h.need < 0
          · exact .inl (decide_eq_true hh)
          · exact .inr ⟨decide_eq_false hh, decide_eq_true (by omega)⟩
        clear hn
        rcases hn' with d1 | ⟨d1, d2⟩
        all_goals
          go_wp2_with fail
          go_ret
          exact ⟨ret_int HE.out.symm, HB2.out⟩
      replace E : Hid (R = _) := E.out.trans (if_neg hn)
      have d1 : decide (h.need < 0) = false := decide_eq_false (by omega)
      have d2 : decide (1000000 < h.need) = false := decide_eq_false (by omega)
      clear hn
      by_cases hlf : h.bids.length = f.bids.length
      case neg =>
        have HE : Hid (R = 3) := E.out.trans (if_pos hlf)
        have e1 : ((h.bids.length : Int) != (f.bids.length : Int)) = true := bne_iff_ne.2 (by omega)
        clear hlf E
        go_wp2_with fail
        go_ret
        exact ⟨ret_int HE.out.symm, HB2.out⟩
      replace E : Hid (R = _) := E.out.trans (if_neg (fun hh => hh hlf))
      have HLF := Lib.hid hlf
      have e1 : ((h.bids.length : Int) != (f.bids.length : Int)) = false := by rw [hlf]; simp
      obtain ⟨wy, rfl⟩ : ∃ wy : World, wy = wr := ⟨_, rfl⟩
      clear hlf
      go_wp2_with fail
      clear e1 d1 d2
      go_loopg [6, 9] h.bids.length (fun g s6 s9 wx => ∃ k : Nat, k + g = h.bids.length ∧ s9 = .int .i64 (k : Int) ∧ fstE busNe (h.bids.zip f.bids) = fstE busNe ((h.bids.zip f.bids).drop k) ∧ Below (w.heap.size + 2) wy wx)
      case atStart => exact ⟨0, by omega, rfl, rfl, Below.refl _ _⟩
      case round =>
        obtain ⟨k, hkg, rfl, hs, hb⟩ := hrel
        have HB3 : Hid (Below w.heap.size w wr) := HB2.out.trans (hb.mono (by omega))
        have HXh3 := Lib.hid (HXh2.out.up hb (by omega))
        have HXf3 := Lib.hid (HXf2.out.up hb (by omega))
        have hlth3 : w.heap.size < wr.heap.size := HXh3.out.lt (by simp)
        have hltf3 : w.heap.size + 1 < wr.heap.size := HXf3.out.lt (by simp)
        have HBO3 := Lib.hid hb
        have HS := Lib.hid hs
        clear hs hb
        clear q0 q1 q2 g0 g1 g2
        have q0 := HXh3.out.c 0 _ rfl
        have s0 := HXh3.out.f 0 (by simp)
        have q1 := HXh3.out.c 1 _ rfl
        have s1 := HXh3.out.f 1 (by simp)
        have q2 := HXh3.out.c 2 _ rfl
        have s2 := HXh3.out.f 2 (by simp)
        have g0 := HXf3.out.c 0 _ rfl
        have y0 := HXf3.out.f 0 (by simp)
        have g1 := HXf3.out.c 1 _ rfl
        have y1 := HXf3.out.f 1 (by simp)
        have g2 := HXf3.out.c 2 _ rfl
        have y2 := HXf3.out.f 2 (by simp)
        clear s0 s1 s2 y0 y1 y2
        cases gk with
        | zero =>
          obtain rfl : k = h.bids.length := by omega
          have h0 : fstE busNe (h.bids.zip f.bids) = 0 := by
            have e := HS.out
            rwa [List.drop_eq_nil_of_le (by rw [List.length_zip]; omega)] at e
          have HE : Hid (R = 0) := E.out.trans h0
          clear hkg h0 HS E
          go_wp2_with fail
          try rw [Exit.noGoto_ret]
          go_ret
          exact ⟨ret_int HE.out.symm, HB3.out⟩
        | succ g =>
          have hk : k < h.bids.length := by omega
          have HG := Lib.hid hkg
          clear hkg
          have hkf : k < f.bids.length := by have := HLF.out; omega
          have hkz : k < (h.bids.zip f.bids).length := by rw [List.length_zip]; omega
          have HS2 : Hid (fstE busNe (h.bids.zip f.bids) = if busNe (h.bids.getD k bd0, f.bids.getD k bd0) ≠ 0 then busNe (h.bids.getD k bd0, f.bids.getD k bd0) else fstE busNe ((h.bids.zip f.bids).drop (k + 1))) := by
            show _ = _
            rw [HS.out, fstE_at (bd0, bd0) hkz, zip_getD _ _ _ hk hkf]
          obtain ⟨b, off, A', c', rfl, hbl, f0, f1, _⟩ := bid_at HR.out (fun p hp => HB3.out.cell hp) k hk
          obtain ⟨b', off', A'', c'', rfl, hbl', f2, f3, _⟩ := bid_at HR2.out (fun p hp => HB3.out.cell hp) k hkf
          have HBD : Hid (busNe (h.bids.getD k bd0, f.bids.getD k bd0) = if (h.bids.getD k bd0).bus ≠ (f.bids.getD k bd0).bus then 3 else 0) := rfl
          clear HS f3 f1
          generalize busNe (h.bids.getD k bd0, f.bids.getD k bd0) = bv at *
          generalize (h.bids.getD k bd0).bus = bus at *
          generalize (f.bids.getD k bd0).bus = bush at *
          have hkr : (k : Int) < (h.bids.length : Int) := by omega
          have hkl : (k : Int) < (f.bids.length : Int) := by omega
          have hbl2 : b' < wr.heap.size := Nat.lt_of_lt_of_le hbl' HB3.out.size
          have hbl1 : b < wr.heap.size := Nat.lt_of_lt_of_le hbl HB3.out.size
          obtain ⟨nb, hnb⟩ : ∃ x, (bus != bush) = x := ⟨_, rfl⟩
          go_wp2_with fail
          refine region_T (w0 := wr) [(3, .pointer (some ⟨w.heap.size, 0, none⟩)), (4, .pointer (some ⟨(w.heap.size + 1), 0, none⟩)), (9, .int .i64 (k : Int)), (76, .pointer (some ⟨w.heap.size, 0, none⟩)), (77, .slice (some ⟨b, off, none⟩) h.bids.length c), (78, .int .i64 (k : Int)), (79, .pointer (some ⟨b, off + k * 2, none⟩)), (80, .pointer (some ⟨b, off + k * 2, none⟩)), (81, .int .i64 bus), (82, .pointer (some ⟨(w.heap.size + 1), 0, none⟩)), (83, .slice (some ⟨b', off', none⟩) f.bids.length c2), (84, .int .i64 (k : Int)), (85, .pointer (some ⟨b', off' + k * 2, none⟩)), (86, .pointer (some ⟨b', off' + k * 2, none⟩)), (87, .int .i64 bush), (88, .bool nb)] [] [3, 4, 9] ?_ ?_
          · intro T hT W hI
            simp only [HoldsT, and_true] at hT
            have l0 := (hI.cell (p := ⟨w.heap.size, 0, none⟩) hlth3).trans q0
            have l1 := (hI.cell (p := ⟨w.heap.size + 1, 0, none⟩) hltf3).trans g0
            have F0 := (hI.cell (p := ⟨b, off + k * 2, none⟩) hbl1).trans f0
            have F2 := (hI.cell (p := ⟨b', off' + k * 2, none⟩) hbl2).trans f2
            repeat' first | exact AllO.nil | apply AllO.cons
            all_goals try ((first | refine oV ?_ | refine oN ?_ | refine oG (t := by simp only [hT]) (h := ?_)); simp [go_sem, EvT, hT, l0, l1, F0, F2, hkr, hkl, hnb, valT]; done)
          intro wx hbx
          simp (decide := true) only [putT, valT, look, Act.put, List.setIfInBounds_toArray, List.set_cons_zero, List.set_cons_succ, Nat.reduceAdd, if_true, if_false]
          have HB4 := Lib.hid (HB3.out.trans (hbx.mono HB3.out.size))
          have HBO4 := Lib.hid (HBO3.out.trans (hbx.mono (by omega)))
          clear hbx f0 f2 q0 q1 q2 g0 g1 g2
          by_cases hi : bus = bush
          · obtain rfl : nb = false := by rw [← hnb, hi]; simp
            have hv : bv = 0 := HBD.out.trans (if_neg (fun hh => hh hi))
            have HF : Hid (fstE busNe (h.bids.zip f.bids) = _) := HS2.out.trans (if_neg (fun hh => hh hv))
            clear hi hnb hv HS2 HBD
            go_wp2_with fail
            go_roundg g
            case measure => omega
            case rel => exact ⟨k + 1, by have := HG.out; omega, by go_num, HF.out, HBO4.out⟩
          · obtain rfl : nb = true := by rw [← hnb]; exact bne_iff_ne.2 hi
            have hv : bv = 3 := HBD.out.trans (if_pos hi)
            have HE : Hid (R = 3) := by
              show _ = _
              rw [E.out, HS2.out, if_pos (by rw [hv]; decide), hv]
            clear hi hv HS2 HBD E hnb
            go_wp2_with fail
            try rw [Exit.noGoto_ret]
            go_ret
            exact ⟨ret_int HE.out.symm, HB4.out⟩
end Go.Proofs.YtklanoppbbaolaaGreat
