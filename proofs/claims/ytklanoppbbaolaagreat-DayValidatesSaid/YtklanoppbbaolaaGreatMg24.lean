/- The text FrA. -/
import Derived.Test.YtklanoppbbaolaaGreatMg21
/- The reference: pylonref38.Check, pylonref21.wrong and Check, pylonref14.Check. -/
namespace Go.Proofs.YtklanoppbbaolaaGreat
open Go.RowKit
set_option linter.unusedVariables false
set_option linter.unusedSimpArgs false
set_option maxRecDepth 100000

set_option maxHeartbeats 8000000 in
theorem refRight_any (A : Option Addr) (c : Nat) (l : List Rt) (n : Int) (w : World) (hr : RowR RtE 3 w w.heap.size A l) (hl : l.length ≤ 1000000) :
    Calls Tryz.prog 49 #[.slice A l.length c, .int .i64 n] w (PlE w (rightsE n l)) := by
  have HR := Lib.hid hr
  have HB0 := Lib.hid (Below.refl w.heap.size w)
  clear hr
  by_cases h8 : 8 < l.length
  · have E : Hid (rightsE n l = 5) := if_pos h8
    have e3 : decide ((8 : Int) < (l.length : Int)) = true := decide_eq_true (by omega)
    clear h8
    go_enter Tryz.func49, Tryz.ntmps49
    go_wp2_with fail
    go_ret2
    exact PlE.of E.out HB0.out
  have e3 : decide ((8 : Int) < (l.length : Int)) = false := decide_eq_false (by omega)
  have E : Hid (rightsE n l = if l.all (rtOk n) then 0 else 1) := if_neg h8
  generalize rightsE n l = R at *
  clear h8
  go_enter Tryz.func49, Tryz.ntmps49
  go_wp2_with fail
  go_loopg [4, 5, 6] l.length (fun g s4 s5 s6 wr => ∃ k : Nat, k + g = l.length ∧ s6 = .int .i64 (k : Int) ∧ (l.take k).all (rtOk n) = true ∧ Below w.heap.size w wr)
  case atStart => exact ⟨0, by omega, rfl, rfl, HB0.out⟩
  case round =>
    clear HB0 e3
    obtain ⟨k, hkg, rfl, hs, hb⟩ := hrel
    have HS := Lib.hid hs
    have HB := Lib.hid hb
    clear hs hb
    cases gk with
    | zero =>
      obtain rfl : k = l.length := by omega
      have HE : Hid (R = 0) := by
        have h := HS.out
        rw [List.take_length] at h
        show _ = _
        rw [E.out, if_pos h]
      clear hkg HS HR E
      go_wp2_with fail
      try rw [Exit.noGoto_ret]
      go_ret2
      exact PlE.of HE.out HB.out
    | succ g =>
      have hk : k < l.length := by omega
      have HG := Lib.hid hkg
      clear hkg
      obtain ⟨b, off, cc, rfl, hbl, hcn, hce, hcc⟩ := HR.out.at_ k (0, 0, 0) hk
      rw [show cc = rtC (l.getD k (0, 0, 0)) from hce] at hcc
      have f0 : wr.cell? ⟨b, off + k * 3, none⟩ = some (.int .i64 (l.getD k (0, 0, 0)).1) := (HB.out.cell (p := ⟨b, off + k * 3, none⟩) hbl).trans (hcc 0 _ rfl)
      have f1 : wr.cell? ⟨b, off + k * 3 + 1, none⟩ = some (.int .i64 (l.getD k (0, 0, 0)).2.1) := (HB.out.cell (p := ⟨b, off + k * 3 + 1, none⟩) hbl).trans (hcc 1 _ rfl)
      have f2 : wr.cell? ⟨b, off + k * 3 + 2, none⟩ = some (.int .i64 (l.getD k (0, 0, 0)).2.2) := (HB.out.cell (p := ⟨b, off + k * 3 + 2, none⟩) hbl).trans (hcc 2 _ rfl)
      have hz := HB.out.size
      have HYes : Hid (rtOk n (l.getD k (0, 0, 0)) = true → (l.take (k + 1)).all (rtOk n) = true) := fun h => all_take_succ _ _ _ _ hk HS.out h
      have HNo : Hid (rtOk n (l.getD k (0, 0, 0)) = false → R = 1) := fun h => by rw [E.out, all_not _ _ _ _ hk h]; rfl
      clear hcc hce hcn HS
      cases hx : l.getD k (0, 0, 0) with
      | mk rf rest =>
      obtain ⟨rt, rq⟩ := rest
      rw [hx] at f0 f1 f2 HYes HNo
      clear hx
      have HD : Hid (rtOk n (rf, rt, rq) = decide (0 ≤ rf ∧ rf < n ∧ 0 ≤ rt ∧ rt < n ∧ 0 ≤ rq ∧ rq ≤ 1000000)) := by
        show _ = _
        rw [Bool.eq_iff_iff]
        simp [rtOk, inB, and_assoc]
      generalize rtOk n (rf, rt, rq) = ok at *
      dsimp only at f0 f1 f2
      have HB1 := Lib.hid (HB.out.alloc (by omega) (.cells #[.int .i64 rf, .int .i64 rt, .int .i64 rq] 44))
      clear E
      go_wp2_with fail
      all_goals first
        | (go_ret2; exact PlE.of (HNo.out (HD.out.trans (decide_eq_false (by omega)))) HB1.out)
        | skip
      go_roundg g
      case measure => omega
      case rel => exact ⟨k + 1, by have := HG.out; omega, by go_num, HYes.out (HD.out.trans (decide_eq_true (by omega))), HB1.out⟩
set_option maxHeartbeats 8000000 in
theorem refWrong_any (k x f t lines units hours : Int) (w : World) : Calls Tryz.prog 101 #[.agg #[.int .u8 k, .int .i64 x, .int .i64 f, .int .i64 t], .int .i64 lines, .int .i64 units, .int .i64 hours] w (ErrE w (ogWr lines units hours (k, x, f, t))) := by
  have HB0 := Lib.hid ((Below.refl w.heap.size w).alloc (Nat.le_refl _) (.cells #[.int .u8 k, .int .i64 x, .int .i64 f, .int .i64 t] 42))
  have E : Hid (ogWr lines units hours (k, x, f, t) = if k ≠ 1 ∧ k ≠ 2 ∧ k ≠ 3 then 12 else if x < 0 ∨ (if k = 3 then units else lines) ≤ x ∨ f < 0 ∨ t < f ∨ hours ≤ t then 1 else 0) := rfl
  generalize ogWr lines units hours (k, x, f, t) = R at *
  by_cases hk : k ≠ 1 ∧ k ≠ 2 ∧ k ≠ 3
  · obtain ⟨h1, h2, h3⟩ := hk
    have HE : Hid (R = 12) := E.out.trans (if_pos ⟨h1, h2, h3⟩)
    have b1 : (k != 1) = true := bne_iff_ne.2 h1
    have b2 : (k != 2) = true := bne_iff_ne.2 h2
    have b3 : (k != 3) = true := bne_iff_ne.2 h3
    clear E h1 h2 h3
    go_enter Tryz.func101, Tryz.ntmps101
    go_wp2_with fail
    go_ret
    exact ⟨ret_int HE.out.symm, HB0.out⟩
  have E1 : Hid (R = if x < 0 ∨ (if k = 3 then units else lines) ≤ x ∨ f < 0 ∨ t < f ∨ hours ≤ t then 1 else 0) := E.out.trans (if_neg hk)
  clear E
  have hk' : k = 1 ∨ k = 2 ∨ k = 3 := by omega
  clear hk
  rcases hk' with rfl | rfl | rfl
  all_goals
    simp only [show ((1 : Int) = 3) = False by simp, show ((2 : Int) = 3) = False by simp, if_true, if_false] at E1
    go_enter Tryz.func101, Tryz.ntmps101
    go_wp2_with fail
    all_goals
      go_ret
      first
        | exact ⟨ret_int ((E1.out.trans (if_pos (by omega))).symm), HB0.out⟩
        | exact ⟨ret_int ((E1.out.trans (if_neg (by omega))).symm), HB0.out⟩
set_option maxHeartbeats 8000000 in
theorem refOuts_any (lines units hours : Int) (A : Option Addr) (c : Nat) (l : List Og) (w : World) (hl : OgsR w w.heap.size A l) (hm : l.length ≤ 1000000) :
    Calls Tryz.prog 48 #[.slice A l.length c, .int .i64 lines, .int .i64 units, .int .i64 hours] w (PlE w (ogWrong lines units hours l)) := by
  have HL := Lib.hid hl
  have HB0 := Lib.hid (Below.refl w.heap.size w)
  clear hl
  by_cases h16 : 16 < l.length
  · have E : Hid (ogWrong lines units hours l = 5) := by
      show (ogChk lines units hours l).2 = 5
      rw [ogChk, if_pos h16]
    have b2 : decide ((16 : Int) < (l.length : Int)) = true := decide_eq_true (by omega)
    go_enter Tryz.func48, Tryz.ntmps48
    go_wp2_with fail
    go_ret2
    exact PlE.of E.out HB0.out
  have b2 : decide ((16 : Int) < (l.length : Int)) = false := decide_eq_false (by omega)
  have E : Hid (ogWrong lines units hours l = (chkG (ogWr lines units hours) l 0).2) := by
    show (ogChk lines units hours l).2 = _
    rw [ogChk, if_neg h16]
  generalize ogWrong lines units hours l = R at *
  clear h16
  have KW := Lib.hid fun k x f t W => refWrong_any k x f t lines units hours W
  generalize ogWr lines units hours = f at *
  go_enter Tryz.func48, Tryz.ntmps48
  go_wp2_with fail
  go_loopg [8, 9, 10, 11] l.length (fun g s8 s9 s10 s11 wr => ∃ k : Nat, k + g = l.length ∧ s10 = .int .i64 (k : Int) ∧ chkG f l 0 = chkG f (l.drop k) k ∧ Below w.heap.size w wr)
  case atStart => exact ⟨0, by omega, rfl, by rw [List.drop_zero], HB0.out⟩
  case round =>
    clear HB0 b2
    obtain ⟨k, hkg, rfl, hd, hb⟩ := hrel
    have HD := Lib.hid hd
    have HB := Lib.hid hb
    clear hd hb
    cases gk with
    | zero =>
      obtain rfl : k = l.length := by omega
      have HE : Hid (R = 0) := by
        show _ = _
        rw [E.out, HD.out, List.drop_length, chkG]
      clear hkg HD HL E
      go_wp2_with fail
      go_ret2
      exact PlE.of HE.out HB.out
    | succ g =>
      have hk : k < l.length := by omega
      have HG := Lib.hid hkg
      clear hkg
      obtain ⟨b, off, rfl, hbl, hc⟩ := HL.out (by omega)
      obtain ⟨e0, e1, e2, e3⟩ := hc k hk
      have f0 := (HB.out.cell (p := ⟨b, off + k * 4, none⟩) hbl).trans e0
      have f1 := (HB.out.cell (p := ⟨b, off + k * 4 + 1, none⟩) hbl).trans e1
      have f2 := (HB.out.cell (p := ⟨b, off + k * 4 + 2, none⟩) hbl).trans e2
      have f3 := (HB.out.cell (p := ⟨b, off + k * 4 + 3, none⟩) hbl).trans e3
      clear e0 e1 e2 e3 hc
      have HIT : Hid (f (l.getD k (0, 0, 0, 0)) = 0 → chkG f l 0 = chkG f (l.drop (k + 1)) (k + 1)) := fun h => HD.out.trans (chkG_hit hk h)
      have MISS : Hid (f (l.getD k (0, 0, 0, 0)) ≠ 0 → R = f (l.getD k (0, 0, 0, 0))) := fun h => by rw [E.out, HD.out, chkG_miss hk h]
      obtain ⟨⟨ok, ox, of', ot⟩, hgl⟩ : ∃ o, l.getD k (0, 0, 0, 0) = o := ⟨_, rfl⟩
      rw [hgl] at f0 f1 f2 f3 HIT MISS
      clear hgl
      simp only at f0 f1 f2 f3
      have KW1 := Lib.hid fun W => KW.out ok ox of' ot W
      generalize f (ok, ox, of', ot) = er at *
      go_wp2_with fail
      refine (KW1.out _).mono ?_
      rintro e w1 ⟨rfl, hb1⟩
      have HB1 := Lib.hid (HB.out.trans (hb1.mono HB.out.size))
      clear hb1 KW1 HB
      by_cases he : er = 0
      · have HI := Lib.hid (HIT.out he)
        clear HIT MISS
        subst he
        go_wp2_with fail
        go_roundg g
        case measure => omega
        case rel => exact ⟨k + 1, by have := HG.out; omega, by go_num, HI.out, HB1.out⟩
      · have d1 : (er != 0) = true := bne_iff_ne.2 he
        have HM := Lib.hid (MISS.out he)
        clear he MISS HIT
        go_wp2_with fail
        go_ret2
        exact PlE.of HM.out HB1.out
set_option maxHeartbeats 8000000 in
theorem refNet_any (nb : Int) (A : Option Addr) (c : Nat) (ls : List Ln) (w : World) (hl : LinesR w w.heap.size A ls) :
    Calls Tryz.prog 45 #[.agg #[.int .i64 nb, .slice A ls.length c]] w (ErrE w (checkE nb ls)) := by
  have HL := Lib.hid hl
  have HB0 := Lib.hid ((Below.refl w.heap.size w).alloc (Nat.le_refl _) (.cells #[.int .i64 nb, .slice A ls.length c] 28))
  clear hl
  have E : Hid (checkE nb ls = if nb < 1 ∨ 6 < nb then 1 else if 10 < ls.length then 5 else if ls.all (lineOk nb) then 0 else 1) := rfl
  generalize checkE nb ls = R at *
  by_cases h1 : nb < 1 ∨ 6 < nb
  · have HE := Lib.hid (E.out.trans (if_pos h1))
    clear E
    go_enter Tryz.func45, Tryz.ntmps45
    go_wp2_with fail
    all_goals first
      | (go_ret; exact ⟨ret_int HE.out.symm, HB0.out⟩)
      | (exfalso; omega)
  replace E := Lib.hid (E.out.trans (if_neg h1))
  have d1 : decide (nb < 1) = false := decide_eq_false (by omega)
  have d2 : decide (6 < nb) = false := decide_eq_false (by omega)
  clear h1
  by_cases h2 : 10 < ls.length
  · have HE := Lib.hid (E.out.trans (if_pos h2))
    have d3 : decide ((10 : Int) < (ls.length : Int)) = true := decide_eq_true (by omega)
    clear E h2
    go_enter Tryz.func45, Tryz.ntmps45
    go_wp2_with fail
    go_ret
    exact ⟨ret_int HE.out.symm, HB0.out⟩
  replace E := Lib.hid (E.out.trans (if_neg h2))
  have d3 : decide ((10 : Int) < (ls.length : Int)) = false := decide_eq_false (by omega)
  have hm : ls.length ≤ 10 := by omega
  go_enter Tryz.func45, Tryz.ntmps45
  go_wp2_with fail
  go_loopg [2, 3, 4] ls.length (fun g s2 s3 s4 wr => ∃ k : Nat, k + g = ls.length ∧ s3 = .int .i64 (k : Int) ∧ (ls.take k).all (lineOk nb) = true ∧ Box wr w.heap.size [.int .i64 nb, .slice A ls.length c] ∧ w.heap.size < wr.heap.size ∧ Below w.heap.size w wr)
  case atStart => exact ⟨0, by omega, rfl, rfl, Box.new w #[.int .i64 nb, .slice A ls.length c] 28, by simp, HB0.out⟩
  case round =>
    clear HB0 d3 d1 d2 h2
    obtain ⟨k, hkg, rfl, hs, hx, hlt, hb⟩ := hrel
    have HS := Lib.hid hs
    have HX := Lib.hid hx
    have HB := Lib.hid hb
    have c0 := hx.c 0 _ rfl
    have c1 := hx.c 1 _ rfl
    clear hs hb hx
    cases gk with
    | zero =>
      obtain rfl : k = ls.length := by omega
      have HE : Hid (R = 0) := by
        have h := HS.out
        rw [List.take_length] at h
        show _ = _
        rw [E.out, if_pos h]
      clear hkg HS HL E
      go_wp2_with fail
      go_ret
      exact ⟨ret_int HE.out.symm, HB.out⟩
    | succ g =>
      have hk : k < ls.length := by omega
      have HG := Lib.hid hkg
      clear hkg
      obtain ⟨b, off, rfl, hbl, hc⟩ := HL.out (by omega)
      obtain ⟨e0, e1, e2, e3⟩ := hc k (by omega)
      have f0 := (HB.out.cell (p := ⟨b, off + k * 4, none⟩) hbl).trans e0
      have f1 := (HB.out.cell (p := ⟨b, off + k * 4 + 1, none⟩) hbl).trans e1
      have f2 := (HB.out.cell (p := ⟨b, off + k * 4 + 2, none⟩) hbl).trans e2
      have f3 := (HB.out.cell (p := ⟨b, off + k * 4 + 3, none⟩) hbl).trans e3
      clear e0 e1 e2 e3 hc
      have HYes : Hid (lineOk nb (ls.getD k (0, 0, 0, 0)) = true → (ls.take (k + 1)).all (lineOk nb) = true) := fun h => all_take_succ _ _ _ _ hk HS.out h
      have HNo : Hid (lineOk nb (ls.getD k (0, 0, 0, 0)) = false → R = 1) := fun h => by rw [E.out, all_not _ _ _ _ hk h]; rfl
      clear HS E
      obtain ⟨⟨lf, lt, lx, lc⟩, hgl⟩ : ∃ o, ls.getD k (0, 0, 0, 0) = o := ⟨_, rfl⟩
      rw [hgl] at f0 f1 f2 f3 HYes HNo
      clear hgl
      simp only at f0 f1 f2 f3
      have HD : Hid (lineOk nb (lf, lt, lx, lc) = decide (0 ≤ lf ∧ lf < nb ∧ 0 ≤ lt ∧ lt < nb ∧ lf ≠ lt ∧ 1 ≤ lx ∧ lx ≤ 1000 ∧ 0 ≤ lc ∧ lc ≤ 1000000)) := by
        show _ = _
        rw [Bool.eq_iff_iff]
        simp only [lineOk, chk, Bool.and_eq_true, decide_eq_true_eq, bne_iff_ne]
        constructor <;> (intro h; omega)
      generalize lineOk nb (lf, lt, lx, lc) = ok at *
      have HB1 := Lib.hid (HB.out.alloc (by omega) (.cells #[.int .i64 lf, .int .i64 lt, .int .i64 lx, .int .i64 lc] 170))
      have HX1 := Lib.hid (HX.out.up ((Below.refl wr.heap.size wr).alloc (Nat.le_refl _) (.cells #[.int .i64 lf, .int .i64 lt, .int .i64 lx, .int .i64 lc] 170)) hlt)
      go_wp2_with fail
      all_goals first
        | (go_ret; exact ⟨ret_int (HNo.out (HD.out.trans (decide_eq_false (by omega)))).symm, HB.out.alloc (by omega) _⟩)
        | skip
      go_roundg g
      case measure => omega
      case rel => exact ⟨k + 1, by have := HG.out; omega, by go_num, HYes.out (HD.out.trans (decide_eq_true (by omega))), HX1.out, by simp; omega, HB1.out⟩
end Go.Proofs.YtklanoppbbaolaaGreat
