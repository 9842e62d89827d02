/- The text CkF. -/
import Derived.Test.YtklanoppbbaolaaGreatMg20
/- right.Check. -/
namespace Go.Proofs.YtklanoppbbaolaaGreat
open Go.RowKit
set_option linter.unusedVariables false
set_option linter.unusedSimpArgs false
set_option maxRecDepth 100000

theorem exists_any (a n : Int) (w : World) : Calls Tryz.prog 86 #[.int .i64 a, .int .i64 n] w fun e w' => e = .returned (.bool (inB a n)) ∧ Below w.heap.size w w' := by
  have HB0 := Lib.hid (Below.refl w.heap.size w)
  have E : Hid (inB a n = decide (0 ≤ a ∧ a < n)) := by
    show _ = _
    rw [Bool.eq_iff_iff]
    simp [inB]
  generalize inB a n = R at *
  go_enter Tryz.func86, Tryz.ntmps86
  go_wp2_with fail
  all_goals
    go_ret
    exact ⟨ret_bool (by rw [E.out, Bool.eq_iff_iff]; simp <;> omega), HB0.out⟩
/-- A place and an error code come back. -/
def PlE (w : World) (n : Int) (e : Ending) (w' : World) : Prop := ∃ p, e = .returned (.tuple #[.int .i64 p, .int .i64 n]) ∧ Below w.heap.size w w'
theorem PlE.of {w W : World} {p n n' : Int} (h : n' = n) (hb : Below w.heap.size w W) : PlE w n' (.returned (.tuple #[.int .i64 p, .int .i64 n])) W := ⟨p, by rw [h], hb⟩
set_option maxHeartbeats 8000000 in
theorem right_any (A : Option Addr) (c : Nat) (l : List Rt) (n : Int) (w : World) (hr : RowR RtE 3 w w.heap.size A l) (hl : l.length ≤ 1000000) :
    Calls Tryz.prog 34 #[.slice A l.length c, .int .i64 n] w (PlE w (rightsE n l)) := by
  have HR := Lib.hid hr
  have HB0 := Lib.hid (Below.refl w.heap.size w)
  clear hr
  by_cases h8 : 8 < l.length
  · have E : Hid (rightsE n l = 5) := if_pos h8
    have e3 : decide ((8 : Int) < (l.length : Int)) = true := decide_eq_true (by omega)
    clear h8
    go_enter Tryz.func34, Tryz.ntmps34
    go_wp2_with fail
    go_ret2
    exact PlE.of E.out HB0.out
  have e3 : decide ((8 : Int) < (l.length : Int)) = false := decide_eq_false (by omega)
  have E : Hid (rightsE n l = if l.all (rtOk n) then 0 else 1) := if_neg h8
  generalize rightsE n l = R at *
  clear h8
  go_enter Tryz.func34, Tryz.ntmps34
  go_wp2_with fail
  go_loopg [4, 5, 6, 7, 13] l.length (fun g s4 s5 s6 s7 s13 wr => ∃ k : Nat, k + g = l.length ∧ s13 = .int .i64 (k : Int) ∧ (l.take k).all (rtOk n) = true ∧ Below w.heap.size w wr)
  case atStart => exact ⟨0, by omega, rfl, rfl, HB0.out⟩
  case round =>
    clear HB0 e3
    obtain ⟨k, hkg, rfl, hs, hb⟩ := hrel
    have HS := Lib.hid hs
    have HB := Lib.hid hb
    clear hs hb
    cases gk with
    | zero =>
      obtain rfl : k = l.length := by omega
      have HE : Hid (R = 0) := by
        have h := HS.out
        rw [List.take_length] at h
        show _ = _
        rw [E.out, if_pos h]
      clear hkg HS HR E
      go_wp2_with fail
      try rw [Exit.noGoto_ret]
      go_ret2
      exact PlE.of HE.out HB.out
    | succ g =>
      have hk : k < l.length := by omega
      have HG := Lib.hid hkg
      clear hkg
      obtain ⟨b, off, cc, rfl, hbl, hcn, hce, hcc⟩ := HR.out.at_ k (0, 0, 0) hk
      rw [show cc = rtC (l.getD k (0, 0, 0)) from hce] at hcc
      have f0 : wr.cell? ⟨b, off + k * 3, none⟩ = some (.int .i64 (l.getD k (0, 0, 0)).1) := (HB.out.cell (p := ⟨b, off + k * 3, none⟩) hbl).trans (hcc 0 _ rfl)
      have f1 : wr.cell? ⟨b, off + k * 3 + 1, none⟩ = some (.int .i64 (l.getD k (0, 0, 0)).2.1) := (HB.out.cell (p := ⟨b, off + k * 3 + 1, none⟩) hbl).trans (hcc 1 _ rfl)
      have f2 : wr.cell? ⟨b, off + k * 3 + 2, none⟩ = some (.int .i64 (l.getD k (0, 0, 0)).2.2) := (HB.out.cell (p := ⟨b, off + k * 3 + 2, none⟩) hbl).trans (hcc 2 _ rfl)
      have hz := HB.out.size
      have HYes : Hid (rtOk n (l.getD k (0, 0, 0)) = true → (l.take (k + 1)).all (rtOk n) = true) := fun h => all_take_succ _ _ _ _ hk HS.out h
      have HNo : Hid (rtOk n (l.getD k (0, 0, 0)) = false → R = 1) := fun h => by rw [E.out, all_not _ _ _ _ hk h]; rfl
      clear hcc hce hcn HS
      cases hx : l.getD k (0, 0, 0) with
      | mk rf rest =>
      obtain ⟨rt, rq⟩ := rest
      rw [hx] at f0 f1 f2 HYes HNo
      clear hx
      have HD : Hid (rtOk n (rf, rt, rq) = (inB rf n && inB rt n && decide (0 ≤ rq) && decide (rq ≤ 1000000))) := rfl
      generalize rtOk n (rf, rt, rq) = ok at *
      dsimp only at f0 f1 f2
      have K1 := Lib.hid fun W => exists_any rf n W
      have K2 := Lib.hid fun W => exists_any rt n W
      have HB1 := Lib.hid (HB.out.alloc (by omega) (.cells #[.int .i64 rf, .int .i64 rt, .int .i64 rq] 44))
      cases h1 : inB rf n with
      | false =>
        rw [h1] at K1 HD
        have HE : Hid (R = 1) := HNo.out HD.out
        clear h1 HNo HYes HD E
        go_wp2_with fail
        refine (K1.out _).mono ?_
        rintro e w1 ⟨rfl, hb1⟩
        have HB2 := Lib.hid (HB1.out.trans (hb1.mono (by simp; omega)))
        clear hb1
        go_wp2_with fail
        try rw [Exit.noGoto_ret]
        go_ret2
        exact PlE.of HE.out HB2.out
      | true =>
        rw [h1] at K1 HD
        clear h1
        go_wp2_with fail
        refine (K1.out _).mono ?_
        rintro e w1 ⟨rfl, hb1⟩
        have HX1 := Lib.hid ((Box.new wr #[.int .i64 rf, .int .i64 rt, .int .i64 rq] 44).up hb1 (by simp))
        have HB2 := Lib.hid (HB1.out.trans (hb1.mono (by simp; omega)))
        have hlt : wr.heap.size < w1.heap.size := HX1.out.lt (by simp)
        clear hb1 HB1
        have q0 := HX1.out.c 0 _ rfl
        have s0 := HX1.out.f 0 (by simp)
        have q1 := HX1.out.c 1 _ rfl
        have s1 := HX1.out.f 1 (by simp)
        have q2 := HX1.out.c 2 _ rfl
        have s2 := HX1.out.f 2 (by simp)
        cases h2 : inB rt n with
        | false =>
          rw [h2] at K2 HD
          have HE : Hid (R = 1) := HNo.out HD.out
          clear h2 HNo HYes HD E
          go_wp2_with fail
          refine (K2.out _).mono ?_
          rintro e w2 ⟨rfl, hb1⟩
          have HB3 := Lib.hid (HB2.out.trans (hb1.mono (by omega)))
          clear hb1
          go_wp2_with fail
          try rw [Exit.noGoto_ret]
          go_ret2
          exact PlE.of HE.out HB3.out
        | true =>
          rw [h2] at K2 HD
          clear h2
          go_wp2_with fail
          refine (K2.out _).mono ?_
          rintro e w2 ⟨rfl, hb1⟩
          have HX2 := Lib.hid (HX1.out.up hb1 hlt)
          have HB3 := Lib.hid (HB2.out.trans (hb1.mono (by omega)))
          clear hb1 q0 q1 q2 s0 s1 s2
          have q0 := HX2.out.c 0 _ rfl
          have s0 := HX2.out.f 0 (by simp)
          have q1 := HX2.out.c 1 _ rfl
          have s1 := HX2.out.f 1 (by simp)
          have q2 := HX2.out.c 2 _ rfl
          have s2 := HX2.out.f 2 (by simp)
          by_cases h3 : rq < 0
          · have d1 : decide (rq < 0) = true := decide_eq_true h3
            have HE : Hid (R = 1) := HNo.out (HD.out.trans (by simp; omega))
            clear h3 HNo HYes HD E
            go_wp2_with fail
            try rw [Exit.noGoto_ret]
            go_ret2
            exact PlE.of HE.out HB3.out
          · have d1 : decide (rq < 0) = false := decide_eq_false h3
            by_cases h4 : 1000000 < rq
            · have d2 : decide (1000000 < rq) = true := decide_eq_true h4
              have HE : Hid (R = 1) := HNo.out (HD.out.trans (by simp; omega))
              clear h3 h4 HNo HYes HD E
              go_wp2_with fail
              try rw [Exit.noGoto_ret]
              go_ret2
              exact PlE.of HE.out HB3.out
            · have d2 : decide (1000000 < rq) = false := decide_eq_false h4
              have HY := Lib.hid (HYes.out (HD.out.trans (by simp; omega)))
              clear h3 h4 HNo HYes HD
              go_wp2_with fail
              go_roundg g
              case measure => omega
              case rel => exact ⟨k + 1, by have := HG.out; omega, by go_num, HY.out, HB3.out⟩
end Go.Proofs.YtklanoppbbaolaaGreat
