/- OutageValid: the walk. -/
import Derived.Test.YtklfijhlibpmaaaOgM
import Derived.Test.YtklfijhlibpmaaaOngU
namespace Go.Proofs.Ytklfijhlibpmaaa
open Go.RowKit
set_option linter.unusedVariables false
set_option maxRecDepth 100000

set_option maxHeartbeats 16000000 in
theorem ova_walk (A0 : Option Addr) (c0 : Nat) (l : List Og) (lines units hours h : Int) (W : World) (hcap : l.length ≤ c0) (hl : OgsR W W.heap.size A0 l) (hbd : OgBs l) (l1 : -9223372036854775808 ≤ lines) (h1 : lines ≤ 9223372036854775807) (l2 : -9223372036854775808 ≤ units) (h2 : units ≤ 9223372036854775807) (l3 : -9223372036854775808 ≤ hours) (h3 : hours ≤ 9223372036854775807) (l4 : -9223372036854775808 ≤ h) (h4 : h ≤ 9223372036854775807) :
    Calls Try.prog 7 #[.slice A0 l.length c0, .int .i64 lines, .int .i64 units, .int .i64 hours, .int .i64 h] W fun e w' => e = .returned (.bool true) ∧ Below W.heap.size W w' := by
  have HL := Lib.hid hl
  have HOB := Lib.hid hbd
  clear hl hbd l1 h1 l2 h2 l3 h3 l4 h4
  have HB0 := Lib.hid (Below.refl W.heap.size W)
  by_cases h100 : 100 < l.length
  · have b2 : decide ((100 : Int) < l.length) = true := by simp; omega
    go_enter Try.func7, Try.ntmps7
    go_wp2_with (go_at_call 8; refine (awake_any _).mono ?_; rintro e w1 ⟨rfl, hb⟩)
    go_ret
    exact ⟨rfl, hb⟩
  have b2 : decide ((100 : Int) < l.length) = false := by simp; omega
  have K1 := Lib.hid (fun w1 hl => check_any lines units hours A0 c0 l w1 hl (by omega))
  rcases ogChk_cases lines units hours l with ⟨h16, hc⟩ | ⟨h16, hc, hv⟩ | ⟨k, er, h16, hk, hc, he, hc1, hc2⟩
  · rw [hc] at K1
    clear hc
    have b3 : decide ((16 : Int) < l.length) = true := by simp; omega
    go_enter Try.func7, Try.ntmps7
    go_wp2_with fail
    refine (awake_any _).mono ?_
    rintro e w1 ⟨rfl, hb⟩
    replace HL := Lib.hid (HL.out.upto hb)
    have HB1 := Lib.hid (HB0.out.trans (hb.mono HB0.out.size))
    clear hb HB0
    go_wp2_with fail
    refine (K1.out _ HL.out).mono ?_
    rintro e w2 ⟨rfl, hb⟩
    have HB2 := Lib.hid (HB1.out.trans (hb.mono HB1.out.size))
    clear hb HB1
    go_wp2_with fail
    go_ret
    exact ⟨rfl, HB2.out⟩
  · rw [hc] at K1
    have HVN := Lib.hid (valid_norm h16 hv)
    have HVH := Lib.hid (valid_half h16 hv (l.length / 2))
    have HVB := Lib.hid (valid_now (h := h) hv)
    have HVT := Lib.hid (valid_trips (h := h) hv)
    have HOUT := Lib.hid (fun hh => And.intro (valid_out (h := h) hv hh [1]) (And.intro (valid_out (h := h) hv hh [1, 2]) (valid_out (h := h) hv hh [3])))
    have hnl := ogN_length l
    clear hc hv
    have S1 := Lib.hid (fun w hl => ahead_any A0 c0 l h w hl (by omega))
    have S2 := Lib.hid (fun w hl => now_any A0 c0 l h w hl (by omega))
    have S3 := Lib.hid (fun w hl => trips_any A0 c0 l h w hl (by omega))
    have q1 := affL_length [1] l h
    have q2 := affL_length [1, 2] l h
    have q3 := affL_length [3] l h
    generalize affL [1] l h = la at *
    generalize affL [1, 2] l h = lb at *
    generalize affL [3] l h = lc at *
    go_enter Try.func7, Try.ntmps7
    go_wp2_with fail
    refine (awake_any _).mono ?_
    rintro e w1 ⟨rfl, hb⟩
    replace HL := Lib.hid (HL.out.upto hb)
    have HB1 := Lib.hid (HB0.out.trans (hb.mono HB0.out.size))
    clear hb HB0
    go_wp2_with fail
    refine (K1.out _ HL.out).mono ?_
    rintro e w2 ⟨rfl, hb⟩
    replace HL := Lib.hid (HL.out.upto hb)
    have HB2 := Lib.hid (HB1.out.trans (hb.mono HB1.out.size))
    clear hb HB1
    go_wp2_with fail
    refine (S1.out _ HL.out).mono ?_
    rintro e w3 ⟨v, rfl, hown, hb⟩
    obtain ⟨Aa, ca, rfl, hI⟩ := ownsRow_ints hown
    have Ha := Lib.hid hI
    replace HL := Lib.hid (HL.out.upto hb)
    have HB3 := Lib.hid (HB2.out.trans (hb.mono HB2.out.size))
    clear hb HB2 hown hI
    go_wp2_with fail
    refine (S2.out _ HL.out).mono ?_
    rintro e w4 ⟨v, rfl, hown, hb⟩
    obtain ⟨Ab, cb, rfl, hI⟩ := ownsRow_ints hown
    have Hb := Lib.hid hI
    replace HL := Lib.hid (HL.out.upto hb)
    replace Ha := Lib.hid (Ha.out.upto hb)
    have HB4 := Lib.hid (HB3.out.trans (hb.mono HB3.out.size))
    clear hb HB3 hown hI
    go_wp2_with fail
    refine (S3.out _ HL.out).mono ?_
    rintro e w5 ⟨v, rfl, hown, hb⟩
    obtain ⟨Ac, cc, rfl, hI⟩ := ownsRow_ints hown
    have Hc := Lib.hid hI
    replace HL := Lib.hid (HL.out.upto hb)
    replace Ha := Lib.hid (Ha.out.upto hb)
    replace Hb := Lib.hid (Hb.out.upto hb)
    have HB5 := Lib.hid (HB4.out.trans (hb.mono HB4.out.size))
    clear hb HB4 hown hI
    clear K1 S1 S2 S3
    go_wp2_with fail
    go_loopg [10, 20] lb.length (fun g s10 i wr => ∃ k : Nat, k + g = lb.length ∧ i = .int .i64 k ∧ w5 = wr)
    case atStart => exact ⟨0, by omega, rfl, rfl⟩
    case round =>
      obtain ⟨k, hkg, rfl, rfl⟩ := hrel
      cases gk with
      | zero =>
        obtain rfl : k = lb.length := by omega
        clear hkg
        go_wp2_with fail
        go_loopg [10, 21] lc.length (fun g s10 i wr => ∃ k : Nat, k + g = lc.length ∧ i = .int .i64 k ∧ w5 = wr)
        case atStart => exact ⟨0, by omega, rfl, rfl⟩
        case round =>
          obtain ⟨k, hkg, rfl, rfl⟩ := hrel
          cases gk with
          | zero =>
            obtain rfl : k = lc.length := by omega
            clear hkg
            go_wp2_with fail
            refine (normal_any A0 c0 l w5 HL.out HOB.out (by omega)).mono ?_
            rintro e w6 ⟨v, rfl, hown, hb⟩
            obtain ⟨An, cn, rfl, hI⟩ := ownsRow_ogs hown
            have HN := Lib.hid hI
            replace HL := Lib.hid (HL.out.upto hb)
            have HB6 := Lib.hid (HB5.out.trans (hb.mono HB5.out.size))
            clear hb hown hI
            have KN := Lib.hid (check_any lines units hours An cn (ogN l) w6 HN.out (by omega))
            rw [HVN.out] at KN
            generalize ogN l = nl at *
            go_wp2_with fail
            refine KN.out.mono ?_
            rintro e w7 ⟨rfl, hb⟩
            replace HL := Lib.hid (HL.out.upto hb)
            have HB7 := Lib.hid (HB6.out.trans (hb.mono HB6.out.size))
            clear hb HB6 KN
            have KH := Lib.hid (check_any lines units hours (subA A0 c0 (l.length / 2)) (c0 - l.length / 2) (l.drop (l.length / 2)) w7 (HL.out.drop _ hcap) (by simp; omega))
            rw [HVH.out, List.length_drop] at KH
            have hsl := slice_l A0 l.length c0 (l.length / 2) (by omega) hcap
            have hq : ((l.length : Int) / 2) = ((l.length / 2 : Nat) : Int) := by omega
            have hq2 : (l.length : Int).tdiv 2 = ((l.length / 2 : Nat) : Int) := by rw [Int.tdiv_eq_ediv_of_nonneg (by omega)]; omega
            generalize subA A0 c0 (l.length / 2) = Ah at *
            generalize c0 - l.length / 2 = ch at *
            generalize l.length - l.length / 2 = nh at *
            generalize l.length / 2 = hf at *
            go_wp2_with fail
            refine KH.out.mono ?_
            rintro e w8 ⟨rfl, hb⟩
            have HB8 := Lib.hid (HB7.out.trans (hb.mono HB7.out.size))
            clear hb HB7 KH
            by_cases hin : 0 ≤ h ∧ h < hours
            · have d1 : decide (0 ≤ h) = true := decide_eq_true hin.1
              have d2 : decide (h < hours) = true := decide_eq_true hin.2
              clear hin
              go_wp2_with fail
              go_ret
              exact ⟨rfl, HB8.out⟩
            · have e1 : la.length = 0 := by rw [HOUT.out hin |>.1]; rfl
              have e2 : lb.length = 0 := by rw [HOUT.out hin |>.2.1]; rfl
              have e3 : lc.length = 0 := by rw [HOUT.out hin |>.2.2]; rfl
              by_cases h0 : 0 ≤ h
              · have d1 : decide (0 ≤ h) = true := decide_eq_true h0
                have d2 : decide (h < hours) = false := decide_eq_false (fun hh => hin ⟨h0, hh⟩)
                clear hin h0
                simp only [e1, e2, e3]
                go_wp2_with fail
                go_ret
                exact ⟨rfl, HB8.out⟩
              · have d1 : decide (0 ≤ h) = false := decide_eq_false h0
                clear hin h0
                simp only [e1, e2, e3]
                go_wp2_with fail
                go_ret
                exact ⟨rfl, HB8.out⟩
          | succ g3 =>
            have hk : k < lc.length := by omega
            have HG2 := Lib.hid hkg
            clear hkg
            obtain ⟨ba, offa, hAe, hba, hca⟩ := Hc.out (by omega)
            subst hAe
            have f0 := hca k hk
            have hv := HVT.out (lc.getD k 0) (by rw [getD_eq lc k 0 hk]; exact List.getElem_mem hk)
            clear hca
            generalize lc.getD k 0 = x at *
            have d1 : decide (x < 0) = false := decide_eq_false (by omega)
            have d2 : decide (units ≤ x) = false := decide_eq_false (by omega)
            clear hv
            go_wp2_with fail
            go_roundg g3
            case measure => omega
            case rel => exact ⟨k + 1, by have := HG2.out; omega, by go_num, rfl⟩
      | succ g2 =>
        have hk : k < lb.length := by omega
        have HG2 := Lib.hid hkg
        clear hkg
        obtain ⟨ba, offa, hAe, hba, hca⟩ := Hb.out (by omega)
        subst hAe
        have f0 := hca k hk
        have hv := HVB.out (lb.getD k 0) (by rw [getD_eq lb k 0 hk]; exact List.getElem_mem hk)
        clear hca
        generalize lb.getD k 0 = x at *
        have d1 : decide (x < 0) = false := decide_eq_false (by omega)
        have d2 : decide (lines ≤ x) = false := decide_eq_false (by omega)
        clear hv
        go_wp2_with fail
        go_roundg g2
        case measure => omega
        case rel => exact ⟨k + 1, by have := HG2.out; omega, by go_num, rfl⟩
  · rw [hc] at K1
    have c1 := slice_h A0 l.length c0 k (by omega)
    have c2 := slice_lh A0 l.length c0 k (k + 1) (by omega) (by omega)
    have K2 := Lib.hid (fun w hl => check_any lines units hours (subA A0 c0 0) c0 ((l.drop 0).take k) w hl (by simp; omega))
    have K3 := Lib.hid (fun w hl => check_any lines units hours (subA A0 c0 k) (c0 - k) ((l.drop k).take 1) w hl (by simp; omega))
    have n1 : ((l.drop 0).take k).length = k := by simp; omega
    have n2 : ((l.drop k).take 1).length = 1 := by simp; omega
    rw [n1, show ogChk lines units hours ((l.drop 0).take k) = (0, 0) by rw [List.drop_zero]; exact hc1] at K2
    rw [n2, hc2] at K3
    rw [show k + 1 - k = 1 by omega] at c2
    have d0 : (er != 0) = true := by rw [bne_iff_ne]; omega
    have d5 : (er == 5) = false := by rw [beq_eq_false_iff_ne]; omega
    have dk : decide ((k : Int) < 0) = false := by simp
    have dl : decide ((l.length : Int) ≤ (k : Int)) = false := by simp; omega
    have c2' : ∀ w, (Instr.sliceAt 22 (.slice A0 l.length c0) (some (.int .i64 (k : Int))) (some (.int .i64 ((k : Int) + 1))) none).run Try.prog w = .ok (.slice (subA A0 c0 k) 1 (c0 - k)) w := by
      intro w
      have := c2 w
      rwa [show ((k + 1 : Nat) : Int) = (k : Int) + 1 by omega] at this
    have P1 := Lib.hid (fun (w : World) (h : OgsR w w.heap.size A0 l) => h.part 0 k hcap)
    have P2 := Lib.hid (fun (w : World) (h : OgsR w w.heap.size A0 l) => h.part k 1 hcap)
    clear hc hc1 hc2 n1 n2 he c2
    generalize subA A0 c0 0 = Ap at *
    generalize subA A0 c0 k = Aq at *
    generalize c0 - k = cq at *
    go_enter Try.func7, Try.ntmps7
    go_wp2_with fail
    refine (awake_any _).mono ?_
    rintro e w1 ⟨rfl, hb⟩
    replace HL := Lib.hid (HL.out.upto hb)
    have HB1 := Lib.hid (HB0.out.trans (hb.mono HB0.out.size))
    clear hb HB0
    go_wp2_with fail
    refine (K1.out _ HL.out).mono ?_
    rintro e w2 ⟨rfl, hb⟩
    replace HL := Lib.hid (HL.out.upto hb)
    have HB2 := Lib.hid (HB1.out.trans (hb.mono HB1.out.size))
    clear hb HB1
    go_wp2_with fail
    refine (K2.out _ (P1.out _ HL.out)).mono ?_
    rintro e w3 ⟨rfl, hb⟩
    replace HL := Lib.hid (HL.out.upto hb)
    have HB3 := Lib.hid (HB2.out.trans (hb.mono HB2.out.size))
    clear hb HB2
    go_wp2_with fail
    refine (K3.out _ (P2.out _ HL.out)).mono ?_
    rintro e w4 ⟨rfl, hb⟩
    have HB4 := Lib.hid (HB3.out.trans (hb.mono HB3.out.size))
    clear hb HB3
    go_wp2_with fail
    go_ret
    exact ⟨rfl, HB4.out⟩
end Go.Proofs.Ytklfijhlibpmaaa
