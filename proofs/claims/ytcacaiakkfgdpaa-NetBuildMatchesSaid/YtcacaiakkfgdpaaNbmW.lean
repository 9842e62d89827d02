/- The walk of NetBuildMatches. -/
import Derived.Test.YtcacaiakkfgdpaaAwkN
import Derived.Test.YtcacaiakkfgdpaaLawF
import Derived.Test.YtcacaiakkfgdpaaLawI
import Derived.Test.YtcacaiakkfgdpaaStrB
import Derived.Test.YtcacaiakkfgdpaaEquB
namespace Go.Proofs.Ytcacaiakkfgdpaa
open Go.RowKit
set_option linter.unusedVariables false

set_option maxRecDepth 100000 in
set_option maxHeartbeats 16000000 in
theorem nbm_walk (nb : Int) (A : Option Addr) (c : Nat) (ls : List Ln) (mb : Int) (D : Option Addr) (cd : Nat) (ks : List Ln) (O : Option Addr) (co : Nat) (out : List Int) (ln : Int) (w : World) (hl : LinesR w w.heap.size A ls) (hd : LinesR w w.heap.size D ks) (ho : IntsR w w.heap.size O out) (hlo : -9223372036854775808 ≤ ln) (hhi : ln ≤ 9223372036854775807) :
    Calls Try.prog 12 #[.agg #[.int .i64 nb, .slice A ls.length c], .agg #[.int .i64 mb, .slice D ks.length cd], .slice O out.length co, .int .i64 ln] w fun e w' => e = .returned (.bool true) ∧ Below w.heap.size w w' := by
  have HL := Lib.hid hl
  have HD := Lib.hid hd
  have HO := Lib.hid ho
  clear hl hd ho
  have kl := fun W b hb => long_lit1 (.int .i64 nb) A ls.length c 25 W b hb O out.length co
  have kl2 := fun W => long_nil (.int .i64 mb) D ks.length cd W
  cases hlong : longB [out.length] ls.length with
  | true =>
    rw [hlong] at kl
    have KL := Lib.hid kl
    clear kl hlong kl2
    have HB0 := Lib.hid (Below.refl w.heap.size w)
    go_enter Try.func12, Try.ntmps12
    go_wp2_with fail
    have hb : Below w.heap.size w (((w.alloc (.cells #[.int .i64 nb, .slice A ls.length c] 24)).alloc (.cells #[.int .i64 mb, .slice D ks.length cd] 24)).alloc (.cells #[.slice O out.length co] 25)) := (below_alloc2 w (.cells #[.int .i64 nb, .slice A ls.length c] 24) (.cells #[.int .i64 mb, .slice D ks.length cd] 24)).trans (((Below.refl _ _).alloc (Nat.le_refl _) _).mono (by simp; omega))
    have hb3 : Below ((w.alloc (.cells #[.int .i64 nb, .slice A ls.length c] 24)).alloc (.cells #[.int .i64 mb, .slice D ks.length cd] 24)).heap.size ((w.alloc (.cells #[.int .i64 nb, .slice A ls.length c] 24)).alloc (.cells #[.int .i64 mb, .slice D ks.length cd] 24)) (((w.alloc (.cells #[.int .i64 nb, .slice A ls.length c] 24)).alloc (.cells #[.int .i64 mb, .slice D ks.length cd] 24)).alloc (.cells #[.slice O out.length co] 25)) := (Below.refl _ _).alloc (Nat.le_refl _) _
    have q0 : (((w.alloc (.cells #[.int .i64 nb, .slice A ls.length c] 24)).alloc (.cells #[.int .i64 mb, .slice D ks.length cd] 24)).alloc (.cells #[.slice O out.length co] 25)).cell? ⟨w.heap.size, 0, none⟩ = some (.int .i64 nb) := (hb3.cell (by simp; omega)).trans (by simp)
    have q1 : (((w.alloc (.cells #[.int .i64 nb, .slice A ls.length c] 24)).alloc (.cells #[.int .i64 mb, .slice D ks.length cd] 24)).alloc (.cells #[.slice O out.length co] 25)).cell? ⟨w.heap.size, 1, none⟩ = some (.slice A ls.length c) := (hb3.cell (by simp; omega)).trans (by simp)
    have p0 : (((w.alloc (.cells #[.int .i64 nb, .slice A ls.length c] 24)).alloc (.cells #[.int .i64 mb, .slice D ks.length cd] 24)).alloc (.cells #[.slice O out.length co] 25)).cell? ⟨w.heap.size + 1, 0, none⟩ = some (.int .i64 mb) := (hb3.cell (by simp)).trans (by simp)
    have p1 : (((w.alloc (.cells #[.int .i64 nb, .slice A ls.length c] 24)).alloc (.cells #[.int .i64 mb, .slice D ks.length cd] 24)).alloc (.cells #[.slice O out.length co] 25)).cell? ⟨w.heap.size + 1, 1, none⟩ = some (.slice D ks.length cd) := (hb3.cell (by simp)).trans (by simp)
    clear hb3
    have hz : w.heap.size < (((w.alloc (.cells #[.int .i64 nb, .slice A ls.length c] 24)).alloc (.cells #[.int .i64 mb, .slice D ks.length cd] 24)).alloc (.cells #[.slice O out.length co] 25)).heap.size := by simp; omega
    have hzd : w.heap.size + 1 < (((w.alloc (.cells #[.int .i64 nb, .slice A ls.length c] 24)).alloc (.cells #[.int .i64 mb, .slice D ks.length cd] 24)).alloc (.cells #[.slice O out.length co] 25)).heap.size := by simp
    have HB1 := Lib.hid (HB0.out.trans (hb.mono HB0.out.size))
    clear HB0
    replace HL := Lib.hid (HL.out.upto hb)
    replace HO := Lib.hid (HO.out.upto hb)
    replace HD := Lib.hid (HD.out.upto hb)
    clear hb
    refine (KL.out ((w.alloc (.cells #[.int .i64 nb, .slice A ls.length c] 24)).alloc (.cells #[.int .i64 mb, .slice D ks.length cd] 24)) _ (by simp)).mono ?_
    rintro e w2 ⟨rfl, hb⟩
    rw [← World.size_alloc ((w.alloc (.cells #[.int .i64 nb, .slice A ls.length c] 24)).alloc (.cells #[.int .i64 mb, .slice D ks.length cd] 24)) (.cells #[.slice O out.length co] 25)] at hb
    have HB2 := Lib.hid (HB1.out.trans (hb.mono HB1.out.size))
    clear HB1
    replace HL := Lib.hid (HL.out.upto hb)
    replace HO := Lib.hid (HO.out.upto hb)
    replace HD := Lib.hid (HD.out.upto hb)
    replace q0 := (hb.cell (p := ⟨w.heap.size, 0, none⟩) hz).trans q0
    replace q1 := (hb.cell (p := ⟨w.heap.size, 1, none⟩) hz).trans q1
    replace p0 := (hb.cell (p := ⟨w.heap.size + 1, 0, none⟩) hzd).trans p0
    replace p1 := (hb.cell (p := ⟨w.heap.size + 1, 1, none⟩) hzd).trans p1
    replace hz : w.heap.size < w2.heap.size := Nat.lt_of_lt_of_le hz hb.size
    replace hzd : w.heap.size + 1 < w2.heap.size := Nat.lt_of_lt_of_le hzd hb.size
    clear hb
    go_wp2_with fail
    refine (awake14_any _).mono ?_
    rintro e w3 ⟨rfl, hb⟩
    have HB3 := Lib.hid (HB2.out.trans (hb.mono HB2.out.size))
    clear HB2
    replace HL := Lib.hid (HL.out.upto hb)
    replace HO := Lib.hid (HO.out.upto hb)
    replace HD := Lib.hid (HD.out.upto hb)
    replace q0 := (hb.cell (p := ⟨w.heap.size, 0, none⟩) hz).trans q0
    replace q1 := (hb.cell (p := ⟨w.heap.size, 1, none⟩) hz).trans q1
    replace p0 := (hb.cell (p := ⟨w.heap.size + 1, 0, none⟩) hzd).trans p0
    replace p1 := (hb.cell (p := ⟨w.heap.size + 1, 1, none⟩) hzd).trans p1
    replace hz : w.heap.size < w3.heap.size := Nat.lt_of_lt_of_le hz hb.size
    replace hzd : w.heap.size + 1 < w3.heap.size := Nat.lt_of_lt_of_le hzd hb.size
    clear hb
    go_wp2_with fail
    go_ret
    exact ⟨rfl, HB3.out⟩
  | false =>
    rw [hlong] at kl
    have hb100 := longB_false hlong
    have h1 : out.length ≤ 100 := hb100.1 _ (by simp)
    have h2 : ls.length ≤ 100 := hb100.2
    have KL := Lib.hid kl
    clear kl hlong hb100
    cases hlong2 : longB [] ks.length with
    | true =>
      rw [hlong2] at kl2
      have KL2 := Lib.hid kl2
      clear kl2 hlong2
      have HB0 := Lib.hid (Below.refl w.heap.size w)
      go_enter Try.func12, Try.ntmps12
      go_wp2_with fail
      have hb : Below w.heap.size w (((w.alloc (.cells #[.int .i64 nb, .slice A ls.length c] 24)).alloc (.cells #[.int .i64 mb, .slice D ks.length cd] 24)).alloc (.cells #[.slice O out.length co] 25)) := (below_alloc2 w (.cells #[.int .i64 nb, .slice A ls.length c] 24) (.cells #[.int .i64 mb, .slice D ks.length cd] 24)).trans (((Below.refl _ _).alloc (Nat.le_refl _) _).mono (by simp; omega))
      have hb3 : Below ((w.alloc (.cells #[.int .i64 nb, .slice A ls.length c] 24)).alloc (.cells #[.int .i64 mb, .slice D ks.length cd] 24)).heap.size ((w.alloc (.cells #[.int .i64 nb, .slice A ls.length c] 24)).alloc (.cells #[.int .i64 mb, .slice D ks.length cd] 24)) (((w.alloc (.cells #[.int .i64 nb, .slice A ls.length c] 24)).alloc (.cells #[.int .i64 mb, .slice D ks.length cd] 24)).alloc (.cells #[.slice O out.length co] 25)) := (Below.refl _ _).alloc (Nat.le_refl _) _
      have q0 : (((w.alloc (.cells #[.int .i64 nb, .slice A ls.length c] 24)).alloc (.cells #[.int .i64 mb, .slice D ks.length cd] 24)).alloc (.cells #[.slice O out.length co] 25)).cell? ⟨w.heap.size, 0, none⟩ = some (.int .i64 nb) := (hb3.cell (by simp; omega)).trans (by simp)
      have q1 : (((w.alloc (.cells #[.int .i64 nb, .slice A ls.length c] 24)).alloc (.cells #[.int .i64 mb, .slice D ks.length cd] 24)).alloc (.cells #[.slice O out.length co] 25)).cell? ⟨w.heap.size, 1, none⟩ = some (.slice A ls.length c) := (hb3.cell (by simp; omega)).trans (by simp)
      have p0 : (((w.alloc (.cells #[.int .i64 nb, .slice A ls.length c] 24)).alloc (.cells #[.int .i64 mb, .slice D ks.length cd] 24)).alloc (.cells #[.slice O out.length co] 25)).cell? ⟨w.heap.size + 1, 0, none⟩ = some (.int .i64 mb) := (hb3.cell (by simp)).trans (by simp)
      have p1 : (((w.alloc (.cells #[.int .i64 nb, .slice A ls.length c] 24)).alloc (.cells #[.int .i64 mb, .slice D ks.length cd] 24)).alloc (.cells #[.slice O out.length co] 25)).cell? ⟨w.heap.size + 1, 1, none⟩ = some (.slice D ks.length cd) := (hb3.cell (by simp)).trans (by simp)
      clear hb3
      have hz : w.heap.size < (((w.alloc (.cells #[.int .i64 nb, .slice A ls.length c] 24)).alloc (.cells #[.int .i64 mb, .slice D ks.length cd] 24)).alloc (.cells #[.slice O out.length co] 25)).heap.size := by simp; omega
      have hzd : w.heap.size + 1 < (((w.alloc (.cells #[.int .i64 nb, .slice A ls.length c] 24)).alloc (.cells #[.int .i64 mb, .slice D ks.length cd] 24)).alloc (.cells #[.slice O out.length co] 25)).heap.size := by simp
      have HB1 := Lib.hid (HB0.out.trans (hb.mono HB0.out.size))
      clear HB0
      replace HL := Lib.hid (HL.out.upto hb)
      replace HO := Lib.hid (HO.out.upto hb)
      replace HD := Lib.hid (HD.out.upto hb)
      clear hb
      refine (KL.out ((w.alloc (.cells #[.int .i64 nb, .slice A ls.length c] 24)).alloc (.cells #[.int .i64 mb, .slice D ks.length cd] 24)) _ (by simp)).mono ?_
      rintro e w2 ⟨rfl, hb⟩
      rw [← World.size_alloc ((w.alloc (.cells #[.int .i64 nb, .slice A ls.length c] 24)).alloc (.cells #[.int .i64 mb, .slice D ks.length cd] 24)) (.cells #[.slice O out.length co] 25)] at hb
      have HB2 := Lib.hid (HB1.out.trans (hb.mono HB1.out.size))
      clear HB1
      replace HL := Lib.hid (HL.out.upto hb)
      replace HO := Lib.hid (HO.out.upto hb)
      replace HD := Lib.hid (HD.out.upto hb)
      replace q0 := (hb.cell (p := ⟨w.heap.size, 0, none⟩) hz).trans q0
      replace q1 := (hb.cell (p := ⟨w.heap.size, 1, none⟩) hz).trans q1
      replace p0 := (hb.cell (p := ⟨w.heap.size + 1, 0, none⟩) hzd).trans p0
      replace p1 := (hb.cell (p := ⟨w.heap.size + 1, 1, none⟩) hzd).trans p1
      replace hz : w.heap.size < w2.heap.size := Nat.lt_of_lt_of_le hz hb.size
      replace hzd : w.heap.size + 1 < w2.heap.size := Nat.lt_of_lt_of_le hzd hb.size
      clear hb
      go_wp2_with fail
      refine (KL2.out _).mono ?_
      rintro e w3 ⟨rfl, hb⟩
      have HB3 := Lib.hid (HB2.out.trans (hb.mono HB2.out.size))
      clear HB2
      replace HL := Lib.hid (HL.out.upto hb)
      replace HO := Lib.hid (HO.out.upto hb)
      replace HD := Lib.hid (HD.out.upto hb)
      replace q0 := (hb.cell (p := ⟨w.heap.size, 0, none⟩) hz).trans q0
      replace q1 := (hb.cell (p := ⟨w.heap.size, 1, none⟩) hz).trans q1
      replace p0 := (hb.cell (p := ⟨w.heap.size + 1, 0, none⟩) hzd).trans p0
      replace p1 := (hb.cell (p := ⟨w.heap.size + 1, 1, none⟩) hzd).trans p1
      replace hz : w.heap.size < w3.heap.size := Nat.lt_of_lt_of_le hz hb.size
      replace hzd : w.heap.size + 1 < w3.heap.size := Nat.lt_of_lt_of_le hzd hb.size
      clear hb
      go_wp2_with fail
      refine (awake14_any _).mono ?_
      rintro e w4 ⟨rfl, hb⟩
      have HB4 := Lib.hid (HB3.out.trans (hb.mono HB3.out.size))
      clear HB3
      replace HL := Lib.hid (HL.out.upto hb)
      replace HO := Lib.hid (HO.out.upto hb)
      replace HD := Lib.hid (HD.out.upto hb)
      replace q0 := (hb.cell (p := ⟨w.heap.size, 0, none⟩) hz).trans q0
      replace q1 := (hb.cell (p := ⟨w.heap.size, 1, none⟩) hz).trans q1
      replace p0 := (hb.cell (p := ⟨w.heap.size + 1, 0, none⟩) hzd).trans p0
      replace p1 := (hb.cell (p := ⟨w.heap.size + 1, 1, none⟩) hzd).trans p1
      replace hz : w.heap.size < w4.heap.size := Nat.lt_of_lt_of_le hz hb.size
      replace hzd : w.heap.size + 1 < w4.heap.size := Nat.lt_of_lt_of_le hzd hb.size
      clear hb
      go_wp2_with fail
      go_ret
      exact ⟨rfl, HB4.out⟩
    | false =>
      rw [hlong2] at kl2
      have h3 : ks.length ≤ 100 := (longB_false hlong2).2
      have KL2 := Lib.hid kl2
      clear kl2 hlong2
      have kow := fun W h => own_any nb A c ls W h (by omega)
      have kcp := fun W h => copy_any O co out W h (by omega)
      have kro := fun W hl ho => refouts_any nb A O c co ls out W hl ho (by omega) (by omega)
      have krc := fun W hl => refcheck_any nb A c ls W hl
      have kst : outsE nb ls out = 0 → stripNb nb ls out = nb ∧ ∀ W, LinesR W W.heap.size A ls → IntsR W W.heap.size O out → Calls Try.prog 38 #[.agg #[.int .i64 nb, .slice A ls.length c], .slice O out.length co] W (RStripE W nb (stripL nb ls out) (stripK nb ls out)) := fun he => by
        rw [stripNb, stripL, stripK, if_pos he, if_pos he, if_pos he]
        refine ⟨rfl, fun W hl ho => ?_⟩
        have := refstrip_any nb A O c co ls out W hl ho (by omega) (by omega)
        rw [← svcL_eq (check_of_outs he).2] at this
        exact this
      have ksn : outsE nb ls out ≠ 0 → stripNb nb ls out = 0 ∧ stripL nb ls out = [] ∧ stripK nb ls out = [] := fun he => by
        rw [stripNb, stripL, stripK, if_neg he, if_neg he, if_neg he]
        exact ⟨rfl, rfl, rfl⟩
      have ktu : revE nb ls ln = 0 → revNb nb ls ln = nb ∧ ∀ W, LinesR W W.heap.size A ls → Calls Try.prog 39 #[.agg #[.int .i64 nb, .slice A ls.length c], .int .i64 ln] W (OwnE W nb (revL nb ls ln)) := fun he => by
        rw [revNb, revL, if_pos he, if_pos he]
        refine ⟨rfl, fun W hl => ?_⟩
        have hx : 0 ≤ ln ∧ ln < ls.length := by
          unfold revE at he
          by_cases h : checkE nb ls = 0
          · rw [if_pos h] at he
            by_cases h' : ln < 0 ∨ (ls.length : Int) ≤ ln
            · rw [if_pos h'] at he; omega
            · omega
          · rw [if_neg h] at he; exact absurd he h
        obtain ⟨x, rfl⟩ := Int.eq_ofNat_of_zero_le hx.1
        exact turn_any nb A c ls x W hl (by omega) (by omega)
      have ktn : revE nb ls ln ≠ 0 → revNb nb ls ln = 0 ∧ revL nb ls ln = [] := fun he => by
        rw [revNb, revL, if_neg he, if_neg he]
        exact ⟨rfl, rfl⟩
      obtain ⟨bad, hbad⟩ : ∃ b : Bool, b = decide (checkE nb ls = 0 ∧ (ln < 0 ∨ (ls.length : Int) ≤ ln)) := ⟨_, rfl⟩
      have hrv : revE nb ls ln = if bad = true then (1 : Int) else checkE nb ls := by
        rw [hbad, revE]
        by_cases h : checkE nb ls = 0
        · rw [if_pos h]
          by_cases h' : ln < 0 ∨ (ls.length : Int) ≤ ln
          · rw [if_pos h', if_pos (decide_eq_true ⟨h, h'⟩)]
          · rw [if_neg h', if_neg (by simpa [h] using h'), h]
        · rw [if_neg h, if_neg (by simp [h])]
      have hsl : (stripL nb ls out).length ≤ 100 := by
        unfold stripL
        split
        · rw [pick_length]; have := svcL_le out ls.length; omega
        · simp
      have hsk : (stripK nb ls out).length ≤ 100 := by
        unfold stripK
        split
        · have := svcL_le out ls.length; omega
        · simp
      have htl : (revL nb ls ln).length ≤ 100 := by
        unfold revL
        split
        · rw [swapAt_length]; omega
        · simp
      have ks' := fun X Y cx cy W hl ho => strip_any nb X Y cx cy ls out W hl ho (by omega) (by omega)
      have kr := fun X cx W hl => rev_any nb X cx ls ln W hl (by omega)
      generalize stripNb nb ls out = sb at *
      generalize stripL nb ls out = sl at *
      generalize stripK nb ls out = sk at *
      generalize revNb nb ls ln = tb at *
      generalize revL nb ls ln = tl at *
      have kw := fun X Y cx cy W hx hy => same_any sb sb X Y cx cy sl sl W hx hy (by omega) (by omega)
      have kt := fun X Y cx cy W hx hy => same_any tb tb X Y cx cy tl tl W hx hy (by omega) (by omega)
      have kn := fun X Y cx cy W hx hy => same_any nb nb X Y cx cy ls ls W hx hy (by omega) (by omega)
      have ke := fun X Y cx cy W hx hy => equal_any nb mb X Y cx cy ls ks W hx hy (by omega) (by omega)
      have kf := fun X Y cx cy W hx hy => same_any nb mb X Y cx cy ls ks W hx hy (by omega) (by omega)
      rw [netEq_self] at kw kt kn
      have kk := fun X Y cx cy W hx hy => ints_same X Y cx cy sk W hx hy (by omega)
      have kio := fun X Y cx cy W hx hy => ints_same X Y cx cy out W hx hy (by omega)
      generalize netEq nb mb ls ks = ne at *
      generalize outsE nb ls out = er at *
      generalize revE nb ls ln = rv at *
      generalize checkE nb ls = ck at *
      have KOW := Lib.hid kow
      have KCP := Lib.hid kcp
      have KRO := Lib.hid kro
      have KRC := Lib.hid krc
      have HST := Lib.hid kst
      have HSN := Lib.hid ksn
      have HTU := Lib.hid ktu
      have HTN := Lib.hid ktn
      have HRV := Lib.hid hrv
      have HBAD := Lib.hid hbad
      have KS := Lib.hid ks'
      have KR := Lib.hid kr
      have KW := Lib.hid kw
      have KT := Lib.hid kt
      have KN := Lib.hid kn
      have KE := Lib.hid ke
      have KF := Lib.hid kf
      have KK := Lib.hid kk
      have KIO := Lib.hid kio
      clear kow kcp kro krc kst ksn ktu ktn hrv hbad ks' kr kw kt kn ke kf kk kio
      have HB0 := Lib.hid (Below.refl w.heap.size w)
      go_enter Try.func12, Try.ntmps12
      go_wp2_with fail
      have hb : Below w.heap.size w (((w.alloc (.cells #[.int .i64 nb, .slice A ls.length c] 24)).alloc (.cells #[.int .i64 mb, .slice D ks.length cd] 24)).alloc (.cells #[.slice O out.length co] 25)) := (below_alloc2 w (.cells #[.int .i64 nb, .slice A ls.length c] 24) (.cells #[.int .i64 mb, .slice D ks.length cd] 24)).trans (((Below.refl _ _).alloc (Nat.le_refl _) _).mono (by simp; omega))
      have hb3 : Below ((w.alloc (.cells #[.int .i64 nb, .slice A ls.length c] 24)).alloc (.cells #[.int .i64 mb, .slice D ks.length cd] 24)).heap.size ((w.alloc (.cells #[.int .i64 nb, .slice A ls.length c] 24)).alloc (.cells #[.int .i64 mb, .slice D ks.length cd] 24)) (((w.alloc (.cells #[.int .i64 nb, .slice A ls.length c] 24)).alloc (.cells #[.int .i64 mb, .slice D ks.length cd] 24)).alloc (.cells #[.slice O out.length co] 25)) := (Below.refl _ _).alloc (Nat.le_refl _) _
      have q0 : (((w.alloc (.cells #[.int .i64 nb, .slice A ls.length c] 24)).alloc (.cells #[.int .i64 mb, .slice D ks.length cd] 24)).alloc (.cells #[.slice O out.length co] 25)).cell? ⟨w.heap.size, 0, none⟩ = some (.int .i64 nb) := (hb3.cell (by simp; omega)).trans (by simp)
      have q1 : (((w.alloc (.cells #[.int .i64 nb, .slice A ls.length c] 24)).alloc (.cells #[.int .i64 mb, .slice D ks.length cd] 24)).alloc (.cells #[.slice O out.length co] 25)).cell? ⟨w.heap.size, 1, none⟩ = some (.slice A ls.length c) := (hb3.cell (by simp; omega)).trans (by simp)
      have p0 : (((w.alloc (.cells #[.int .i64 nb, .slice A ls.length c] 24)).alloc (.cells #[.int .i64 mb, .slice D ks.length cd] 24)).alloc (.cells #[.slice O out.length co] 25)).cell? ⟨w.heap.size + 1, 0, none⟩ = some (.int .i64 mb) := (hb3.cell (by simp)).trans (by simp)
      have p1 : (((w.alloc (.cells #[.int .i64 nb, .slice A ls.length c] 24)).alloc (.cells #[.int .i64 mb, .slice D ks.length cd] 24)).alloc (.cells #[.slice O out.length co] 25)).cell? ⟨w.heap.size + 1, 1, none⟩ = some (.slice D ks.length cd) := (hb3.cell (by simp)).trans (by simp)
      clear hb3
      have hz : w.heap.size < (((w.alloc (.cells #[.int .i64 nb, .slice A ls.length c] 24)).alloc (.cells #[.int .i64 mb, .slice D ks.length cd] 24)).alloc (.cells #[.slice O out.length co] 25)).heap.size := by simp; omega
      have hzd : w.heap.size + 1 < (((w.alloc (.cells #[.int .i64 nb, .slice A ls.length c] 24)).alloc (.cells #[.int .i64 mb, .slice D ks.length cd] 24)).alloc (.cells #[.slice O out.length co] 25)).heap.size := by simp
      have HB1 := Lib.hid (HB0.out.trans (hb.mono HB0.out.size))
      clear HB0
      replace HL := Lib.hid (HL.out.upto hb)
      replace HO := Lib.hid (HO.out.upto hb)
      replace HD := Lib.hid (HD.out.upto hb)
      clear hb
      refine (KL.out ((w.alloc (.cells #[.int .i64 nb, .slice A ls.length c] 24)).alloc (.cells #[.int .i64 mb, .slice D ks.length cd] 24)) _ (by simp)).mono ?_
      rintro e w2 ⟨rfl, hb⟩
      rw [← World.size_alloc ((w.alloc (.cells #[.int .i64 nb, .slice A ls.length c] 24)).alloc (.cells #[.int .i64 mb, .slice D ks.length cd] 24)) (.cells #[.slice O out.length co] 25)] at hb
      have HB2 := Lib.hid (HB1.out.trans (hb.mono HB1.out.size))
      clear HB1
      replace HL := Lib.hid (HL.out.upto hb)
      replace HO := Lib.hid (HO.out.upto hb)
      replace HD := Lib.hid (HD.out.upto hb)
      replace q0 := (hb.cell (p := ⟨w.heap.size, 0, none⟩) hz).trans q0
      replace q1 := (hb.cell (p := ⟨w.heap.size, 1, none⟩) hz).trans q1
      replace p0 := (hb.cell (p := ⟨w.heap.size + 1, 0, none⟩) hzd).trans p0
      replace p1 := (hb.cell (p := ⟨w.heap.size + 1, 1, none⟩) hzd).trans p1
      replace hz : w.heap.size < w2.heap.size := Nat.lt_of_lt_of_le hz hb.size
      replace hzd : w.heap.size + 1 < w2.heap.size := Nat.lt_of_lt_of_le hzd hb.size
      clear hb
      go_wp2_with fail
      refine (KL2.out _).mono ?_
      rintro e w3 ⟨rfl, hb⟩
      have HB3 := Lib.hid (HB2.out.trans (hb.mono HB2.out.size))
      clear HB2
      replace HL := Lib.hid (HL.out.upto hb)
      replace HO := Lib.hid (HO.out.upto hb)
      replace HD := Lib.hid (HD.out.upto hb)
      replace q0 := (hb.cell (p := ⟨w.heap.size, 0, none⟩) hz).trans q0
      replace q1 := (hb.cell (p := ⟨w.heap.size, 1, none⟩) hz).trans q1
      replace p0 := (hb.cell (p := ⟨w.heap.size + 1, 0, none⟩) hzd).trans p0
      replace p1 := (hb.cell (p := ⟨w.heap.size + 1, 1, none⟩) hzd).trans p1
      replace hz : w.heap.size < w3.heap.size := Nat.lt_of_lt_of_le hz hb.size
      replace hzd : w.heap.size + 1 < w3.heap.size := Nat.lt_of_lt_of_le hzd hb.size
      clear hb
      go_wp2_with fail
      refine (KOW.out _ HL.out).mono ?_
      rintro e w4 ⟨Am, cm, rfl, hown, hb⟩
      obtain ⟨A2, c2, he2, hI⟩ := ownsRow_linesR hown
      simp only [Value.slice.injEq] at he2
      obtain ⟨rfl, _, rfl⟩ := he2
      have HIm := Lib.hid hI
      clear hown hI
      have HB4 := Lib.hid (HB3.out.trans (hb.mono HB3.out.size))
      clear HB3
      replace HL := Lib.hid (HL.out.upto hb)
      replace HO := Lib.hid (HO.out.upto hb)
      replace HD := Lib.hid (HD.out.upto hb)
      replace q0 := (hb.cell (p := ⟨w.heap.size, 0, none⟩) hz).trans q0
      replace q1 := (hb.cell (p := ⟨w.heap.size, 1, none⟩) hz).trans q1
      replace p0 := (hb.cell (p := ⟨w.heap.size + 1, 0, none⟩) hzd).trans p0
      replace p1 := (hb.cell (p := ⟨w.heap.size + 1, 1, none⟩) hzd).trans p1
      replace hz : w.heap.size < w4.heap.size := Nat.lt_of_lt_of_le hz hb.size
      replace hzd : w.heap.size + 1 < w4.heap.size := Nat.lt_of_lt_of_le hzd hb.size
      clear hb
      go_wp2_with fail
      refine (KCP.out _ HO.out).mono ?_
      rintro e w5 ⟨v, rfl, hown, hb⟩
      obtain ⟨Ax, cx, rfl, hI⟩ := ownsRow_ints hown
      have HIx := Lib.hid hI
      clear hown hI
      have HB5 := Lib.hid (HB4.out.trans (hb.mono HB4.out.size))
      clear HB4
      replace HL := Lib.hid (HL.out.upto hb)
      replace HO := Lib.hid (HO.out.upto hb)
      replace HD := Lib.hid (HD.out.upto hb)
      replace HIm := Lib.hid (HIm.out.upto hb)
      replace q0 := (hb.cell (p := ⟨w.heap.size, 0, none⟩) hz).trans q0
      replace q1 := (hb.cell (p := ⟨w.heap.size, 1, none⟩) hz).trans q1
      replace p0 := (hb.cell (p := ⟨w.heap.size + 1, 0, none⟩) hzd).trans p0
      replace p1 := (hb.cell (p := ⟨w.heap.size + 1, 1, none⟩) hzd).trans p1
      replace hz : w.heap.size < w5.heap.size := Nat.lt_of_lt_of_le hz hb.size
      replace hzd : w.heap.size + 1 < w5.heap.size := Nat.lt_of_lt_of_le hzd hb.size
      clear hb
      go_upto_region 4 with fail
      have hb : Below w5.heap.size w5 (w5.alloc (.cells #[.int .i64 nb, .slice Am ls.length cm] 24)) := (Below.refl _ _).alloc (Nat.le_refl _) _
      have m0 : (w5.alloc (.cells #[.int .i64 nb, .slice Am ls.length cm] 24)).cell? ⟨w5.heap.size, 0, none⟩ = some (.int .i64 nb) := cell_alloc_at _ _ _ _ _ rfl
      have m1 : (w5.alloc (.cells #[.int .i64 nb, .slice Am ls.length cm] 24)).cell? ⟨w5.heap.size, 1, none⟩ = some (.slice Am ls.length cm) := cell_alloc_at _ _ _ _ _ rfl
      have hzm : w5.heap.size < (w5.alloc (.cells #[.int .i64 nb, .slice Am ls.length cm] 24)).heap.size := by simp
      generalize hX : w5.alloc (.cells #[.int .i64 nb, .slice Am ls.length cm] 24) = w6 at *
      clear hX
      have HB6 := Lib.hid (HB5.out.trans (hb.mono HB5.out.size))
      clear HB5
      replace HL := Lib.hid (HL.out.upto hb)
      replace HO := Lib.hid (HO.out.upto hb)
      replace HD := Lib.hid (HD.out.upto hb)
      replace HIm := Lib.hid (HIm.out.upto hb)
      replace HIx := Lib.hid (HIx.out.upto hb)
      replace q0 := (hb.cell (p := ⟨w.heap.size, 0, none⟩) hz).trans q0
      replace q1 := (hb.cell (p := ⟨w.heap.size, 1, none⟩) hz).trans q1
      replace p0 := (hb.cell (p := ⟨w.heap.size + 1, 0, none⟩) hzd).trans p0
      replace p1 := (hb.cell (p := ⟨w.heap.size + 1, 1, none⟩) hzd).trans p1
      replace hz : w.heap.size < w6.heap.size := Nat.lt_of_lt_of_le hz hb.size
      replace hzd : w.heap.size + 1 < w6.heap.size := Nat.lt_of_lt_of_le hzd hb.size
      clear hb
      generalize w5.heap.size = Bm at *
      refine region_calls (w0 := w6) (fun jq => match jq with | 0 => .agg #[.int .i64 nb, .slice A ls.length c] | 1 => .slice O out.length co | 2 => .int .i64 er | 3 => .agg #[.int .i64 nb, .slice A ls.length c] | 4 => .int .i64 ck | 5 => .int .i64 er | 6 => .int .i64 ck | _ => undef) (by kernel_rfl) (by kernel_rfl) ?_ ?_
      · intro i o ho a W hI hdep hrest hgd
        have r4 : a.eval (.tmp 4) = .pointer (some ⟨w.heap.size, 0, none⟩) := hrest 4 (apart_of (by kernel_rfl))
        have r2 : a.eval (.tmp 2) = .slice O out.length co := hrest 2 (apart_of (by kernel_rfl))
        have hc : ∀ v, a.eval (.const v) = v := fun _ => rfl
        have hfn : ∀ f, a.eval (.func f) = .func (.func f) #[] #[] := fun _ => rfl
        clear hrest
        rcases i with _ | _ | _ | _ | _ | _ | _ | i
        · injection ho with ho
          subst ho
          clear hdep hgd
          have x0 := (hI.cell (p := ⟨w.heap.size, 0, none⟩) hz).trans q0
          have x1 := (hI.cell (p := ⟨w.heap.size, 1, none⟩) hz).trans q1
          refine ⟨fun _ => .inl ?_, fun hw => (by simp [Region.wanted] at hw)⟩
          clear hI
          generalize a.eval = ρ at *
          simp [go_sem, r4, x0, x1]
        · injection ho with ho
          subst ho
          clear hdep hgd
          refine ⟨fun _ => .inl ?_, fun hw => (by simp [Region.wanted] at hw)⟩
          clear hI
          generalize a.eval = ρ at *
          simp [go_sem, r2]
        · injection ho with ho
          subst ho
          have e0 : a.eval (.tmp 35) = .agg #[.int .i64 nb, .slice A ls.length c] := hdep ⟨0, .data⟩ (by simp) rfl _ _ rfl rfl
          have e1 : a.eval (.tmp 36) = .slice O out.length co := hdep ⟨1, .data⟩ (by simp) rfl _ _ rfl rfl
          clear hdep hgd
          refine ⟨fun _ => .inr ⟨17, #[.agg #[.int .i64 nb, .slice A ls.length c], .slice O out.length co], ?_, KRO.out W (HL.out.upto hI) (HO.out.upto hI)⟩, fun hw => (by simp [Region.wanted] at hw)⟩
          clear hI
          generalize a.eval = ρ at *
          simp [go_sem, e0, e1, hfn]
        · injection ho with ho
          subst ho
          clear hdep hgd
          have x0 := (hI.cell (p := ⟨w.heap.size, 0, none⟩) hz).trans q0
          have x1 := (hI.cell (p := ⟨w.heap.size, 1, none⟩) hz).trans q1
          refine ⟨fun _ => .inl ?_, fun hw => (by simp [Region.wanted] at hw)⟩
          clear hI
          generalize a.eval = ρ at *
          simp [go_sem, r4, x0, x1]
        · injection ho with ho
          subst ho
          have e3 : a.eval (.tmp 38) = .agg #[.int .i64 nb, .slice A ls.length c] := hdep ⟨3, .data⟩ (by simp) rfl _ _ rfl rfl
          clear hdep hgd
          refine ⟨fun _ => .inr ⟨19, #[.agg #[.int .i64 nb, .slice A ls.length c]], ?_, KRC.out W (HL.out.upto hI)⟩, fun hw => (by simp [Region.wanted] at hw)⟩
          clear hI
          generalize a.eval = ρ at *
          simp [go_sem, e3, hfn]
        · injection ho with ho
          subst ho
          have e2 : a.eval (.tmp 37) = .int .i64 er := hdep ⟨2, .data⟩ (by simp) rfl _ _ rfl rfl
          clear hdep hgd
          refine ⟨fun _ => .inl ?_, fun hw => (by simp [Region.wanted] at hw)⟩
          clear hI
          generalize a.eval = ρ at *
          simp [go_sem, e2]
        · injection ho with ho
          subst ho
          have e4 : a.eval (.tmp 39) = .int .i64 ck := hdep ⟨4, .data⟩ (by simp) rfl _ _ rfl rfl
          clear hdep hgd
          refine ⟨fun _ => .inl ?_, fun hw => (by simp [Region.wanted] at hw)⟩
          clear hI
          generalize a.eval = ρ at *
          simp [go_sem, e4]
        · simp at ho
      intro w7 hb
      simp only [putAll, Act.put, List.setIfInBounds_toArray, List.set_cons_zero, List.set_cons_succ, Nat.reduceAdd]
      have HB7 := Lib.hid (HB6.out.trans (hb.mono HB6.out.size))
      clear HB6
      replace HL := Lib.hid (HL.out.upto hb)
      replace HO := Lib.hid (HO.out.upto hb)
      replace HD := Lib.hid (HD.out.upto hb)
      replace HIm := Lib.hid (HIm.out.upto hb)
      replace HIx := Lib.hid (HIx.out.upto hb)
      replace q0 := (hb.cell (p := ⟨w.heap.size, 0, none⟩) hz).trans q0
      replace q1 := (hb.cell (p := ⟨w.heap.size, 1, none⟩) hz).trans q1
      replace p0 := (hb.cell (p := ⟨w.heap.size + 1, 0, none⟩) hzd).trans p0
      replace p1 := (hb.cell (p := ⟨w.heap.size + 1, 1, none⟩) hzd).trans p1
      replace m0 := (hb.cell (p := ⟨Bm, 0, none⟩) hzm).trans m0
      replace m1 := (hb.cell (p := ⟨Bm, 1, none⟩) hzm).trans m1
      replace hz : w.heap.size < w7.heap.size := Nat.lt_of_lt_of_le hz hb.size
      replace hzd : w.heap.size + 1 < w7.heap.size := Nat.lt_of_lt_of_le hzd hb.size
      replace hzm : Bm < w7.heap.size := Nat.lt_of_lt_of_le hzm hb.size
      clear hb
      go_upto_region 5 with fail
      go_cut [52] (fun s52 wx => s52 = .bool bad ∧ w7 = wx)
      case first =>
        have hbad := HBAD.out
        by_cases hck : ck = 0
        · have t1 : (ck == 0) = true := by rw [hck]; rfl
          by_cases hlo' : ln < 0
          · have t2 : decide (ln < 0) = true := decide_eq_true hlo'
            have HR := Lib.hid (hbad.trans (decide_eq_true ⟨hck, .inl hlo'⟩))
            clear hck hlo' hbad
            go_wp2_with fail
            go_meet
            case rel => exact ⟨by rw [HR.out], rfl⟩
          · by_cases hhi' : (ls.length : Int) ≤ ln
            · have t2 : decide (ln < 0) = false := decide_eq_false hlo'
              have t3 : decide ((ls.length : Int) ≤ ln) = true := decide_eq_true hhi'
              have HR := Lib.hid (hbad.trans (decide_eq_true ⟨hck, .inr hhi'⟩))
              clear hck hlo' hhi' hbad
              go_wp2_with fail
              go_meet
              case rel => exact ⟨by rw [HR.out], rfl⟩
            · have t2 : decide (ln < 0) = false := decide_eq_false hlo'
              have t3 : decide ((ls.length : Int) ≤ ln) = false := decide_eq_false hhi'
              have HR := Lib.hid (hbad.trans (decide_eq_false (fun h => h.2.elim hlo' hhi')))
              clear hck hlo' hhi' hbad
              go_wp2_with fail
              go_meet
              case rel => exact ⟨by rw [HR.out], rfl⟩
        · have t1 : (ck == 0) = false := by rw [beq_eq_false_iff_ne]; exact hck
          have HR := Lib.hid (hbad.trans (decide_eq_false (fun h => hck h.1)))
          clear hck hbad
          go_wp2_with fail
          go_meet
          case rel => exact ⟨by rw [HR.out], rfl⟩
      case rest =>
        obtain ⟨rfl, rfl⟩ := hcut
        go_upto_if 52 with fail
        go_cut [12] (fun s12 wx => s12 = .int .i64 rv ∧ w7 = wx)
        case first =>
          cases hbd : bad with
          | true =>
            have HR := Lib.hid (HRV.out.trans (by rw [hbd]; rfl : (if bad = true then (1 : Int) else ck) = 1))
            clear hbd
            go_wp2_with fail
            go_meet
            case rel => exact ⟨by rw [HR.out], rfl⟩
          | false =>
            have HR := Lib.hid (HRV.out.trans (by rw [hbd]; rfl : (if bad = true then (1 : Int) else ck) = ck))
            clear hbd
            go_wp2_with fail
            go_meet
            case rel => exact ⟨by rw [HR.out], rfl⟩
        case rest =>
          obtain ⟨rfl, rfl⟩ := hcut
          go_upto_if 54 with fail
          have HR0 := Lib.hid (nbmW_start w7)
          generalize (w7.alloc (.cells #[.int .i64 0, .slice none 0 0] 24)).alloc (.cells #[.int .i64 0, .slice none 0 0] 24) = wK at *
          have HQ := Lib.hid (And.intro q0 (And.intro q1 (And.intro p0 (And.intro p1 (And.intro m0 m1)))))
          have HZ := Lib.hid (And.intro hz (And.intro hzd hzm))
          clear q0 q1 p0 p1 m0 m1
          go_cut [15] (fun s15 wx => ∃ Ai ci, s15 = .slice Ai sk.length ci ∧ NbmW w7 sb sl sk 0 [] Ai ci wx)
          case first =>
            by_cases her : er = 0
            · have t1 : (er == 0) = true := by rw [her]; rfl
              obtain ⟨g1, kst⟩ := HST.out her
              have KST := Lib.hid kst
              have G1 := Lib.hid g1
              clear her kst g1
              have hbk := HR0.out.below
              have q0 := (hbk.cell (p := ⟨w.heap.size, 0, none⟩) HZ.out.1).trans HQ.out.1
              have q1 := (hbk.cell (p := ⟨w.heap.size, 1, none⟩) HZ.out.1).trans HQ.out.2.1
              have HLK := Lib.hid (HL.out.upto hbk)
              have HOK := Lib.hid (HO.out.upto hbk)
              clear hbk
              go_wp2_with fail
              refine (KST.out _ HLK.out HOK.out).mono ?_
              rintro e wT ⟨Aw, cw, Ai, ci, rfl, ho1, ho2, hb⟩
              have HE := Lib.hid (HR0.out.up hb)
              have HO1 := Lib.hid (ownsRow_base ho1 HR0.out.size)
              have HO2 := Lib.hid (ownsRow_base ho2 HR0.out.size)
              obtain ⟨Az, cz, x0, x1, _⟩ := HE.out.want
              have z0 := HE.out.froz 0 (by omega) 0
              have z1 := HE.out.froz 0 (by omega) 1
              rw [Nat.add_zero] at z0 z1
              clear ho1 ho2 hb q0 q1
              go_wp2_with fail
              go_meet
              case rel => exact ⟨Ai, ci, rfl, by rw [G1.out]; exact HE.out.setWant HO1.out HO2.out⟩
            · have t1 : (er == 0) = false := by rw [beq_eq_false_iff_ne]; exact her
              have HSE := Lib.hid (HSN.out her)
              clear her
              go_wp2_with fail
              go_meet
              case rel =>
                obtain ⟨g1, g2, g3⟩ := HSE.out
                rw [g1, g2, g3]
                exact ⟨none, 0, rfl, HR0.out⟩
          case rest =>
            obtain ⟨Ai, ci, rfl, hR1⟩ := hcut
            have HR1 := Lib.hid hR1
            clear hR1 HR0
            go_upto_if 62 with fail
            go_cut [15] (fun s15 wx => s15 = .slice Ai sk.length ci ∧ NbmW w7 sb sl sk tb tl Ai ci wx)
            case first =>
              by_cases hrv : rv = 0
              · have t1 : (rv == 0) = true := by rw [hrv]; rfl
                obtain ⟨g1, kst⟩ := HTU.out hrv
                have KST := Lib.hid kst
                have G1 := Lib.hid g1
                clear hrv kst g1
                have hbk := HR1.out.below
                have q0 := (hbk.cell (p := ⟨w.heap.size, 0, none⟩) HZ.out.1).trans HQ.out.1
                have q1 := (hbk.cell (p := ⟨w.heap.size, 1, none⟩) HZ.out.1).trans HQ.out.2.1
                have HLK := Lib.hid (HL.out.upto hbk)
                clear hbk
                go_wp2_with fail
                refine (KST.out _ HLK.out).mono ?_
                rintro e wT ⟨Aw, cw, rfl, ho1, hb⟩
                have HE := Lib.hid (HR1.out.up hb)
                have HO1 := Lib.hid (ownsRow_base ho1 HR1.out.size)
                obtain ⟨Az, cz, x0, x1, _⟩ := HE.out.turn
                have z0 := HE.out.froz 1 (by omega) 0
                have z1 := HE.out.froz 1 (by omega) 1
                clear ho1 hb q0 q1
                go_wp2_with fail
                go_meet
                case rel => exact ⟨rfl, by rw [G1.out]; exact HE.out.setTurn HO1.out⟩
              · have t1 : (rv == 0) = false := by rw [beq_eq_false_iff_ne]; exact hrv
                have HSE := Lib.hid (HTN.out hrv)
                clear hrv
                go_wp2_with fail
                go_meet
                case rel =>
                  obtain ⟨g1, g2⟩ := HSE.out
                  rw [g1, g2]
                  exact ⟨rfl, HR1.out⟩
            case rest =>
              obtain ⟨rfl, hR2⟩ := hcut
              obtain ⟨Aw, cw, v0, v1, ow⟩ := hR2.want
              obtain ⟨At, ct, t0, t1, ot⟩ := hR2.turn
              have oi := hR2.ints
              obtain ⟨A2, c2, he2, lw⟩ := ownsRow_linesR ow
              simp only [Value.slice.injEq] at he2
              obtain ⟨rfl, _, rfl⟩ := he2
              obtain ⟨A2, c2, he2, lt⟩ := ownsRow_linesR ot
              simp only [Value.slice.injEq] at he2
              obtain ⟨rfl, _, rfl⟩ := he2
              obtain ⟨A2, c2, he2, li⟩ := ownsRow_ints oi
              simp only [Value.slice.injEq] at he2
              obtain ⟨rfl, _, rfl⟩ := he2
              have hbk := hR2.below
              obtain ⟨q0, q1, p0, p1, m0, m1⟩ := HQ.out
              obtain ⟨hz, hzd, hzm⟩ := HZ.out
              have hn : NbmI w.heap.size nb A c ls mb D cd ks O out Am cm Ax Bm w7.heap.size sb Aw cw sl Ai sk tb At ct tl wc := ⟨HL.out.upto hbk, HD.out.upto hbk, HO.out.upto hbk, HIm.out.upto hbk, HIx.out.upto hbk, lw, li, lt, (hbk.cell (p := ⟨w.heap.size, 0, none⟩) hz).trans q0, (hbk.cell (p := ⟨w.heap.size, 1, none⟩) hz).trans q1, (hbk.cell (p := ⟨w.heap.size + 1, 0, none⟩) hzd).trans p0, (hbk.cell (p := ⟨w.heap.size + 1, 1, none⟩) hzd).trans p1, (hbk.cell (p := ⟨Bm, 0, none⟩) hzm).trans m0, (hbk.cell (p := ⟨Bm, 1, none⟩) hzm).trans m1, v0, v1, t0, t1⟩
              have HN := Lib.hid hn
              have HBC := Lib.hid (HB7.out.trans (hbk.mono HB7.out.size))
              clear hn hbk q0 q1 p0 p1 m0 m1 v0 v1 t0 t1 ow ot oi lw lt li hR2 HR1 HL HD HO HIm HIx HQ HZ hz hzd hzm HST HSN HTU HTN HRV HBAD HB7
              generalize w7.heap.size = Bw at *
              go_wp2_with fail
              go_loopg [16, 17, 18, 19, 20, 21] 2 (fun g i s17 s18 s19 s20 s21 wr => ∃ k : Nat, k + g = 2 ∧ i = .int .i64 k ∧ NbmI w.heap.size nb A c ls mb D cd ks O out Am cm Ax Bm Bw sb Aw cw sl Ai sk tb At ct tl wr ∧ Below w.heap.size w wr)
              case atStart => exact ⟨0, by omega, rfl, HN.out, HBC.out⟩
              case round =>
                clear HN HBC
                obtain ⟨k, hkg, rfl, hn, hbel⟩ := hrel
                have HN := Lib.hid hn
                have HN0 := Lib.hid hn
                have HBW := Lib.hid hbel
                clear hn hbel
                cases gk with
                | zero =>
                  obtain rfl : k = 2 := by omega
                  clear hkg HN HN0
                  go_wp2_with fail
                  refine (awake14_any _).mono ?_
                  rintro e w50 ⟨rfl, hb⟩
                  have HB50 := Lib.hid (HBW.out.trans (hb.mono HBW.out.size))
                  clear HBW
                  clear hb
                  go_wp2_with fail
                  go_ret
                  exact ⟨rfl, HB50.out⟩
                | succ g =>
                  have hk : k < 2 := by omega
                  have HG := Lib.hid hkg
                  clear hkg
                  have HR0 := Lib.hid (Below.refl wr.heap.size wr)
                  have m0 := HN.out.m0
                  have m1 := HN.out.m1
                  have hzm := cell_block m0
                  simp only at hzm
                  go_wp2_with fail
                  refine (KS.out _ _ _ _ _ HN.out.own HN.out.outs).mono ?_
                  rintro e w60 ⟨Aa, ca, Al, cl, rfl, hown, hown2, hb⟩
                  have HSa := Lib.hid (Spoils.own hown (Nat.le_refl _))
                  have HSl := Lib.hid (Spoils.own hown2 (Nat.le_refl _))
                  obtain ⟨A2, c2, he2, hI⟩ := ownsRow_linesR hown
                  simp only [Value.slice.injEq] at he2
                  obtain ⟨rfl, _, rfl⟩ := he2
                  have HIa := Lib.hid hI
                  clear hI
                  obtain ⟨A2, c2, he2, hI⟩ := ownsRow_ints hown2
                  simp only [Value.slice.injEq] at he2
                  obtain ⟨rfl, _, rfl⟩ := he2
                  have HIl := Lib.hid hI
                  clear hI
                  clear hown hown2
                  have HB60 := Lib.hid (HR0.out.trans (hb.mono HR0.out.size))
                  clear HR0
                  replace HN := Lib.hid (HN.out.upto hb)
                  replace m0 := (hb.cell (p := ⟨Bm, 0, none⟩) hzm).trans m0
                  replace m1 := (hb.cell (p := ⟨Bm, 1, none⟩) hzm).trans m1
                  replace hzm : Bm < w60.heap.size := Nat.lt_of_lt_of_le hzm hb.size
                  clear hb
                  go_upto_region 17 with fail
                  have hb : Below w60.heap.size w60 (w60.alloc (.cells #[.int .i64 sb, .slice Aa sl.length ca] 24)) := (Below.refl _ _).alloc (Nat.le_refl _) _
                  have a0 : (w60.alloc (.cells #[.int .i64 sb, .slice Aa sl.length ca] 24)).cell? ⟨w60.heap.size, 0, none⟩ = some (.int .i64 sb) := cell_alloc_at _ _ _ _ _ rfl
                  have a1 : (w60.alloc (.cells #[.int .i64 sb, .slice Aa sl.length ca] 24)).cell? ⟨w60.heap.size, 1, none⟩ = some (.slice Aa sl.length ca) := cell_alloc_at _ _ _ _ _ rfl
                  have hza : w60.heap.size < (w60.alloc (.cells #[.int .i64 sb, .slice Aa sl.length ca] 24)).heap.size := by simp
                  generalize hX : w60.alloc (.cells #[.int .i64 sb, .slice Aa sl.length ca] 24) = w61 at *
                  clear hX
                  have HB61 := Lib.hid (HB60.out.trans (hb.mono HB60.out.size))
                  clear HB60
                  replace HN := Lib.hid (HN.out.upto hb)
                  replace HIa := Lib.hid (HIa.out.upto hb)
                  replace HIl := Lib.hid (HIl.out.upto hb)
                  replace HSa := Lib.hid (HSa.out.upto hb)
                  replace HSl := Lib.hid (HSl.out.upto hb)
                  replace m0 := (hb.cell (p := ⟨Bm, 0, none⟩) hzm).trans m0
                  replace m1 := (hb.cell (p := ⟨Bm, 1, none⟩) hzm).trans m1
                  replace hzm : Bm < w61.heap.size := Nat.lt_of_lt_of_le hzm hb.size
                  clear hb
                  generalize w60.heap.size = Ba at *
                  go_wp2_with fail
                  refine (KR.out _ _ _ HN.out.own).mono ?_
                  rintro e w62 ⟨Ab, cb, rfl, hown, hb⟩
                  have HSb := Lib.hid (Spoils.own hown HB61.out.size)
                  obtain ⟨A2, c2, he2, hI⟩ := ownsRow_linesR hown
                  simp only [Value.slice.injEq] at he2
                  obtain ⟨rfl, _, rfl⟩ := he2
                  have HIb := Lib.hid hI
                  clear hown hI
                  have HB62 := Lib.hid (HB61.out.trans (hb.mono HB61.out.size))
                  clear HB61
                  replace HN := Lib.hid (HN.out.upto hb)
                  replace HIa := Lib.hid (HIa.out.upto hb)
                  replace HIl := Lib.hid (HIl.out.upto hb)
                  replace HSa := Lib.hid (HSa.out.upto hb)
                  replace HSl := Lib.hid (HSl.out.upto hb)
                  replace m0 := (hb.cell (p := ⟨Bm, 0, none⟩) hzm).trans m0
                  replace m1 := (hb.cell (p := ⟨Bm, 1, none⟩) hzm).trans m1
                  replace a0 := (hb.cell (p := ⟨Ba, 0, none⟩) hza).trans a0
                  replace a1 := (hb.cell (p := ⟨Ba, 1, none⟩) hza).trans a1
                  replace hzm : Bm < w62.heap.size := Nat.lt_of_lt_of_le hzm hb.size
                  replace hza : Ba < w62.heap.size := Nat.lt_of_lt_of_le hza hb.size
                  clear hb
                  have HNR := Lib.hid (notRow_of (cl := cl) HIa.out HIl.out)
                  go_upto_region 18 with fail
                  have hb : Below w62.heap.size w62 (w62.alloc (.cells #[.int .i64 tb, .slice Ab tl.length cb] 24)) := (Below.refl _ _).alloc (Nat.le_refl _) _
                  have b0 : (w62.alloc (.cells #[.int .i64 tb, .slice Ab tl.length cb] 24)).cell? ⟨w62.heap.size, 0, none⟩ = some (.int .i64 tb) := cell_alloc_at _ _ _ _ _ rfl
                  have b1 : (w62.alloc (.cells #[.int .i64 tb, .slice Ab tl.length cb] 24)).cell? ⟨w62.heap.size, 1, none⟩ = some (.slice Ab tl.length cb) := cell_alloc_at _ _ _ _ _ rfl
                  have hzb : w62.heap.size < (w62.alloc (.cells #[.int .i64 tb, .slice Ab tl.length cb] 24)).heap.size := by simp
                  generalize hX : w62.alloc (.cells #[.int .i64 tb, .slice Ab tl.length cb] 24) = w63 at *
                  clear hX
                  have HB63 := Lib.hid (HB62.out.trans (hb.mono HB62.out.size))
                  clear HB62
                  replace HN := Lib.hid (HN.out.upto hb)
                  replace HIa := Lib.hid (HIa.out.upto hb)
                  replace HIl := Lib.hid (HIl.out.upto hb)
                  replace HSa := Lib.hid (HSa.out.upto hb)
                  replace HSl := Lib.hid (HSl.out.upto hb)
                  replace HIb := Lib.hid (HIb.out.upto hb)
                  replace HSb := Lib.hid (HSb.out.upto hb)
                  replace m0 := (hb.cell (p := ⟨Bm, 0, none⟩) hzm).trans m0
                  replace m1 := (hb.cell (p := ⟨Bm, 1, none⟩) hzm).trans m1
                  replace a0 := (hb.cell (p := ⟨Ba, 0, none⟩) hza).trans a0
                  replace a1 := (hb.cell (p := ⟨Ba, 1, none⟩) hza).trans a1
                  replace hzm : Bm < w63.heap.size := Nat.lt_of_lt_of_le hzm hb.size
                  replace hza : Ba < w63.heap.size := Nat.lt_of_lt_of_le hza hb.size
                  clear hb
                  generalize w62.heap.size = Bb at *
                  clear m0 m1 hzm
                  refine region_calls (w0 := w63) (fun jq => match jq with | 0 => .int .i64 er | 1 => .int .i64 er | 2 => .bool false | 3 => .bool false | 4 => .int .i64 rv | 5 => .int .i64 rv | 6 => .bool false | 7 => .bool false | 8 => .bool false | 9 => .agg #[.int .i64 sb, .slice Aa sl.length ca] | 10 => .agg #[.int .i64 sb, .slice Aw sl.length cw] | 11 => .bool true | 12 => .bool false | 13 => .bool false | 14 => .bool false | 15 => .slice Al sk.length cl | 16 => .slice Ai sk.length ci | 17 => .bool true | 18 => .bool false | 19 => .bool false | 20 => .bool false | 21 => .agg #[.int .i64 tb, .slice Ab tl.length cb] | 22 => .agg #[.int .i64 tb, .slice At tl.length ct] | 23 => .bool true | 24 => .bool false | 25 => .bool false | 26 => .bool false | 27 => .agg #[.int .i64 nb, .slice Am ls.length cm] | 28 => .agg #[.int .i64 nb, .slice A ls.length c] | 29 => .bool true | 30 => .bool false | 31 => .bool false | 32 => .bool false | 33 => .slice Ax out.length cx | 34 => .slice O out.length co | 35 => .bool true | 36 => .bool false | 37 => .bool false | 38 => .bool false | 39 => .agg #[.int .i64 nb, .slice Am ls.length cm] | 40 => .agg #[.int .i64 mb, .slice D ks.length cd] | 41 => .bool ne | 42 => .agg #[.int .i64 nb, .slice A ls.length c] | 43 => .agg #[.int .i64 mb, .slice D ks.length cd] | 44 => .bool ne | 45 => .bool false | 46 => .bool false | _ => undef) (by kernel_rfl) (by kernel_rfl) ?_ ?_
                  · intro i o ho a W hI hdep hrest hgd
                    have r2 : a.eval (.tmp 2) = .slice O out.length co := hrest 2 (apart_of (by kernel_rfl))
                    have r4 : a.eval (.tmp 4) = .pointer (some ⟨w.heap.size, 0, none⟩) := hrest 4 (apart_of (by kernel_rfl))
                    have r5 : a.eval (.tmp 5) = .pointer (some ⟨w.heap.size + 1, 0, none⟩) := hrest 5 (apart_of (by kernel_rfl))
                    have r9 : a.eval (.tmp 9) = .pointer (some ⟨Bm, 0, none⟩) := hrest 9 (apart_of (by kernel_rfl))
                    have r10 : a.eval (.tmp 10) = .slice Ax out.length cx := hrest 10 (apart_of (by kernel_rfl))
                    have r11 : a.eval (.tmp 11) = .int .i64 er := hrest 11 (apart_of (by kernel_rfl))
                    have r12 : a.eval (.tmp 12) = .int .i64 rv := hrest 12 (apart_of (by kernel_rfl))
                    have r13 : a.eval (.tmp 13) = .pointer (some ⟨Bw, 0, none⟩) := hrest 13 (apart_of (by kernel_rfl))
                    have r14 : a.eval (.tmp 14) = .pointer (some ⟨Bw + 1, 0, none⟩) := hrest 14 (apart_of (by kernel_rfl))
                    have r15 : a.eval (.tmp 15) = .slice Ai sk.length ci := hrest 15 (apart_of (by kernel_rfl))
                    have r17 : a.eval (.tmp 17) = .pointer (some ⟨Ba, 0, none⟩) := hrest 17 (apart_of (by kernel_rfl))
                    have r18 : a.eval (.tmp 18) = .slice Al sk.length cl := hrest 18 (apart_of (by kernel_rfl))
                    have r19 : a.eval (.tmp 19) = .int .i64 er := hrest 19 (apart_of (by kernel_rfl))
                    have r20 : a.eval (.tmp 20) = .pointer (some ⟨Bb, 0, none⟩) := hrest 20 (apart_of (by kernel_rfl))
                    have r21 : a.eval (.tmp 21) = .int .i64 rv := hrest 21 (apart_of (by kernel_rfl))
                    have hc : ∀ v, a.eval (.const v) = v := fun _ => rfl
                    have hfn : ∀ f, a.eval (.func f) = .func (.func f) #[] #[] := fun _ => rfl
                    clear hrest
                    rcases i with _ | _ | _ | _ | _ | _ | _ | _ | _ | _ | _ | _ | _ | _ | _ | _ | _ | _ | _ | _ | _ | _ | _ | _ | _ | _ | _ | _ | _ | _ | _ | _ | _ | _ | _ | _ | _ | _ | _ | _ | _ | _ | _ | _ | _ | _ | _ | i
                    · injection ho with ho
                      subst ho
                      clear hdep hgd
                      refine ⟨fun _ => .inl ?_, fun hw => (by simp [Region.wanted] at hw)⟩
                      clear hI
                      generalize a.eval = ρ at *
                      simp [go_sem, r19]
                    · injection ho with ho
                      subst ho
                      clear hdep hgd
                      refine ⟨fun _ => .inl ?_, fun hw => (by simp [Region.wanted] at hw)⟩
                      clear hI
                      generalize a.eval = ρ at *
                      simp [go_sem, r11]
                    · injection ho with ho
                      subst ho
                      have e0 : a.eval (.tmp 83) = .int .i64 er := hdep ⟨0, .data⟩ (by simp) rfl _ _ rfl rfl
                      have e1 : a.eval (.tmp 84) = .int .i64 er := hdep ⟨1, .data⟩ (by simp) rfl _ _ rfl rfl
                      clear hdep hgd
                      refine ⟨fun _ => .inl ?_, fun hw => (by simp [Region.wanted] at hw)⟩
                      clear hI
                      generalize a.eval = ρ at *
                      simp [go_sem, e0, e1]
                    · injection ho with ho
                      subst ho
                      have e2 : a.eval (.tmp 85) = .bool false := hdep ⟨2, .data⟩ (by simp) rfl _ _ rfl rfl
                      clear hdep hgd
                      refine ⟨fun _ => .inl ?_, fun hw => (by simp [Region.wanted] at hw)⟩
                      clear hI
                      generalize a.eval = ρ at *
                      simp [go_sem, e2]
                    · injection ho with ho
                      subst ho
                      have h8 : a.tmps.getD 86 undef = .bool false := hdep ⟨3, .guard⟩ (by simp) rfl _ _ rfl rfl
                      have hwd := hgd 3 false rfl _ _ rfl rfl false h8
                      clear hdep hgd
                      refine ⟨fun _ => .inl ?_, fun hw => (by rw [hwd] at hw; cases hw)⟩
                      clear h8 hwd
                      clear hI
                      generalize a.eval = ρ at *
                      simp [go_sem, r21]
                    · injection ho with ho
                      subst ho
                      have h8 : a.tmps.getD 86 undef = .bool false := hdep ⟨3, .guard⟩ (by simp) rfl _ _ rfl rfl
                      have hwd := hgd 3 false rfl _ _ rfl rfl false h8
                      clear hdep hgd
                      refine ⟨fun _ => .inl ?_, fun hw => (by rw [hwd] at hw; cases hw)⟩
                      clear h8 hwd
                      clear hI
                      generalize a.eval = ρ at *
                      simp [go_sem, r12]
                    · injection ho with ho
                      subst ho
                      have e4 : a.eval (.tmp 87) = .int .i64 rv := hdep ⟨4, .data⟩ (by simp) rfl _ _ rfl rfl
                      have e5 : a.eval (.tmp 88) = .int .i64 rv := hdep ⟨5, .data⟩ (by simp) rfl _ _ rfl rfl
                      have h8 : a.tmps.getD 86 undef = .bool false := hdep ⟨3, .guard⟩ (by simp) rfl _ _ rfl rfl
                      have hwd := hgd 3 false rfl _ _ rfl rfl false h8
                      clear hdep hgd
                      refine ⟨fun _ => .inl ?_, fun hw => (by rw [hwd] at hw; cases hw)⟩
                      clear h8 hwd
                      clear hI
                      generalize a.eval = ρ at *
                      simp [go_sem, e4, e5]
                    · injection ho with ho
                      subst ho
                      have e3 : a.eval (.tmp 86) = .bool false := hdep ⟨3, .data⟩ (by simp) rfl _ _ rfl rfl
                      have e6 : a.eval (.tmp 89) = .bool false := hdep ⟨6, .data⟩ (by simp) rfl _ _ rfl rfl
                      clear hdep hgd
                      refine ⟨fun _ => .inl ?_, fun hw => (by simp [Region.wanted] at hw)⟩
                      clear hI
                      generalize a.eval = ρ at *
                      simp [go_sem, e3, e6, hc]
                    · injection ho with ho
                      subst ho
                      have e7 : a.eval (.tmp 90) = .bool false := hdep ⟨7, .data⟩ (by simp) rfl _ _ rfl rfl
                      clear hdep hgd
                      refine ⟨fun _ => .inl ?_, fun hw => (by simp [Region.wanted] at hw)⟩
                      clear hI
                      generalize a.eval = ρ at *
                      simp [go_sem, e7]
                    · injection ho with ho
                      subst ho
                      have h8 : a.tmps.getD 91 undef = .bool false := hdep ⟨8, .guard⟩ (by simp) rfl _ _ rfl rfl
                      have hwd := hgd 8 false rfl _ _ rfl rfl false h8
                      clear hdep hgd
                      have x0 := (hI.cell (p := ⟨Ba, 0, none⟩) hza).trans a0
                      have x1 := (hI.cell (p := ⟨Ba, 1, none⟩) hza).trans a1
                      refine ⟨fun _ => .inl ?_, fun hw => (by rw [hwd] at hw; cases hw)⟩
                      clear h8 hwd
                      clear hI
                      generalize a.eval = ρ at *
                      simp [go_sem, r17, x0, x1]
                    · injection ho with ho
                      subst ho
                      have h8 : a.tmps.getD 91 undef = .bool false := hdep ⟨8, .guard⟩ (by simp) rfl _ _ rfl rfl
                      have hwd := hgd 8 false rfl _ _ rfl rfl false h8
                      clear hdep hgd
                      have hN := HN.out.upto hI
                      have x0 := hN.v0
                      have x1 := hN.v1
                      clear hN
                      refine ⟨fun _ => .inl ?_, fun hw => (by rw [hwd] at hw; cases hw)⟩
                      clear h8 hwd
                      clear hI
                      generalize a.eval = ρ at *
                      simp [go_sem, r13, x0, x1]
                    · injection ho with ho
                      subst ho
                      have e9 : a.eval (.tmp 92) = .agg #[.int .i64 sb, .slice Aa sl.length ca] := hdep ⟨9, .data⟩ (by simp) rfl _ _ rfl rfl
                      have e10 : a.eval (.tmp 93) = .agg #[.int .i64 sb, .slice Aw sl.length cw] := hdep ⟨10, .data⟩ (by simp) rfl _ _ rfl rfl
                      have h8 : a.tmps.getD 91 undef = .bool false := hdep ⟨8, .guard⟩ (by simp) rfl _ _ rfl rfl
                      have hwd := hgd 8 false rfl _ _ rfl rfl false h8
                      clear hdep hgd
                      refine ⟨fun _ => .inr ⟨26, #[.agg #[.int .i64 sb, .slice Aa sl.length ca], .agg #[.int .i64 sb, .slice Aw sl.length cw]], ?_, KW.out _ _ _ _ W (HIa.out.upto hI) (HN.out.upto hI).wl⟩, fun hw => (by rw [hwd] at hw; cases hw)⟩
                      clear h8 hwd
                      clear hI
                      generalize a.eval = ρ at *
                      simp [go_sem, e9, e10, hfn]
                    · injection ho with ho
                      subst ho
                      have e11 : a.eval (.tmp 94) = .bool true := hdep ⟨11, .data⟩ (by simp) rfl _ _ rfl rfl
                      have h8 : a.tmps.getD 91 undef = .bool false := hdep ⟨8, .guard⟩ (by simp) rfl _ _ rfl rfl
                      have hwd := hgd 8 false rfl _ _ rfl rfl false h8
                      clear hdep hgd
                      refine ⟨fun _ => .inl ?_, fun hw => (by rw [hwd] at hw; cases hw)⟩
                      clear h8 hwd
                      clear hI
                      generalize a.eval = ρ at *
                      simp [go_sem, e11]
                    · injection ho with ho
                      subst ho
                      have e8 : a.eval (.tmp 91) = .bool false := hdep ⟨8, .data⟩ (by simp) rfl _ _ rfl rfl
                      have e12 : a.eval (.tmp 95) = .bool false := hdep ⟨12, .data⟩ (by simp) rfl _ _ rfl rfl
                      clear hdep hgd
                      refine ⟨fun _ => .inl ?_, fun hw => (by simp [Region.wanted] at hw)⟩
                      clear hI
                      generalize a.eval = ρ at *
                      simp [go_sem, e8, e12, hc]
                    · injection ho with ho
                      subst ho
                      have e13 : a.eval (.tmp 96) = .bool false := hdep ⟨13, .data⟩ (by simp) rfl _ _ rfl rfl
                      clear hdep hgd
                      refine ⟨fun _ => .inl ?_, fun hw => (by simp [Region.wanted] at hw)⟩
                      clear hI
                      generalize a.eval = ρ at *
                      simp [go_sem, e13]
                    · injection ho with ho
                      subst ho
                      have h8 : a.tmps.getD 97 undef = .bool false := hdep ⟨14, .guard⟩ (by simp) rfl _ _ rfl rfl
                      have hwd := hgd 14 false rfl _ _ rfl rfl false h8
                      clear hdep hgd
                      refine ⟨fun _ => .inl ?_, fun hw => (by rw [hwd] at hw; cases hw)⟩
                      clear h8 hwd
                      clear hI
                      generalize a.eval = ρ at *
                      simp [go_sem, r18]
                    · injection ho with ho
                      subst ho
                      have h8 : a.tmps.getD 97 undef = .bool false := hdep ⟨14, .guard⟩ (by simp) rfl _ _ rfl rfl
                      have hwd := hgd 14 false rfl _ _ rfl rfl false h8
                      clear hdep hgd
                      refine ⟨fun _ => .inl ?_, fun hw => (by rw [hwd] at hw; cases hw)⟩
                      clear h8 hwd
                      clear hI
                      generalize a.eval = ρ at *
                      simp [go_sem, r15]
                    · injection ho with ho
                      subst ho
                      have e15 : a.eval (.tmp 98) = .slice Al sk.length cl := hdep ⟨15, .data⟩ (by simp) rfl _ _ rfl rfl
                      have e16 : a.eval (.tmp 99) = .slice Ai sk.length ci := hdep ⟨16, .data⟩ (by simp) rfl _ _ rfl rfl
                      have h8 : a.tmps.getD 97 undef = .bool false := hdep ⟨14, .guard⟩ (by simp) rfl _ _ rfl rfl
                      have hwd := hgd 14 false rfl _ _ rfl rfl false h8
                      clear hdep hgd
                      refine ⟨fun _ => .inr ⟨23, #[.slice Al sk.length cl, .slice Ai sk.length ci], ?_, KK.out _ _ _ _ W (HIl.out.upto hI) (HN.out.upto hI).wk⟩, fun hw => (by rw [hwd] at hw; cases hw)⟩
                      clear h8 hwd
                      clear hI
                      generalize a.eval = ρ at *
                      simp [go_sem, e15, e16, hfn]
                    · injection ho with ho
                      subst ho
                      have e17 : a.eval (.tmp 100) = .bool true := hdep ⟨17, .data⟩ (by simp) rfl _ _ rfl rfl
                      have h8 : a.tmps.getD 97 undef = .bool false := hdep ⟨14, .guard⟩ (by simp) rfl _ _ rfl rfl
                      have hwd := hgd 14 false rfl _ _ rfl rfl false h8
                      clear hdep hgd
                      refine ⟨fun _ => .inl ?_, fun hw => (by rw [hwd] at hw; cases hw)⟩
                      clear h8 hwd
                      clear hI
                      generalize a.eval = ρ at *
                      simp [go_sem, e17]
                    · injection ho with ho
                      subst ho
                      have e14 : a.eval (.tmp 97) = .bool false := hdep ⟨14, .data⟩ (by simp) rfl _ _ rfl rfl
                      have e18 : a.eval (.tmp 101) = .bool false := hdep ⟨18, .data⟩ (by simp) rfl _ _ rfl rfl
                      clear hdep hgd
                      refine ⟨fun _ => .inl ?_, fun hw => (by simp [Region.wanted] at hw)⟩
                      clear hI
                      generalize a.eval = ρ at *
                      simp [go_sem, e14, e18, hc]
                    · injection ho with ho
                      subst ho
                      have e19 : a.eval (.tmp 102) = .bool false := hdep ⟨19, .data⟩ (by simp) rfl _ _ rfl rfl
                      clear hdep hgd
                      refine ⟨fun _ => .inl ?_, fun hw => (by simp [Region.wanted] at hw)⟩
                      clear hI
                      generalize a.eval = ρ at *
                      simp [go_sem, e19]
                    · injection ho with ho
                      subst ho
                      have h8 : a.tmps.getD 103 undef = .bool false := hdep ⟨20, .guard⟩ (by simp) rfl _ _ rfl rfl
                      have hwd := hgd 20 false rfl _ _ rfl rfl false h8
                      clear hdep hgd
                      have x0 := (hI.cell (p := ⟨Bb, 0, none⟩) hzb).trans b0
                      have x1 := (hI.cell (p := ⟨Bb, 1, none⟩) hzb).trans b1
                      refine ⟨fun _ => .inl ?_, fun hw => (by rw [hwd] at hw; cases hw)⟩
                      clear h8 hwd
                      clear hI
                      generalize a.eval = ρ at *
                      simp [go_sem, r20, x0, x1]
                    · injection ho with ho
                      subst ho
                      have h8 : a.tmps.getD 103 undef = .bool false := hdep ⟨20, .guard⟩ (by simp) rfl _ _ rfl rfl
                      have hwd := hgd 20 false rfl _ _ rfl rfl false h8
                      clear hdep hgd
                      have hN := HN.out.upto hI
                      have x0 := hN.t0
                      have x1 := hN.t1
                      clear hN
                      refine ⟨fun _ => .inl ?_, fun hw => (by rw [hwd] at hw; cases hw)⟩
                      clear h8 hwd
                      clear hI
                      generalize a.eval = ρ at *
                      simp [go_sem, r14, x0, x1]
                    · injection ho with ho
                      subst ho
                      have e21 : a.eval (.tmp 104) = .agg #[.int .i64 tb, .slice Ab tl.length cb] := hdep ⟨21, .data⟩ (by simp) rfl _ _ rfl rfl
                      have e22 : a.eval (.tmp 105) = .agg #[.int .i64 tb, .slice At tl.length ct] := hdep ⟨22, .data⟩ (by simp) rfl _ _ rfl rfl
                      have h8 : a.tmps.getD 103 undef = .bool false := hdep ⟨20, .guard⟩ (by simp) rfl _ _ rfl rfl
                      have hwd := hgd 20 false rfl _ _ rfl rfl false h8
                      clear hdep hgd
                      refine ⟨fun _ => .inr ⟨26, #[.agg #[.int .i64 tb, .slice Ab tl.length cb], .agg #[.int .i64 tb, .slice At tl.length ct]], ?_, KT.out _ _ _ _ W (HIb.out.upto hI) (HN.out.upto hI).tln⟩, fun hw => (by rw [hwd] at hw; cases hw)⟩
                      clear h8 hwd
                      clear hI
                      generalize a.eval = ρ at *
                      simp [go_sem, e21, e22, hfn]
                    · injection ho with ho
                      subst ho
                      have e23 : a.eval (.tmp 106) = .bool true := hdep ⟨23, .data⟩ (by simp) rfl _ _ rfl rfl
                      have h8 : a.tmps.getD 103 undef = .bool false := hdep ⟨20, .guard⟩ (by simp) rfl _ _ rfl rfl
                      have hwd := hgd 20 false rfl _ _ rfl rfl false h8
                      clear hdep hgd
                      refine ⟨fun _ => .inl ?_, fun hw => (by rw [hwd] at hw; cases hw)⟩
                      clear h8 hwd
                      clear hI
                      generalize a.eval = ρ at *
                      simp [go_sem, e23]
                    · injection ho with ho
                      subst ho
                      have e20 : a.eval (.tmp 103) = .bool false := hdep ⟨20, .data⟩ (by simp) rfl _ _ rfl rfl
                      have e24 : a.eval (.tmp 107) = .bool false := hdep ⟨24, .data⟩ (by simp) rfl _ _ rfl rfl
                      clear hdep hgd
                      refine ⟨fun _ => .inl ?_, fun hw => (by simp [Region.wanted] at hw)⟩
                      clear hI
                      generalize a.eval = ρ at *
                      simp [go_sem, e20, e24, hc]
                    · injection ho with ho
                      subst ho
                      have e25 : a.eval (.tmp 108) = .bool false := hdep ⟨25, .data⟩ (by simp) rfl _ _ rfl rfl
                      clear hdep hgd
                      refine ⟨fun _ => .inl ?_, fun hw => (by simp [Region.wanted] at hw)⟩
                      clear hI
                      generalize a.eval = ρ at *
                      simp [go_sem, e25]
                    · injection ho with ho
                      subst ho
                      have h8 : a.tmps.getD 109 undef = .bool false := hdep ⟨26, .guard⟩ (by simp) rfl _ _ rfl rfl
                      have hwd := hgd 26 false rfl _ _ rfl rfl false h8
                      clear hdep hgd
                      have hN := HN.out.upto hI
                      have x0 := hN.m0
                      have x1 := hN.m1
                      clear hN
                      refine ⟨fun _ => .inl ?_, fun hw => (by rw [hwd] at hw; cases hw)⟩
                      clear h8 hwd
                      clear hI
                      generalize a.eval = ρ at *
                      simp [go_sem, r9, x0, x1]
                    · injection ho with ho
                      subst ho
                      have h8 : a.tmps.getD 109 undef = .bool false := hdep ⟨26, .guard⟩ (by simp) rfl _ _ rfl rfl
                      have hwd := hgd 26 false rfl _ _ rfl rfl false h8
                      clear hdep hgd
                      have hN := HN.out.upto hI
                      have x0 := hN.q0
                      have x1 := hN.q1
                      clear hN
                      refine ⟨fun _ => .inl ?_, fun hw => (by rw [hwd] at hw; cases hw)⟩
                      clear h8 hwd
                      clear hI
                      generalize a.eval = ρ at *
                      simp [go_sem, r4, x0, x1]
                    · injection ho with ho
                      subst ho
                      have e27 : a.eval (.tmp 110) = .agg #[.int .i64 nb, .slice Am ls.length cm] := hdep ⟨27, .data⟩ (by simp) rfl _ _ rfl rfl
                      have e28 : a.eval (.tmp 111) = .agg #[.int .i64 nb, .slice A ls.length c] := hdep ⟨28, .data⟩ (by simp) rfl _ _ rfl rfl
                      have h8 : a.tmps.getD 109 undef = .bool false := hdep ⟨26, .guard⟩ (by simp) rfl _ _ rfl rfl
                      have hwd := hgd 26 false rfl _ _ rfl rfl false h8
                      clear hdep hgd
                      refine ⟨fun _ => .inr ⟨26, #[.agg #[.int .i64 nb, .slice Am ls.length cm], .agg #[.int .i64 nb, .slice A ls.length c]], ?_, KN.out _ _ _ _ W (HN.out.upto hI).own (HN.out.upto hI).lines⟩, fun hw => (by rw [hwd] at hw; cases hw)⟩
                      clear h8 hwd
                      clear hI
                      generalize a.eval = ρ at *
                      simp [go_sem, e27, e28, hfn]
                    · injection ho with ho
                      subst ho
                      have e29 : a.eval (.tmp 112) = .bool true := hdep ⟨29, .data⟩ (by simp) rfl _ _ rfl rfl
                      have h8 : a.tmps.getD 109 undef = .bool false := hdep ⟨26, .guard⟩ (by simp) rfl _ _ rfl rfl
                      have hwd := hgd 26 false rfl _ _ rfl rfl false h8
                      clear hdep hgd
                      refine ⟨fun _ => .inl ?_, fun hw => (by rw [hwd] at hw; cases hw)⟩
                      clear h8 hwd
                      clear hI
                      generalize a.eval = ρ at *
                      simp [go_sem, e29]
                    · injection ho with ho
                      subst ho
                      have e26 : a.eval (.tmp 109) = .bool false := hdep ⟨26, .data⟩ (by simp) rfl _ _ rfl rfl
                      have e30 : a.eval (.tmp 113) = .bool false := hdep ⟨30, .data⟩ (by simp) rfl _ _ rfl rfl
                      clear hdep hgd
                      refine ⟨fun _ => .inl ?_, fun hw => (by simp [Region.wanted] at hw)⟩
                      clear hI
                      generalize a.eval = ρ at *
                      simp [go_sem, e26, e30, hc]
                    · injection ho with ho
                      subst ho
                      have e31 : a.eval (.tmp 114) = .bool false := hdep ⟨31, .data⟩ (by simp) rfl _ _ rfl rfl
                      clear hdep hgd
                      refine ⟨fun _ => .inl ?_, fun hw => (by simp [Region.wanted] at hw)⟩
                      clear hI
                      generalize a.eval = ρ at *
                      simp [go_sem, e31]
                    · injection ho with ho
                      subst ho
                      have h8 : a.tmps.getD 115 undef = .bool false := hdep ⟨32, .guard⟩ (by simp) rfl _ _ rfl rfl
                      have hwd := hgd 32 false rfl _ _ rfl rfl false h8
                      clear hdep hgd
                      refine ⟨fun _ => .inl ?_, fun hw => (by rw [hwd] at hw; cases hw)⟩
                      clear h8 hwd
                      clear hI
                      generalize a.eval = ρ at *
                      simp [go_sem, r10]
                    · injection ho with ho
                      subst ho
                      have h8 : a.tmps.getD 115 undef = .bool false := hdep ⟨32, .guard⟩ (by simp) rfl _ _ rfl rfl
                      have hwd := hgd 32 false rfl _ _ rfl rfl false h8
                      clear hdep hgd
                      refine ⟨fun _ => .inl ?_, fun hw => (by rw [hwd] at hw; cases hw)⟩
                      clear h8 hwd
                      clear hI
                      generalize a.eval = ρ at *
                      simp [go_sem, r2]
                    · injection ho with ho
                      subst ho
                      have e33 : a.eval (.tmp 116) = .slice Ax out.length cx := hdep ⟨33, .data⟩ (by simp) rfl _ _ rfl rfl
                      have e34 : a.eval (.tmp 117) = .slice O out.length co := hdep ⟨34, .data⟩ (by simp) rfl _ _ rfl rfl
                      have h8 : a.tmps.getD 115 undef = .bool false := hdep ⟨32, .guard⟩ (by simp) rfl _ _ rfl rfl
                      have hwd := hgd 32 false rfl _ _ rfl rfl false h8
                      clear hdep hgd
                      refine ⟨fun _ => .inr ⟨23, #[.slice Ax out.length cx, .slice O out.length co], ?_, KIO.out _ _ _ _ W (HN.out.upto hI).outs (HN.out.upto hI).outO⟩, fun hw => (by rw [hwd] at hw; cases hw)⟩
                      clear h8 hwd
                      clear hI
                      generalize a.eval = ρ at *
                      simp [go_sem, e33, e34, hfn]
                    · injection ho with ho
                      subst ho
                      have e35 : a.eval (.tmp 118) = .bool true := hdep ⟨35, .data⟩ (by simp) rfl _ _ rfl rfl
                      have h8 : a.tmps.getD 115 undef = .bool false := hdep ⟨32, .guard⟩ (by simp) rfl _ _ rfl rfl
                      have hwd := hgd 32 false rfl _ _ rfl rfl false h8
                      clear hdep hgd
                      refine ⟨fun _ => .inl ?_, fun hw => (by rw [hwd] at hw; cases hw)⟩
                      clear h8 hwd
                      clear hI
                      generalize a.eval = ρ at *
                      simp [go_sem, e35]
                    · injection ho with ho
                      subst ho
                      have e32 : a.eval (.tmp 115) = .bool false := hdep ⟨32, .data⟩ (by simp) rfl _ _ rfl rfl
                      have e36 : a.eval (.tmp 119) = .bool false := hdep ⟨36, .data⟩ (by simp) rfl _ _ rfl rfl
                      clear hdep hgd
                      refine ⟨fun _ => .inl ?_, fun hw => (by simp [Region.wanted] at hw)⟩
                      clear hI
                      generalize a.eval = ρ at *
                      simp [go_sem, e32, e36, hc]
                    · injection ho with ho
                      subst ho
                      have e37 : a.eval (.tmp 120) = .bool false := hdep ⟨37, .data⟩ (by simp) rfl _ _ rfl rfl
                      clear hdep hgd
                      refine ⟨fun _ => .inl ?_, fun hw => (by simp [Region.wanted] at hw)⟩
                      clear hI
                      generalize a.eval = ρ at *
                      simp [go_sem, e37]
                    · injection ho with ho
                      subst ho
                      have h8 : a.tmps.getD 121 undef = .bool false := hdep ⟨38, .guard⟩ (by simp) rfl _ _ rfl rfl
                      have hwd := hgd 38 false rfl _ _ rfl rfl false h8
                      clear hdep hgd
                      have hN := HN.out.upto hI
                      have x0 := hN.m0
                      have x1 := hN.m1
                      clear hN
                      refine ⟨fun _ => .inl ?_, fun hw => (by rw [hwd] at hw; cases hw)⟩
                      clear h8 hwd
                      clear hI
                      generalize a.eval = ρ at *
                      simp [go_sem, r9, x0, x1]
                    · injection ho with ho
                      subst ho
                      have h8 : a.tmps.getD 121 undef = .bool false := hdep ⟨38, .guard⟩ (by simp) rfl _ _ rfl rfl
                      have hwd := hgd 38 false rfl _ _ rfl rfl false h8
                      clear hdep hgd
                      have hN := HN.out.upto hI
                      have x0 := hN.p0
                      have x1 := hN.p1
                      clear hN
                      refine ⟨fun _ => .inl ?_, fun hw => (by rw [hwd] at hw; cases hw)⟩
                      clear h8 hwd
                      clear hI
                      generalize a.eval = ρ at *
                      simp [go_sem, r5, x0, x1]
                    · injection ho with ho
                      subst ho
                      have e39 : a.eval (.tmp 122) = .agg #[.int .i64 nb, .slice Am ls.length cm] := hdep ⟨39, .data⟩ (by simp) rfl _ _ rfl rfl
                      have e40 : a.eval (.tmp 123) = .agg #[.int .i64 mb, .slice D ks.length cd] := hdep ⟨40, .data⟩ (by simp) rfl _ _ rfl rfl
                      have h8 : a.tmps.getD 121 undef = .bool false := hdep ⟨38, .guard⟩ (by simp) rfl _ _ rfl rfl
                      have hwd := hgd 38 false rfl _ _ rfl rfl false h8
                      clear hdep hgd
                      refine ⟨fun _ => .inr ⟨32, #[.agg #[.int .i64 nb, .slice Am ls.length cm], .agg #[.int .i64 mb, .slice D ks.length cd]], ?_, KE.out _ _ _ _ W (HN.out.upto hI).own (HN.out.upto hI).other⟩, fun hw => (by rw [hwd] at hw; cases hw)⟩
                      clear h8 hwd
                      clear hI
                      generalize a.eval = ρ at *
                      simp [go_sem, e39, e40, hfn]
                    · injection ho with ho
                      subst ho
                      have h8 : a.tmps.getD 121 undef = .bool false := hdep ⟨38, .guard⟩ (by simp) rfl _ _ rfl rfl
                      have hwd := hgd 38 false rfl _ _ rfl rfl false h8
                      clear hdep hgd
                      have hN := HN.out.upto hI
                      have x0 := hN.q0
                      have x1 := hN.q1
                      clear hN
                      refine ⟨fun _ => .inl ?_, fun hw => (by rw [hwd] at hw; cases hw)⟩
                      clear h8 hwd
                      clear hI
                      generalize a.eval = ρ at *
                      simp [go_sem, r4, x0, x1]
                    · injection ho with ho
                      subst ho
                      have h8 : a.tmps.getD 121 undef = .bool false := hdep ⟨38, .guard⟩ (by simp) rfl _ _ rfl rfl
                      have hwd := hgd 38 false rfl _ _ rfl rfl false h8
                      clear hdep hgd
                      have hN := HN.out.upto hI
                      have x0 := hN.p0
                      have x1 := hN.p1
                      clear hN
                      refine ⟨fun _ => .inl ?_, fun hw => (by rw [hwd] at hw; cases hw)⟩
                      clear h8 hwd
                      clear hI
                      generalize a.eval = ρ at *
                      simp [go_sem, r5, x0, x1]
                    · injection ho with ho
                      subst ho
                      have e42 : a.eval (.tmp 125) = .agg #[.int .i64 nb, .slice A ls.length c] := hdep ⟨42, .data⟩ (by simp) rfl _ _ rfl rfl
                      have e43 : a.eval (.tmp 126) = .agg #[.int .i64 mb, .slice D ks.length cd] := hdep ⟨43, .data⟩ (by simp) rfl _ _ rfl rfl
                      have h8 : a.tmps.getD 121 undef = .bool false := hdep ⟨38, .guard⟩ (by simp) rfl _ _ rfl rfl
                      have hwd := hgd 38 false rfl _ _ rfl rfl false h8
                      clear hdep hgd
                      refine ⟨fun _ => .inr ⟨26, #[.agg #[.int .i64 nb, .slice A ls.length c], .agg #[.int .i64 mb, .slice D ks.length cd]], ?_, KF.out _ _ _ _ W (HN.out.upto hI).lines (HN.out.upto hI).other⟩, fun hw => (by rw [hwd] at hw; cases hw)⟩
                      clear h8 hwd
                      clear hI
                      generalize a.eval = ρ at *
                      simp [go_sem, e42, e43, hfn]
                    · injection ho with ho
                      subst ho
                      have e41 : a.eval (.tmp 124) = .bool ne := hdep ⟨41, .data⟩ (by simp) rfl _ _ rfl rfl
                      have e44 : a.eval (.tmp 127) = .bool ne := hdep ⟨44, .data⟩ (by simp) rfl _ _ rfl rfl
                      have h8 : a.tmps.getD 121 undef = .bool false := hdep ⟨38, .guard⟩ (by simp) rfl _ _ rfl rfl
                      have hwd := hgd 38 false rfl _ _ rfl rfl false h8
                      clear hdep hgd
                      refine ⟨fun _ => .inl ?_, fun hw => (by rw [hwd] at hw; cases hw)⟩
                      clear h8 hwd
                      clear hI
                      generalize a.eval = ρ at *
                      simp [go_sem, e41, e44]
                    · injection ho with ho
                      subst ho
                      have e38 : a.eval (.tmp 121) = .bool false := hdep ⟨38, .data⟩ (by simp) rfl _ _ rfl rfl
                      have e45 : a.eval (.tmp 128) = .bool false := hdep ⟨45, .data⟩ (by simp) rfl _ _ rfl rfl
                      clear hdep hgd
                      refine ⟨fun _ => .inl ?_, fun hw => (by simp [Region.wanted] at hw)⟩
                      clear hI
                      generalize a.eval = ρ at *
                      simp [go_sem, e38, e45, hc]
                    · simp at ho
                  · intro w64 hb
                    simp only [putAll, Act.put, List.setIfInBounds_toArray, List.set_cons_zero, List.set_cons_succ, Nat.reduceAdd]
                    have HB64 := Lib.hid (HB63.out.trans (hb.mono HB63.out.size))
                    clear HB63
                    replace HN := Lib.hid (HN.out.upto hb)
                    replace HIa := Lib.hid (HIa.out.upto hb)
                    replace HIl := Lib.hid (HIl.out.upto hb)
                    replace HSa := Lib.hid (HSa.out.upto hb)
                    replace HSl := Lib.hid (HSl.out.upto hb)
                    replace HIb := Lib.hid (HIb.out.upto hb)
                    replace HSb := Lib.hid (HSb.out.upto hb)
                    replace a0 := (hb.cell (p := ⟨Ba, 0, none⟩) hza).trans a0
                    replace a1 := (hb.cell (p := ⟨Ba, 1, none⟩) hza).trans a1
                    replace b0 := (hb.cell (p := ⟨Bb, 0, none⟩) hzb).trans b0
                    replace b1 := (hb.cell (p := ⟨Bb, 1, none⟩) hzb).trans b1
                    replace hza : Ba < w64.heap.size := Nat.lt_of_lt_of_le hza hb.size
                    replace hzb : Bb < w64.heap.size := Nat.lt_of_lt_of_le hzb hb.size
                    clear hb
                    go_wp2_with fail
                    have hs2 := HSl.out
                    rw [Nat.mul_one] at hs2
                    refine (spoil_net wr.heap.size sb Aa sl.length ca Al sk.length cl 25 w64 HSa.out hs2 HB64.out.size (by omega) (by omega)).mono ?_
                    rintro e wS ⟨⟨vS, rfl⟩, hb, hst, hsame⟩
                    have hblk := hsame Bb hzb HNR.out
                    have y0 : wS.cell? ⟨Bb, 0, none⟩ = some (.int .i64 tb) := (World.cell?_of_block hblk).trans b0
                    have y1 : wS.cell? ⟨Bb, 1, none⟩ = some (.slice Ab tl.length cb) := (World.cell?_of_block hblk).trans b1
                    have HSB := Lib.hid (HSb.out.stay hst hb.size)
                    have HBT := Lib.hid (HB64.out.trans hb)
                    clear hb hs2 hst hsame hblk a0 a1 b0 b1
                    go_wp2_with fail
                    refine (spoil_lines wr.heap.size tb Ab tl.length cb wS HSB.out HBT.out.size (by omega)).mono ?_
                    rintro e wU ⟨⟨vU, rfl⟩, hb⟩
                    have HBU := Lib.hid (HBT.out.trans hb)
                    clear hb y0 y1
                    go_wp2_with fail
                    go_roundg g
                    case measure => omega
                    case rel => exact ⟨k + 1, by have := HG.out; omega, by go_num, HN0.out.upto HBU.out, HBW.out.trans (HBU.out.mono HBW.out.size)⟩
end Go.Proofs.Ytcacaiakkfgdpaa
