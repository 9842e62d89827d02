/- The walk of NetReverse. -/
import Derived.Test.YtcacaiakkfgdpaaAwkN
import Derived.Test.YtcacaiakkfgdpaaRvnP
import Derived.Deep.DeepCutAuto
namespace Go.Proofs.Ytcacaiakkfgdpaa
open Go.RowKit
set_option linter.unusedVariables false

theorem svcL_le' (out : List Int) (m : Nat) : (svcL out m).length ≤ m := svcL_le out m
theorem atL_le (nb : Int) (ls : List Ln) (out : List Int) (bus : Int) : (atL nb ls out bus).length ≤ ls.length := by
  unfold atL
  split
  · exact Nat.le_trans (atF_le _ _ _) (svcL_le _ _)
  · simp

set_option maxRecDepth 100000 in
set_option maxHeartbeats 8000000 in
theorem rvn_walk (nb : Int) (A : Option Addr) (c : Nat) (ls : List Ln) (O : Option Addr) (co : Nat) (out : List Int) (x bus : Int) (w : World) (hl : LinesR w w.heap.size A ls) (ho : IntsR w w.heap.size O out)
    (_ : -9223372036854775808 ≤ x) (_ : x ≤ 9223372036854775807) (_ : -9223372036854775808 ≤ bus) (_ : bus ≤ 9223372036854775807) :
    Calls Try.prog 10 #[.agg #[.int .i64 nb, .slice A ls.length c], .slice O out.length co, .int .i64 x, .int .i64 bus] w fun e w' => e = .returned (.bool true) ∧ Below w.heap.size w w' := by
  have HL := Lib.hid hl
  have HO := Lib.hid ho
  clear hl ho
  have kl := fun W b hb => long_lit1 (.int .i64 nb) A ls.length c 25 W b hb O out.length co
  cases hlong : longB [out.length] ls.length with
  | true =>
    rw [hlong] at kl
    have KL := Lib.hid kl
    clear kl hlong
    have HB0 := Lib.hid (Below.refl w.heap.size w)
    go_enter Try.func10, Try.ntmps10
    go_wp2_with fail
    have hb := below_alloc2 w (.cells #[.int .i64 nb, .slice A ls.length c] 24) (.cells #[.slice O out.length co] 25)
    have q0 : ((w.alloc (.cells #[.int .i64 nb, .slice A ls.length c] 24)).alloc (.cells #[.slice O out.length co] 25)).cell? ⟨w.heap.size, 0, none⟩ = some (.int .i64 nb) := by simp
    have q1 : ((w.alloc (.cells #[.int .i64 nb, .slice A ls.length c] 24)).alloc (.cells #[.slice O out.length co] 25)).cell? ⟨w.heap.size, 1, none⟩ = some (.slice A ls.length c) := by simp
    have hz : w.heap.size < ((w.alloc (.cells #[.int .i64 nb, .slice A ls.length c] 24)).alloc (.cells #[.slice O out.length co] 25)).heap.size := by simp; omega
    have HB1 := Lib.hid (HB0.out.trans (hb.mono HB0.out.size))
    clear HB0
    replace HL := Lib.hid (HL.out.upto hb)
    replace HO := Lib.hid (HO.out.upto hb)
    clear hb
    refine (KL.out (w.alloc (.cells #[.int .i64 nb, .slice A ls.length c] 24)) _ (by simp)).mono ?_
    rintro e w2 ⟨rfl, hb⟩
    rw [← World.size_alloc (w.alloc (.cells #[.int .i64 nb, .slice A ls.length c] 24)) (.cells #[.slice O out.length co] 25)] at hb
    have HB2 := Lib.hid (HB1.out.trans (hb.mono HB1.out.size))
    clear HB1
    replace HL := Lib.hid (HL.out.upto hb)
    replace HO := Lib.hid (HO.out.upto hb)
    replace q0 := (hb.cell (p := ⟨w.heap.size, 0, none⟩) hz).trans q0
    replace q1 := (hb.cell (p := ⟨w.heap.size, 1, none⟩) hz).trans q1
    replace hz : w.heap.size < w2.heap.size := Nat.lt_of_lt_of_le hz hb.size
    clear hb
    go_wp2_with fail
    refine (awake14_any _).mono ?_
    rintro e w3 ⟨rfl, hb⟩
    have HB3 := Lib.hid (HB2.out.trans (hb.mono HB2.out.size))
    clear HB2
    replace HL := Lib.hid (HL.out.upto hb)
    replace HO := Lib.hid (HO.out.upto hb)
    replace q0 := (hb.cell (p := ⟨w.heap.size, 0, none⟩) hz).trans q0
    replace q1 := (hb.cell (p := ⟨w.heap.size, 1, none⟩) hz).trans q1
    replace hz : w.heap.size < w3.heap.size := Nat.lt_of_lt_of_le hz hb.size
    clear hb
    go_wp2_with fail
    go_ret
    exact ⟨rfl, HB3.out⟩
  | false =>
    rw [hlong] at kl
    have hb100 := longB_false hlong
    have h1 : out.length ≤ 100 := hb100.1 _ (by simp)
    have h2 : ls.length ≤ 100 := hb100.2
    have KL := Lib.hid kl
    clear kl hlong hb100
    have kr := fun W hl => rev_any nb A c ls x W hl (by omega)
    have kc := fun W hl => check_any nb A c ls W hl
    by_cases he : revE nb ls x = 0
    · rw [revNb, revL, if_pos he, if_pos he, he] at kr
      have hxr : 0 ≤ x ∧ x < ls.length := by
        unfold revE at he
        split at he
        · split at he <;> omega
        · omega
      have hck : checkE nb ls = 0 := by
        unfold revE at he
        split at he
        · assumption
        · omega
      obtain ⟨k, rfl⟩ := Int.eq_ofNat_of_zero_le hxr.1
      have hk : k < ls.length := by omega
      rw [Int.toNat_natCast] at kr
      rw [hck] at kc
      have hsl := swapAt_length ls k
      have ks := fun X cx W hl => rev_any nb X cx (swapAt ls k) (k : Int) W hl (by omega)
      have hs : revE nb (swapAt ls k) (k : Int) = 0 := by rw [revE, if_pos (swap_check hk hck), if_neg (by omega)]
      rw [revNb, revL, if_pos hs, if_pos hs, hs, Int.toNat_natCast, swap_swap hk] at ks
      have ka := fun W hl ho => at_any nb A O c co ls out bus W hl ho (by omega) (by omega)
      have kb := fun X cx W hl ho => at_any nb X O cx co (swapAt ls k) out bus W hl ho (by omega) (by omega)
      rw [(swap_at hk hck).1, (swap_at hk hck).2] at kb
      have kd := fun X cx W hl => check_any nb X cx (swapAt ls k) W hl
      rw [swap_check hk hck] at kd
      have ke := fun X cx W hx hy => equal_any nb nb X A cx c ls ls W hx hy (by omega) (by omega)
      have kf := fun X cx W hx hy => equal_any nb nb X A cx c (swapAt ls k) ls W hx hy (by omega) (by omega)
      rw [netEq_self] at ke
      rw [show netEq nb nb (swapAt ls k) ls = false by rw [netEq, decide_eq_false (swap_ne hk hck), Bool.and_false]] at kf
      have hal := atL_le nb ls out bus
      rw [hsl] at ks kb kd kf
      generalize atL nb ls out bus = al at *
      generalize atE nb ls out bus = ae at *
      have b1 : (ae == ae) = true := by simp
      have b2 : ((ls.length : Int) != (ls.length : Int)) = false := by simp
      have KR := Lib.hid kr
      have KS := Lib.hid ks
      have KA := Lib.hid ka
      have KB := Lib.hid kb
      have KC := Lib.hid kc
      have KD := Lib.hid kd
      have KE := Lib.hid ke
      have KF := Lib.hid kf
      clear kr ks ka kb kc kd ke kf hs hck he hxr hsl
      have HB0 := Lib.hid (Below.refl w.heap.size w)
      go_enter Try.func10, Try.ntmps10
      go_wp2_with fail
      have hb := below_alloc2 w (.cells #[.int .i64 nb, .slice A ls.length c] 24) (.cells #[.slice O out.length co] 25)
      have q0 : ((w.alloc (.cells #[.int .i64 nb, .slice A ls.length c] 24)).alloc (.cells #[.slice O out.length co] 25)).cell? ⟨w.heap.size, 0, none⟩ = some (.int .i64 nb) := by simp
      have q1 : ((w.alloc (.cells #[.int .i64 nb, .slice A ls.length c] 24)).alloc (.cells #[.slice O out.length co] 25)).cell? ⟨w.heap.size, 1, none⟩ = some (.slice A ls.length c) := by simp
      have hz : w.heap.size < ((w.alloc (.cells #[.int .i64 nb, .slice A ls.length c] 24)).alloc (.cells #[.slice O out.length co] 25)).heap.size := by simp; omega
      have HB1 := Lib.hid (HB0.out.trans (hb.mono HB0.out.size))
      clear HB0
      replace HL := Lib.hid (HL.out.upto hb)
      replace HO := Lib.hid (HO.out.upto hb)
      clear hb
      refine (KL.out (w.alloc (.cells #[.int .i64 nb, .slice A ls.length c] 24)) _ (by simp)).mono ?_
      rintro e w2 ⟨rfl, hb⟩
      rw [← World.size_alloc (w.alloc (.cells #[.int .i64 nb, .slice A ls.length c] 24)) (.cells #[.slice O out.length co] 25)] at hb
      have HB2 := Lib.hid (HB1.out.trans (hb.mono HB1.out.size))
      clear HB1
      replace HL := Lib.hid (HL.out.upto hb)
      replace HO := Lib.hid (HO.out.upto hb)
      replace q0 := (hb.cell (p := ⟨w.heap.size, 0, none⟩) hz).trans q0
      replace q1 := (hb.cell (p := ⟨w.heap.size, 1, none⟩) hz).trans q1
      replace hz : w.heap.size < w2.heap.size := Nat.lt_of_lt_of_le hz hb.size
      clear hb
      go_wp2_with fail
      refine (awake14_any _).mono ?_
      rintro e w3 ⟨rfl, hb⟩
      have HB3 := Lib.hid (HB2.out.trans (hb.mono HB2.out.size))
      clear HB2
      replace HL := Lib.hid (HL.out.upto hb)
      replace HO := Lib.hid (HO.out.upto hb)
      replace q0 := (hb.cell (p := ⟨w.heap.size, 0, none⟩) hz).trans q0
      replace q1 := (hb.cell (p := ⟨w.heap.size, 1, none⟩) hz).trans q1
      replace hz : w.heap.size < w3.heap.size := Nat.lt_of_lt_of_le hz hb.size
      clear hb
      go_wp2_with fail
      refine (KR.out _ HL.out).mono ?_
      rintro e w4 ⟨Am, cm, rfl, hown, hb⟩
      obtain ⟨Am2, cm2, he2, hI⟩ := ownsRow_linesR hown
      simp only [Value.slice.injEq] at he2
      obtain ⟨rfl, _, rfl⟩ := he2
      have HIm := Lib.hid hI
      clear hown hI
      have HB4 := Lib.hid (HB3.out.trans (hb.mono HB3.out.size))
      clear HB3
      replace HL := Lib.hid (HL.out.upto hb)
      replace HO := Lib.hid (HO.out.upto hb)
      replace q0 := (hb.cell (p := ⟨w.heap.size, 0, none⟩) hz).trans q0
      replace q1 := (hb.cell (p := ⟨w.heap.size, 1, none⟩) hz).trans q1
      replace hz : w.heap.size < w4.heap.size := Nat.lt_of_lt_of_le hz hb.size
      clear hb
      rw [swapAt_length]
      go_upto_region 4 with fail
      have hb : Below w4.heap.size w4 (w4.alloc (.cells #[.int .i64 nb, .slice Am ls.length cm] 24)) := (Below.refl _ _).alloc (Nat.le_refl _) _
      have bm0 : (w4.alloc (.cells #[.int .i64 nb, .slice Am ls.length cm] 24)).cell? ⟨w4.heap.size, 0, none⟩ = some (.int .i64 nb) := cell_alloc_at _ _ _ _ _ rfl
      have bm1 : (w4.alloc (.cells #[.int .i64 nb, .slice Am ls.length cm] 24)).cell? ⟨w4.heap.size, 1, none⟩ = some (.slice Am ls.length cm) := cell_alloc_at _ _ _ _ _ rfl
      have hzm : w4.heap.size < (w4.alloc (.cells #[.int .i64 nb, .slice Am ls.length cm] 24)).heap.size := by simp
      generalize hX : w4.alloc (.cells #[.int .i64 nb, .slice Am ls.length cm] 24) = w5 at *
      clear hX
      have HB5 := Lib.hid (HB4.out.trans (hb.mono HB4.out.size))
      clear HB4
      replace HL := Lib.hid (HL.out.upto hb)
      replace HO := Lib.hid (HO.out.upto hb)
      replace HIm := Lib.hid (HIm.out.upto hb)
      replace q0 := (hb.cell (p := ⟨w.heap.size, 0, none⟩) hz).trans q0
      replace q1 := (hb.cell (p := ⟨w.heap.size, 1, none⟩) hz).trans q1
      replace hz : w.heap.size < w5.heap.size := Nat.lt_of_lt_of_le hz hb.size
      clear hb
      generalize w4.heap.size = Bm at *
      go_wp2_with fail
      refine (KS.out _ _ _ HIm.out).mono ?_
      rintro e w6 ⟨Ak, ck, rfl, hown, hb⟩
      obtain ⟨Ak2, ck2, he2, hI⟩ := ownsRow_linesR hown
      simp only [Value.slice.injEq] at he2
      obtain ⟨rfl, _, rfl⟩ := he2
      have HIk := Lib.hid hI
      clear hown hI
      have HB6 := Lib.hid (HB5.out.trans (hb.mono HB5.out.size))
      clear HB5
      replace HL := Lib.hid (HL.out.upto hb)
      replace HO := Lib.hid (HO.out.upto hb)
      replace HIm := Lib.hid (HIm.out.upto hb)
      replace q0 := (hb.cell (p := ⟨w.heap.size, 0, none⟩) hz).trans q0
      replace q1 := (hb.cell (p := ⟨w.heap.size, 1, none⟩) hz).trans q1
      replace bm0 := (hb.cell (p := ⟨Bm, 0, none⟩) hzm).trans bm0
      replace bm1 := (hb.cell (p := ⟨Bm, 1, none⟩) hzm).trans bm1
      replace hz : w.heap.size < w6.heap.size := Nat.lt_of_lt_of_le hz hb.size
      replace hzm : Bm < w6.heap.size := Nat.lt_of_lt_of_le hzm hb.size
      clear hb
      go_upto_region 9 with fail
      have hb : Below w6.heap.size w6 (w6.alloc (.cells #[.int .i64 nb, .slice Ak ls.length ck] 24)) := (Below.refl _ _).alloc (Nat.le_refl _) _
      have bk0 : (w6.alloc (.cells #[.int .i64 nb, .slice Ak ls.length ck] 24)).cell? ⟨w6.heap.size, 0, none⟩ = some (.int .i64 nb) := cell_alloc_at _ _ _ _ _ rfl
      have bk1 : (w6.alloc (.cells #[.int .i64 nb, .slice Ak ls.length ck] 24)).cell? ⟨w6.heap.size, 1, none⟩ = some (.slice Ak ls.length ck) := cell_alloc_at _ _ _ _ _ rfl
      have hzk : w6.heap.size < (w6.alloc (.cells #[.int .i64 nb, .slice Ak ls.length ck] 24)).heap.size := by simp
      generalize hX : w6.alloc (.cells #[.int .i64 nb, .slice Ak ls.length ck] 24) = w7 at *
      clear hX
      have HB7 := Lib.hid (HB6.out.trans (hb.mono HB6.out.size))
      clear HB6
      replace HL := Lib.hid (HL.out.upto hb)
      replace HO := Lib.hid (HO.out.upto hb)
      replace HIm := Lib.hid (HIm.out.upto hb)
      replace HIk := Lib.hid (HIk.out.upto hb)
      replace q0 := (hb.cell (p := ⟨w.heap.size, 0, none⟩) hz).trans q0
      replace q1 := (hb.cell (p := ⟨w.heap.size, 1, none⟩) hz).trans q1
      replace bm0 := (hb.cell (p := ⟨Bm, 0, none⟩) hzm).trans bm0
      replace bm1 := (hb.cell (p := ⟨Bm, 1, none⟩) hzm).trans bm1
      replace hz : w.heap.size < w7.heap.size := Nat.lt_of_lt_of_le hz hb.size
      replace hzm : Bm < w7.heap.size := Nat.lt_of_lt_of_le hzm hb.size
      clear hb
      generalize w6.heap.size = Bk at *
      go_wp2_with fail
      refine (KA.out _ HL.out HO.out).mono ?_
      rintro e w8 ⟨v, rfl, hown, hb⟩
      obtain ⟨Aa, ca, rfl, hI⟩ := ownsRow_ints hown
      have HIa := Lib.hid hI
      clear hown hI
      have HB8 := Lib.hid (HB7.out.trans (hb.mono HB7.out.size))
      clear HB7
      replace HL := Lib.hid (HL.out.upto hb)
      replace HO := Lib.hid (HO.out.upto hb)
      replace HIm := Lib.hid (HIm.out.upto hb)
      replace HIk := Lib.hid (HIk.out.upto hb)
      replace q0 := (hb.cell (p := ⟨w.heap.size, 0, none⟩) hz).trans q0
      replace q1 := (hb.cell (p := ⟨w.heap.size, 1, none⟩) hz).trans q1
      replace bm0 := (hb.cell (p := ⟨Bm, 0, none⟩) hzm).trans bm0
      replace bm1 := (hb.cell (p := ⟨Bm, 1, none⟩) hzm).trans bm1
      replace bk0 := (hb.cell (p := ⟨Bk, 0, none⟩) hzk).trans bk0
      replace bk1 := (hb.cell (p := ⟨Bk, 1, none⟩) hzk).trans bk1
      replace hz : w.heap.size < w8.heap.size := Nat.lt_of_lt_of_le hz hb.size
      replace hzm : Bm < w8.heap.size := Nat.lt_of_lt_of_le hzm hb.size
      replace hzk : Bk < w8.heap.size := Nat.lt_of_lt_of_le hzk hb.size
      clear hb
      go_wp2_with fail
      refine (KB.out _ _ _ HIm.out HO.out).mono ?_
      rintro e w9 ⟨v, rfl, hown, hb⟩
      obtain ⟨Ab, cb, rfl, hI⟩ := ownsRow_ints hown
      have HIb := Lib.hid hI
      clear hown hI
      have HB9 := Lib.hid (HB8.out.trans (hb.mono HB8.out.size))
      clear HB8
      replace HL := Lib.hid (HL.out.upto hb)
      replace HO := Lib.hid (HO.out.upto hb)
      replace HIm := Lib.hid (HIm.out.upto hb)
      replace HIk := Lib.hid (HIk.out.upto hb)
      replace HIa := Lib.hid (HIa.out.upto hb)
      replace q0 := (hb.cell (p := ⟨w.heap.size, 0, none⟩) hz).trans q0
      replace q1 := (hb.cell (p := ⟨w.heap.size, 1, none⟩) hz).trans q1
      replace bm0 := (hb.cell (p := ⟨Bm, 0, none⟩) hzm).trans bm0
      replace bm1 := (hb.cell (p := ⟨Bm, 1, none⟩) hzm).trans bm1
      replace bk0 := (hb.cell (p := ⟨Bk, 0, none⟩) hzk).trans bk0
      replace bk1 := (hb.cell (p := ⟨Bk, 1, none⟩) hzk).trans bk1
      replace hz : w.heap.size < w9.heap.size := Nat.lt_of_lt_of_le hz hb.size
      replace hzm : Bm < w9.heap.size := Nat.lt_of_lt_of_le hzm hb.size
      replace hzk : Bk < w9.heap.size := Nat.lt_of_lt_of_le hzk hb.size
      clear hb
      go_wp2_with fail
      refine (KC.out _ HL.out).mono ?_
      rintro e w10 ⟨rfl, hb⟩
      have HB10 := Lib.hid (HB9.out.trans (hb.mono HB9.out.size))
      clear HB9
      replace HL := Lib.hid (HL.out.upto hb)
      replace HO := Lib.hid (HO.out.upto hb)
      replace HIm := Lib.hid (HIm.out.upto hb)
      replace HIk := Lib.hid (HIk.out.upto hb)
      replace HIa := Lib.hid (HIa.out.upto hb)
      replace HIb := Lib.hid (HIb.out.upto hb)
      replace q0 := (hb.cell (p := ⟨w.heap.size, 0, none⟩) hz).trans q0
      replace q1 := (hb.cell (p := ⟨w.heap.size, 1, none⟩) hz).trans q1
      replace bm0 := (hb.cell (p := ⟨Bm, 0, none⟩) hzm).trans bm0
      replace bm1 := (hb.cell (p := ⟨Bm, 1, none⟩) hzm).trans bm1
      replace bk0 := (hb.cell (p := ⟨Bk, 0, none⟩) hzk).trans bk0
      replace bk1 := (hb.cell (p := ⟨Bk, 1, none⟩) hzk).trans bk1
      replace hz : w.heap.size < w10.heap.size := Nat.lt_of_lt_of_le hz hb.size
      replace hzm : Bm < w10.heap.size := Nat.lt_of_lt_of_le hzm hb.size
      replace hzk : Bk < w10.heap.size := Nat.lt_of_lt_of_le hzk hb.size
      clear hb
      go_wp2_with fail
      refine (KD.out _ _ _ HIm.out).mono ?_
      rintro e w11 ⟨rfl, hb⟩
      have HB11 := Lib.hid (HB10.out.trans (hb.mono HB10.out.size))
      clear HB10
      replace HL := Lib.hid (HL.out.upto hb)
      replace HO := Lib.hid (HO.out.upto hb)
      replace HIm := Lib.hid (HIm.out.upto hb)
      replace HIk := Lib.hid (HIk.out.upto hb)
      replace HIa := Lib.hid (HIa.out.upto hb)
      replace HIb := Lib.hid (HIb.out.upto hb)
      replace q0 := (hb.cell (p := ⟨w.heap.size, 0, none⟩) hz).trans q0
      replace q1 := (hb.cell (p := ⟨w.heap.size, 1, none⟩) hz).trans q1
      replace bm0 := (hb.cell (p := ⟨Bm, 0, none⟩) hzm).trans bm0
      replace bm1 := (hb.cell (p := ⟨Bm, 1, none⟩) hzm).trans bm1
      replace bk0 := (hb.cell (p := ⟨Bk, 0, none⟩) hzk).trans bk0
      replace bk1 := (hb.cell (p := ⟨Bk, 1, none⟩) hzk).trans bk1
      replace hz : w.heap.size < w11.heap.size := Nat.lt_of_lt_of_le hz hb.size
      replace hzm : Bm < w11.heap.size := Nat.lt_of_lt_of_le hzm hb.size
      replace hzk : Bk < w11.heap.size := Nat.lt_of_lt_of_le hzk hb.size
      clear hb
      go_wp2_with fail
      refine (KE.out _ _ _ HIk.out HL.out).mono ?_
      rintro e w12 ⟨rfl, hb⟩
      have HB12 := Lib.hid (HB11.out.trans (hb.mono HB11.out.size))
      clear HB11
      replace HL := Lib.hid (HL.out.upto hb)
      replace HO := Lib.hid (HO.out.upto hb)
      replace HIm := Lib.hid (HIm.out.upto hb)
      replace HIk := Lib.hid (HIk.out.upto hb)
      replace HIa := Lib.hid (HIa.out.upto hb)
      replace HIb := Lib.hid (HIb.out.upto hb)
      replace q0 := (hb.cell (p := ⟨w.heap.size, 0, none⟩) hz).trans q0
      replace q1 := (hb.cell (p := ⟨w.heap.size, 1, none⟩) hz).trans q1
      replace bm0 := (hb.cell (p := ⟨Bm, 0, none⟩) hzm).trans bm0
      replace bm1 := (hb.cell (p := ⟨Bm, 1, none⟩) hzm).trans bm1
      replace bk0 := (hb.cell (p := ⟨Bk, 0, none⟩) hzk).trans bk0
      replace bk1 := (hb.cell (p := ⟨Bk, 1, none⟩) hzk).trans bk1
      replace hz : w.heap.size < w12.heap.size := Nat.lt_of_lt_of_le hz hb.size
      replace hzm : Bm < w12.heap.size := Nat.lt_of_lt_of_le hzm hb.size
      replace hzk : Bk < w12.heap.size := Nat.lt_of_lt_of_le hzk hb.size
      clear hb
      go_wp2_with fail
      refine (KF.out _ _ _ HIm.out HL.out).mono ?_
      rintro e w13 ⟨rfl, hb⟩
      have HB13 := Lib.hid (HB12.out.trans (hb.mono HB12.out.size))
      clear HB12
      replace HL := Lib.hid (HL.out.upto hb)
      replace HO := Lib.hid (HO.out.upto hb)
      replace HIm := Lib.hid (HIm.out.upto hb)
      replace HIk := Lib.hid (HIk.out.upto hb)
      replace HIa := Lib.hid (HIa.out.upto hb)
      replace HIb := Lib.hid (HIb.out.upto hb)
      replace q0 := (hb.cell (p := ⟨w.heap.size, 0, none⟩) hz).trans q0
      replace q1 := (hb.cell (p := ⟨w.heap.size, 1, none⟩) hz).trans q1
      replace bm0 := (hb.cell (p := ⟨Bm, 0, none⟩) hzm).trans bm0
      replace bm1 := (hb.cell (p := ⟨Bm, 1, none⟩) hzm).trans bm1
      replace bk0 := (hb.cell (p := ⟨Bk, 0, none⟩) hzk).trans bk0
      replace bk1 := (hb.cell (p := ⟨Bk, 1, none⟩) hzk).trans bk1
      replace hz : w.heap.size < w13.heap.size := Nat.lt_of_lt_of_le hz hb.size
      replace hzm : Bm < w13.heap.size := Nat.lt_of_lt_of_le hzm hb.size
      replace hzk : Bk < w13.heap.size := Nat.lt_of_lt_of_le hzk hb.size
      clear hb
      go_wp2_with fail
      refine (ints_same _ _ _ _ _ _ HIa.out HIb.out (by omega)).mono ?_
      rintro e w14 ⟨rfl, hb⟩
      have HB14 := Lib.hid (HB13.out.trans (hb.mono HB13.out.size))
      clear HB13
      replace HL := Lib.hid (HL.out.upto hb)
      replace HO := Lib.hid (HO.out.upto hb)
      replace HIm := Lib.hid (HIm.out.upto hb)
      replace HIk := Lib.hid (HIk.out.upto hb)
      replace HIa := Lib.hid (HIa.out.upto hb)
      replace HIb := Lib.hid (HIb.out.upto hb)
      replace q0 := (hb.cell (p := ⟨w.heap.size, 0, none⟩) hz).trans q0
      replace q1 := (hb.cell (p := ⟨w.heap.size, 1, none⟩) hz).trans q1
      replace bm0 := (hb.cell (p := ⟨Bm, 0, none⟩) hzm).trans bm0
      replace bm1 := (hb.cell (p := ⟨Bm, 1, none⟩) hzm).trans bm1
      replace bk0 := (hb.cell (p := ⟨Bk, 0, none⟩) hzk).trans bk0
      replace bk1 := (hb.cell (p := ⟨Bk, 1, none⟩) hzk).trans bk1
      replace hz : w.heap.size < w14.heap.size := Nat.lt_of_lt_of_le hz hb.size
      replace hzm : Bm < w14.heap.size := Nat.lt_of_lt_of_le hzm hb.size
      replace hzk : Bk < w14.heap.size := Nat.lt_of_lt_of_le hzk hb.size
      clear hb
      go_wp2_with fail
      go_ret
      exact ⟨rfl, HB14.out⟩
    · rw [revNb, revL, if_neg he, if_neg he] at kr
      by_cases hck : checkE nb ls = 0
      · have hx : x < 0 ∨ (ls.length : Int) ≤ x := by
          unfold revE at he
          rw [if_pos hck] at he
          split at he
          · assumption
          · omega
        rw [revE, if_pos hck, if_pos hx] at kr
        rw [hck] at kc
        have KR := Lib.hid kr
        have KC := Lib.hid kc
        clear kr kc he hck
        have hx' : (decide (x < 0) = true) ∨ (decide (x < 0) = false ∧ (ls.length : Int) ≤ x) := by by_cases h : x < 0 <;> simp [h]; omega
        clear hx
        rcases hx' with hx | ⟨hx, hx2⟩
        all_goals
          have HB0 := Lib.hid (Below.refl w.heap.size w)
          go_enter Try.func10, Try.ntmps10
          go_wp2_with fail
          have hb := below_alloc2 w (.cells #[.int .i64 nb, .slice A ls.length c] 24) (.cells #[.slice O out.length co] 25)
          have q0 : ((w.alloc (.cells #[.int .i64 nb, .slice A ls.length c] 24)).alloc (.cells #[.slice O out.length co] 25)).cell? ⟨w.heap.size, 0, none⟩ = some (.int .i64 nb) := by simp
          have q1 : ((w.alloc (.cells #[.int .i64 nb, .slice A ls.length c] 24)).alloc (.cells #[.slice O out.length co] 25)).cell? ⟨w.heap.size, 1, none⟩ = some (.slice A ls.length c) := by simp
          have hz : w.heap.size < ((w.alloc (.cells #[.int .i64 nb, .slice A ls.length c] 24)).alloc (.cells #[.slice O out.length co] 25)).heap.size := by simp; omega
          have HB1 := Lib.hid (HB0.out.trans (hb.mono HB0.out.size))
          clear HB0
          replace HL := Lib.hid (HL.out.upto hb)
          replace HO := Lib.hid (HO.out.upto hb)
          clear hb
          refine (KL.out (w.alloc (.cells #[.int .i64 nb, .slice A ls.length c] 24)) _ (by simp)).mono ?_
          rintro e w2 ⟨rfl, hb⟩
          rw [← World.size_alloc (w.alloc (.cells #[.int .i64 nb, .slice A ls.length c] 24)) (.cells #[.slice O out.length co] 25)] at hb
          have HB2 := Lib.hid (HB1.out.trans (hb.mono HB1.out.size))
          clear HB1
          replace HL := Lib.hid (HL.out.upto hb)
          replace HO := Lib.hid (HO.out.upto hb)
          replace q0 := (hb.cell (p := ⟨w.heap.size, 0, none⟩) hz).trans q0
          replace q1 := (hb.cell (p := ⟨w.heap.size, 1, none⟩) hz).trans q1
          replace hz : w.heap.size < w2.heap.size := Nat.lt_of_lt_of_le hz hb.size
          clear hb
          go_wp2_with fail
          refine (awake14_any _).mono ?_
          rintro e w3 ⟨rfl, hb⟩
          have HB3 := Lib.hid (HB2.out.trans (hb.mono HB2.out.size))
          clear HB2
          replace HL := Lib.hid (HL.out.upto hb)
          replace HO := Lib.hid (HO.out.upto hb)
          replace q0 := (hb.cell (p := ⟨w.heap.size, 0, none⟩) hz).trans q0
          replace q1 := (hb.cell (p := ⟨w.heap.size, 1, none⟩) hz).trans q1
          replace hz : w.heap.size < w3.heap.size := Nat.lt_of_lt_of_le hz hb.size
          clear hb
          go_wp2_with fail
          refine (KR.out _ HL.out).mono ?_
          rintro e w4 ⟨Am, cm, rfl, hown, hb⟩
          clear hown
          have HB4 := Lib.hid (HB3.out.trans (hb.mono HB3.out.size))
          clear HB3
          replace HL := Lib.hid (HL.out.upto hb)
          replace HO := Lib.hid (HO.out.upto hb)
          replace q0 := (hb.cell (p := ⟨w.heap.size, 0, none⟩) hz).trans q0
          replace q1 := (hb.cell (p := ⟨w.heap.size, 1, none⟩) hz).trans q1
          replace hz : w.heap.size < w4.heap.size := Nat.lt_of_lt_of_le hz hb.size
          clear hb
          go_upto_region 4 with fail
          have hb : Below w4.heap.size w4 (w4.alloc (.cells #[.int .i64 0, .slice Am ([] : List Ln).length cm] 24)) := (Below.refl _ _).alloc (Nat.le_refl _) _
          generalize hX : w4.alloc (.cells #[.int .i64 0, .slice Am ([] : List Ln).length cm] 24) = w5 at *
          clear hX
          have HB5 := Lib.hid (HB4.out.trans (hb.mono HB4.out.size))
          clear HB4
          replace HL := Lib.hid (HL.out.upto hb)
          replace HO := Lib.hid (HO.out.upto hb)
          replace q0 := (hb.cell (p := ⟨w.heap.size, 0, none⟩) hz).trans q0
          replace q1 := (hb.cell (p := ⟨w.heap.size, 1, none⟩) hz).trans q1
          replace hz : w.heap.size < w5.heap.size := Nat.lt_of_lt_of_le hz hb.size
          clear hb
          go_wp2_with fail
          refine (KC.out _ HL.out).mono ?_
          rintro e w6 ⟨rfl, hb⟩
          have HB6 := Lib.hid (HB5.out.trans (hb.mono HB5.out.size))
          clear HB5
          replace HL := Lib.hid (HL.out.upto hb)
          replace HO := Lib.hid (HO.out.upto hb)
          replace q0 := (hb.cell (p := ⟨w.heap.size, 0, none⟩) hz).trans q0
          replace q1 := (hb.cell (p := ⟨w.heap.size, 1, none⟩) hz).trans q1
          replace hz : w.heap.size < w6.heap.size := Nat.lt_of_lt_of_le hz hb.size
          clear hb
          go_wp2_with fail
          go_ret
          exact ⟨rfl, HB6.out⟩
      · have e1 : revE nb ls x = checkE nb ls := by rw [revE, if_neg hck]
        rw [e1] at kr
        have b1 : (checkE nb ls == 0) = false := by rw [beq_eq_false_iff_ne]; exact hck
        have b2 : (checkE nb ls != 0) = true := by rw [bne_iff_ne]; exact hck
        have b3 : (checkE nb ls == checkE nb ls) = true := by simp
        clear he e1 hck
        generalize checkE nb ls = er at *
        have KR := Lib.hid kr
        have KC := Lib.hid kc
        clear kr kc
        have HB0 := Lib.hid (Below.refl w.heap.size w)
        go_enter Try.func10, Try.ntmps10
        go_wp2_with fail
        have hb := below_alloc2 w (.cells #[.int .i64 nb, .slice A ls.length c] 24) (.cells #[.slice O out.length co] 25)
        have q0 : ((w.alloc (.cells #[.int .i64 nb, .slice A ls.length c] 24)).alloc (.cells #[.slice O out.length co] 25)).cell? ⟨w.heap.size, 0, none⟩ = some (.int .i64 nb) := by simp
        have q1 : ((w.alloc (.cells #[.int .i64 nb, .slice A ls.length c] 24)).alloc (.cells #[.slice O out.length co] 25)).cell? ⟨w.heap.size, 1, none⟩ = some (.slice A ls.length c) := by simp
        have hz : w.heap.size < ((w.alloc (.cells #[.int .i64 nb, .slice A ls.length c] 24)).alloc (.cells #[.slice O out.length co] 25)).heap.size := by simp; omega
        have HB1 := Lib.hid (HB0.out.trans (hb.mono HB0.out.size))
        clear HB0
        replace HL := Lib.hid (HL.out.upto hb)
        replace HO := Lib.hid (HO.out.upto hb)
        clear hb
        refine (KL.out (w.alloc (.cells #[.int .i64 nb, .slice A ls.length c] 24)) _ (by simp)).mono ?_
        rintro e w2 ⟨rfl, hb⟩
        rw [← World.size_alloc (w.alloc (.cells #[.int .i64 nb, .slice A ls.length c] 24)) (.cells #[.slice O out.length co] 25)] at hb
        have HB2 := Lib.hid (HB1.out.trans (hb.mono HB1.out.size))
        clear HB1
        replace HL := Lib.hid (HL.out.upto hb)
        replace HO := Lib.hid (HO.out.upto hb)
        replace q0 := (hb.cell (p := ⟨w.heap.size, 0, none⟩) hz).trans q0
        replace q1 := (hb.cell (p := ⟨w.heap.size, 1, none⟩) hz).trans q1
        replace hz : w.heap.size < w2.heap.size := Nat.lt_of_lt_of_le hz hb.size
        clear hb
        go_wp2_with fail
        refine (awake14_any _).mono ?_
        rintro e w3 ⟨rfl, hb⟩
        have HB3 := Lib.hid (HB2.out.trans (hb.mono HB2.out.size))
        clear HB2
        replace HL := Lib.hid (HL.out.upto hb)
        replace HO := Lib.hid (HO.out.upto hb)
        replace q0 := (hb.cell (p := ⟨w.heap.size, 0, none⟩) hz).trans q0
        replace q1 := (hb.cell (p := ⟨w.heap.size, 1, none⟩) hz).trans q1
        replace hz : w.heap.size < w3.heap.size := Nat.lt_of_lt_of_le hz hb.size
        clear hb
        go_wp2_with fail
        refine (KR.out _ HL.out).mono ?_
        rintro e w4 ⟨Am, cm, rfl, hown, hb⟩
        clear hown
        have HB4 := Lib.hid (HB3.out.trans (hb.mono HB3.out.size))
        clear HB3
        replace HL := Lib.hid (HL.out.upto hb)
        replace HO := Lib.hid (HO.out.upto hb)
        replace q0 := (hb.cell (p := ⟨w.heap.size, 0, none⟩) hz).trans q0
        replace q1 := (hb.cell (p := ⟨w.heap.size, 1, none⟩) hz).trans q1
        replace hz : w.heap.size < w4.heap.size := Nat.lt_of_lt_of_le hz hb.size
        clear hb
        go_upto_region 4 with fail
        have hb : Below w4.heap.size w4 (w4.alloc (.cells #[.int .i64 0, .slice Am ([] : List Ln).length cm] 24)) := (Below.refl _ _).alloc (Nat.le_refl _) _
        generalize hX : w4.alloc (.cells #[.int .i64 0, .slice Am ([] : List Ln).length cm] 24) = w5 at *
        clear hX
        have HB5 := Lib.hid (HB4.out.trans (hb.mono HB4.out.size))
        clear HB4
        replace HL := Lib.hid (HL.out.upto hb)
        replace HO := Lib.hid (HO.out.upto hb)
        replace q0 := (hb.cell (p := ⟨w.heap.size, 0, none⟩) hz).trans q0
        replace q1 := (hb.cell (p := ⟨w.heap.size, 1, none⟩) hz).trans q1
        replace hz : w.heap.size < w5.heap.size := Nat.lt_of_lt_of_le hz hb.size
        clear hb
        go_wp2_with fail
        refine (KC.out _ HL.out).mono ?_
        rintro e w6 ⟨rfl, hb⟩
        have HB6 := Lib.hid (HB5.out.trans (hb.mono HB5.out.size))
        clear HB5
        replace HL := Lib.hid (HL.out.upto hb)
        replace HO := Lib.hid (HO.out.upto hb)
        replace q0 := (hb.cell (p := ⟨w.heap.size, 0, none⟩) hz).trans q0
        replace q1 := (hb.cell (p := ⟨w.heap.size, 1, none⟩) hz).trans q1
        replace hz : w.heap.size < w6.heap.size := Nat.lt_of_lt_of_le hz hb.size
        clear hb
        go_wp2_with fail
        go_ret
        exact ⟨rfl, HB6.out⟩
end Go.Proofs.Ytcacaiakkfgdpaa
