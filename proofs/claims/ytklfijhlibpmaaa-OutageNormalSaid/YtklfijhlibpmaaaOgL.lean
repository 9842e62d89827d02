/- awake of layer 21. -/
import Derived.Test.YtklfijhlibpmaaaOgK
namespace Go.Proofs.Ytklfijhlibpmaaa
open Go.RowKit
set_option linter.unusedVariables false
set_option maxRecDepth 100000

theorem OgsR.take {w : World} {B : Nat} {A : Option Addr} {l : List Og} (h : OgsR w B A l) (k : Nat) : OgsR w B A (l.take k) := fun hn => by
  have hl : 0 < l.length := by simp at hn; omega
  obtain ⟨b, off, e, hb, hc⟩ := h hl
  refine ⟨b, off, e, hb, fun i hi => ?_⟩
  have hi' : i < k ∧ i < l.length := by simp at hi; omega
  have e : (l.take k).getD i (0, 0, 0, 0) = l.getD i (0, 0, 0, 0) := by rw [List.getD_eq_getElem?_getD, List.getD_eq_getElem?_getD, List.getElem?_take_of_lt hi'.1]
  rw [e]
  exact hc i hi'.2
theorem aw_chk6 (A : Option Addr) (W : World) (hl : OgsR W W.heap.size A threeOg) : Calls Try.prog 20 #[.slice A 3 3, .int .i64 3, .int .i64 1, .int .i64 6] W fun e w' => e = .returned (.tuple #[.int .i64 0, .int .i64 0]) ∧ Below W.heap.size W w' := by
  have h := check_any 3 1 6 A 3 threeOg W hl (by decide)
  rw [show ogChk 3 1 6 threeOg = (0, 0) by decide +kernel] at h
  exact h
theorem aw_chk5 (A : Option Addr) (W : World) (hl : OgsR W W.heap.size A threeOg) : Calls Try.prog 20 #[.slice A 3 3, .int .i64 3, .int .i64 1, .int .i64 5] W fun e w' => e = .returned (.tuple #[.int .i64 0, .int .i64 1]) ∧ Below W.heap.size W w' := by
  have h := check_any 3 1 5 A 3 threeOg W hl (by decide)
  rw [show ogChk 3 1 5 threeOg = (0, 1) by decide +kernel] at h
  exact h
theorem aw_norm (A : Option Addr) (W : World) (hl : OgsR W W.heap.size A [(1, 2, 0, 1), (1, 2, 2, 5)]) : Calls Try.prog 10 #[.slice A 2 2] W (OgE W [(1, 2, 0, 5)]) := by
  have h := normal_any A 2 [(1, 2, 0, 1), (1, 2, 2, 5)] W hl (by intro o ho; simp at ho; rcases ho with rfl | rfl <;> simp [OgB]) (by decide)
  rw [show ogN [(1, 2, 0, 1), (1, 2, 2, 5)] = [(1, 2, 0, 5)] by decide +kernel] at h
  exact h
theorem aw_ahead (A : Option Addr) (W : World) (hl : OgsR W W.heap.size A threeOg) : Calls Try.prog 13 #[.slice A 3 3, .int .i64 1] W (RowE W [2]) := by
  have h := ahead_any A 3 threeOg 1 W hl (by decide)
  rw [aff3_ahead] at h
  exact h
theorem aw_now (A : Option Addr) (W : World) (hl : OgsR W W.heap.size A threeOg) : Calls Try.prog 14 #[.slice A 3 3, .int .i64 1] W (RowE W [1, 2]) := by
  have h := now_any A 3 threeOg 1 W hl (by decide)
  rw [aff3_now] at h
  exact h
theorem aw_trips (A : Option Addr) (W : World) (hl : OgsR W W.heap.size A threeOg) : Calls Try.prog 19 #[.slice A 3 3, .int .i64 3] W (RowE W [0]) := by
  have h := trips_any A 3 threeOg 3 W hl (by decide)
  rw [aff3_trips] at h
  exact h
theorem aw_same (A A' : Option Addr) (c c' : Nat) (W : World) (hx : OgsR W W.heap.size A [(1, 2, 0, 5)]) (hy : OgsR W W.heap.size A' threeOg) : Calls Try.prog 11 #[.slice A 1 c, .slice A' 1 c'] W fun e w' => e = .returned (.bool true) ∧ Below W.heap.size W w' := by
  refine (same_any A A' c c' [(1, 2, 0, 5)] (threeOg.take 1) W hx (hy.take 1) (by decide) (by decide)).mono ?_
  rintro e w' ⟨rfl, n, rfl⟩
  exact ⟨rfl, below_drewN (Below.refl _ _) n⟩

set_option maxHeartbeats 8000000 in
theorem awake_any (w : World) : Calls Try.prog 8 #[] w fun e w' => e = .returned (.bool true) ∧ Below w.heap.size w w' := by
  have HB0 := Lib.hid (Below.refl w.heap.size w)
  go_enter Try.func8, Try.ntmps8
  go_wp2_with fail
  refine (three_any _).mono ?_
  rintro e w1 ⟨A3, rfl, hl, hb⟩
  have HL := Lib.hid hl
  clear hl
  have HB1 := Lib.hid (HB0.out.trans (hb.mono HB0.out.size))
  clear HB0
  clear hb
  go_wp2_with fail
  refine (aw_chk6 _ _ HL.out).mono ?_
  rintro e w2 ⟨rfl, hb⟩
  have HB2 := Lib.hid (HB1.out.trans (hb.mono HB1.out.size))
  clear HB1
  replace HL := Lib.hid (HL.out.upto hb)
  clear hb
  clear HL
  go_wp2_with fail
  refine (three_any _).mono ?_
  rintro e w3 ⟨A3, rfl, hl, hb⟩
  have HL := Lib.hid hl
  clear hl
  have HB3 := Lib.hid (HB2.out.trans (hb.mono HB2.out.size))
  clear HB2
  clear hb
  go_wp2_with fail
  refine (aw_chk5 _ _ HL.out).mono ?_
  rintro e w4 ⟨rfl, hb⟩
  have HB4 := Lib.hid (HB3.out.trans (hb.mono HB3.out.size))
  clear HB3
  replace HL := Lib.hid (HL.out.upto hb)
  clear hb
  clear HL
  go_wp2_with fail
  have hl := OgsR.lit w4 27 [(1, 2, 0, 1), (1, 2, 2, 5)] #[.int .u8 1, .int .i64 2, .int .i64 0, .int .i64 1, .int .u8 1, .int .i64 2, .int .i64 2, .int .i64 5] rfl
  have hb := (Below.refl w4.heap.size w4).alloc (Nat.le_refl _) (.cells #[.int .u8 1, .int .i64 2, .int .i64 0, .int .i64 1, .int .u8 1, .int .i64 2, .int .i64 2, .int .i64 5] 27)
  have HL := Lib.hid hl
  clear hl
  have HB5 := Lib.hid (HB4.out.trans (hb.mono HB4.out.size))
  clear HB4
  clear hb
  refine (aw_norm _ _ HL.out).mono ?_
  rintro e w6 ⟨v, rfl, hown, hb⟩
  obtain ⟨An, cn, rfl, hI⟩ := ownsRow_ogs hown
  simp only [show ([(1, 2, 0, 5)] : List Og).length = 1 from rfl]
  have HN := Lib.hid hI
  clear hown hI
  have HB6 := Lib.hid (HB5.out.trans (hb.mono HB5.out.size))
  clear HB5
  replace HL := Lib.hid (HL.out.upto hb)
  clear hb
  clear HL
  go_wp2_with fail
  refine (three_any _).mono ?_
  rintro e w7 ⟨A3, rfl, hl, hb⟩
  have HL := Lib.hid hl
  clear hl
  have HB7 := Lib.hid (HB6.out.trans (hb.mono HB6.out.size))
  clear HB6
  replace HN := Lib.hid (HN.out.upto hb)
  clear hb
  go_wp2_with fail
  refine (aw_ahead _ _ HL.out).mono ?_
  rintro e w8 ⟨v, rfl, hown, hb⟩
  obtain ⟨Aa, ca, rfl, hI⟩ := ownsRow_ints hown
  have HIa := Lib.hid hI
  clear hown hI
  have HB8 := Lib.hid (HB7.out.trans (hb.mono HB7.out.size))
  clear HB7
  replace HN := Lib.hid (HN.out.upto hb)
  replace HL := Lib.hid (HL.out.upto hb)
  clear hb
  clear HL
  go_wp2_with fail
  have hI := IntsR.litU w8 3 [2] #[.int .i64 2] rfl
  have hb := (Below.refl w8.heap.size w8).alloc (Nat.le_refl _) (.cells #[.int .i64 2] 3)
  have HZ := Lib.hid hI
  clear hI
  have HB9 := Lib.hid (HB8.out.trans (hb.mono HB8.out.size))
  clear HB8
  replace HN := Lib.hid (HN.out.upto hb)
  replace HIa := Lib.hid (HIa.out.upto hb)
  clear hb
  refine (ints_same Aa _ ca 1 [2] _ HIa.out HZ.out (by simp)).mono ?_
  rintro e w10 ⟨rfl, hb⟩
  have HB10 := Lib.hid (HB9.out.trans (hb.mono HB9.out.size))
  clear HB9
  replace HN := Lib.hid (HN.out.upto hb)
  replace HIa := Lib.hid (HIa.out.upto hb)
  replace HZ := Lib.hid (HZ.out.upto hb)
  clear hb
  clear HZ
  clear HIa
  go_wp2_with fail
  refine (three_any _).mono ?_
  rintro e w11 ⟨A3, rfl, hl, hb⟩
  have HL := Lib.hid hl
  clear hl
  have HB11 := Lib.hid (HB10.out.trans (hb.mono HB10.out.size))
  clear HB10
  replace HN := Lib.hid (HN.out.upto hb)
  clear hb
  go_wp2_with fail
  refine (aw_now _ _ HL.out).mono ?_
  rintro e w12 ⟨v, rfl, hown, hb⟩
  obtain ⟨Aa, ca, rfl, hI⟩ := ownsRow_ints hown
  have HIa := Lib.hid hI
  clear hown hI
  have HB12 := Lib.hid (HB11.out.trans (hb.mono HB11.out.size))
  clear HB11
  replace HN := Lib.hid (HN.out.upto hb)
  replace HL := Lib.hid (HL.out.upto hb)
  clear hb
  clear HL
  go_wp2_with fail
  have hI := IntsR.litU w12 3 [1, 2] #[.int .i64 1, .int .i64 2] rfl
  have hb := (Below.refl w12.heap.size w12).alloc (Nat.le_refl _) (.cells #[.int .i64 1, .int .i64 2] 3)
  have HZ := Lib.hid hI
  clear hI
  have HB13 := Lib.hid (HB12.out.trans (hb.mono HB12.out.size))
  clear HB12
  replace HN := Lib.hid (HN.out.upto hb)
  replace HIa := Lib.hid (HIa.out.upto hb)
  clear hb
  refine (ints_same Aa _ ca 2 [1, 2] _ HIa.out HZ.out (by simp)).mono ?_
  rintro e w14 ⟨rfl, hb⟩
  have HB14 := Lib.hid (HB13.out.trans (hb.mono HB13.out.size))
  clear HB13
  replace HN := Lib.hid (HN.out.upto hb)
  replace HIa := Lib.hid (HIa.out.upto hb)
  replace HZ := Lib.hid (HZ.out.upto hb)
  clear hb
  clear HZ
  clear HIa
  go_wp2_with fail
  refine (three_any _).mono ?_
  rintro e w15 ⟨A3, rfl, hl, hb⟩
  have HL := Lib.hid hl
  clear hl
  have HB15 := Lib.hid (HB14.out.trans (hb.mono HB14.out.size))
  clear HB14
  replace HN := Lib.hid (HN.out.upto hb)
  clear hb
  go_wp2_with fail
  refine (aw_trips _ _ HL.out).mono ?_
  rintro e w16 ⟨v, rfl, hown, hb⟩
  obtain ⟨Aa, ca, rfl, hI⟩ := ownsRow_ints hown
  have HIa := Lib.hid hI
  clear hown hI
  have HB16 := Lib.hid (HB15.out.trans (hb.mono HB15.out.size))
  clear HB15
  replace HN := Lib.hid (HN.out.upto hb)
  replace HL := Lib.hid (HL.out.upto hb)
  clear hb
  clear HL
  go_wp2_with fail
  have hI := IntsR.litU w16 3 [0] #[.int .i64 0] rfl
  have hb := (Below.refl w16.heap.size w16).alloc (Nat.le_refl _) (.cells #[.int .i64 0] 3)
  have HZ := Lib.hid hI
  clear hI
  have HB17 := Lib.hid (HB16.out.trans (hb.mono HB16.out.size))
  clear HB16
  replace HN := Lib.hid (HN.out.upto hb)
  replace HIa := Lib.hid (HIa.out.upto hb)
  clear hb
  refine (ints_same Aa _ ca 1 [0] _ HIa.out HZ.out (by simp)).mono ?_
  rintro e w18 ⟨rfl, hb⟩
  have HB18 := Lib.hid (HB17.out.trans (hb.mono HB17.out.size))
  clear HB17
  replace HN := Lib.hid (HN.out.upto hb)
  replace HIa := Lib.hid (HIa.out.upto hb)
  replace HZ := Lib.hid (HZ.out.upto hb)
  clear hb
  clear HZ
  clear HIa
  go_wp2_with fail
  refine (three_any _).mono ?_
  rintro e w19 ⟨A3, rfl, hl, hb⟩
  have HL := Lib.hid hl
  clear hl
  have HB19 := Lib.hid (HB18.out.trans (hb.mono HB18.out.size))
  clear HB18
  replace HN := Lib.hid (HN.out.upto hb)
  clear hb
  go_wp2_with fail
  refine (aw_same An A3 cn 3 _ HN.out HL.out).mono ?_
  rintro e w20 ⟨rfl, hb⟩
  have HB20 := Lib.hid (HB19.out.trans (hb.mono HB19.out.size))
  clear HB19
  replace HN := Lib.hid (HN.out.upto hb)
  replace HL := Lib.hid (HL.out.upto hb)
  clear hb
  go_wp2_with fail
  go_ret
  exact ⟨rfl, HB20.out⟩
end Go.Proofs.Ytklfijhlibpmaaa
