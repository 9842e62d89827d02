/- The text PmW. -/
import Derived.Deep.DeepCutAuto
import Derived.Test.YtmojjfdamdgegaaMg31
import Derived.Test.YtmojjfdamdgegaaMg47
import Derived.Test.YtmojjfdamdgegaaMg44
import Derived.Test.YtmojjfdamdgegaaMg49
import Derived.Test.YtmojjfdamdgegaaMg48
/- The walk of TreePathMatches. -/
namespace Go.Proofs.Ytmojjfdamdgegaa
open Go.RowKit
set_option linter.unusedVariables false

theorem path_len (nb : Int) (ls : List Ln) (out : List Int) (a b : Int) : (pathL nb ls out a b).length ≤ ls.length := by
  unfold pathL
  by_cases h : connE nb ls out a b = 0 ∧ connB nb ls out a b = true
  · rw [if_pos h, (way_spec (conn_in h.1).1 ((conn_cn h.1).1 h.2)).2.len]
    exact Nat.le_refl _
  · rw [if_neg h]; simp

set_option maxRecDepth 100000 in
set_option maxHeartbeats 8000000 in
theorem pm_walk (nb : Int) (A : Option Addr) (c : Nat) (ls : List Ln) (O : Option Addr) (co : Nat) (out : List Int) (fr tw : Int) (w : World) (hl : LinesR w w.heap.size A ls) (ho : IntsR w w.heap.size O out) :
    Calls Try.prog 4 #[.agg #[.int .i64 nb, .slice A ls.length c], .slice O out.length co, .int .i64 fr, .int .i64 tw] w fun e w' => e = .returned (.bool true) ∧ Below w.heap.size w w' := by
  obtain ⟨i0, hi0, hz0, hz1, hz2⟩ := info_parts info_int
  have HL := Lib.hid hl
  have HO := Lib.hid ho
  clear hl ho
  have kl := fun W b hb => long_lit1 (.int .i64 nb) A ls.length c 25 W b hb O out.length co
  cases hlong : longB [out.length] ls.length with
  | true =>
    rw [hlong] at kl
    have KL := Lib.hid kl
    clear kl hlong
    have HB0 := Lib.hid (Below.refl w.heap.size w)
    go_enter Try.func4, Try.ntmps4
    go_wp2_with fail
    have hb := below_alloc2 w (.cells #[.int .i64 nb, .slice A ls.length c] 24) (.cells #[.slice O out.length co] 25)
    have q0 : ((w.alloc (.cells #[.int .i64 nb, .slice A ls.length c] 24)).alloc (.cells #[.slice O out.length co] 25)).cell? ⟨w.heap.size, 0, none⟩ = some (.int .i64 nb) := by simp
    have q1 : ((w.alloc (.cells #[.int .i64 nb, .slice A ls.length c] 24)).alloc (.cells #[.slice O out.length co] 25)).cell? ⟨w.heap.size, 1, none⟩ = some (.slice A ls.length c) := by simp
    have hz : w.heap.size < ((w.alloc (.cells #[.int .i64 nb, .slice A ls.length c] 24)).alloc (.cells #[.slice O out.length co] 25)).heap.size := by simp; omega
    have HB1 := Lib.hid (HB0.out.trans (hb.mono HB0.out.size))
    clear HB0
    replace HL := Lib.hid (HL.out.upto hb)
    replace HO := Lib.hid (HO.out.upto hb)
    clear hb
    refine (KL.out (w.alloc (.cells #[.int .i64 nb, .slice A ls.length c] 24)) _ (by simp)).mono ?_
    rintro e w2 ⟨rfl, hb⟩
    rw [← World.size_alloc (w.alloc (.cells #[.int .i64 nb, .slice A ls.length c] 24)) (.cells #[.slice O out.length co] 25)] at hb
    have HB2 := Lib.hid (HB1.out.trans (hb.mono HB1.out.size))
    clear HB1
    replace HL := Lib.hid (HL.out.upto hb)
    replace HO := Lib.hid (HO.out.upto hb)
    replace q0 := (hb.cell (p := ⟨w.heap.size, 0, none⟩) hz).trans q0
    replace q1 := (hb.cell (p := ⟨w.heap.size, 1, none⟩) hz).trans q1
    replace hz : w.heap.size < w2.heap.size := Nat.lt_of_lt_of_le hz hb.size
    clear hb
    go_wp2_with fail
    refine (awake16_any _).mono ?_
    rintro e w3 ⟨rfl, hb⟩
    have HB3 := Lib.hid (HB2.out.trans (hb.mono HB2.out.size))
    clear HB2
    replace HL := Lib.hid (HL.out.upto hb)
    replace HO := Lib.hid (HO.out.upto hb)
    replace q0 := (hb.cell (p := ⟨w.heap.size, 0, none⟩) hz).trans q0
    replace q1 := (hb.cell (p := ⟨w.heap.size, 1, none⟩) hz).trans q1
    replace hz : w.heap.size < w3.heap.size := Nat.lt_of_lt_of_le hz hb.size
    clear hb
    go_wp2_with fail
    go_ret
    exact ⟨rfl, HB3.out⟩
  | false =>
    rw [hlong] at kl
    have hb100 := longB_false hlong
    have h1 : out.length ≤ 100 := hb100.1 _ (by simp)
    have h2 : ls.length ≤ 100 := hb100.2
    have KL := Lib.hid kl
    clear kl hlong hb100
    have ky := fun W hl ho => refWay_any nb A O c co ls out fr tw W hl ho (by omega) (by omega)
    have kp := fun W hl ho => path_any nb A O c co ls out fr tw W hl ho (by omega) (by omega)
    have hwl := path_len nb ls out fr tw
    generalize pathL nb ls out fr tw = wl at *
    generalize pathE nb ls out fr tw = er at *
    have ks := fun X Y cx cy W hx hy => ints_same X Y cx cy wl W hx hy (by omega)
    have e0 : (er != er) = false := by simp
    have KY := Lib.hid ky
    have KP := Lib.hid kp
    have KS := Lib.hid ks
    clear ky kp ks
    have HB0 := Lib.hid (Below.refl w.heap.size w)
    go_enter Try.func4, Try.ntmps4
    go_wp2_with fail
    have hb := below_alloc2 w (.cells #[.int .i64 nb, .slice A ls.length c] 24) (.cells #[.slice O out.length co] 25)
    have q0 : ((w.alloc (.cells #[.int .i64 nb, .slice A ls.length c] 24)).alloc (.cells #[.slice O out.length co] 25)).cell? ⟨w.heap.size, 0, none⟩ = some (.int .i64 nb) := by simp
    have q1 : ((w.alloc (.cells #[.int .i64 nb, .slice A ls.length c] 24)).alloc (.cells #[.slice O out.length co] 25)).cell? ⟨w.heap.size, 1, none⟩ = some (.slice A ls.length c) := by simp
    have hz : w.heap.size < ((w.alloc (.cells #[.int .i64 nb, .slice A ls.length c] 24)).alloc (.cells #[.slice O out.length co] 25)).heap.size := by simp; omega
    have HB1 := Lib.hid (HB0.out.trans (hb.mono HB0.out.size))
    clear HB0
    replace HL := Lib.hid (HL.out.upto hb)
    replace HO := Lib.hid (HO.out.upto hb)
    clear hb
    refine (KL.out (w.alloc (.cells #[.int .i64 nb, .slice A ls.length c] 24)) _ (by simp)).mono ?_
    rintro e w2 ⟨rfl, hb⟩
    rw [← World.size_alloc (w.alloc (.cells #[.int .i64 nb, .slice A ls.length c] 24)) (.cells #[.slice O out.length co] 25)] at hb
    have HB2 := Lib.hid (HB1.out.trans (hb.mono HB1.out.size))
    clear HB1
    replace HL := Lib.hid (HL.out.upto hb)
    replace HO := Lib.hid (HO.out.upto hb)
    replace q0 := (hb.cell (p := ⟨w.heap.size, 0, none⟩) hz).trans q0
    replace q1 := (hb.cell (p := ⟨w.heap.size, 1, none⟩) hz).trans q1
    replace hz : w.heap.size < w2.heap.size := Nat.lt_of_lt_of_le hz hb.size
    clear hb
    go_wp2_with fail
    refine (KY.out _ HL.out HO.out).mono ?_
    rintro e w3 ⟨v, rfl, hown, hb⟩
    obtain ⟨Aq, cq, rfl, hI⟩ := ownsRow_ints hown
    have HIq := Lib.hid hI
    clear hown hI
    have HB3 := Lib.hid (HB2.out.trans (hb.mono HB2.out.size))
    clear HB2
    replace HL := Lib.hid (HL.out.upto hb)
    replace HO := Lib.hid (HO.out.upto hb)
    replace q0 := (hb.cell (p := ⟨w.heap.size, 0, none⟩) hz).trans q0
    replace q1 := (hb.cell (p := ⟨w.heap.size, 1, none⟩) hz).trans q1
    replace hz : w.heap.size < w3.heap.size := Nat.lt_of_lt_of_le hz hb.size
    clear hb
    go_wp2_with fail
    go_loopg [11, 12, 13] 2 (fun g i s12 s13 wr => ∃ k : Nat, k + g = 2 ∧ i = .int .i64 k ∧ Below w3.heap.size w3 wr)
    case atStart => exact ⟨0, by omega, rfl, Below.refl _ _⟩
    case round =>
      obtain ⟨k, hkg, rfl, hbx⟩ := hrel
      have HBX := Lib.hid hbx
      clear hbx
      cases gk with
      | zero =>
        obtain rfl : k = 2 := by omega
        clear hkg
        have HBY := Lib.hid (HB3.out.trans (HBX.out.mono HB3.out.size))
        clear HB3 HBX HL HO HIq
        go_wp2_with fail
        refine (awake16_any _).mono ?_
        rintro e w9 ⟨rfl, hb⟩
        have HBZ := Lib.hid (HBY.out.trans (hb.mono HBY.out.size))
        clear hb HBY
        go_wp2_with fail
        go_ret
        exact ⟨rfl, HBZ.out⟩
      | succ g =>
        have hk : k < 2 := by omega
        have HG := Lib.hid hkg
        clear hkg
        have hb := HBX.out
        have HBR := Lib.hid (Below.refl wr.heap.size wr)
        replace HL := Lib.hid (HL.out.upto hb)
        replace HO := Lib.hid (HO.out.upto hb)
        replace HIq := Lib.hid (HIq.out.upto hb)
        replace q0 := (hb.cell (p := ⟨w.heap.size, 0, none⟩) hz).trans q0
        replace q1 := (hb.cell (p := ⟨w.heap.size, 1, none⟩) hz).trans q1
        replace hz : w.heap.size < wr.heap.size := Nat.lt_of_lt_of_le hz hb.size
        clear hb
        go_wp2_with fail
        refine (KP.out _ HL.out HO.out).mono ?_
        rintro e w6 ⟨v, rfl, hown, hb⟩
        obtain ⟨Aw, cw, rfl, hI⟩ := ownsRow_ints hown
        have HIw := Lib.hid hI
        have HOw := Lib.hid hown
        replace HIq := Lib.hid (HIq.out.upto hb)
        replace HBR := Lib.hid (HBR.out.trans (hb.mono HBR.out.size))
        clear hb hown hI HL HO q0 q1 hz
        go_wp2_with fail
        refine (KS.out _ _ _ _ _ HIw.out HIq.out).mono ?_
        rintro e w7 ⟨rfl, hb⟩
        replace HOw := Lib.hid (ownsRow_below HOw.out hb)
        replace HBR := Lib.hid (HBR.out.trans (hb.mono HBR.out.size))
        clear hb HIw HIq
        go_wp2_with fail
        refine (spoil_one16 w7 wr.heap.size _ _ wl 1 (by decide) HOw.out (by omega) HBR.out.size).mono ?_
        rintro e w8 ⟨⟨v8, rfl⟩, hb⟩
        have HB8 := Lib.hid (HBR.out.trans hb)
        clear hb HBR HOw
        go_wp2_with fail
        go_roundg g
        case measure => omega
        case rel => exact ⟨k + 1, by have := HG.out; omega, by go_num, HBX.out.trans (HB8.out.mono HBX.out.size)⟩
end Go.Proofs.Ytmojjfdamdgegaa
