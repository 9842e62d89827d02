/- The text MtW. -/
import Derived.Deep.DeepCutAuto
import Derived.Test.YtmojjfdamdgegaaMg31
import Derived.Test.YtmojjfdamdgegaaMg47
import Derived.Test.YtmojjfdamdgegaaMg41
import Derived.Test.YtmojjfdamdgegaaMg49
import Derived.Test.YtmojjfdamdgegaaMg48
/- The walk of TreeMatches. -/
namespace Go.Proofs.Ytmojjfdamdgegaa
open Go.RowKit
set_option linter.unusedVariables false

theorem mt_lens (nb : Int) (ls : List Ln) (out : List Int) : (brgL nb ls out).length ≤ ls.length ∧ (treeL nb ls out).length ≤ ls.length ∧ (if outsE nb ls out = 0 then cycL nb ls out else []).length ≤ ls.length ∧ ∀ i, i < (if outsE nb ls out = 0 then cycL nb ls out else []).length → ((if outsE nb ls out = 0 then cycL nb ls out else []).getD i []).length ≤ ls.length := by
  have hsl := svcL_le out ls.length
  by_cases he : outsE nb ls out = 0
  · rw [if_pos he]
    refine ⟨?_, (tree_in he).1, ?_, fun i hi => ?_⟩
    · rw [brgL, if_pos he, brgTo, List.take_length]
      exact Nat.le_trans (List.length_filter_le _ _) hsl
    · rw [cyc_len he]
      exact Nat.le_trans (List.length_filter_le _ _) hsl
    · rw [cyc_len he] at hi
      obtain ⟨_, _, _, _, _, h5, h6⟩ := cyc_at he i hi
      rw [h5, List.length_set, h6.len]
      exact Nat.le_refl _
  · rw [if_neg he, brgL, if_neg he, treeL, if_neg he]
    exact ⟨by simp, by simp, by simp, fun i hi => by simp at hi⟩

set_option maxRecDepth 100000 in
set_option maxHeartbeats 8000000 in
theorem mt_walk (nb : Int) (A : Option Addr) (c : Nat) (ls : List Ln) (O : Option Addr) (co : Nat) (out : List Int) (w : World) (hl : LinesR w w.heap.size A ls) (ho : IntsR w w.heap.size O out) :
    Calls Try.prog 3 #[.agg #[.int .i64 nb, .slice A ls.length c], .slice O out.length co] w fun e w' => e = .returned (.bool true) ∧ Below w.heap.size w w' := by
  obtain ⟨i0, hi0, hz0, hz1, hz2⟩ := info_parts info_int
  have HL := Lib.hid hl
  have HO := Lib.hid ho
  clear hl ho
  have kl := fun W b hb => long_lit1 (.int .i64 nb) A ls.length c 25 W b hb O out.length co
  cases hlong : longB [out.length] ls.length with
  | true =>
    rw [hlong] at kl
    have KL := Lib.hid kl
    clear kl hlong
    have HB0 := Lib.hid (Below.refl w.heap.size w)
    go_enter Try.func3, Try.ntmps3
    go_wp2_with fail
    have hb := below_alloc2 w (.cells #[.int .i64 nb, .slice A ls.length c] 24) (.cells #[.slice O out.length co] 25)
    have q0 : ((w.alloc (.cells #[.int .i64 nb, .slice A ls.length c] 24)).alloc (.cells #[.slice O out.length co] 25)).cell? ⟨w.heap.size, 0, none⟩ = some (.int .i64 nb) := by simp
    have q1 : ((w.alloc (.cells #[.int .i64 nb, .slice A ls.length c] 24)).alloc (.cells #[.slice O out.length co] 25)).cell? ⟨w.heap.size, 1, none⟩ = some (.slice A ls.length c) := by simp
    have hz : w.heap.size < ((w.alloc (.cells #[.int .i64 nb, .slice A ls.length c] 24)).alloc (.cells #[.slice O out.length co] 25)).heap.size := by simp; omega
    have HB1 := Lib.hid (HB0.out.trans (hb.mono HB0.out.size))
    clear HB0
    replace HL := Lib.hid (HL.out.upto hb)
    replace HO := Lib.hid (HO.out.upto hb)
    clear hb
    refine (KL.out (w.alloc (.cells #[.int .i64 nb, .slice A ls.length c] 24)) _ (by simp)).mono ?_
    rintro e w2 ⟨rfl, hb⟩
    rw [← World.size_alloc (w.alloc (.cells #[.int .i64 nb, .slice A ls.length c] 24)) (.cells #[.slice O out.length co] 25)] at hb
    have HB2 := Lib.hid (HB1.out.trans (hb.mono HB1.out.size))
    clear HB1
    replace HL := Lib.hid (HL.out.upto hb)
    replace HO := Lib.hid (HO.out.upto hb)
    replace q0 := (hb.cell (p := ⟨w.heap.size, 0, none⟩) hz).trans q0
    replace q1 := (hb.cell (p := ⟨w.heap.size, 1, none⟩) hz).trans q1
    replace hz : w.heap.size < w2.heap.size := Nat.lt_of_lt_of_le hz hb.size
    clear hb
    go_wp2_with fail
    refine (awake16_any _).mono ?_
    rintro e w3 ⟨rfl, hb⟩
    have HB3 := Lib.hid (HB2.out.trans (hb.mono HB2.out.size))
    clear HB2
    replace HL := Lib.hid (HL.out.upto hb)
    replace HO := Lib.hid (HO.out.upto hb)
    replace q0 := (hb.cell (p := ⟨w.heap.size, 0, none⟩) hz).trans q0
    replace q1 := (hb.cell (p := ⟨w.heap.size, 1, none⟩) hz).trans q1
    replace hz : w.heap.size < w3.heap.size := Nat.lt_of_lt_of_le hz hb.size
    clear hb
    go_wp2_with fail
    go_ret
    exact ⟨rfl, HB3.out⟩
  | false =>
    rw [hlong] at kl
    have hb100 := longB_false hlong
    have h1 : out.length ≤ 100 := hb100.1 _ (by simp)
    have h2 : ls.length ≤ 100 := hb100.2
    have KL := Lib.hid kl
    clear kl hlong hb100
    have krb := fun W hl ho => refbrg_any nb A O c co ls out W hl ho (by omega) (by omega)
    have krt := fun W hl ho => reftree_any nb A O c co ls out W hl ho (by omega) (by omega)
    have krc := fun W hl ho => refcirc_any nb A O c co ls out W hl ho (by omega) (by omega)
    have kb := fun W hl ho => bridges_any nb A O c co ls out W hl ho (by omega) (by omega)
    have kt := fun W hl ho => tree_any nb A O c co ls out W hl ho (by omega) (by omega)
    have kc := fun W hl ho => cycles_any nb A O c co ls out W hl ho (by omega) (by omega)
    obtain ⟨hbl, htl, hrl, hrl2⟩ := mt_lens nb ls out
    generalize brgL nb ls out = bl at *
    generalize treeL nb ls out = tl at *
    generalize (if outsE nb ls out = 0 then cycL nb ls out else []) = rows at *
    generalize outsE nb ls out = er at *
    have ksb := fun X Y cx cy W hx hy => ints_same X Y cx cy bl W hx hy (by omega)
    have kst := fun X Y cx cy W hx hy => ints_same X Y cx cy tl W hx hy (by omega)
    have hrl3 : ∀ i, i < rows.length → (rows.getD i []).length ≤ 1000000 := fun i hi => by have := hrl2 i hi; omega
    have ksr := fun X Y cx cy W hx hy => rows_same X Y cx cy rows W hx hy (by omega) hrl3
    have e0 : (er != er) = false := by simp
    have KRB := Lib.hid krb
    have KRT := Lib.hid krt
    have KRC := Lib.hid krc
    have KB := Lib.hid kb
    have KT := Lib.hid kt
    have KC := Lib.hid kc
    have KSB := Lib.hid ksb
    have KST := Lib.hid kst
    have KSR := Lib.hid ksr
    have HRL := Lib.hid hrl3
    clear krb krt krc kb kt kc ksb kst ksr hrl2 hrl3
    have HB0 := Lib.hid (Below.refl w.heap.size w)
    go_enter Try.func3, Try.ntmps3
    go_wp2_with fail
    have hb := below_alloc2 w (.cells #[.int .i64 nb, .slice A ls.length c] 24) (.cells #[.slice O out.length co] 25)
    have q0 : ((w.alloc (.cells #[.int .i64 nb, .slice A ls.length c] 24)).alloc (.cells #[.slice O out.length co] 25)).cell? ⟨w.heap.size, 0, none⟩ = some (.int .i64 nb) := by simp
    have q1 : ((w.alloc (.cells #[.int .i64 nb, .slice A ls.length c] 24)).alloc (.cells #[.slice O out.length co] 25)).cell? ⟨w.heap.size, 1, none⟩ = some (.slice A ls.length c) := by simp
    have hz : w.heap.size < ((w.alloc (.cells #[.int .i64 nb, .slice A ls.length c] 24)).alloc (.cells #[.slice O out.length co] 25)).heap.size := by simp; omega
    have HB1 := Lib.hid (HB0.out.trans (hb.mono HB0.out.size))
    clear HB0
    replace HL := Lib.hid (HL.out.upto hb)
    replace HO := Lib.hid (HO.out.upto hb)
    clear hb
    refine (KL.out (w.alloc (.cells #[.int .i64 nb, .slice A ls.length c] 24)) _ (by simp)).mono ?_
    rintro e w2 ⟨rfl, hb⟩
    rw [← World.size_alloc (w.alloc (.cells #[.int .i64 nb, .slice A ls.length c] 24)) (.cells #[.slice O out.length co] 25)] at hb
    have HB2 := Lib.hid (HB1.out.trans (hb.mono HB1.out.size))
    clear HB1
    replace HL := Lib.hid (HL.out.upto hb)
    replace HO := Lib.hid (HO.out.upto hb)
    replace q0 := (hb.cell (p := ⟨w.heap.size, 0, none⟩) hz).trans q0
    replace q1 := (hb.cell (p := ⟨w.heap.size, 1, none⟩) hz).trans q1
    replace hz : w.heap.size < w2.heap.size := Nat.lt_of_lt_of_le hz hb.size
    clear hb
    go_wp2_with fail
    refine (KRB.out _ HL.out HO.out).mono ?_
    rintro e w3 ⟨v, rfl, hown, hb⟩
    obtain ⟨Ap, cp, rfl, hI⟩ := ownsRow_ints hown
    have HIp := Lib.hid hI
    clear hown hI
    have HB3 := Lib.hid (HB2.out.trans (hb.mono HB2.out.size))
    clear HB2
    replace HL := Lib.hid (HL.out.upto hb)
    replace HO := Lib.hid (HO.out.upto hb)
    replace q0 := (hb.cell (p := ⟨w.heap.size, 0, none⟩) hz).trans q0
    replace q1 := (hb.cell (p := ⟨w.heap.size, 1, none⟩) hz).trans q1
    replace hz : w.heap.size < w3.heap.size := Nat.lt_of_lt_of_le hz hb.size
    clear hb
    go_wp2_with fail
    refine (KRT.out _ HL.out HO.out).mono ?_
    rintro e w4 ⟨v, rfl, hown, hb⟩
    obtain ⟨Aq, cq, rfl, hI⟩ := ownsRow_ints hown
    have HIq := Lib.hid hI
    clear hown hI
    have HB4 := Lib.hid (HB3.out.trans (hb.mono HB3.out.size))
    clear HB3
    replace HL := Lib.hid (HL.out.upto hb)
    replace HO := Lib.hid (HO.out.upto hb)
    replace HIp := Lib.hid (HIp.out.upto hb)
    replace q0 := (hb.cell (p := ⟨w.heap.size, 0, none⟩) hz).trans q0
    replace q1 := (hb.cell (p := ⟨w.heap.size, 1, none⟩) hz).trans q1
    replace hz : w.heap.size < w4.heap.size := Nat.lt_of_lt_of_le hz hb.size
    clear hb
    go_wp2_with fail
    refine (KRC.out _ HL.out HO.out).mono ?_
    rintro e w5 ⟨v, rfl, hown, hb⟩
    obtain ⟨Ar, cr, rfl, hR⟩ := hown.read
    have HR := Lib.hid hR
    clear hown hR
    have HB5 := Lib.hid (HB4.out.trans (hb.mono HB4.out.size))
    clear HB4
    replace HL := Lib.hid (HL.out.upto hb)
    replace HO := Lib.hid (HO.out.upto hb)
    replace HIp := Lib.hid (HIp.out.upto hb)
    replace HIq := Lib.hid (HIq.out.upto hb)
    replace q0 := (hb.cell (p := ⟨w.heap.size, 0, none⟩) hz).trans q0
    replace q1 := (hb.cell (p := ⟨w.heap.size, 1, none⟩) hz).trans q1
    replace hz : w.heap.size < w5.heap.size := Nat.lt_of_lt_of_le hz hb.size
    clear hb
    go_wp2_with fail
    go_loopg [11, 12, 13, 14, 15, 16, 17] 2 (fun g i s12 s13 s14 s15 s16 s17 wr => ∃ k : Nat, k + g = 2 ∧ i = .int .i64 k ∧ Below w5.heap.size w5 wr)
    case atStart => exact ⟨0, by omega, rfl, Below.refl _ _⟩
    case round =>
      obtain ⟨k, hkg, rfl, hbx⟩ := hrel
      have HBX := Lib.hid hbx
      clear hbx
      cases gk with
      | zero =>
        obtain rfl : k = 2 := by omega
        clear hkg
        have HBY := Lib.hid (HB5.out.trans (HBX.out.mono HB5.out.size))
        clear HB5 HBX HL HO HIq HIp HR
        go_wp2_with fail
        refine (awake16_any _).mono ?_
        rintro e w9 ⟨rfl, hb⟩
        have HBZ := Lib.hid (HBY.out.trans (hb.mono HBY.out.size))
        clear hb HBY
        go_wp2_with fail
        go_ret
        exact ⟨rfl, HBZ.out⟩
      | succ g =>
        have hk : k < 2 := by omega
        have HG := Lib.hid hkg
        clear hkg
        have hb := HBX.out
        have HBR := Lib.hid (Below.refl wr.heap.size wr)
        replace HL := Lib.hid (HL.out.upto hb)
        replace HO := Lib.hid (HO.out.upto hb)
        replace HIp := Lib.hid (HIp.out.upto hb)
        replace HIq := Lib.hid (HIq.out.upto hb)
        replace HR := Lib.hid (HR.out.upto hb)
        replace q0 := (hb.cell (p := ⟨w.heap.size, 0, none⟩) hz).trans q0
        replace q1 := (hb.cell (p := ⟨w.heap.size, 1, none⟩) hz).trans q1
        replace hz : w.heap.size < wr.heap.size := Nat.lt_of_lt_of_le hz hb.size
        clear hb
        go_wp2_with fail
        refine (KB.out _ HL.out HO.out).mono ?_
        rintro e wa ⟨v, rfl, hown, hb⟩
        obtain ⟨Aa, ca, rfl, hI⟩ := ownsRow_ints hown
        have HIa := Lib.hid hI
        have HOa := Lib.hid (ownsRow_base hown HBR.out.size)
        replace HL := Lib.hid (HL.out.upto hb)
        replace HO := Lib.hid (HO.out.upto hb)
        replace HIp := Lib.hid (HIp.out.upto hb)
        replace HIq := Lib.hid (HIq.out.upto hb)
        replace HR := Lib.hid (HR.out.upto hb)
        replace q0 := (hb.cell (p := ⟨w.heap.size, 0, none⟩) hz).trans q0
        replace q1 := (hb.cell (p := ⟨w.heap.size, 1, none⟩) hz).trans q1
        replace hz : w.heap.size < wa.heap.size := Nat.lt_of_lt_of_le hz hb.size
        replace HBR := Lib.hid (HBR.out.trans (hb.mono HBR.out.size))
        clear hb hown hI
        go_wp2_with fail
        refine (KT.out _ HL.out HO.out).mono ?_
        rintro e wb ⟨v, rfl, hown, hb⟩
        obtain ⟨Ab, cb, rfl, hI⟩ := ownsRow_ints hown
        have HIb := Lib.hid hI
        have HOb := Lib.hid (ownsRow_base hown HBR.out.size)
        replace HL := Lib.hid (HL.out.upto hb)
        replace HO := Lib.hid (HO.out.upto hb)
        replace HIp := Lib.hid (HIp.out.upto hb)
        replace HIq := Lib.hid (HIq.out.upto hb)
        replace HR := Lib.hid (HR.out.upto hb)
        replace HIa := Lib.hid (HIa.out.upto hb)
        replace HOa := Lib.hid (ownsRow_below HOa.out hb)
        replace q0 := (hb.cell (p := ⟨w.heap.size, 0, none⟩) hz).trans q0
        replace q1 := (hb.cell (p := ⟨w.heap.size, 1, none⟩) hz).trans q1
        replace hz : w.heap.size < wb.heap.size := Nat.lt_of_lt_of_le hz hb.size
        replace HBR := Lib.hid (HBR.out.trans (hb.mono HBR.out.size))
        clear hb hown hI
        go_wp2_with fail
        refine (KC.out _ HL.out HO.out).mono ?_
        rintro e wc ⟨v, rfl, hown, hb⟩
        obtain ⟨Ac, cc, rfl, hI⟩ := hown.read
        have HIc := Lib.hid hI
        have HOc := Lib.hid hown
        replace HL := Lib.hid (HL.out.upto hb)
        replace HO := Lib.hid (HO.out.upto hb)
        replace HIp := Lib.hid (HIp.out.upto hb)
        replace HIq := Lib.hid (HIq.out.upto hb)
        replace HR := Lib.hid (HR.out.upto hb)
        replace HIa := Lib.hid (HIa.out.upto hb)
        replace HOa := Lib.hid (ownsRow_below HOa.out hb)
        replace HIb := Lib.hid (HIb.out.upto hb)
        replace HOb := Lib.hid (ownsRow_below HOb.out hb)
        replace q0 := (hb.cell (p := ⟨w.heap.size, 0, none⟩) hz).trans q0
        replace q1 := (hb.cell (p := ⟨w.heap.size, 1, none⟩) hz).trans q1
        replace hz : w.heap.size < wc.heap.size := Nat.lt_of_lt_of_le hz hb.size
        replace HOc := Lib.hid (HOc.out.base_ HBR.out.size)
        replace HBR := Lib.hid (HBR.out.trans (hb.mono HBR.out.size))
        clear hb hown hI
        clear HL HO q0 q1 hz
        go_wp2_with fail
        refine (KSB.out _ _ _ _ _ HIa.out HIp.out).mono ?_
        rintro e wx ⟨rfl, hb⟩
        replace HIb := Lib.hid (HIb.out.upto hb)
        replace HIc := Lib.hid (HIc.out.upto hb)
        replace HIq := Lib.hid (HIq.out.upto hb)
        replace HR := Lib.hid (HR.out.upto hb)
        replace HOa := Lib.hid (ownsRow_below HOa.out hb)
        replace HOb := Lib.hid (ownsRow_below HOb.out hb)
        replace HOc := Lib.hid (HOc.out.kept hb)
        replace HBR := Lib.hid (HBR.out.trans (hb.mono HBR.out.size))
        clear hb
        go_wp2_with fail
        refine (KST.out _ _ _ _ _ HIb.out HIq.out).mono ?_
        rintro e wy ⟨rfl, hb⟩
        replace HIc := Lib.hid (HIc.out.upto hb)
        replace HR := Lib.hid (HR.out.upto hb)
        replace HOa := Lib.hid (ownsRow_below HOa.out hb)
        replace HOb := Lib.hid (ownsRow_below HOb.out hb)
        replace HOc := Lib.hid (HOc.out.kept hb)
        replace HBR := Lib.hid (HBR.out.trans (hb.mono HBR.out.size))
        clear hb
        go_wp2_with fail
        refine (KSR.out _ _ _ _ _ HIc.out HR.out).mono ?_
        rintro e wz ⟨rfl, hb⟩
        replace HOa := Lib.hid (ownsRow_below HOa.out hb)
        replace HOb := Lib.hid (ownsRow_below HOb.out hb)
        replace HOc := Lib.hid (HOc.out.kept hb)
        replace HBR := Lib.hid (HBR.out.trans (hb.mono HBR.out.size))
        clear hb
        go_wp2_with fail
        refine (spoil_pair wz wr.heap.size _ _ _ bl tl 2 (by decide) HOa.out HOb.out (by omega) (by omega) _ rows HOc.out HBR.out.size).mono ?_
        rintro e w14 ⟨⟨v14, rfl⟩, hb, hcan⟩
        have HB14 := Lib.hid (HBR.out.trans hb)
        have HCAN := Lib.hid hcan
        clear hb hcan HOa HOb HOc HBR
        go_wp2_with fail
        refine (spoil_rows w14 wr.heap.size _ rows HCAN.out (by omega) HRL.out).mono ?_
        rintro e w15 ⟨⟨v15, rfl⟩, hb⟩
        have HB15 := Lib.hid (HB14.out.trans hb)
        clear hb HCAN HB14
        go_wp2_with fail
        go_roundg g
        case measure => omega
        case rel => exact ⟨k + 1, by have := HG.out; omega, by go_num, HBX.out.trans (HB15.out.mono HBX.out.size)⟩
end Go.Proofs.Ytmojjfdamdgegaa
