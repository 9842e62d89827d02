/- The walk of IslandLabelling. -/
import Derived.Test.YtkncmhcobbjoiaaIslF
import Derived.Test.YtkncmhcobbjoiaaIslR
namespace Go.Proofs.Ytkncmhcobbjoiaa
open Go.RowKit
set_option linter.unusedVariables false

set_option maxRecDepth 100000 in
set_option maxHeartbeats 4000000 in
theorem lab_walk (nb : Int) (A A' A2 : Option Addr) (c c' c2 : Nat) (ls : List Ln) (out labels : List Int) (w : World) (hl : LinesR w w.heap.size A ls) (ho : IntsR w w.heap.size A' out) (hlb : IntsR w w.heap.size A2 labels) :
    Calls Try.prog 3 #[.agg #[.int .i64 nb, .slice A ls.length c], .slice A' out.length c', .slice A2 labels.length c2] w fun e w' => e = .returned (.bool true) ∧ Below w.heap.size w w' := by
  have HL := Lib.hid hl
  have HO := Lib.hid ho
  have HLB := Lib.hid hlb
  clear hl ho hlb
  have k1 := fun b W hb => long_lit2 (.int .i64 nb) A ls.length c 25 W b hb A' A2 out.length c' labels.length c2
  cases hlong : longB [out.length, labels.length] ls.length with
  | true =>
    rw [hlong] at k1
    have K1 := Lib.hid k1
    clear k1 hlong
    go_enter Try.func3, Try.ntmps3
    go_wp2_with fail
    refine (K1.out _ _ (by simp)).mono ?_
    rintro e w1 ⟨rfl, hb1⟩
    have hz := hb1.size
    go_wp2_with fail
    refine (awake_any _).mono ?_
    rintro e w2 ⟨rfl, hb2⟩
    go_wp2_with fail
    go_ret
    refine ⟨rfl, (below_alloc2 w _ _).trans ((hb1.mono (by simp; omega)).trans (hb2.mono ?_))⟩
    simp at hz
    omega
  | false =>
    rw [hlong] at k1
    have hb100 := longB_false hlong
    have ho1 : out.length ≤ 100 := hb100.1 _ (by simp)
    have hl1 : labels.length ≤ 100 := hb100.1 _ (by simp)
    have hm1 : ls.length ≤ 100 := hb100.2
    have K1 := Lib.hid k1
    clear k1 hlong hb100
    go_enter Try.func3, Try.ntmps3
    go_wp2_with fail
    refine (K1.out _ _ (by simp)).mono ?_
    rintro e w1 ⟨rfl, hb1⟩
    have hz := hb1.size
    simp only [World.size_alloc] at hz
    have hB1 : Below w.heap.size w w1 := (below_alloc2 w _ _).trans (hb1.mono (by simp; omega))
    have q0 : w1.cell? ⟨w.heap.size, 0, none⟩ = some (.int .i64 nb) := (hb1.cell (by simp; omega)).trans (by simp)
    have q1 : w1.cell? ⟨w.heap.size, 1, none⟩ = some (.slice A ls.length c) := (hb1.cell (by simp; omega)).trans (by simp)
    have HB1 := Lib.hid hB1
    clear hb1 hB1
    go_wp2_with fail
    refine (awake_any _).mono ?_
    rintro e w2 ⟨rfl, hb2⟩
    have q0' := (hb2.cell (p := ⟨w.heap.size, 0, none⟩) (by show w.heap.size < _; omega)).trans q0
    have q1' := (hb2.cell (p := ⟨w.heap.size, 1, none⟩) (by show w.heap.size < _; omega)).trans q1
    have HB2 := Lib.hid (HB1.out.trans (hb2.mono HB1.out.size))
    have hz2 : w.heap.size + 1 ≤ w2.heap.size := by have := hb2.size; omega
    clear hb2 q0 q1 HB1 hz
    have HL2 := Lib.hid (HL.out.upto HB2.out)
    have HO2 := Lib.hid (HO.out.upto HB2.out)
    have HLB2 := Lib.hid (HLB.out.upto HB2.out)
    clear HL HO HLB K1
    have k2 := of_any nb A A' c c' ls out w2 HL2.out HO2.out (by omega) (by omega)
    by_cases he : outsE nb ls out = 0
    · rw [he] at k2
      have hll := ofL_length he
      have hv := valid_of_check (check_of_outs he).1
      have hn6 := hv.hi
      have hn1 := hv.lo
      have K2 := Lib.hid k2
      have HE := Lib.hid he
      clear k2 he hv
      have hlI : ((ofL nb ls out).length : Int) = nb := by rw [hll]; omega
      go_wp2_with fail
      refine K2.out.mono ?_
      rintro e w3 ⟨v, rfl, hown, hb3⟩
      obtain ⟨B1, d1, rfl, hI1⟩ := ownsRow_ints hown
      have HB3 := Lib.hid (HB2.out.trans (hb3.mono HB2.out.size))
      have HI1 := Lib.hid hI1
      have HL3 := Lib.hid (HL2.out.upto hb3)
      have HO3 := Lib.hid (HO2.out.upto hb3)
      have HLB3 := Lib.hid (HLB2.out.upto hb3)
      have q0 := (hb3.cell (p := ⟨w.heap.size, 0, none⟩) (by show w.heap.size < _; omega)).trans q0'
      have q1 := (hb3.cell (p := ⟨w.heap.size, 1, none⟩) (by show w.heap.size < _; omega)).trans q1'
      have hz3 : w.heap.size + 1 ≤ w3.heap.size := by have := hb3.size; omega
      have k3 := cons_any nb A A' B1 c c' d1 ls out (ofL nb ls out) w3 HL3.out HO3.out hI1 (by omega) (by omega) (by omega)
      rw [consB, if_pos ⟨HE.out, by omega⟩, of_alike HE.out, consE, if_pos HE.out, if_neg (by omega)] at k3
      have K3 := Lib.hid k3
      clear hown hb3 hI1 HB2 HL2 HO2 HLB2 q0' q1' hz2 K2 k3
      have HLI := Lib.hid hlI
      have hlI2 : (((ofL nb ls out).length : Int) != nb) = false := by rw [hlI]; simp
      have HLL := Lib.hid hll
      clear hlI hll
      go_wp2_with fail
      refine K3.out.mono ?_
      rintro e w4 ⟨rfl, hb4⟩
      have HB4 := Lib.hid (HB3.out.trans (hb4.mono HB3.out.size))
      have HI4 := Lib.hid (HI1.out.upto hb4)
      have HL4 := Lib.hid (HL3.out.upto hb4)
      have HO4 := Lib.hid (HO3.out.upto hb4)
      have HLB4 := Lib.hid (HLB3.out.upto hb4)
      have q0' := (hb4.cell (p := ⟨w.heap.size, 0, none⟩) (by show w.heap.size < _; omega)).trans q0
      have q1' := (hb4.cell (p := ⟨w.heap.size, 1, none⟩) (by show w.heap.size < _; omega)).trans q1
      have hz4 : w.heap.size + 1 ≤ w4.heap.size := by have := hb4.size; omega
      have k4 := cons_any nb A A' A2 c c' c2 ls out labels w4 HL4.out HO4.out HLB4.out (by omega) (by omega) (by omega)
      clear hb4 HB3 HI1 HL3 HO3 HLB3 q0 q1 hz3 K3
      by_cases hlen : nb < labels.length
      · rw [consB, if_neg (by omega), consE, if_pos HE.out, if_pos hlen] at k4
        have K4 := Lib.hid k4
        clear k4
        go_wp2_with fail
        refine K4.out.mono ?_
        rintro e w5 ⟨rfl, hb5⟩
        have q0 := (hb5.cell (p := ⟨w.heap.size, 0, none⟩) (by show w.heap.size < _; omega)).trans q0'
        have HB5 := Lib.hid (HB4.out.trans (hb5.mono HB4.out.size))
        clear hb5
        go_wp2_with fail
        go_ret
        exact ⟨rfl, HB5.out⟩
      · rw [consB, if_pos ⟨HE.out, hlen⟩, consE, if_pos HE.out, if_neg hlen] at k4
        have hlab := fun h => labelling (labels := labels) HE.out (by omega) h
        cases hal : alike labels (ends ls (svcL out ls.length)) with
        | false =>
          rw [hal] at k4
          have K4 := Lib.hid k4
          clear k4 hal hlab
          go_wp2_with fail
          refine K4.out.mono ?_
          rintro e w5 ⟨rfl, hb5⟩
          have q0 := (hb5.cell (p := ⟨w.heap.size, 0, none⟩) (by show w.heap.size < _; omega)).trans q0'
          have HB5 := Lib.hid (HB4.out.trans (hb5.mono HB4.out.size))
          clear hb5
          go_wp2_with fail
          go_loopg [13] 1 (fun g i wr => i = .int .i64 0 ∧ w5 = wr)
          case atStart => exact ⟨rfl, rfl⟩
          case round =>
            obtain ⟨rfl, rfl⟩ := hrel
            by_cases h0 : 0 < labels.length
            · have h0' : decide (0 < labels.length) = true := decide_eq_true h0
              go_wp2_with fail
              go_ret
              exact ⟨rfl, HB5.out⟩
            · have h0' : decide (0 < labels.length) = false := decide_eq_false h0
              go_wp2_with fail
              go_ret
              exact ⟨rfl, HB5.out⟩
        | true =>
          rw [hal] at k4
          have K4 := Lib.hid k4
          have HLab := Lib.hid (hlab hal)
          clear k4 hal hlab
          go_wp2_with fail
          refine K4.out.mono ?_
          rintro e w5 ⟨rfl, hb5⟩
          have q0 := (hb5.cell (p := ⟨w.heap.size, 0, none⟩) (by show w.heap.size < _; omega)).trans q0'
          have HB5 := Lib.hid (HB4.out.trans (hb5.mono HB4.out.size))
          have HI5 := Lib.hid (HI4.out.upto hb5)
          have HLB5 := Lib.hid (HLB4.out.upto hb5)
          clear hb5
          go_wp2_with fail
          have hlle : labels.length ≤ (ofL nb ls out).length := by have := HLI.out; omega
          have hol := ofL_length_le nb ls out
          generalize ofL nb ls out = l at *
          clear K4 HI4 HLB4 HL4 HO4
          go_loopg [6, 13, 14] labels.length (fun g s6 i s14 wr => ∃ a q : Nat, a + g = labels.length ∧ i = .int .i64 a ∧ wr = w5.drewN q)
          case atStart => exact ⟨0, 0, by omega, rfl, rfl⟩
          case round =>
            obtain ⟨a, q, hag, rfl, rfl⟩ := hrel
            cases gk with
            | zero =>
              obtain rfl : a = labels.length := by omega
              clear hag
              go_wp2_with fail
              go_ret
              exact ⟨rfl, below_drewN HB5.out _⟩
            | succ g =>
              have ha : a < labels.length := by omega
              have ha' : decide (a < labels.length) = true := by simp; omega
              have HG := Lib.hid hag
              clear hag
              obtain ⟨b, off, rfl, hb, hc⟩ := HI5.out (by omega)
              obtain ⟨b', off', rfl, hb', hc'⟩ := HLB5.out (by omega)
              have ea := hc a (by omega)
              have ea' := hc' a ha
              have HC := Lib.hid hc
              have HC' := Lib.hid hc'
              clear hc hc'
              go_wp2_with fail
              go_loopg [6, 14] labels.length (fun g s6 i wr => ∃ j q : Nat, j + g = labels.length ∧ i = .int .i64 j ∧ wr = w5.drewN q)
              case atStart => exact ⟨0, q, by omega, rfl, rfl⟩
              case round =>
                obtain ⟨j, q2, hjg, rfl, rfl⟩ := hrel
                cases gk with
                | zero =>
                  obtain rfl : j = labels.length := by omega
                  clear hjg
                  go_wp2_with fail
                  go_roundg g
                  case measure => omega
                  case rel => exact ⟨a + 1, _, by have := HG.out; omega, by go_num, rfl⟩
                | succ g2 =>
                  have hj : j < labels.length := by omega
                  have HG2 := Lib.hid hjg
                  clear hjg
                  have ej := HC.out j (by omega)
                  have ej' := HC'.out j hj
                  have hjl : j < l.length := by omega
                  have hal : a < l.length := by omega
                  have hsame := HLab.out a j ha hj
                  by_cases heq : l.getD a 0 = l.getD j 0
                  · have h2 := hsame heq
                    have b1 : (l.getD a 0 == l.getD j 0) = true := by rw [heq]; simp
                    have b2 : (labels.getD a 0 != labels.getD j 0) = false := by rw [h2]; simp
                    clear hsame heq h2
                    generalize l.getD a 0 = x1 at *
                    generalize l.getD j 0 = x2 at *
                    generalize labels.getD a 0 = y1 at *
                    generalize labels.getD j 0 = y2 at *
                    go_wp2_with fail
                    go_quiet (fail)
                    go_wp2_with fail
                    go_roundg g2
                    case measure => omega
                    case rel => exact ⟨j + 1, _, by have := HG2.out; omega, by go_num, rfl⟩
                  · have b1 : (l.getD a 0 == l.getD j 0) = false := by rw [beq_eq_false_iff_ne]; exact heq
                    clear hsame heq
                    generalize l.getD a 0 = x1 at *
                    generalize l.getD j 0 = x2 at *
                    generalize labels.getD a 0 = y1 at *
                    generalize labels.getD j 0 = y2 at *
                    go_wp2_with fail
                    go_quiet (fail)
                    go_wp2_with fail
                    go_roundg g2
                    case measure => omega
                    case rel => exact ⟨j + 1, _, by have := HG2.out; omega, by go_num, rfl⟩
    · have hnil := ofL_nil he
      rw [hnil] at k2
      have K2 := Lib.hid k2
      have he' : (outsE nb ls out != 0) = true := by rw [bne_iff_ne]; exact he
      generalize outsE nb ls out = er at *
      clear k2 he hnil
      go_wp2_with fail
      refine K2.out.mono ?_
      rintro e w3 ⟨v, rfl, hown, hb3⟩
      obtain ⟨B1, d1, rfl, _⟩ := ownsRow_ints hown
      clear hown
      go_wp2_with fail
      go_ret
      exact ⟨rfl, HB2.out.trans (hb3.mono HB2.out.size)⟩
end Go.Proofs.Ytkncmhcobbjoiaa
