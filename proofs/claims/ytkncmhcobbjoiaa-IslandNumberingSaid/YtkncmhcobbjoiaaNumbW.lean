/- The walk of IslandNumbering. -/
import Derived.Test.YtkncmhcobbjoiaaIslF
import Derived.Test.YtkncmhcobbjoiaaMembQ
namespace Go.Proofs.Ytkncmhcobbjoiaa
open Go.RowKit
set_option linter.unusedVariables false

def sumTo (rows : List (List Int)) (i : Nat) : Nat := ((rows.take i).map List.length).sum
theorem sumTo_succ {rows : List (List Int)} {i : Nat} (h : i < rows.length) : sumTo rows (i + 1) = sumTo rows i + (rows.getD i []).length := by
  unfold sumTo
  rw [List.take_succ_eq_append_getElem h, getD_eq _ _ _ h]
  simp only [List.map_append, List.map_cons, List.map_nil, List.sum_append, List.sum_cons, List.sum_nil, Nat.add_zero]
theorem sumTo_le (rows : List (List Int)) (i : Nat) : sumTo rows i ≤ (rows.map List.length).sum := by
  have h : (rows.map List.length).sum = ((rows.take i).map List.length).sum + ((rows.drop i).map List.length).sum := by
    rw [← List.sum_append, ← List.map_append, List.take_append_drop]
  unfold sumTo
  omega

set_option maxRecDepth 100000 in
set_option maxHeartbeats 8000000 in
theorem numb_walk (nb : Int) (A : Option Addr) (c : Nat) (ls : List Ln) (A' : Option Addr) (c' : Nat) (out : List Int) (w : World) (hl : LinesR w w.heap.size A ls) (ho : IntsR w w.heap.size A' out) :
    Calls Try.prog 7 #[.agg #[.int .i64 nb, .slice A ls.length c], .slice A' out.length c'] w fun e w' => e = .returned (.bool true) ∧ Below w.heap.size w w' := by
  have HL := Lib.hid hl
  have HO := Lib.hid ho
  clear hl ho
  have k1 := fun b W hb => long_lit1 (.int .i64 nb) A ls.length c 25 W b hb A' out.length c'
  cases hlong : longB [out.length] ls.length with
  | true =>
    rw [hlong] at k1
    have K1 := Lib.hid k1
    clear k1 hlong
    go_enter Try.func7, Try.ntmps7
    go_wp2_with fail
    refine (K1.out _ _ (by simp)).mono ?_
    rintro e w1 ⟨rfl, hb1⟩
    have hz := hb1.size
    go_wp2_with fail
    refine (awake_any _).mono ?_
    rintro e w2 ⟨rfl, hb2⟩
    go_wp2_with fail
    go_ret
    refine ⟨rfl, (below_alloc2 w _ _).trans ((hb1.mono (by simp; omega)).trans (hb2.mono ?_))⟩
    simp at hz
    omega
  | false =>
    rw [hlong] at k1
    have hb100 := longB_false hlong
    have ho1 : out.length ≤ 100 := hb100.1 _ (by simp)
    have hm1 : ls.length ≤ 100 := hb100.2
    have K1 := Lib.hid k1
    clear k1 hlong hb100
    go_enter Try.func7, Try.ntmps7
    go_wp2_with fail
    refine (K1.out _ _ (by simp)).mono ?_
    rintro e w1 ⟨rfl, hb1⟩
    have hz := hb1.size
    simp only [World.size_alloc] at hz
    have hB1 : Below w.heap.size w w1 := (below_alloc2 w _ _).trans (hb1.mono (by simp; omega))
    have q0 : w1.cell? ⟨w.heap.size, 0, none⟩ = some (.int .i64 nb) := (hb1.cell (by simp; omega)).trans (by simp)
    have q1 : w1.cell? ⟨w.heap.size, 1, none⟩ = some (.slice A ls.length c) := (hb1.cell (by simp; omega)).trans (by simp)
    have HB1 := Lib.hid hB1
    clear hb1 hB1
    go_wp2_with fail
    refine (awake_any _).mono ?_
    rintro e w2 ⟨rfl, hb2⟩
    replace q0 := (hb2.cell (p := ⟨w.heap.size, 0, none⟩) (by show w.heap.size < _; omega)).trans q0
    replace q1 := (hb2.cell (p := ⟨w.heap.size, 1, none⟩) (by show w.heap.size < _; omega)).trans q1
    have HB2 := Lib.hid (HB1.out.trans (hb2.mono HB1.out.size))
    have hz2 : w.heap.size + 1 ≤ w2.heap.size := by have := hb2.size; omega
    clear hb2 HB1 hz K1
    replace HL := Lib.hid (HL.out.upto HB2.out)
    replace HO := Lib.hid (HO.out.upto HB2.out)
    have k2 := fun W hl ho => of_any nb A A' c c' ls out W hl ho (by omega) (by omega)
    have k3 := fun W hl ho => refs_any nb A A' c c' ls out W hl ho (by omega) (by omega)
    have k4 := fun W hl ho => memb_any nb A A' c c' ls out W hl ho (by omega) (by omega)
    have k5 := fun W hl ho => count_any nb A A' c c' ls out W hl ho (by omega) (by omega)
    by_cases he : outsE nb ls out = 0
    · rw [he] at k2 k3 k4 k5
      have hll := ofL_length he
      have hv := valid_of_check (check_of_outs he).1
      have hn6 := hv.hi
      have hn1 := hv.lo
      have hmem := mem_to (numb_of he) (ofL nb ls out).length (Nat.le_refl _)
      have hrl := refsTo_le (ofL nb ls out) (ofL nb ls out).length
      unfold refsL at k3
      unfold membL at k4
      unfold cntL refsL at k5
      have hlI : ((ofL nb ls out).length : Int) = nb := by rw [hll]; omega
      have hl6 : (ofL nb ls out).length ≤ 6 := ofL_length_le _ _ _
      clear he hv hll
      generalize refsTo (ofL nb ls out) (ofL nb ls out).length = refs at *
      generalize memTo (ofL nb ls out) (ofL nb ls out).length = rows at *
      generalize ofL nb ls out = l at *
      have HMEM := Lib.hid hmem
      have HLI := Lib.hid hlI
      have hb0 : ((l.length : Int) != nb) = false := by rw [hlI]; simp
      have hrr : rows.length = refs.length := hmem.len
      have hb3 : (((refs.length : Nat) : Int) != (rows.length : Int)) = false := by rw [hrr]; simp
      have HRR := Lib.hid hrr
      have K2 := Lib.hid k2
      have K3 := Lib.hid k3
      have K4 := Lib.hid k4
      have K5 := Lib.hid k5
      clear k2 k3 k4 k5 hmem hlI hrr
      go_wp2_with fail
      refine (K2.out w2 HL.out HO.out).mono ?_
      rintro e w3 ⟨v, rfl, hown, hb⟩
      have HB3 := Lib.hid (HB2.out.trans (hb.mono HB2.out.size))
      replace q0 := (hb.cell (p := ⟨w.heap.size, 0, none⟩) (by show w.heap.size < _; omega)).trans q0
      replace q1 := (hb.cell (p := ⟨w.heap.size, 1, none⟩) (by show w.heap.size < _; omega)).trans q1
      have hz3 : w.heap.size + 1 ≤ w3.heap.size := by have := hb.size; omega
      replace HL := Lib.hid (HL.out.upto hb)
      replace HO := Lib.hid (HO.out.upto hb)
      obtain ⟨A1, c1, rfl, hI1⟩ := ownsRow_ints hown
      have HI1 := Lib.hid hI1
      clear hown hI1
      clear hb HB2 hz2
      go_wp2_with fail
      refine (K3.out w3 HL.out HO.out).mono ?_
      rintro e w4 ⟨v, rfl, hown, hb⟩
      have HB4 := Lib.hid (HB3.out.trans (hb.mono HB3.out.size))
      replace q0 := (hb.cell (p := ⟨w.heap.size, 0, none⟩) (by show w.heap.size < _; omega)).trans q0
      replace q1 := (hb.cell (p := ⟨w.heap.size, 1, none⟩) (by show w.heap.size < _; omega)).trans q1
      have hz4 : w.heap.size + 1 ≤ w4.heap.size := by have := hb.size; omega
      replace HL := Lib.hid (HL.out.upto hb)
      replace HO := Lib.hid (HO.out.upto hb)
      replace HI1 := Lib.hid (HI1.out.upto hb)
      obtain ⟨A2, c2, rfl, hI2⟩ := ownsRow_ints hown
      have HI2 := Lib.hid hI2
      clear hown hI2
      clear hb HB3 hz3
      go_wp2_with fail
      refine (K4.out w4 HL.out HO.out).mono ?_
      rintro e w5 ⟨v, rfl, hown, hb⟩
      have HB5 := Lib.hid (HB4.out.trans (hb.mono HB4.out.size))
      replace q0 := (hb.cell (p := ⟨w.heap.size, 0, none⟩) (by show w.heap.size < _; omega)).trans q0
      replace q1 := (hb.cell (p := ⟨w.heap.size, 1, none⟩) (by show w.heap.size < _; omega)).trans q1
      have hz5 : w.heap.size + 1 ≤ w5.heap.size := by have := hb.size; omega
      replace HL := Lib.hid (HL.out.upto hb)
      replace HO := Lib.hid (HO.out.upto hb)
      replace HI1 := Lib.hid (HI1.out.upto hb)
      replace HI2 := Lib.hid (HI2.out.upto hb)
      obtain ⟨A3, c3, rfl, hI3⟩ := hown.read
      have HI3 := Lib.hid hI3
      clear hown hI3
      clear hb HB4 hz4
      go_wp2_with fail
      refine (K5.out w5 HL.out HO.out).mono ?_
      rintro e w6 ⟨rfl, hb⟩
      have HB6 := Lib.hid (HB5.out.trans (hb.mono HB5.out.size))
      replace q0 := (hb.cell (p := ⟨w.heap.size, 0, none⟩) (by show w.heap.size < _; omega)).trans q0
      replace q1 := (hb.cell (p := ⟨w.heap.size, 1, none⟩) (by show w.heap.size < _; omega)).trans q1
      have hz6 : w.heap.size + 1 ≤ w6.heap.size := by have := hb.size; omega
      replace HI1 := Lib.hid (HI1.out.upto hb)
      replace HI2 := Lib.hid (HI2.out.upto hb)
      replace HI3 := Lib.hid (HI3.out.upto hb)
      clear hb HB5 hz5
      clear K2 K3 K4 K5 HL HO q1
      go_wp2_with fail
      go_loopg [4, 13, 14, 15, 16] refs.length (fun g s4 s13 s14 s15 s16 wr => ∃ i q : Nat, i + g = refs.length ∧ s14 = .int .i64 i ∧ s13 = .int .i64 (sumTo rows i : Nat) ∧ wr = w6.drewN q)
      case atStart => exact ⟨0, 0, by omega, rfl, rfl, rfl⟩
      case round =>
        obtain ⟨i, q, hig, rfl, rfl, rfl⟩ := hrel
        have hsl := sumTo_le rows i
        rw [HMEM.out.sum] at hsl
        cases gk with
        | zero =>
          obtain rfl : i = refs.length := by omega
          clear hig
          have hS : sumTo rows refs.length = l.length := by
            rw [← HRR.out]
            unfold sumTo
            rw [List.take_length]
            exact HMEM.out.sum
          have hbE : (((sumTo rows refs.length : Nat) : Int) == nb) = true := by rw [hS, HLI.out]; simp
          clear hS
          generalize sumTo rows refs.length = S at *
          go_wp2_with fail
          go_ret
          exact ⟨rfl, below_drewN HB6.out _⟩
        | succ g =>
          have hi : i < refs.length := by omega
          have hir : i < rows.length := by have := HRR.out; omega
          have HG := Lib.hid hig
          clear hig
          have hss := sumTo_succ hir
          have hsl2 := sumTo_le rows (i + 1)
          rw [HMEM.out.sum] at hsl2
          obtain ⟨hf1, hf2⟩ := HMEM.out.first i hir
          have hris := HMEM.out.rising i
          have hrow := HMEM.out.row i hir
          obtain ⟨b3, off3, rfl, hlt3, hc3⟩ := HI3.out (by omega)
          obtain ⟨Ai, ci, hcell, hIi⟩ := hc3 i hir
          obtain ⟨b2, off2, rfl, hlt2, hc2⟩ := HI2.out (by omega)
          have e2 := hc2 i hi
          generalize rows.getD i [] = r at *
          obtain ⟨bi, offi, rfl, hlti, hci⟩ := hIi hf1
          have e0 := hci 0 hf1
          rw [hf2, Nat.add_zero] at e0
          have hrl6 : r.length ≤ 6 := by omega
          have t0 : ((r.length : Int) == 0) = false := by rw [beq_eq_false_iff_ne]; omega
          have t1 : (refs.getD i 0 != refs.getD i 0) = false := by simp
          have HROW := Lib.hid hrow
          have HCI := Lib.hid hci
          have HSS := Lib.hid hss
          rw [hss] at hsl2
          have hprev : 0 < i → w6.cell? ⟨b2, off2 + (i - 1), none⟩ = some (.int .i64 (refs.getD (i - 1) 0)) ∧ refs.getD (i - 1) 0 < refs.getD i 0 := fun h0 => ⟨hc2 (i - 1) (by omega), hris h0 hi⟩
          have HPREV := Lib.hid hprev
          clear hrow hci hc3 hc2 hf2 hss hris hprev
          have hf1' : 0 < r.length := hf1
          generalize refs.getD i 0 = x at *
          generalize refs.getD (i - 1) 0 = y at *
          generalize sumTo rows i = S at *
          by_cases hi0 : i = 0
          · have z0 : decide (0 < i) = false := by simp [hi0]
            have z1 : decide ((0 : Int) < (i : Int)) = false := by simp [hi0]
            clear hi0
            go_wp2_with fail
            go_quiet (fail)
            go_wp2_with fail
            go_loopg [4, 15, 16] r.length (fun g s4 s15 s16 wr => ∃ j q : Nat, j + g = r.length ∧ s15 = .int .i64 j ∧ wr = w6.drewN q)
            case atStart => exact ⟨0, _, by omega, rfl, World.drewN_drewN _ _ _⟩
            case round =>
              obtain ⟨j, q2, hjg, rfl, rfl⟩ := hrel
              cases gk with
              | zero =>
                obtain rfl : j = r.length := by omega
                clear hjg
                go_wp2_with fail
                go_roundg g
                case measure => omega
                case rel => exact ⟨i + 1, _, by have := HG.out; omega, by go_num, by rw [HSS.out]; go_num, rfl⟩
              | succ g2 =>
                have hj : j < r.length := by omega
                have HG2 := Lib.hid hjg
                clear hjg
                obtain ⟨r0, r1, r2, r3⟩ := HROW.out j hj
                have ej := HCI.out j hj
                obtain ⟨v, hv⟩ := Int.eq_ofNat_of_zero_le r0
                rw [hv] at ej r1 r2 r3
                rw [Int.toNat_natCast] at r2
                have hvl : v < l.length := by omega
                obtain ⟨b1, off1, rfl, hlt1, hc1⟩ := HI1.out (by omega)
                have el := hc1 v hvl
                rw [r2] at el
                have u0 : decide ((v : Int) < 0) = false := by simp
                have u1 : decide (nb ≤ (v : Int)) = false := by simp; have := HLI.out; omega
                have u2 : (((i : Nat) : Int) != ((i : Nat) : Int)) = false := by simp
                have hpj : 0 < j → w6.cell? ⟨bi, offi + (j - 1), none⟩ = some (.int .i64 (r.getD (j - 1) 0)) := fun h0 => HCI.out (j - 1) (by omega)
                clear hc1 r2 hv r0
                have HPJ := Lib.hid hpj
                have HR3 := Lib.hid r3
                clear hpj r3
                generalize r.getD (j - 1) 0 = p at *
                by_cases hj0 : j = 0
                · have u3 : decide (0 < j) = false := by simp [hj0]
                  have u4 : decide ((0 : Int) < (j : Int)) = false := by simp [hj0]
                  clear hj0
                  go_wp2_with fail
                  go_roundg g2
                  case measure => omega
                  case rel => exact ⟨j + 1, _, by have := HG2.out; omega, by go_num, rfl⟩
                · have hj0' : 0 < j := by omega
                  have ep := HPJ.out hj0'
                  have hpv := HR3.out hj0'
                  have u3 : decide (0 < j) = true := by simp; omega
                  have u4 : decide ((0 : Int) < (j : Int)) = true := by simp; omega
                  have u5 : decide ((v : Int) ≤ p) = false := by simp; omega
                  have u6 : ((j : Int) - 1).toNat = j - 1 := by omega
                  clear hj0
                  go_wp2_with fail
                  go_roundg g2
                  case measure => omega
                  case rel => exact ⟨j + 1, _, by have := HG2.out; omega, by go_num, rfl⟩
          · have hi0' : 0 < i := by omega
            obtain ⟨e3, hlt⟩ := HPREV.out hi0'
            have z0 : decide (0 < i) = true := by simp; omega
            have z1 : decide ((0 : Int) < (i : Int)) = true := by simp; omega
            have z2 : decide (x ≤ y) = false := by simp; omega
            have w1' : IntKind.i64.wrap ((i : Int) - 1) = (i : Int) - 1 := IntWalk.i64_in _ (by omega)
            have w2' : (0 : Int) ≤ (i : Int) - 1 := by omega
            have w3' : ((i : Int) - 1).toNat = i - 1 := by omega
            clear hi0
            go_wp2_with fail
            go_quiet (fail)
            clear w1' w3'
            go_wp2_with fail
            go_loopg [4, 15, 16] r.length (fun g s4 s15 s16 wr => ∃ j q : Nat, j + g = r.length ∧ s15 = .int .i64 j ∧ wr = w6.drewN q)
            case atStart => exact ⟨0, _, by omega, rfl, World.drewN_drewN _ _ _⟩
            case round =>
              obtain ⟨j, q2, hjg, rfl, rfl⟩ := hrel
              cases gk with
              | zero =>
                obtain rfl : j = r.length := by omega
                clear hjg
                go_wp2_with fail
                go_roundg g
                case measure => omega
                case rel => exact ⟨i + 1, _, by have := HG.out; omega, by go_num, by rw [HSS.out]; go_num, rfl⟩
              | succ g2 =>
                have hj : j < r.length := by omega
                have HG2 := Lib.hid hjg
                clear hjg
                obtain ⟨r0, r1, r2, r3⟩ := HROW.out j hj
                have ej := HCI.out j hj
                obtain ⟨v, hv⟩ := Int.eq_ofNat_of_zero_le r0
                rw [hv] at ej r1 r2 r3
                rw [Int.toNat_natCast] at r2
                have hvl : v < l.length := by omega
                obtain ⟨b1, off1, rfl, hlt1, hc1⟩ := HI1.out (by omega)
                have el := hc1 v hvl
                rw [r2] at el
                have u0 : decide ((v : Int) < 0) = false := by simp
                have u1 : decide (nb ≤ (v : Int)) = false := by simp; have := HLI.out; omega
                have u2 : (((i : Nat) : Int) != ((i : Nat) : Int)) = false := by simp
                have hpj : 0 < j → w6.cell? ⟨bi, offi + (j - 1), none⟩ = some (.int .i64 (r.getD (j - 1) 0)) := fun h0 => HCI.out (j - 1) (by omega)
                clear hc1 r2 hv r0
                have HPJ := Lib.hid hpj
                have HR3 := Lib.hid r3
                clear hpj r3
                generalize r.getD (j - 1) 0 = p at *
                by_cases hj0 : j = 0
                · have u3 : decide (0 < j) = false := by simp [hj0]
                  have u4 : decide ((0 : Int) < (j : Int)) = false := by simp [hj0]
                  clear hj0
                  go_wp2_with fail
                  go_roundg g2
                  case measure => omega
                  case rel => exact ⟨j + 1, _, by have := HG2.out; omega, by go_num, rfl⟩
                · have hj0' : 0 < j := by omega
                  have ep := HPJ.out hj0'
                  have hpv := HR3.out hj0'
                  have u3 : decide (0 < j) = true := by simp; omega
                  have u4 : decide ((0 : Int) < (j : Int)) = true := by simp; omega
                  have u5 : decide ((v : Int) ≤ p) = false := by simp; omega
                  have u6 : ((j : Int) - 1).toNat = j - 1 := by omega
                  clear hj0
                  go_wp2_with fail
                  go_roundg g2
                  case measure => omega
                  case rel => exact ⟨j + 1, _, by have := HG2.out; omega, by go_num, rfl⟩
    · rw [ofL_nil he] at k2
      unfold refsL at k3
      unfold membL at k4
      unfold cntL refsL at k5
      rw [ofL_nil he] at k3 k4 k5
      have he' : (outsE nb ls out != 0) = true := by rw [bne_iff_ne]; exact he
      generalize outsE nb ls out = er at *
      have K2 := Lib.hid k2
      have K3 := Lib.hid k3
      have K4 := Lib.hid k4
      have K5 := Lib.hid k5
      have t1 : (er != er) = false := by simp
      clear k2 k3 k4 k5 he
      go_wp2_with fail
      refine (K2.out w2 HL.out HO.out).mono ?_
      rintro e w3 ⟨v, rfl, hown, hb⟩
      have HB3 := Lib.hid (HB2.out.trans (hb.mono HB2.out.size))
      replace q0 := (hb.cell (p := ⟨w.heap.size, 0, none⟩) (by show w.heap.size < _; omega)).trans q0
      replace q1 := (hb.cell (p := ⟨w.heap.size, 1, none⟩) (by show w.heap.size < _; omega)).trans q1
      have hz3 : w.heap.size + 1 ≤ w3.heap.size := by have := hb.size; omega
      replace HL := Lib.hid (HL.out.upto hb)
      replace HO := Lib.hid (HO.out.upto hb)
      clear hown
      clear hb HB2 hz2
      go_wp2_with fail
      refine (K3.out w3 HL.out HO.out).mono ?_
      rintro e w4 ⟨v', rfl, hown, hb⟩
      have HB4 := Lib.hid (HB3.out.trans (hb.mono HB3.out.size))
      replace q0 := (hb.cell (p := ⟨w.heap.size, 0, none⟩) (by show w.heap.size < _; omega)).trans q0
      replace q1 := (hb.cell (p := ⟨w.heap.size, 1, none⟩) (by show w.heap.size < _; omega)).trans q1
      have hz4 : w.heap.size + 1 ≤ w4.heap.size := by have := hb.size; omega
      replace HL := Lib.hid (HL.out.upto hb)
      replace HO := Lib.hid (HO.out.upto hb)
      clear hown
      clear hb HB3 hz3
      go_wp2_with fail
      refine (K4.out w4 HL.out HO.out).mono ?_
      rintro e w5 ⟨v'', rfl, hown, hb⟩
      have HB5 := Lib.hid (HB4.out.trans (hb.mono HB4.out.size))
      replace q0 := (hb.cell (p := ⟨w.heap.size, 0, none⟩) (by show w.heap.size < _; omega)).trans q0
      replace q1 := (hb.cell (p := ⟨w.heap.size, 1, none⟩) (by show w.heap.size < _; omega)).trans q1
      have hz5 : w.heap.size + 1 ≤ w5.heap.size := by have := hb.size; omega
      replace HL := Lib.hid (HL.out.upto hb)
      replace HO := Lib.hid (HO.out.upto hb)
      clear hown
      clear hb HB4 hz4
      go_wp2_with fail
      refine (K5.out w5 HL.out HO.out).mono ?_
      rintro e w6 ⟨rfl, hb⟩
      have HB6 := Lib.hid (HB5.out.trans (hb.mono HB5.out.size))
      replace q0 := (hb.cell (p := ⟨w.heap.size, 0, none⟩) (by show w.heap.size < _; omega)).trans q0
      replace q1 := (hb.cell (p := ⟨w.heap.size, 1, none⟩) (by show w.heap.size < _; omega)).trans q1
      have hz6 : w.heap.size + 1 ≤ w6.heap.size := by have := hb.size; omega
      clear hb HB5 hz5
      go_wp2_with fail
      go_ret
      exact ⟨rfl, HB6.out⟩
end Go.Proofs.Ytkncmhcobbjoiaa
