/- The text LnF. -/
import Derived.Deep.RegionLaw
import Derived.Deep.RegionHeld3
import Derived.BigRegion
import Derived.Deep.OwnRows
import Derived.Test.YtklanoppbbaolaaGreatMg16
/- pylonlaw40.Long. -/
namespace Go.Proofs.YtklanoppbbaolaaGreat
open Go.RowKit
set_option linter.unusedVariables false
set_option linter.unusedSimpArgs false
set_option maxRecDepth 100000
set_option maxHeartbeats 8000000 in
theorem long40_any (x : Cs) (A1 A2 A3 A4 A5 : Option Addr) (c1 c2 c3 c4 c5 : Nat) (w : World) (h2 : RowR UnR 9 w w.heap.size A2 x.units) (h3 : RowR HrR 3 w w.heap.size A3 x.hours) :
    Calls Tryz.prog 14 #[.agg #[.int .i64 x.net.buses, .slice A1 x.net.lines.length c1, .slice A2 x.units.length c2, .slice A3 x.hours.length c3, .slice A4 x.outs.length c4, .slice A5 x.rights.length c5]] w (Lg40 x w) := by
  have HX : Hid (Box (w.alloc (.cells #[.int .i64 x.net.buses, .slice A1 x.net.lines.length c1, .slice A2 x.units.length c2, .slice A3 x.hours.length c3, .slice A4 x.outs.length c4, .slice A5 x.rights.length c5] 34)) w.heap.size [.int .i64 x.net.buses, .slice A1 x.net.lines.length c1, .slice A2 x.units.length c2, .slice A3 x.hours.length c3, .slice A4 x.outs.length c4, .slice A5 x.rights.length c5]) := Box.new w #[.int .i64 x.net.buses, .slice A1 x.net.lines.length c1, .slice A2 x.units.length c2, .slice A3 x.hours.length c3, .slice A4 x.outs.length c4, .slice A5 x.rights.length c5] 34
  have HB : Hid (Below w.heap.size w (w.alloc (.cells #[.int .i64 x.net.buses, .slice A1 x.net.lines.length c1, .slice A2 x.units.length c2, .slice A3 x.hours.length c3, .slice A4 x.outs.length c4, .slice A5 x.rights.length c5] 34))) := (Below.refl _ _).alloc (Nat.le_refl _) _
  have hz : w.heap.size < (w.alloc (.cells #[.int .i64 x.net.buses, .slice A1 x.net.lines.length c1, .slice A2 x.units.length c2, .slice A3 x.hours.length c3, .slice A4 x.outs.length c4, .slice A5 x.rights.length c5] 34)).heap.size := by simp
  have HH := Lib.hid h3
  have HU := Lib.hid h2
  clear h3 h2
  by_cases b6 : 12 < x.hours.length
  · have d6 : decide ((12 : Int) < (x.hours.length : Int)) = true := decide_eq_true (by omega)
    go_enter Tryz.func14, Tryz.ntmps14
    go_wp2_with fail
    go_ret
    exact Lg40.yes HB.out
  have d6 : decide ((12 : Int) < (x.hours.length : Int)) = false := decide_eq_false (by omega)
  by_cases b8 : 40 < x.outs.length
  · have d8 : decide ((40 : Int) < (x.outs.length : Int)) = true := decide_eq_true (by omega)
    go_enter Tryz.func14, Tryz.ntmps14
    go_wp2_with fail
    go_ret
    exact Lg40.yes HB.out
  have d8 : decide ((40 : Int) < (x.outs.length : Int)) = false := decide_eq_false (by omega)
  by_cases b10 : 40 < x.rights.length
  · have d10 : decide ((40 : Int) < (x.rights.length : Int)) = true := decide_eq_true (by omega)
    go_enter Tryz.func14, Tryz.ntmps14
    go_wp2_with fail
    go_ret
    exact Lg40.yes HB.out
  have d10 : decide ((40 : Int) < (x.rights.length : Int)) = false := decide_eq_false (by omega)
  have HOK : Hid (x.outs.length ≤ 40 ∧ x.rights.length ≤ 40) := ⟨by omega, by omega⟩
  go_enter Tryz.func14, Tryz.ntmps14
  go_wp2_with fail
  go_loopg [3, 4] x.hours.length (fun gk s3 s4 wr => ∃ (k : Nat) (n : Int), k + gk = x.hours.length ∧ s4 = .int .i64 (k : Int) ∧ s3 = .int .i64 n ∧ Below (w.heap.size + 1) (w.alloc (.cells #[.int .i64 x.net.buses, .slice A1 x.net.lines.length c1, .slice A2 x.units.length c2, .slice A3 x.hours.length c3, .slice A4 x.outs.length c4, .slice A5 x.rights.length c5] 34)) wr)
  case atStart => exact ⟨0, 0, by omega, rfl, rfl, Below.refl _ _⟩
  case round =>
    obtain ⟨k, n, hkg, rfl, rfl, hb⟩ := hrel
    have hwz : w.heap.size < wr.heap.size := by have := hb.size; omega
    have HB1 := Lib.hid (HB.out.trans (hb.mono (by omega)))
    have q0 := (hb.cell (p := ⟨w.heap.size, 0, none⟩) (by simp)).trans (HX.out.c 0 _ rfl)
    have q1 := (hb.cell (p := ⟨w.heap.size, 1, none⟩) (by simp)).trans (HX.out.c 1 _ rfl)
    have q2 := (hb.cell (p := ⟨w.heap.size, 2, none⟩) (by simp)).trans (HX.out.c 2 _ rfl)
    have q3 := (hb.cell (p := ⟨w.heap.size, 3, none⟩) (by simp)).trans (HX.out.c 3 _ rfl)
    have HBC := Lib.hid hb
    clear hb
    cases gk with
    | zero =>
      obtain rfl : k = x.hours.length := by omega
      clear hkg
      go_wp2_with fail
      go_ret
      exact Lg40.any HOK.out HB1.out
    | succ g =>
      have hk : k < x.hours.length := by omega
      have HG := Lib.hid hkg
      clear hkg
      obtain ⟨b, off, cc, rfl, hbl, hc1, hc2, hc3⟩ := HH.out.at_ k hr0 hk
      generalize hxx : x.hours.getD k hr0 = h at *
      clear hxx
      obtain ⟨Ax, cx, Ay, cy, rfl, _, _, hrx, hry⟩ := hc2
      have f0 : wr.cell? ⟨b, off + k * 3, none⟩ = _ := (HB1.out.cell (p := ⟨b, off + k * 3, none⟩) hbl).trans (hc3 0 _ rfl)
      have f1 : wr.cell? ⟨b, off + k * 3 + 1, none⟩ = _ := (HB1.out.cell (p := ⟨b, off + k * 3 + 1, none⟩) hbl).trans (hc3 1 _ rfl)
      have HRX := Lib.hid (hrx.up BdR.keep HB1.out)
      have HRY := Lib.hid (hry.up BdR.keep HB1.out)
      clear hc3 hc1 hrx hry
      have hbw : b < wr.heap.size := by omega
      have i2 : (k : Int) < (x.hours.length : Int) := by omega
      have hne1 : ¬ b = wr.heap.size := by omega
      have hne2 : ¬ w.heap.size = wr.heap.size := by omega
      go_upto_region 7 with fail
      go_region_held3 (fun w' => w'.cell? ⟨w.heap.size, 3, none⟩ = some (.slice (some ⟨b, off, none⟩) x.hours.length c3) ∧ w'.cell? ⟨b, off + k * 3, none⟩ = some (.slice Ax h.bids.length cx) ∧ w'.cell? ⟨b, off + k * 3 + 1, none⟩ = some (.slice Ay h.real.length cy)) (go_keep) (fail)
      have hsz : ((wr.alloc (.cells #[.slice Ax h.bids.length cx, .slice Ay h.real.length cy] 23)).drew).heap.size = wr.heap.size + 1 := by simp
      have e0 : ((wr.alloc (.cells #[.slice Ax h.bids.length cx, .slice Ay h.real.length cy] 23)).drew).cell? ⟨wr.heap.size, 0, none⟩ = some (.slice Ax h.bids.length cx) := by simp
      have e1 : ((wr.alloc (.cells #[.slice Ax h.bids.length cx, .slice Ay h.real.length cy] 23)).drew).cell? ⟨wr.heap.size, 1, none⟩ = some (.slice Ay h.real.length cy) := by simp
      have hbd : Below wr.heap.size wr ((wr.alloc (.cells #[.slice Ax h.bids.length cx, .slice Ay h.real.length cy] 23)).drew) := ((Below.refl _ _).alloc (Nat.le_refl _) _).drew
      generalize ((wr.alloc (.cells #[.slice Ax h.bids.length cx, .slice Ay h.real.length cy] 23)).drew) = W1 at *
      have HE := Lib.hid (And.intro e0 e1)
      have HSZ := Lib.hid hsz
      have HB2 := Lib.hid (HB1.out.trans (hbd.mono (by omega)))
      have HBC2 := Lib.hid (HBC.out.trans (hbd.mono (by omega)))
      have HQ := Lib.hid (And.intro ((hbd.cell (p := ⟨w.heap.size, 0, none⟩) hwz).trans q0) (And.intro ((hbd.cell (p := ⟨w.heap.size, 1, none⟩) hwz).trans q1) ((hbd.cell (p := ⟨w.heap.size, 2, none⟩) hwz).trans q2)))
      have HR : Hid (∀ k2, k2 < 2 → ∃ (Ab : Option Addr) (cb : Nat) (bs : List Bd), W1.cell? ⟨wr.heap.size, k2, none⟩ = some (.slice Ab bs.length cb) ∧ RowR BdR 2 W1 w.heap.size Ab bs) := fun k2 hk2 => by
        have e : k2 = 0 ∨ k2 = 1 := by omega
        rcases e with rfl | rfl
        · exact ⟨_, _, _, HE.out.1, HRX.out.up BdR.keep (hbd.mono (by omega))⟩
        · exact ⟨_, _, _, HE.out.2, HRY.out.up BdR.keep (hbd.mono (by omega))⟩
      clear e0 e1 hbd hsz q0 q1 q2 q3 f0 f1 hbw hne1 hne2 HE HRX HRY HB1 HBC i2
      generalize wr.heap.size = Bs at *
      clear wr
      go_wp2_with fail
      go_loopg [3, 47] 2 (fun gk s3 s47 wr => ∃ (k2 : Nat) (n2 : Int), k2 + gk = 2 ∧ s47 = .int .i64 (k2 : Int) ∧ s3 = .int .i64 n2 ∧ Below (Bs + 1) W1 wr)
      case atStart => exact ⟨0, n, by omega, rfl, rfl, Below.refl _ _⟩
      case round =>
        obtain ⟨k2, n2, hkg2, rfl, rfl, hb⟩ := hrel
        have hwz2 : Bs < wr.heap.size := by have := hb.size; have := HSZ.out; omega
        have HB3 := Lib.hid (HB2.out.trans (hb.mono (by omega)))
        have HBC3 := Lib.hid (HBC2.out.trans (hb.mono (by omega)))
        have q0 := (hb.cell (p := ⟨w.heap.size, 0, none⟩) (by show w.heap.size < _; omega)).trans HQ.out.1
        have q1 := (hb.cell (p := ⟨w.heap.size, 1, none⟩) (by show w.heap.size < _; omega)).trans HQ.out.2.1
        have q2 := (hb.cell (p := ⟨w.heap.size, 2, none⟩) (by show w.heap.size < _; omega)).trans HQ.out.2.2
        have HB4 := Lib.hid hb
        clear hb
        cases gk with
        | zero =>
          obtain rfl : k2 = 2 := by omega
          clear hkg2
          go_wp2_with fail
          go_roundg g
          case measure => omega
          case rel => exact ⟨k + 1, n2, by have := HG.out; omega, by go_num, rfl, HBC3.out⟩
        | succ g2 =>
          have hk2 : k2 < 2 := by omega
          have HG2 := Lib.hid hkg2
          clear hkg2
          obtain ⟨Ab, cb, bs, hcb, hrb⟩ := HR.out k2 hk2
          have f3 := (HB4.out.cell (p := ⟨Bs, k2, none⟩) (by show Bs < _; omega)).trans hcb
          have HRB := Lib.hid (hrb.up BdR.keep (HB4.out.mono (by omega)))
          clear hcb hrb
          have i3 : (k2 : Int) < 2 := by omega
          obtain ⟨m, hmn, hm20⟩ : ∃ m : Nat, (if (x.units.length : Int) < 20 then (x.units.length : Int) else 20) = (m : Int) ∧ m ≤ 20 := by
            by_cases e : x.units.length < 20
            · exact ⟨x.units.length, by rw [if_pos (by omega)], by omega⟩
            · exact ⟨20, by rw [if_neg (by omega)]; rfl, by omega⟩
          have hmk := fun W => run_make_row' (P := Tryz.prog) 66 4 (.bool false) 1 Tryz.underlying66 info_bo rfl .i64 .i64 m (by omega) (by omega) W
          have HM := Lib.hid hm20
          clear hm20
          go_wp2_with fail
          have r0 := RoB.new wr m
          have hBw : Below wr.heap.size wr (wr.alloc (.cells (madeCells #[.bool false] m) 4)) := (Below.refl _ _).alloc (Nat.le_refl _) _
          have hs2 : (wr.alloc (.cells (madeCells #[.bool false] m) 4)).heap.size = wr.heap.size + 1 := by simp
          have HB5 := Lib.hid (HB3.out.trans (hBw.mono (by omega)))
          have HBC5 := Lib.hid (HBC3.out.trans (hBw.mono (by omega)))
          have HB6 := Lib.hid (HB4.out.trans (hBw.mono (by omega)))
          have HQ2 := Lib.hid (And.intro ((hBw.cell (p := ⟨w.heap.size, 0, none⟩) (by show w.heap.size < _; omega)).trans q0) (And.intro ((hBw.cell (p := ⟨w.heap.size, 1, none⟩) (by show w.heap.size < _; omega)).trans q1) ((hBw.cell (p := ⟨w.heap.size, 2, none⟩) (by show w.heap.size < _; omega)).trans q2)))
          have HRB2 := Lib.hid (HRB.out.up BdR.keep (hBw.mono (by omega)))
          have HR0 := Lib.hid r0
          have HS2 := Lib.hid hs2
          clear hBw r0 hs2 q0 q1 q2 f3 HRB HB3 HBC3 HB4 hmk hmn
          generalize (wr.alloc (.cells (madeCells #[.bool false] m) 4)) = W2 at *
          generalize wr.heap.size = Bm at *
          clear wr
          go_loopg [8] m (fun gk s8 wr => ∃ (k3 : Nat) (p : List Bool), k3 + gk = m ∧ s8 = .int .i64 (k3 : Int) ∧ RoB wr Bm p ∧ p.length = m ∧ Below Bm W2 wr)
          case atStart => exact ⟨0, _, by omega, rfl, HR0.out, by simp, Below.refl _ _⟩
          case round =>
            obtain ⟨k3, p, hkg3, rfl, hr, hpl, hb⟩ := hrel
            have hwz3 : Bm < wr.heap.size := (Array.getElem?_eq_some_iff.1 hr).1
            cases gk with
            | succ g3 =>
              have i4 : (k3 : Int) < (m : Int) := by omega
              have f4 := hr.cell (j := k3) (by omega)
              have z4 := hr.frozen k3
              have HRN := Lib.hid (hr.set_ k3 true)
              have HBN := Lib.hid (hb.setCell (p := ⟨Bm, k3, none⟩) (Nat.le_refl _) (.bool true))
              have HPL : Hid ((p.set k3 true).length = m) := by show _ = _; simpa using hpl
              have HG3 := Lib.hid hkg3
              have hm20 := HM.out
              generalize p.getD k3 false = bv at *
              clear hr hpl hb hkg3
              go_wp2_with fail
              go_roundg g3
              case measure => omega
              case rel => exact ⟨k3 + 1, _, by have := HG3.out; omega, by go_num, HRN.out, HPL.out, HBN.out⟩
            | zero =>
              obtain rfl : k3 = m := by omega
              clear hkg3
              have HB7 := Lib.hid (HB5.out.trans (hb.mono (by omega)))
              have HBC7 := Lib.hid (HBC5.out.trans (hb.mono (by omega)))
              have HB8 := Lib.hid (HB6.out.trans (hb.mono (by omega)))
              have q0 := (hb.cell (p := ⟨w.heap.size, 0, none⟩) (by show w.heap.size < _; omega)).trans HQ2.out.1
              have q1 := (hb.cell (p := ⟨w.heap.size, 1, none⟩) (by show w.heap.size < _; omega)).trans HQ2.out.2.1
              have q2 := (hb.cell (p := ⟨w.heap.size, 2, none⟩) (by show w.heap.size < _; omega)).trans HQ2.out.2.2
              have HRB3 := Lib.hid (HRB2.out.up BdR.keep (hb.mono (by omega)))
              have HRO := Lib.hid hr
              have HWZ : Hid (w.heap.size < wr.heap.size ∧ Bs < wr.heap.size) := ⟨by omega, by omega⟩
              have hwzz := HWZ.out.1
              subst hpl
              have hp6 : p.length ≤ 1000000 := by have := HM.out; omega
              have K1 := Lib.hid fun W h2 h3 h4 => long34_any x.net.buses x.units p bs A1 A2 (some ⟨Bm, 0, none⟩) Ab x.net.lines.length c1 c2 p.length cb W hp6 h2 h3 h4
              have K2 := Lib.hid fun W hs h2 h3 h4 => cols_any A2 (some ⟨Bm, 0, none⟩) Ab c2 p.length cb x.units p bs W hs hp6 h2 h3 h4
              clear hb hr hp6 HR0 HQ2 HRB2 HB5 HBC5 HB6
              go_wp2_with fail
              have hbh : Below wr.heap.size wr (wr.alloc (.cells #[.int .i64 x.net.buses, .slice A1 x.net.lines.length c1, .slice none 0 0, .slice A2 x.units.length c2, .slice (some ⟨Bm, 0, none⟩) p.length p.length, .slice Ab bs.length cb] 113)) := (Below.refl _ _).alloc (Nat.le_refl _) _
              have HBH := Lib.hid hbh
              have hsh : wr.heap.size ≤ (wr.alloc (.cells #[.int .i64 x.net.buses, .slice A1 x.net.lines.length c1, .slice none 0 0, .slice A2 x.units.length c2, .slice (some ⟨Bm, 0, none⟩) p.length p.length, .slice Ab bs.length cb] 113)).heap.size := by simp
              have HSH := Lib.hid hsh
              clear hbh hsh
              have HWr := Lib.hid hwz3
              generalize (wr.alloc (.cells #[.int .i64 x.net.buses, .slice A1 x.net.lines.length c1, .slice none 0 0, .slice A2 x.units.length c2, .slice (some ⟨Bm, 0, none⟩) p.length p.length, .slice Ab bs.length cb] 113)) = W3 at *
              have HB9 := Lib.hid (HB7.out.trans (HBH.out.mono (by omega)))
              have HR9 := Lib.hid (RoB.keep HRO.out (HBH.out.block Bm (by omega)))
              have HD9 := Lib.hid ((HRB3.out.up BdR.keep (HBH.out.mono (by omega))).keep (B' := W3.heap.size) BdR.keep (fun _ _ => rfl) (by have := HSH.out; omega))
              refine (K1.out _ (HU.out.upto UnR.keep HB9.out) HR9.out.row HD9.out).mono ?_
              rintro e w4 ⟨bb, rfl, hsh, hb4⟩
              have HSt := Lib.hid hsh
              have hm4 : Below wr.heap.size wr w4 := HBH.out.trans (hb4.mono HSH.out)
              have r0 := (hm4.cell (p := ⟨w.heap.size, 0, none⟩) hwzz).trans q0
              have r1 := (hm4.cell (p := ⟨w.heap.size, 1, none⟩) hwzz).trans q1
              have r2 := (hm4.cell (p := ⟨w.heap.size, 2, none⟩) hwzz).trans q2
              have hlt4 : w.heap.size < w4.heap.size := by have := hm4.size; omega
              have HM4 := Lib.hid hm4
              have HB10 := Lib.hid (HB7.out.trans (hm4.mono (by omega)))
              have HR10 := Lib.hid (RoB.keep HRO.out (hm4.block Bm (by omega)))
              have HD10 := Lib.hid ((HRB3.out.up BdR.keep (hm4.mono (by omega))).keep (B' := w4.heap.size) BdR.keep (fun _ _ => rfl) (by omega))
              clear hsh hb4 hm4 q0 q1 q2
              cases bb with
              | true =>
                go_wp2_with fail
                go_ret
                exact Lg40.yes HB10.out
              | false =>
                go_wp2_with fail
                refine (K2.out _ (HSt.out (by trivial)) (HU.out.upto UnR.keep HB10.out) HR10.out.row HD10.out).mono ?_
                rintro e w5 ⟨A, nn, cn, rfl, hn, hb5⟩
                have HM5 := Lib.hid (HM4.out.trans (hb5.mono (by have := HM4.out.size; omega)))
                have HN := Lib.hid hn
                clear hb5 hn
                go_wp2_with fail
                go_roundg g2
                case measure => omega
                case rel => exact ⟨k2 + 1, _, by have := HG2.out; omega, by go_num, rfl, HB8.out.trans (HM5.out.mono (by omega))⟩
end Go.Proofs.YtklanoppbbaolaaGreat
