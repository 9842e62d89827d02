/- OutageNormal: the walk. -/
import Derived.Test.YtklfijhlibpmaaaRnW
namespace Go.Proofs.Ytklfijhlibpmaaa
open Go.RowKit
set_option linter.unusedVariables false
set_option maxRecDepth 100000

set_option maxHeartbeats 16000000 in
theorem ono_walk (A0 : Option Addr) (c0 : Nat) (l : List Og) (W : World) (hcap : l.length ≤ c0) (hl : OgsR W W.heap.size A0 l) (hbd : OgBs l) :
    Calls Try.prog 3 #[.slice A0 l.length c0] W fun e w' => e = .returned (.bool true) ∧ Below W.heap.size W w' := by
  have HL := Lib.hid hl
  have HOB := Lib.hid hbd
  clear hl hbd
  have HB0 := Lib.hid (Below.refl W.heap.size W)
  by_cases h100 : 100 < l.length
  · have b2 : decide ((100 : Int) < l.length) = true := by simp; omega
    go_enter Try.func3, Try.ntmps3
    go_wp2_with (go_at_call 8; refine (awake_any _).mono ?_; rintro e w1 ⟨rfl, hb⟩)
    go_ret
    exact ⟨rfl, hb⟩
  have b2 : decide ((100 : Int) < l.length) = false := by simp; omega
  have KN := Lib.hid (fun A c w h => normal_any A c l w h HOB.out (by omega))
  have KR := Lib.hid (fun A c w h => refnorm_any A c l w h HOB.out (by omega))
  have hnl := ogN_length l
  generalize ogN l = nl at *
  have same : ∀ (xs : List Og) (A A' : Option Addr) (c c' : Nat) (w : World), xs.length ≤ 1000000 → OgsR w w.heap.size A xs → OgsR w w.heap.size A' xs → Calls Try.prog 11 #[.slice A xs.length c, .slice A' xs.length c'] w (fun e w' => e = .returned (.bool true) ∧ Below w.heap.size w w') := fun xs A A' c c' w hx h h' => by
    refine (same_any A A' c c' xs xs w h h' hx hx).mono ?_
    rintro e w' ⟨rfl, n, rfl⟩
    exact ⟨by simp, below_drewN (Below.refl _ _) n⟩
  have KS := Lib.hid same
  clear same
  go_enter Try.func3, Try.ntmps3
  go_wp2_with fail
  refine (own_any A0 c0 l _ HL.out (by omega)).mono ?_
  rintro e w2 ⟨v, rfl, hown, hb⟩
  obtain ⟨Ai, ci, rfl, hI⟩ := ownsRow_ogs hown
  have HIN := Lib.hid hI
  replace HL := Lib.hid (HL.out.upto hb)
  have HB2 := Lib.hid (HB0.out.trans (hb.mono HB0.out.size))
  clear hb HB0 hown hI
  go_wp2_with fail
  go_loopg [2, 4, 5, 6] 2 (fun g s2 i s5 s6 wr => ∃ k : Nat, k + g = 2 ∧ i = .int .i64 k ∧ Below w2.heap.size w2 wr)
  case atStart => exact ⟨0, by omega, rfl, Below.refl _ _⟩
  case round =>
    obtain ⟨k, hkg, rfl, hb⟩ := hrel
    have HBW := Lib.hid hb
    clear hb
    cases gk with
    | zero =>
      obtain rfl : k = 2 := by omega
      clear hkg
      go_wp2_with fail
      refine (awake_any _).mono ?_
      rintro e w9 ⟨rfl, hb⟩
      have HB9 := Lib.hid (HBW.out.trans (hb.mono HBW.out.size))
      clear hb
      go_wp2_with fail
      go_ret
      exact ⟨rfl, HB2.out.trans (HB9.out.mono HB2.out.size)⟩
    | succ g =>
      have hk2n : k < 2 := by omega
      have hk2 : decide ((k : Int) < 2) = true := by simp; omega
      have HG := Lib.hid hkg
      clear hkg
      generalize wr = wo at *
      go_wp2_with fail
      refine (KN.out Ai ci _ (HIN.out.upto HBW.out)).mono ?_
      rintro e w3 ⟨v, rfl, hown, hb⟩
      obtain ⟨Ax, cx, hvx, hI⟩ := ownsRow_ogs hown
      subst hvx
      have HX := Lib.hid hI
      have HOX := Lib.hid hown
      have HB3 := Lib.hid hb
      clear hb hown hI
      go_wp2_with fail
      refine (KR.out A0 c0 _ (HL.out.upto (HBW.out.trans (HB3.out.mono HBW.out.size)))).mono ?_
      rintro e w4 ⟨v, rfl, hown, hb⟩
      obtain ⟨Ar, cr, hvx, hI⟩ := ownsRow_ogs hown
      subst hvx
      have HR := Lib.hid hI
      replace HX := Lib.hid (HX.out.upto hb)
      replace HOX := Lib.hid (ownsRow_below HOX.out hb)
      have HB4 := Lib.hid (HB3.out.trans (hb.mono HB3.out.size))
      clear hb hown hI HB3
      go_wp2_with fail
      refine (KS.out nl Ax Ar cx cr _ (by omega) HX.out HR.out).mono ?_
      rintro e w5 ⟨rfl, hb⟩
      replace HOX := Lib.hid (ownsRow_below HOX.out hb)
      have HB5 := Lib.hid (HB4.out.trans (hb.mono HB4.out.size))
      clear hb HB4 HR HX
      have hin := HIN.out.upto (HBW.out.trans (HB5.out.mono HBW.out.size))
      have hll := HL.out.upto (HBW.out.trans (HB5.out.mono HBW.out.size))
      have K2 := Lib.hid (KS.out l Ai A0 ci c0 _ (by omega) hin hll)
      clear hin hll
      go_wp2_with fail
      refine K2.out.mono ?_
      rintro e w6 ⟨rfl, hb⟩
      replace HOX := Lib.hid (ownsRow_below HOX.out hb)
      have HB6 := Lib.hid (HB5.out.trans (hb.mono HB5.out.size))
      clear hb HB5 K2
      go_wp2_with fail
      go_loopg [6] nl.length (fun g s6 wi => ∃ (m : Nat) (xs : List Value), m + g = nl.length ∧ s6 = .int .i64 m ∧ wi.ownsRow wo.heap.size 27 4 (.slice Ax nl.length cx) nl.length xs ∧ Below wo.heap.size wo wi)
      case atStart => exact ⟨0, _, by omega, rfl, HOX.out, HB6.out⟩
      case round =>
        clear HOX HB6
        obtain ⟨m, xs, hmg, rfl, hown, hb⟩ := hrel
        have HO := Lib.hid hown
        have HBI := Lib.hid hb
        clear hown hb
        cases gk with
        | zero =>
          obtain rfl : m = nl.length := by omega
          clear hmg
          go_wp2_with fail
          go_roundg g
          case measure => omega
          case rel => exact ⟨k + 1, by have := HG.out; omega, by go_num, HBW.out.trans (HBI.out.mono HBW.out.size)⟩
        | succ g2 =>
          have hm : m < nl.length := by omega
          have HG2 := Lib.hid hmg
          clear hmg
          rcases HO.out.2 with ⟨hv, h0⟩ | ⟨gr, cap, cur, hv, hgb, hgh, r1, r2, r3, r4⟩
          · omega
          injection hv with hv1 hv2 hv3
          subst hv1 hv3
          have hlx := HO.out.1
          have cat : ∀ j, j < nl.length * 4 → ∃ u, wr.cell? ⟨gr, j, none⟩ = some u := fun j hj => by
            rw [HO.out.cellAt j hj]
            exact ⟨xs[j]'(by omega), List.getElem?_eq_getElem (by omega)⟩
          obtain ⟨u0, c0'⟩ := cat (m * 4) (by omega)
          obtain ⟨u1, c1'⟩ := cat (m * 4 + 1) (by omega)
          obtain ⟨u2, c2'⟩ := cat (m * 4 + 2) (by omega)
          obtain ⟨u3, c3'⟩ := cat (m * 4 + 3) (by omega)
          have z0 := HO.out.frozenAt (m * 4)
          have z1 := HO.out.frozenAt (m * 4 + 1)
          have z2 := HO.out.frozenAt (m * 4 + 2)
          have z3 := HO.out.frozenAt (m * 4 + 3)
          have o1 := (HO.out.stored (m * 4) (.int .u8 77)).1
          have o2 := (o1.stored (m * 4 + 1) (.int .i64 0)).1
          have o3 := (o2.stored (m * 4 + 2) (.int .i64 0)).1
          have o4 := (o3.stored (m * 4 + 3) (.int .i64 0)).1
          have HO4 := Lib.hid o4
          have HB4 := Lib.hid ((((HBI.out.setCell (p := ⟨gr, m * 4, none⟩) hgb (.int .u8 77)).setCell (p := ⟨gr, m * 4 + 1, none⟩) hgb (.int .i64 0)).setCell (p := ⟨gr, m * 4 + 2, none⟩) hgb (.int .i64 0)).setCell (p := ⟨gr, m * 4 + 3, none⟩) hgb (.int .i64 0))
          clear o1 o2 o3 o4 cat hlx hgh r1 r2 r3 r4 hv2
          go_wp2_with fail
          go_roundg g2
          case measure => omega
          case rel => exact ⟨m + 1, _, by have := HG2.out; omega, by go_num, HO4.out, HB4.out⟩
end Go.Proofs.Ytklfijhlibpmaaa
