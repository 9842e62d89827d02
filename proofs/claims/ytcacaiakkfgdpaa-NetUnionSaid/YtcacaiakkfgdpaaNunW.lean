/- The walk of NetUnion. -/
import Derived.Test.YtcacaiakkfgdpaaAwkN
namespace Go.Proofs.Ytcacaiakkfgdpaa
open Go.RowKit
set_option linter.unusedVariables false

theorem long_lit3 (nb : Value) (A : Option Addr) (m c : Nat) (t : TypeId) (W : World) (b : Nat) (hb : b = W.heap.size) (A1 A2 A3 : Option Addr) (n1 c1 n2 c2 n3 c3 : Nat) :
    Calls Try.prog 13 #[.agg #[nb, .slice A m c], .slice (some ⟨b, 0, none⟩) 3 3] (W.alloc (.cells #[.slice A1 n1 c1, .slice A2 n2 c2, .slice A3 n3 c3] t)) fun e w' => e = .returned (.bool (longB [n1, n2, n3] m)) ∧ Below (W.heap.size + 1) (W.alloc (.cells #[.slice A1 n1 c1, .slice A2 n2 c2, .slice A3 n3 c3] t)) w' := by
  have h := long_any nb A m c b 0 3 [n1, n2, n3] rfl (by decide) (W.alloc (.cells #[.slice A1 n1 c1, .slice A2 n2 c2, .slice A3 n3 c3] t)) (by simp; omega) (fun i hi => by
    rcases (by omega : i = 0 ∨ i = 1 ∨ i = 2) with rfl | rfl | rfl
    · exact ⟨A1, c1, cell_alloc_at _ _ _ _ _ hb⟩
    · exact ⟨A2, c2, cell_alloc_at _ _ _ _ _ hb⟩
    · exact ⟨A3, c3, cell_alloc_at _ _ _ _ _ hb⟩) 3
  rw [World.size_alloc] at h
  exact h
theorem uniE_comm (a b : List Int) : uniE b a = uniE a b := by unfold uniE; simp only [And.comm]
theorem uniL_comm (a b : List Int) : uniL b a = uniL a b := by unfold uniL; rw [unionL_comm]; simp only [And.comm]
theorem uniE_01 (a b : List Int) : uniE a b = 0 ∨ uniE a b = 1 := by unfold uniE; split <;> simp
theorem uniE_zero {a b : List Int} (h : uniE a b = 0) : ascB a = true ∧ ascB b = true := by
  unfold uniE at h
  split at h
  · assumption
  · omega
theorem uni_ok {a b : List Int} (ha : ascB a = true) (hb : ascB b = true) : uniE a b = 0 ∧ uniL a b = unionL a b := by
  rw [uniE, uniL, if_pos ⟨ha, hb⟩, if_pos ⟨ha, hb⟩]
  exact ⟨rfl, rfl⟩
theorem uniL_length (a b : List Int) : (uniL a b).length ≤ a.length + b.length := by
  unfold uniL
  split
  · exact unionL_length a b
  · simp

set_option maxRecDepth 100000 in
set_option maxHeartbeats 4000000 in
theorem nun_walk (A : Option Addr) (ca : Nat) (a : List Int) (B : Option Addr) (cb : Nat) (b : List Int) (C : Option Addr) (cc : Nat) (c : List Int) (w : World) (ha : IntsR w w.heap.size A a) (hb : IntsR w w.heap.size B b) (hc : IntsR w w.heap.size C c) :
    Calls Try.prog 7 #[.slice A a.length ca, .slice B b.length cb, .slice C c.length cc] w fun e w' => e = .returned (.bool true) ∧ Below w.heap.size w w' := by
  have HA := Lib.hid ha
  have HBb := Lib.hid hb
  have HC := Lib.hid hc
  clear ha hb hc
  have kl := fun W b0 h0 => long_lit3 (.int .i64 0) none 0 0 25 W b0 h0 A B C a.length ca b.length cb c.length cc
  cases hlong : longB [a.length, b.length, c.length] 0 with
  | true =>
    rw [hlong] at kl
    have KL := Lib.hid kl
    clear kl hlong
    have HB0 := Lib.hid (Below.refl w.heap.size w)
    go_enter Try.func7, Try.ntmps7
    go_wp2_with fail
    have hb := (Below.refl w.heap.size w).alloc (Nat.le_refl _) (.cells #[.slice A a.length ca, .slice B b.length cb, .slice C c.length cc] 25)
    have HB1 := Lib.hid (HB0.out.trans (hb.mono HB0.out.size))
    clear HB0
    replace HA := Lib.hid (HA.out.upto hb)
    replace HBb := Lib.hid (HBb.out.upto hb)
    replace HC := Lib.hid (HC.out.upto hb)
    clear hb
    refine (KL.out w w.heap.size rfl).mono ?_
    rintro e w2 ⟨rfl, hb⟩
    rw [← World.size_alloc w (.cells #[.slice A a.length ca, .slice B b.length cb, .slice C c.length cc] 25)] at hb
    have HB2 := Lib.hid (HB1.out.trans (hb.mono HB1.out.size))
    clear HB1
    replace HA := Lib.hid (HA.out.upto hb)
    replace HBb := Lib.hid (HBb.out.upto hb)
    replace HC := Lib.hid (HC.out.upto hb)
    clear hb
    go_wp2_with fail
    refine (awake14_any _).mono ?_
    rintro e w3 ⟨rfl, hb⟩
    have HB3 := Lib.hid (HB2.out.trans (hb.mono HB2.out.size))
    clear HB2
    replace HA := Lib.hid (HA.out.upto hb)
    replace HBb := Lib.hid (HBb.out.upto hb)
    replace HC := Lib.hid (HC.out.upto hb)
    clear hb
    go_wp2_with fail
    go_ret
    exact ⟨rfl, HB3.out⟩
  | false =>
    rw [hlong] at kl
    have hb100 := (longB_false hlong).1
    have h1 : a.length ≤ 100 := hb100 _ (by simp)
    have h2 : b.length ≤ 100 := hb100 _ (by simp)
    have h3 : c.length ≤ 100 := hb100 _ (by simp)
    have KL := Lib.hid kl
    clear kl hlong hb100
    have k1 := fun W hx hy => union_any A B ca cb a b W hx hy (by omega) (by omega)
    have k2 := fun W hx hy => union_any B A cb ca b a W hx hy (by omega) (by omega)
    have k3 := fun W hx hy => union_any B C cb cc b c W hx hy (by omega) (by omega)
    rw [uniE_comm, uniL_comm] at k2
    have l1 := uniL_length a b
    have l2 := uniL_length b c
    have z1 := uniE_01 a b
    have z2 := uniE_01 b c
    by_cases hz : uniE a b = 0 ∧ uniE b c = 0
    · obtain ⟨e1, e2⟩ := hz
      have y1 := uniE_zero e1
      have y2 := uniE_zero e2
      have k4 := fun X cx W hx hy => union_any X C cx cc (uniL a b) c W hx hy (by omega) (by omega)
      have k5 := fun X cx W hx hy => union_any A X ca cx a (uniL b c) W hx hy (by omega) (by omega)
      have k6 := fun W hx hy => union_any A A ca ca a a W hx hy (by omega) (by omega)
      rw [(uni_ok y1.1 y1.2).2] at k4
      rw [(uni_ok y2.1 y2.2).2] at k5
      have a1 := asc_union y1.1 y1.2
      have a2 := asc_union y2.1 y2.2
      rw [(uni_ok a1 y2.2).1, (uni_ok a1 y2.2).2, unionL_assoc] at k4
      rw [(uni_ok y1.1 a2).1, (uni_ok y1.1 a2).2] at k5
      rw [(uni_ok y1.1 y1.1).1, (uni_ok y1.1 y1.1).2, unionL_self ((asc_iff a).1 y1.1).1] at k6
      have l3 := unionL_length a (unionL b c)
      have l4 := unionL_length b c
      rw [e1, (uni_ok y1.1 y1.2).2] at k1 k2
      rw [e2, (uni_ok y2.1 y2.2).2] at k3
      have l5 := unionL_length a b
      generalize unionL a (unionL b c) = abc at *
      generalize unionL a b = ab at *
      generalize unionL b c = bc at *
      have K1 := Lib.hid k1
      have K2 := Lib.hid k2
      have K3 := Lib.hid k3
      have K4 := Lib.hid k4
      have K5 := Lib.hid k5
      have K6 := Lib.hid k6
      clear k1 k2 k3 k4 k5 k6 e1 e2 y1 y2 a1 a2 z1 z2 l1 l2
      have HB0 := Lib.hid (Below.refl w.heap.size w)
      go_enter Try.func7, Try.ntmps7
      go_wp2_with fail
      have hb := (Below.refl w.heap.size w).alloc (Nat.le_refl _) (.cells #[.slice A a.length ca, .slice B b.length cb, .slice C c.length cc] 25)
      have HB1 := Lib.hid (HB0.out.trans (hb.mono HB0.out.size))
      clear HB0
      replace HA := Lib.hid (HA.out.upto hb)
      replace HBb := Lib.hid (HBb.out.upto hb)
      replace HC := Lib.hid (HC.out.upto hb)
      clear hb
      refine (KL.out w w.heap.size rfl).mono ?_
      rintro e w2 ⟨rfl, hb⟩
      rw [← World.size_alloc w (.cells #[.slice A a.length ca, .slice B b.length cb, .slice C c.length cc] 25)] at hb
      have HB2 := Lib.hid (HB1.out.trans (hb.mono HB1.out.size))
      clear HB1
      replace HA := Lib.hid (HA.out.upto hb)
      replace HBb := Lib.hid (HBb.out.upto hb)
      replace HC := Lib.hid (HC.out.upto hb)
      clear hb
      go_wp2_with fail
      refine (awake14_any _).mono ?_
      rintro e w3 ⟨rfl, hb⟩
      have HB3 := Lib.hid (HB2.out.trans (hb.mono HB2.out.size))
      clear HB2
      replace HA := Lib.hid (HA.out.upto hb)
      replace HBb := Lib.hid (HBb.out.upto hb)
      replace HC := Lib.hid (HC.out.upto hb)
      clear hb
      go_wp2_with fail
      refine (K1.out _ HA.out HBb.out).mono ?_
      rintro e w4 ⟨v, rfl, hown, hb⟩
      obtain ⟨Ax, cx, rfl, hI⟩ := ownsRow_ints hown
      have HIx := Lib.hid hI
      clear hown hI
      have HB4 := Lib.hid (HB3.out.trans (hb.mono HB3.out.size))
      clear HB3
      replace HA := Lib.hid (HA.out.upto hb)
      replace HBb := Lib.hid (HBb.out.upto hb)
      replace HC := Lib.hid (HC.out.upto hb)
      clear hb
      go_wp2_with fail
      refine (K2.out _ HBb.out HA.out).mono ?_
      rintro e w5 ⟨v, rfl, hown, hb⟩
      obtain ⟨Ay, cy, rfl, hI⟩ := ownsRow_ints hown
      have HIy := Lib.hid hI
      clear hown hI
      have HB5 := Lib.hid (HB4.out.trans (hb.mono HB4.out.size))
      clear HB4
      replace HA := Lib.hid (HA.out.upto hb)
      replace HBb := Lib.hid (HBb.out.upto hb)
      replace HC := Lib.hid (HC.out.upto hb)
      replace HIx := Lib.hid (HIx.out.upto hb)
      clear hb
      go_wp2_with fail
      refine (ints_same _ _ _ _ _ _ HIx.out HIy.out (by omega)).mono ?_
      rintro e w6 ⟨rfl, hb⟩
      have HB6 := Lib.hid (HB5.out.trans (hb.mono HB5.out.size))
      clear HB5
      replace HA := Lib.hid (HA.out.upto hb)
      replace HBb := Lib.hid (HBb.out.upto hb)
      replace HC := Lib.hid (HC.out.upto hb)
      replace HIx := Lib.hid (HIx.out.upto hb)
      replace HIy := Lib.hid (HIy.out.upto hb)
      clear hb
      go_wp2_with fail
      refine (K3.out _ HBb.out HC.out).mono ?_
      rintro e w7 ⟨v, rfl, hown, hb⟩
      obtain ⟨Az, cz, rfl, hI⟩ := ownsRow_ints hown
      have HIz := Lib.hid hI
      clear hown hI
      have HB7 := Lib.hid (HB6.out.trans (hb.mono HB6.out.size))
      clear HB6
      replace HA := Lib.hid (HA.out.upto hb)
      replace HBb := Lib.hid (HBb.out.upto hb)
      replace HC := Lib.hid (HC.out.upto hb)
      replace HIx := Lib.hid (HIx.out.upto hb)
      replace HIy := Lib.hid (HIy.out.upto hb)
      clear hb
      go_wp2_with fail
      refine (K4.out _ _ _ HIx.out HC.out).mono ?_
      rintro e w8 ⟨v, rfl, hown, hb⟩
      obtain ⟨Ap, cp, rfl, hI⟩ := ownsRow_ints hown
      have HIp := Lib.hid hI
      clear hown hI
      have HB8 := Lib.hid (HB7.out.trans (hb.mono HB7.out.size))
      clear HB7
      replace HA := Lib.hid (HA.out.upto hb)
      replace HBb := Lib.hid (HBb.out.upto hb)
      replace HC := Lib.hid (HC.out.upto hb)
      replace HIx := Lib.hid (HIx.out.upto hb)
      replace HIy := Lib.hid (HIy.out.upto hb)
      replace HIz := Lib.hid (HIz.out.upto hb)
      clear hb
      go_wp2_with fail
      refine (K5.out _ _ _ HA.out HIz.out).mono ?_
      rintro e w9 ⟨v, rfl, hown, hb⟩
      obtain ⟨Aq, cq, rfl, hI⟩ := ownsRow_ints hown
      have HIq := Lib.hid hI
      clear hown hI
      have HB9 := Lib.hid (HB8.out.trans (hb.mono HB8.out.size))
      clear HB8
      replace HA := Lib.hid (HA.out.upto hb)
      replace HBb := Lib.hid (HBb.out.upto hb)
      replace HC := Lib.hid (HC.out.upto hb)
      replace HIx := Lib.hid (HIx.out.upto hb)
      replace HIy := Lib.hid (HIy.out.upto hb)
      replace HIz := Lib.hid (HIz.out.upto hb)
      replace HIp := Lib.hid (HIp.out.upto hb)
      clear hb
      go_wp2_with fail
      refine (K6.out _ HA.out HA.out).mono ?_
      rintro e w10 ⟨v, rfl, hown, hb⟩
      obtain ⟨Ar, cr, rfl, hI⟩ := ownsRow_ints hown
      have HIr := Lib.hid hI
      clear hown hI
      have HB10 := Lib.hid (HB9.out.trans (hb.mono HB9.out.size))
      clear HB9
      replace HA := Lib.hid (HA.out.upto hb)
      replace HBb := Lib.hid (HBb.out.upto hb)
      replace HC := Lib.hid (HC.out.upto hb)
      replace HIx := Lib.hid (HIx.out.upto hb)
      replace HIy := Lib.hid (HIy.out.upto hb)
      replace HIz := Lib.hid (HIz.out.upto hb)
      replace HIp := Lib.hid (HIp.out.upto hb)
      replace HIq := Lib.hid (HIq.out.upto hb)
      clear hb
      go_wp2_with fail
      refine (ints_same _ _ _ _ _ _ HIp.out HIq.out (by omega)).mono ?_
      rintro e w11 ⟨rfl, hb⟩
      have HB11 := Lib.hid (HB10.out.trans (hb.mono HB10.out.size))
      clear HB10
      replace HA := Lib.hid (HA.out.upto hb)
      replace HBb := Lib.hid (HBb.out.upto hb)
      replace HC := Lib.hid (HC.out.upto hb)
      replace HIx := Lib.hid (HIx.out.upto hb)
      replace HIy := Lib.hid (HIy.out.upto hb)
      replace HIz := Lib.hid (HIz.out.upto hb)
      replace HIp := Lib.hid (HIp.out.upto hb)
      replace HIq := Lib.hid (HIq.out.upto hb)
      replace HIr := Lib.hid (HIr.out.upto hb)
      clear hb
      go_wp2_with fail
      refine (ints_same _ _ _ _ _ _ HIr.out HA.out (by omega)).mono ?_
      rintro e w12 ⟨rfl, hb⟩
      have HB12 := Lib.hid (HB11.out.trans (hb.mono HB11.out.size))
      clear HB11
      replace HA := Lib.hid (HA.out.upto hb)
      replace HBb := Lib.hid (HBb.out.upto hb)
      replace HC := Lib.hid (HC.out.upto hb)
      replace HIx := Lib.hid (HIx.out.upto hb)
      replace HIy := Lib.hid (HIy.out.upto hb)
      replace HIz := Lib.hid (HIz.out.upto hb)
      replace HIp := Lib.hid (HIp.out.upto hb)
      replace HIq := Lib.hid (HIq.out.upto hb)
      replace HIr := Lib.hid (HIr.out.upto hb)
      clear hb
      go_wp2_with fail
      go_ret
      exact ⟨rfl, HB12.out⟩
    · generalize uniL a b = ab at *
      generalize uniL b c = bc at *
      generalize uniE a b = x1 at *
      generalize uniE b c = x2 at *
      have K1 := Lib.hid k1
      have K2 := Lib.hid k2
      have K3 := Lib.hid k3
      clear k1 k2 k3
      have h4 : (x1 = 0 ∧ x2 = 1) ∨ (x1 = 1 ∧ x2 = 0) ∨ (x1 = 1 ∧ x2 = 1) := by omega
      clear hz z1 z2
      rcases h4 with ⟨rfl, rfl⟩ | ⟨rfl, rfl⟩ | ⟨rfl, rfl⟩
      all_goals
        have HB0 := Lib.hid (Below.refl w.heap.size w)
        go_enter Try.func7, Try.ntmps7
        go_wp2_with fail
        have hb := (Below.refl w.heap.size w).alloc (Nat.le_refl _) (.cells #[.slice A a.length ca, .slice B b.length cb, .slice C c.length cc] 25)
        have HB1 := Lib.hid (HB0.out.trans (hb.mono HB0.out.size))
        clear HB0
        replace HA := Lib.hid (HA.out.upto hb)
        replace HBb := Lib.hid (HBb.out.upto hb)
        replace HC := Lib.hid (HC.out.upto hb)
        clear hb
        refine (KL.out w w.heap.size rfl).mono ?_
        rintro e w2 ⟨rfl, hb⟩
        rw [← World.size_alloc w (.cells #[.slice A a.length ca, .slice B b.length cb, .slice C c.length cc] 25)] at hb
        have HB2 := Lib.hid (HB1.out.trans (hb.mono HB1.out.size))
        clear HB1
        replace HA := Lib.hid (HA.out.upto hb)
        replace HBb := Lib.hid (HBb.out.upto hb)
        replace HC := Lib.hid (HC.out.upto hb)
        clear hb
        go_wp2_with fail
        refine (awake14_any _).mono ?_
        rintro e w3 ⟨rfl, hb⟩
        have HB3 := Lib.hid (HB2.out.trans (hb.mono HB2.out.size))
        clear HB2
        replace HA := Lib.hid (HA.out.upto hb)
        replace HBb := Lib.hid (HBb.out.upto hb)
        replace HC := Lib.hid (HC.out.upto hb)
        clear hb
        go_wp2_with fail
        refine (K1.out _ HA.out HBb.out).mono ?_
        rintro e w4 ⟨v, rfl, hown, hb⟩
        obtain ⟨Ax, cx, rfl, hI⟩ := ownsRow_ints hown
        have HIx := Lib.hid hI
        clear hown hI
        have HB4 := Lib.hid (HB3.out.trans (hb.mono HB3.out.size))
        clear HB3
        replace HA := Lib.hid (HA.out.upto hb)
        replace HBb := Lib.hid (HBb.out.upto hb)
        replace HC := Lib.hid (HC.out.upto hb)
        clear hb
        go_wp2_with fail
        refine (K2.out _ HBb.out HA.out).mono ?_
        rintro e w5 ⟨v, rfl, hown, hb⟩
        obtain ⟨Ay, cy, rfl, hI⟩ := ownsRow_ints hown
        have HIy := Lib.hid hI
        clear hown hI
        have HB5 := Lib.hid (HB4.out.trans (hb.mono HB4.out.size))
        clear HB4
        replace HA := Lib.hid (HA.out.upto hb)
        replace HBb := Lib.hid (HBb.out.upto hb)
        replace HC := Lib.hid (HC.out.upto hb)
        replace HIx := Lib.hid (HIx.out.upto hb)
        clear hb
        go_wp2_with fail
        refine (ints_same _ _ _ _ _ _ HIx.out HIy.out (by omega)).mono ?_
        rintro e w6 ⟨rfl, hb⟩
        have HB6 := Lib.hid (HB5.out.trans (hb.mono HB5.out.size))
        clear HB5
        replace HA := Lib.hid (HA.out.upto hb)
        replace HBb := Lib.hid (HBb.out.upto hb)
        replace HC := Lib.hid (HC.out.upto hb)
        replace HIx := Lib.hid (HIx.out.upto hb)
        replace HIy := Lib.hid (HIy.out.upto hb)
        clear hb
        go_wp2_with fail
        refine (K3.out _ HBb.out HC.out).mono ?_
        rintro e w7 ⟨v, rfl, hown, hb⟩
        obtain ⟨Az, cz, rfl, hI⟩ := ownsRow_ints hown
        have HIz := Lib.hid hI
        clear hown hI
        have HB7 := Lib.hid (HB6.out.trans (hb.mono HB6.out.size))
        clear HB6
        replace HA := Lib.hid (HA.out.upto hb)
        replace HBb := Lib.hid (HBb.out.upto hb)
        replace HC := Lib.hid (HC.out.upto hb)
        replace HIx := Lib.hid (HIx.out.upto hb)
        replace HIy := Lib.hid (HIy.out.upto hb)
        clear hb
        go_wp2_with fail
        go_ret
        exact ⟨rfl, HB7.out⟩
end Go.Proofs.Ytcacaiakkfgdpaa
