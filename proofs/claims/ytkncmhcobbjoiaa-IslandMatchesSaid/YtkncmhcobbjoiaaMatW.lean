/- The walk of IslandMatches. -/
import Derived.Test.YtkncmhcobbjoiaaMatD
import Derived.Deep.RegionLaw
import Derived.Deep.DeepCutAuto
namespace Go.Proofs.Ytkncmhcobbjoiaa
open Go.RowKit
set_option linter.unusedVariables false

theorem info_line : (Try.prog.info? 37).map (fun i => (i.zero, i.size, i.bytes)) = some (some (.agg #[.int .i64 0, .int .i64 0, .int .i64 0, .int .i64 0]), 4, 32) := by kernel_rfl
theorem one_lines (ls : List Ln) : ∀ u ∈ lnCells ls, u.oneCell' = true := by
  intro u hu
  unfold lnCells at hu
  rw [List.mem_flatMap] at hu
  obtain ⟨l, _, hl⟩ := hu
  simp at hl
  rcases hl with rfl | rfl | rfl | rfl <;> rfl
theorem LinesR.toSrc {w : World} {B : Nat} {A : Option Addr} {ls : List Ln} (h : LinesR w B A ls) : Src w 4 A ls.length (lnCells ls) := by
  refine ⟨lnCells_length ls, fun hp => ?_⟩
  obtain ⟨b, off, rfl, _, hc⟩ := h hp
  refine ⟨_, rfl, fun j v hv => ?_⟩
  have hjl : j < ls.length * 4 := by rw [← lnCells_length]; exact (List.getElem?_eq_some_iff.1 hv).1
  have hi : j / 4 < ls.length := by omega
  obtain ⟨c0, c1, c2, c3⟩ := hc (j / 4) hi
  obtain ⟨d0, d1, d2, d3⟩ := lnCells_at ls (j / 4) hi
  have ha : (⟨b, off, none⟩ : Addr).add j = ⟨b, off + j, none⟩ := by unfold Addr.add; split <;> simp_all
  rw [ha]
  rcases (by omega : j % 4 = 0 ∨ j % 4 = 1 ∨ j % 4 = 2 ∨ j % 4 = 3) with h | h | h | h
  · rw [show j = j / 4 * 4 by omega, d0] at hv; rw [show off + j = off + j / 4 * 4 by omega, c0]; exact hv
  · rw [show j = j / 4 * 4 + 1 by omega, d1] at hv; rw [show off + j = off + j / 4 * 4 + 1 by omega, c1]; exact hv
  · rw [show j = j / 4 * 4 + 2 by omega, d2] at hv; rw [show off + j = off + j / 4 * 4 + 2 by omega, c2]; exact hv
  · rw [show j = j / 4 * 4 + 3 by omega, d3] at hv; rw [show off + j = off + j / 4 * 4 + 3 by omega, c3]; exact hv
theorem ownsRow_lines {w : World} {base : Nat} {v : Value} {ls : List Ln} (h : w.ownsRow base 37 4 v ls.length (lnCells ls)) : ∃ A c, v = .slice A ls.length c ∧ LinesR w w.heap.size A ls := by
  rcases h.2 with ⟨rfl, h0⟩ | ⟨g, cap, cur, rfl, hb, hg, h1, h2, h3, h4⟩
  · obtain rfl : ls = [] := List.eq_nil_of_length_eq_zero h0
    exact ⟨none, 0, rfl, LinesR.nil_⟩
  · exact ⟨_, _, rfl, LinesR.of_block hg h4⟩

/-- What the copies leave: a box with the copied network, a copied list. -/
def MatRel (nb : Int) (ls : List Ln) (out : List Int) (w1 : World) (s5 s6 : Value) (wx : World) : Prop :=
  ∃ B A3 c3 A4 c4, s5 = .pointer (some ⟨B, 0, none⟩) ∧ s6 = .slice A4 out.length c4 ∧ wx.cell? ⟨B, 0, none⟩ = some (.int .i64 nb) ∧ wx.cell? ⟨B, 1, none⟩ = some (.slice A3 ls.length c3) ∧
    LinesR wx wx.heap.size A3 ls ∧ IntsR wx wx.heap.size A4 out ∧ w1.heap.size ≤ B ∧ B < wx.heap.size ∧ Below w1.heap.size w1 wx
theorem fin_alloc {nb : Int} {ls : List Ln} {out : List Int} {w1 wO : World} {A3 A4 : Option Addr} {c3 c4 : Nat} {t : TypeId} (h3 : LinesR wO wO.heap.size A3 ls) (h4 : IntsR wO wO.heap.size A4 out) (hb : Below w1.heap.size w1 wO) :
    MatRel nb ls out w1 (.pointer (some ⟨wO.heap.size, 0, none⟩)) (.slice A4 out.length c4) (wO.alloc (.cells #[.int .i64 nb, .slice A3 ls.length c3] t)) := by
  have hB : Below wO.heap.size wO (wO.alloc (.cells #[.int .i64 nb, .slice A3 ls.length c3] t)) := (Below.refl _ _).alloc (Nat.le_refl _) _
  exact ⟨_, A3, c3, A4, c4, rfl, rfl, cell_alloc_at _ _ _ _ _ rfl, cell_alloc_at _ _ _ _ _ rfl, h3.upto hB, h4.upto hB, hb.size, by simp, hb.trans (hB.mono hb.size)⟩
theorem fin_set {nb : Int} {ls : List Ln} {out : List Int} {w1 wO : World} {A3 A4 : Option Addr} {c3 c4 B b3 b4 : Nat} (h3 : wO.ownsRow b3 37 4 (.slice A3 ls.length c3) ls.length (lnCells ls)) (h4 : wO.ownsRow b4 3 1 (.slice A4 out.length c4) out.length (out.map (Value.int .i64)))
    (e3 : ∀ g, (Value.slice A3 ls.length c3).ownBlock = some g → g ≠ B) (e4 : ∀ g, (Value.slice A4 out.length c4).ownBlock = some g → g ≠ B) {u0 u1 : Value} (hc0 : wO.cell? ⟨B, 0, none⟩ = some u0) (hc1 : wO.cell? ⟨B, 1, none⟩ = some u1) (hB : w1.heap.size ≤ B) (hb : Below w1.heap.size w1 wO) :
    MatRel nb ls out w1 (.pointer (some ⟨B, 0, none⟩)) (.slice A4 out.length c4) ((wO.setCell ⟨B, 0, none⟩ (.int .i64 nb)).setCell ⟨B, 1, none⟩ (.slice A3 ls.length c3)) := by
  have g1 : wO.grownBy ((wO.setCell ⟨B, 0, none⟩ (.int .i64 nb)).setCell ⟨B, 1, none⟩ (.slice A3 ls.length c3)) (some B) :=
    only_setCell (p := ⟨B, 1, none⟩) (only_setCell (p := ⟨B, 0, none⟩) (World.grownBy.refl _ _) (.inl rfl) _) (.inl rfl) _
  have k3 := h3.kept g1 (by
    by_cases h : (Value.slice A3 ls.length c3).ownBlock = none
    · exact .inl h
    · exact .inr (fun e => e3 B e rfl))
  have k4 := h4.kept g1 (by
    by_cases h : (Value.slice A4 out.length c4).ownBlock = none
    · exact .inl h
    · exact .inr (fun e => e4 B e rfl))
  obtain ⟨A3', c3', he3, hl3⟩ := ownsRow_lines k3
  obtain ⟨A4', c4', he4, hl4⟩ := ownsRow_ints k4
  simp only [Value.slice.injEq] at he3 he4
  obtain ⟨rfl, _, rfl⟩ := he3
  obtain ⟨rfl, _, rfl⟩ := he4
  have hlt : B < wO.heap.size := World.block_lt_of_cell? wO ⟨B, 0, none⟩ hc0
  refine ⟨B, A3, c3, A4, c4, rfl, rfl, ?_, ?_, hl3, hl4, hB, Nat.lt_of_lt_of_le hlt g1.size, (hb.setCell (p := ⟨B, 0, none⟩) hB _).setCell (p := ⟨B, 1, none⟩) hB _⟩
  · rw [World.cell?_setCell_other _ _ _ _ (by simp)]
    exact World.cell?_setCell_same _ _ _ hc0
  · refine World.cell?_setCell_same _ _ _ (u := u1) ?_
    rw [World.cell?_setCell_other _ _ _ _ (by simp)]
    exact hc1

theorem below_none {W W' : World} (h : W.grownBy W' (Value.slice none 0 0).ownBlock) : Below W.heap.size W W' := ⟨h.os, h.tape, h.output, h.size, fun k hk => h.block k hk (by simp [Value.ownBlock])⟩

theorem owns_upto {w w' : World} {base : Nat} {e : TypeId} {size : Nat} {v : Value} {n : Nat} {xs : List Value} (h : w.ownsRow base e size v n xs) (hb : Below w.heap.size w w') : w'.ownsRow base e size v n xs := by
  refine ⟨h.1, ?_⟩
  rcases h.2 with hn | ⟨g, cap, cur, rfl, hb', hg, rest⟩
  · exact .inl hn
  · exact .inr ⟨g, cap, cur, rfl, hb', (hb.block g (Array.getElem?_eq_some_iff.1 hg).1).trans hg, rest⟩
theorem RowsOwn.upto {w w' : World} {base : Nat} {v : Value} {rows : List (List Int)} (h : RowsOwn w base v rows) (hb : Below w.heap.size w w') : RowsOwn w' base v rows := by
  obtain ⟨vs, h1, h2, h3, h4⟩ := h
  refine ⟨vs, h1, owns_upto h2 hb, fun i r hr => ?_, h4⟩
  obtain ⟨u, hu, ho⟩ := h3 i r hr
  exact ⟨u, hu, owns_upto ho hb⟩

/-- What lies through the rounds. -/
structure MatSt (nb : Int) (ls : List Ln) (out l refs : List Int) (rows : List (List Int)) (b0 B : Nat) (A A' A3 A4 A1 A2 A5 : Option Addr) (c c3 : Nat) (W : World) : Prop where
  q0 : W.cell? ⟨b0, 0, none⟩ = some (.int .i64 nb)
  q1 : W.cell? ⟨b0, 1, none⟩ = some (.slice A ls.length c)
  p0 : W.cell? ⟨B, 0, none⟩ = some (.int .i64 nb)
  p1 : W.cell? ⟨B, 1, none⟩ = some (.slice A3 ls.length c3)
  hl : LinesR W W.heap.size A ls
  ho : IntsR W W.heap.size A' out
  hl3 : LinesR W W.heap.size A3 ls
  ho4 : IntsR W W.heap.size A4 out
  h1 : IntsR W W.heap.size A1 l
  h2 : IntsR W W.heap.size A2 refs
  h5 : RowsR W W.heap.size A5 rows
  lt0 : b0 < W.heap.size
  ltB : B < W.heap.size
theorem MatSt.upto {nb : Int} {ls : List Ln} {out l refs : List Int} {rows : List (List Int)} {b0 B : Nat} {A A' A3 A4 A1 A2 A5 : Option Addr} {c c3 : Nat} {W W' : World} (h : MatSt nb ls out l refs rows b0 B A A' A3 A4 A1 A2 A5 c c3 W) (hb : Below W.heap.size W W') :
    MatSt nb ls out l refs rows b0 B A A' A3 A4 A1 A2 A5 c c3 W' :=
  ⟨(hb.cell h.lt0).trans h.q0, (hb.cell h.lt0).trans h.q1, (hb.cell h.ltB).trans h.p0, (hb.cell h.ltB).trans h.p1, h.hl.upto hb, h.ho.upto hb, h.hl3.upto hb, h.ho4.upto hb, h.h1.upto hb, h.h2.upto hb, h.h5.upto hb,
    Nat.lt_of_lt_of_le h.lt0 hb.size, Nat.lt_of_lt_of_le h.ltB hb.size⟩

set_option maxRecDepth 100000 in
set_option maxHeartbeats 8000000 in
theorem mat_walk (nb : Int) (A : Option Addr) (c : Nat) (ls : List Ln) (A' : Option Addr) (c' : Nat) (out : List Int) (w : World) (hl : LinesR w w.heap.size A ls) (ho : IntsR w w.heap.size A' out) :
    Calls Try.prog 5 #[.agg #[.int .i64 nb, .slice A ls.length c], .slice A' out.length c'] w fun e w' => e = .returned (.bool true) ∧ Below w.heap.size w w' := by
  have HL := Lib.hid hl
  have HO := Lib.hid ho
  clear hl ho
  have k1 := fun b W hb => long_lit1 (.int .i64 nb) A ls.length c 25 W b hb A' out.length c'
  cases hlong : longB [out.length] ls.length with
  | true =>
    rw [hlong] at k1
    have K1 := Lib.hid k1
    clear k1 hlong
    go_enter Try.func5, Try.ntmps5
    go_wp2_with fail
    refine (K1.out _ _ (by simp)).mono ?_
    rintro e w1 ⟨rfl, hb1⟩
    have hz := hb1.size
    go_wp2_with fail
    refine (awake_any _).mono ?_
    rintro e w2 ⟨rfl, hb2⟩
    go_wp2_with fail
    go_ret
    refine ⟨rfl, (below_alloc2 w _ _).trans ((hb1.mono (by simp; omega)).trans (hb2.mono ?_))⟩
    simp at hz
    omega
  | false =>
    rw [hlong] at k1
    have hb100 := longB_false hlong
    have ho1 : out.length ≤ 100 := hb100.1 _ (by simp)
    have hm1 : ls.length ≤ 100 := hb100.2
    have K1 := Lib.hid k1
    clear k1 hlong hb100
    obtain ⟨i0, hi, hz0, hz1, hz2⟩ := info_parts info_int
    obtain ⟨j0, hj, hy0, hy1, hy2⟩ := info_parts info_line
    go_enter Try.func5, Try.ntmps5
    go_wp2_with fail
    refine (K1.out _ _ (by simp)).mono ?_
    rintro e w1 ⟨rfl, hb1⟩
    have hz := hb1.size
    simp only [World.size_alloc] at hz
    have hB1 : Below w.heap.size w w1 := (below_alloc2 w _ _).trans (hb1.mono (by simp; omega))
    have q0 : w1.cell? ⟨w.heap.size, 0, none⟩ = some (.int .i64 nb) := (hb1.cell (by simp; omega)).trans (by simp)
    have q1 : w1.cell? ⟨w.heap.size, 1, none⟩ = some (.slice A ls.length c) := (hb1.cell (by simp; omega)).trans (by simp)
    have HB1 := Lib.hid hB1
    replace HL := Lib.hid (HL.out.upto hB1)
    replace HO := Lib.hid (HO.out.upto hB1)
    clear hb1 hB1 K1
    have hzz : w.heap.size < w1.heap.size := by omega
    have Q0 := Lib.hid q0
    have Q1 := Lib.hid q1
    go_upto_region 3 with fail
    go_cut [5, 6] (fun s5 s6 wx => MatRel nb ls out w1 s5 s6 wx)
    case first =>
      go_region_law (first
        | (refine step_append_any _ rfl (.const (.slice none 0 0)) (.tmp 30) _ rfl _ 37 j0 _ 4 32 Try.underlying22 hj hy0 hy1 hy2 rfl (by omega) (.slice none 0 0) 0 [] rfl ⟨by simp, .inl ⟨rfl, rfl⟩⟩ A ls.length c (lnCells ls) rfl (by first | exact HL.out.toSrc | exact (HL.out.alloc (Nat.le_refl _) _).toSrc | exact HLO.out.toSrc | exact (HLO.out.alloc (Nat.le_refl _) _).toSrc) (one_lines _) (by simp only [maxLen]; omega) (by omega) (Nat.le_refl _) ?_; intro vL wL hownL hgL hatL; have hbL : Below w1.heap.size w1 wL := Below.grown (by first | exact (Below.refl _ _).drew | exact Below.refl _ _ | exact ((Below.refl _ _).alloc (Nat.le_refl _) _).drew | exact (Below.refl _ _).alloc (Nat.le_refl _) _ | exact hbO | exact hbO.drew | exact (hbO.alloc hbO.size _) | exact (hbO.alloc hbO.size _).drew) hgL (by first | exact Nat.le_refl _ | (simp; done) | exact hbO.size | (have := hbO.size; simp; omega)) (by simp [Value.ownBlock]); simp only [Nat.zero_add, List.nil_append] at hownL; obtain ⟨A3, c3, rfl, hI3⟩ := ownsRow_lines hownL; have H3 := Lib.hid hI3; have HOL := Lib.hid (HO.out.upto hbL); have q0L := (hbL.cell (p := ⟨w.heap.size, 0, none⟩) (by show w.heap.size < _; omega)).trans Q0.out; have q1L := (hbL.cell (p := ⟨w.heap.size, 1, none⟩) (by show w.heap.size < _; omega)).trans Q1.out; obtain ⟨hcL, hfL⟩ := bcell (below_none hgL); have hznL : w.heap.size < wL.heap.size := (by have := hbL.size; omega); have hsL := hgL.size; (try simp [Nat.succ_le_iff] at hsL); have BL := Lib.hid hownL.lt; have OL := Lib.hid hownL; have HCL := Lib.hid hcL; clear hownL hgL hatL hI3)
        | (refine step_append_any _ rfl (.const (.slice none 0 0)) (.tmp 33) _ rfl _ 3 i0 _ 1 8 Try.underlying25 hi hz0 hz1 hz2 rfl (by omega) (.slice none 0 0) 0 [] rfl ⟨by simp, .inl ⟨rfl, rfl⟩⟩ A' out.length c' (out.map (Value.int .i64)) rfl (by first | exact HO.out.toSrc | exact (HO.out.alloc (Nat.le_refl _) _).toSrc | exact HOL.out.toSrc | exact (HOL.out.alloc (Nat.le_refl _) _).toSrc) (one_ints _) (by simp only [maxLen]; omega) (by omega) (Nat.le_refl _) ?_; intro vO wO hownO hgO hatO; have hbO : Below w1.heap.size w1 wO := Below.grown (by first | exact (Below.refl _ _).drew | exact Below.refl _ _ | exact ((Below.refl _ _).alloc (Nat.le_refl _) _).drew | exact (Below.refl _ _).alloc (Nat.le_refl _) _ | exact hbL | exact hbL.drew | exact (hbL.alloc hbL.size _) | exact (hbL.alloc hbL.size _).drew) hgO (by first | exact Nat.le_refl _ | (simp; done) | exact hbL.size | (have := hbL.size; simp; omega)) (by simp [Value.ownBlock]); simp only [Nat.zero_add, List.nil_append] at hownO; obtain ⟨A4, c4, rfl, hI4⟩ := ownsRow_ints hownO; have H4 := Lib.hid hI4; have HLO := Lib.hid (HL.out.upto hbO); have q0O := (hbO.cell (p := ⟨w.heap.size, 0, none⟩) (by show w.heap.size < _; omega)).trans Q0.out; have q1O := (hbO.cell (p := ⟨w.heap.size, 1, none⟩) (by show w.heap.size < _; omega)).trans Q1.out; obtain ⟨hcO, hfO⟩ := bcell (below_none hgO); have hznO : w.heap.size < wO.heap.size := (by have := hbO.size; omega); have hsO := hgO.size; (try simp [Nat.succ_le_iff] at hsO); have BO := Lib.hid hownO.lt; have OO := Lib.hid hownO; have HCO := Lib.hid hcO; have OLO := Lib.hid (by first | exact OL.out.kept hgO (by generalize (Value.slice A3 ls.length c3).ownBlock = q; cases q <;> simp [Value.ownBlock]) | exact (OL.out.alloc _).kept hgO (by generalize (Value.slice A3 ls.length c3).ownBlock = q; cases q <;> simp [Value.ownBlock])); have HO5 := Lib.hid (H3.out.upto (Below.grown (by first | exact Below.refl _ _ | exact (Below.refl _ _).drew | exact (Below.refl _ _).alloc (Nat.le_refl _) _ | exact ((Below.refl _ _).alloc (Nat.le_refl _) _).drew) hgO (by first | exact Nat.le_refl _ | (simp; done)) (by simp [Value.ownBlock]))); clear hownO hgO hatO hI4))
      all_goals (go_wp2_with fail; go_meet; first
        | exact fin_alloc HO5.out H4.out hbO
        | (refine fin_set (u0 := .int .i64 0) (u1 := .slice none 0 0) OLO.out OO.out (fun g hg => ?_) (fun g hg => ?_) ?_ ?_ ?_ hbO
           · have h := BL.out g hg
             try simp at h
             omega
           · have h := BO.out g hg
             try simp at h
             omega
           · first | exact (HCO.out _ _ (by simp)).trans (by simp) | exact (HCO.out _ _ (by first | omega | (simp; omega))).trans ((HCL.out _ _ (by simp)).trans (by simp))
           · first | exact (HCO.out _ _ (by simp)).trans (by simp) | exact (HCO.out _ _ (by first | omega | (simp; omega))).trans ((HCL.out _ _ (by simp)).trans (by simp))
           · omega))
    case rest =>
      have hmr := hcut
      clear hcut
      obtain ⟨B, A3, c3, A4, c4, rfl, rfl, p0, p1, hl3, ho4, hwB, hBx, hbx⟩ := hmr
      have HX := Lib.hid (HB1.out.trans (hbx.mono HB1.out.size))
      replace HL := Lib.hid (HL.out.upto hbx)
      replace HO := Lib.hid (HO.out.upto hbx)
      replace q0 := (hbx.cell (p := ⟨w.heap.size, 0, none⟩) (by show w.heap.size < _; omega)).trans q0
      replace q1 := (hbx.cell (p := ⟨w.heap.size, 1, none⟩) (by show w.heap.size < _; omega)).trans q1
      have hzx : w.heap.size < wc.heap.size := by omega
      have HL3 := Lib.hid hl3
      have HO4 := Lib.hid ho4
      have hl6 : (ofL nb ls out).length ≤ 6 := ofL_length_le _ _ _
      have hr6 : (refsL nb ls out).length ≤ 6 := Nat.le_trans (refsTo_le _ _) hl6
      have hw6 : (membL nb ls out).length ≤ 6 := by rw [rows_len]; exact hr6
      have HW := Lib.hid (rows_short nb ls out)
      have k1 := fun W hl ho => refof_any nb A A' c c' ls out W hl ho (by omega) (by omega)
      have k2 := fun W hl ho => refrefs_any nb A A' c c' ls out W hl ho (by omega) (by omega)
      have k3 := fun W hl ho => refmemb_any nb A A' c c' ls out W hl ho (by omega) (by omega)
      rw [rows_eq] at k3
      have j1 := fun W hl ho => of_any nb A3 A4 c3 c4 ls out W hl ho (by omega) (by omega)
      have j2 := fun W hl ho => refs_any nb A3 A4 c3 c4 ls out W hl ho (by omega) (by omega)
      have j3 := fun W hl ho => memb_any nb A3 A4 c3 c4 ls out W hl ho (by omega) (by omega)
      have j4 := fun W hl ho => count_any nb A3 A4 c3 c4 ls out W hl ho (by omega) (by omega)
      unfold cntL at j4
      clear hbx hl3 ho4 Q0 Q1 HB1 hz
      generalize ofL nb ls out = l at *
      generalize refsL nb ls out = refs at *
      generalize membL nb ls out = rows at *
      generalize outsE nb ls out = er at *
      have K1 := Lib.hid k1
      have K2 := Lib.hid k2
      have K3 := Lib.hid k3
      have J1 := Lib.hid j1
      have J2 := Lib.hid j2
      have J3 := Lib.hid j3
      have J4 := Lib.hid j4
      clear k1 k2 k3 j1 j2 j3 j4
      have te : (er != er) = false := by simp
      have tr : ((refs.length : Int) != (refs.length : Int)) = false := by simp
      go_wp2_with fail
      refine (K1.out wc HL.out HO.out).mono ?_
      rintro e w2 ⟨v, rfl, hown, hb⟩
      obtain ⟨A1, c1, rfl, hI1⟩ := ownsRow_ints hown
      have q0' := (hb.cell (p := ⟨w.heap.size, 0, none⟩) (by show w.heap.size < _; omega)).trans q0
      have q1' := (hb.cell (p := ⟨w.heap.size, 1, none⟩) (by show w.heap.size < _; omega)).trans q1
      have p0' := (hb.cell (p := ⟨B, 0, none⟩) hBx).trans p0
      have p1' := (hb.cell (p := ⟨B, 1, none⟩) hBx).trans p1
      have HX2 := Lib.hid (HX.out.trans (hb.mono HX.out.size))
      replace HL := Lib.hid (HL.out.upto hb)
      replace HO := Lib.hid (HO.out.upto hb)
      replace HL3 := Lib.hid (HL3.out.upto hb)
      replace HO4 := Lib.hid (HO4.out.upto hb)
      have HI1 := Lib.hid hI1
      have hz2 : w.heap.size < w2.heap.size := by have := hb.size; omega
      have hB2 : B < w2.heap.size := by have := hb.size; omega
      clear hb hown hI1 q0 q1 p0 p1 HX hzx hBx
      go_wp2_with fail
      refine (K2.out w2 HL.out HO.out).mono ?_
      rintro e w3 ⟨v, rfl, hown, hb⟩
      obtain ⟨A2, c2, rfl, hI2⟩ := ownsRow_ints hown
      replace q0' := (hb.cell (p := ⟨w.heap.size, 0, none⟩) (by show w.heap.size < _; omega)).trans q0'
      replace q1' := (hb.cell (p := ⟨w.heap.size, 1, none⟩) (by show w.heap.size < _; omega)).trans q1'
      replace p0' := (hb.cell (p := ⟨B, 0, none⟩) hB2).trans p0'
      replace p1' := (hb.cell (p := ⟨B, 1, none⟩) hB2).trans p1'
      have HX3 := Lib.hid (HX2.out.trans (hb.mono HX2.out.size))
      replace HL := Lib.hid (HL.out.upto hb)
      replace HO := Lib.hid (HO.out.upto hb)
      replace HL3 := Lib.hid (HL3.out.upto hb)
      replace HO4 := Lib.hid (HO4.out.upto hb)
      replace HI1 := Lib.hid (HI1.out.upto hb)
      have HI2 := Lib.hid hI2
      have hz3 : w.heap.size < w3.heap.size := by have := hb.size; omega
      have hB3 : B < w3.heap.size := by have := hb.size; omega
      clear hb hown hI2 HX2 hz2 hB2
      go_wp2_with fail
      refine (K3.out w3 HL.out HO.out).mono ?_
      rintro e w4 ⟨v, rfl, hown, hb⟩
      obtain ⟨A5, c5, rfl, hI5⟩ := hown.read
      have HST := Lib.hid (⟨(hb.cell (p := ⟨w.heap.size, 0, none⟩) (by show w.heap.size < _; omega)).trans q0', (hb.cell (p := ⟨w.heap.size, 1, none⟩) (by show w.heap.size < _; omega)).trans q1', (hb.cell (p := ⟨B, 0, none⟩) hB3).trans p0', (hb.cell (p := ⟨B, 1, none⟩) hB3).trans p1', HL.out.upto hb, HO.out.upto hb, HL3.out.upto hb, HO4.out.upto hb, HI1.out.upto hb, HI2.out.upto hb, hI5, by have := hb.size; omega, by have := hb.size; omega⟩ : MatSt nb ls out l refs rows w.heap.size B A A' A3 A4 A1 A2 A5 c c3 w4)
      have HX4 := Lib.hid (HX3.out.trans (hb.mono HX3.out.size))
      clear hb hown hI5 q0' q1' p0' p1' HL HO HL3 HO4 HI1 HI2 hz3 hB3 HX3 K1 K2 K3 hzz hwB
      go_wp2_with fail
      go_loopg [13, 14, 15, 16, 17, 18, 19, 20, 21] 2 (fun g s13 s14 s15 s16 s17 s18 s19 s20 s21 wr => ∃ k : Nat, k + g = 2 ∧ s13 = .int .i64 k ∧ MatSt nb ls out l refs rows w.heap.size B A A' A3 A4 A1 A2 A5 c c3 wr ∧ Below w.heap.size w wr)
      case atStart => exact ⟨0, rfl, rfl, HST.out, HX4.out⟩
      case round =>
        clear HST HX4
        obtain ⟨k, hkg, rfl, hst, hbw⟩ := hrel
        have HST := Lib.hid hst
        have HBW := Lib.hid hbw
        clear hst hbw
        cases gk with
        | zero =>
          obtain rfl : k = 2 := by omega
          clear hkg
          go_wp2_with fail
          refine (awake_any _).mono ?_
          rintro e w5 ⟨rfl, hb5⟩
          go_wp2_with fail
          go_ret
          exact ⟨rfl, HBW.out.trans (hb5.mono HBW.out.size)⟩
        | succ g =>
          have hk : k < 2 := by omega
          have HG := Lib.hid hkg
          clear hkg
          obtain ⟨W0, rfl⟩ : ∃ W0 : World, W0 = wr := ⟨_, rfl⟩
          have p0 := HST.out.p0
          have p1 := HST.out.p1
          have ltB := HST.out.ltB
          go_wp2_with fail
          refine (J1.out W0 HST.out.hl3 HST.out.ho4).mono ?_
          rintro e w5 ⟨va, rfl, hownA, hb⟩
          have HB5 := Lib.hid hb
          have HS5 := Lib.hid (HST.out.upto hb)
          have HOA := Lib.hid hownA
          obtain ⟨Aa, ca, rfl, hIa⟩ := ownsRow_ints hownA
          clear hownA hb hIa p0 p1
          have p0 := HS5.out.p0
          have p1 := HS5.out.p1
          go_wp2_with fail
          refine (J2.out w5 HS5.out.hl3 HS5.out.ho4).mono ?_
          rintro e w6 ⟨vb, rfl, hownB, hb⟩
          have HB6 := Lib.hid (HB5.out.trans (hb.mono HB5.out.size))
          have HS6 := Lib.hid (HS5.out.upto hb)
          replace HOA := Lib.hid (owns_upto HOA.out hb)
          have HOB := Lib.hid (ownsRow_base hownB HB5.out.size)
          obtain ⟨Ab, cb, rfl, hIb⟩ := ownsRow_ints hownB
          clear hownB hb hIb p0 p1 HS5 HB5
          have p0 := HS6.out.p0
          have p1 := HS6.out.p1
          go_wp2_with fail
          refine (J3.out w6 HS6.out.hl3 HS6.out.ho4).mono ?_
          rintro e w7 ⟨vc, rfl, hownC, hb⟩
          have HB7 := Lib.hid (HB6.out.trans (hb.mono HB6.out.size))
          have HS7 := Lib.hid (HS6.out.upto hb)
          replace HOA := Lib.hid (owns_upto HOA.out hb)
          replace HOB := Lib.hid (owns_upto HOB.out hb)
          have HOC := Lib.hid (hownC.base_ HB6.out.size)
          obtain ⟨Ac, cc, rfl, hIc⟩ := hownC.read
          clear hownC hb hIc p0 p1 HS6 HB6
          have p0 := HS7.out.p0
          have p1 := HS7.out.p1
          go_wp2_with fail
          refine (J4.out w7 HS7.out.hl3 HS7.out.ho4).mono ?_
          rintro e w8 ⟨rfl, hb⟩
          have HB8 := Lib.hid (HB7.out.trans (hb.mono HB7.out.size))
          have HS8 := Lib.hid (HS7.out.upto hb)
          replace HOA := Lib.hid (owns_upto HOA.out hb)
          replace HOB := Lib.hid (owns_upto HOB.out hb)
          replace HOC := Lib.hid (HOC.out.upto hb)
          clear hb p0 p1 HS7 HB7
          have p0 := HS8.out.p0
          have p1 := HS8.out.p1
          have q0 := HS8.out.q0
          have q1 := HS8.out.q1
          go_wp2_with fail
          refine (ints_same Aa A1 ca c1 l w8 (own_ints HOA.out) HS8.out.h1 (by omega)).mono ?_
          rintro e w9 ⟨rfl, hb⟩
          have HB9 := Lib.hid (HB8.out.trans (hb.mono HB8.out.size))
          have HS9 := Lib.hid (HS8.out.upto hb)
          replace HOA := Lib.hid (owns_upto HOA.out hb)
          replace HOB := Lib.hid (owns_upto HOB.out hb)
          replace HOC := Lib.hid (HOC.out.upto hb)
          clear hb p0 p1 q0 q1 HS8 HB8
          have p0 := HS9.out.p0
          have p1 := HS9.out.p1
          have q0 := HS9.out.q0
          have q1 := HS9.out.q1
          go_wp2_with fail
          refine (ints_same Ab A2 cb c2 refs w9 (own_ints HOB.out) HS9.out.h2 (by omega)).mono ?_
          rintro e w10 ⟨rfl, hb⟩
          have HB10 := Lib.hid (HB9.out.trans (hb.mono HB9.out.size))
          have HS10 := Lib.hid (HS9.out.upto hb)
          replace HOA := Lib.hid (owns_upto HOA.out hb)
          replace HOB := Lib.hid (owns_upto HOB.out hb)
          replace HOC := Lib.hid (HOC.out.upto hb)
          clear hb p0 p1 q0 q1 HS9 HB9
          have p0 := HS10.out.p0
          have p1 := HS10.out.p1
          have q0 := HS10.out.q0
          have q1 := HS10.out.q1
          go_wp2_with fail
          refine (rows_same Ac A5 cc c5 rows w10 (own_rows HOC.out) HS10.out.h5 (by omega) (fun i hi => Nat.le_trans (HW.out i hi) (by decide))).mono ?_
          rintro e w11 ⟨rfl, hb⟩
          have HB11 := Lib.hid (HB10.out.trans (hb.mono HB10.out.size))
          have HS11 := Lib.hid (HS10.out.upto hb)
          replace HOA := Lib.hid (owns_upto HOA.out hb)
          replace HOB := Lib.hid (owns_upto HOB.out hb)
          replace HOC := Lib.hid (HOC.out.upto hb)
          clear hb p0 p1 q0 q1 HS10 HB10
          have p0 := HS11.out.p0
          have p1 := HS11.out.p1
          have q0 := HS11.out.q0
          have q1 := HS11.out.q1
          go_wp2_with fail
          refine (same_same nb A3 A c3 c ls w11 HS11.out.hl3 HS11.out.hl (by omega)).mono ?_
          rintro e w12 ⟨rfl, hb⟩
          have HB12 := Lib.hid (HB11.out.trans (hb.mono HB11.out.size))
          have HS12 := Lib.hid (HS11.out.upto hb)
          replace HOA := Lib.hid (owns_upto HOA.out hb)
          replace HOB := Lib.hid (owns_upto HOB.out hb)
          replace HOC := Lib.hid (HOC.out.upto hb)
          clear hb p0 p1 q0 q1 HS11 HB11
          have p0 := HS12.out.p0
          have p1 := HS12.out.p1
          have q0 := HS12.out.q0
          have q1 := HS12.out.q1
          go_wp2_with fail
          refine (ints_same A4 A' c4 c' out w12 HS12.out.ho4 HS12.out.ho (by omega)).mono ?_
          rintro e w13 ⟨rfl, hb⟩
          have HB13 := Lib.hid (HB12.out.trans (hb.mono HB12.out.size))
          have HS13 := Lib.hid (HS12.out.upto hb)
          replace HOA := Lib.hid (owns_upto HOA.out hb)
          replace HOB := Lib.hid (owns_upto HOB.out hb)
          replace HOC := Lib.hid (HOC.out.upto hb)
          clear hb p0 p1 q0 q1 HS12 HB12
          have p0 := HS13.out.p0
          have p1 := HS13.out.p1
          have q0 := HS13.out.q0
          have q1 := HS13.out.q1
          go_wp2_with fail
          refine (spoil_pair w13 W0.heap.size _ _ _ l refs 2 (by decide) HOA.out HOB.out (by omega) (by omega) _ rows HOC.out HB13.out.size).mono ?_
          rintro e w14 ⟨⟨v14, rfl⟩, hb, hcan⟩
          have HB14 := Lib.hid (HB13.out.trans hb)
          have HCAN := Lib.hid hcan
          clear hb hcan p0 p1 q0 q1 HS13 HB13 HOA HOB HOC
          go_wp2_with fail
          refine (spoil_rows w14 W0.heap.size _ rows HCAN.out (by omega) (fun i hi => Nat.le_trans (HW.out i hi) (by decide))).mono ?_
          rintro e w15 ⟨⟨v15, rfl⟩, hb⟩
          have HB15 := Lib.hid (HB14.out.trans hb)
          clear hb HCAN HB14
          go_wp2_with fail
          go_roundg g
          case measure => omega
          case rel => exact ⟨k + 1, by have := HG.out; omega, by go_num, HST.out.upto HB15.out, HBW.out.trans (HB15.out.mono HBW.out.size)⟩
end Go.Proofs.Ytkncmhcobbjoiaa
