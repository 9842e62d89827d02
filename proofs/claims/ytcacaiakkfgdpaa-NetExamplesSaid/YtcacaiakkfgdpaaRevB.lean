/- net.Reverse. (Under way.) -/
import Derived.Test.YtcacaiakkfgdpaaRevA
import Derived.Test.YtcacaiakkfgdpaaNetB
import Derived.Test.YtcacaiakkfgdpaaOnly
import Derived.Deep.RegionLaw
import Derived.Deep.RegionHeld3
import Derived.BigRegion
import Derived.Deep.DeepCutAuto
namespace Go.Proofs.Ytcacaiakkfgdpaa
open Go.RowKit
set_option linter.unusedVariables false

/-- One field of a line is another number. -/
def setLn (l : Ln) (j : Nat) (v : Int) : Ln :=
  match j with
  | 0 => (v, l.2.1, l.2.2.1, l.2.2.2)
  | 1 => (l.1, v, l.2.2.1, l.2.2.2)
  | 2 => (l.1, l.2.1, v, l.2.2.2)
  | _ => (l.1, l.2.1, l.2.2.1, v)
theorem lnCells_set (ls : List Ln) : ∀ (x j : Nat) (v : Int), x < ls.length → j < 4 → (lnCells ls).set (x * 4 + j) (.int .i64 v) = lnCells (ls.set x (setLn (ls.getD x (0, 0, 0, 0)) j v)) := by
  induction ls with
  | nil => intro x j v hx; simp at hx
  | cons l ls ih =>
    intro x j v hx hj
    have e : ∀ l : Ln, ∀ ls, lnCells (l :: ls) = [.int .i64 l.1, .int .i64 l.2.1, .int .i64 l.2.2.1, .int .i64 l.2.2.2] ++ lnCells ls := by intro l ls; simp [lnCells]
    cases x with
    | zero =>
      rw [e, List.set_cons_zero, e]
      match j, hj with
      | 0, _ => rfl
      | 1, _ => rfl
      | 2, _ => rfl
      | 3, _ => rfl
    | succ x =>
      rw [e, List.set_cons_succ, e, List.set_append_right _ _ (by simp; omega)]
      have h := ih x j v (by simpa using hx) hj
      rw [show (x + 1) * 4 + j - [Value.int .i64 l.1, .int .i64 l.2.1, .int .i64 l.2.2.1, .int .i64 l.2.2.2].length = x * 4 + j by simp; omega, h]
      simp
theorem owns_setLn {w : World} {base g cap : Nat} {ls : List Ln} (h : w.ownsRow base 51 4 (.slice (some ⟨g, 0, none⟩) ls.length cap) ls.length (lnCells ls)) (x j : Nat) (v : Int) (hx : x < ls.length) (hj : j < 4) :
    (w.setCell ⟨g, x * 4 + j, none⟩ (.int .i64 v)).ownsRow base 51 4 (.slice (some ⟨g, 0, none⟩) ls.length cap) ls.length (lnCells (ls.set x (setLn (ls.getD x (0, 0, 0, 0)) j v))) := by
  rw [← lnCells_set ls x j v hx hj]
  exact (h.stored (x * 4 + j) _).1

/-- The copied network lies in a box. -/
def RevRel (nb : Int) (ls : List Ln) (w1 : World) (s7 : Value) (wx : World) : Prop :=
  ∃ B A3 c3, s7 = .pointer (some ⟨B, 0, none⟩) ∧ wx.cell? ⟨B, 0, none⟩ = some (.int .i64 nb) ∧ wx.cell? ⟨B, 1, none⟩ = some (.slice A3 ls.length c3) ∧
    wx.ownsRow w1.heap.size 51 4 (.slice A3 ls.length c3) ls.length (lnCells ls) ∧ w1.heap.size ≤ B ∧ B < wx.heap.size ∧ (∀ g, (Value.slice A3 ls.length c3).ownBlock = some g → g ≠ B) ∧ Below w1.heap.size w1 wx
theorem rev_alloc {nb : Int} {ls : List Ln} {w1 wC : World} {A3 : Option Addr} {c3 : Nat} {t : TypeId} (h3 : wC.ownsRow w1.heap.size 51 4 (.slice A3 ls.length c3) ls.length (lnCells ls)) (hb : Below w1.heap.size w1 wC) :
    RevRel nb ls w1 (.pointer (some ⟨wC.heap.size, 0, none⟩)) (wC.alloc (.cells #[.int .i64 nb, .slice A3 ls.length c3] t)) := by
  have hB : Below wC.heap.size wC (wC.alloc (.cells #[.int .i64 nb, .slice A3 ls.length c3] t)) := (Below.refl _ _).alloc (Nat.le_refl _) _
  refine ⟨_, A3, c3, rfl, cell_alloc_at _ _ _ _ _ rfl, cell_alloc_at _ _ _ _ _ rfl, h3.alloc _, hb.size, by simp, fun g hg => ?_, hb.trans (hB.mono hb.size)⟩
  have := (h3.lt g hg).2
  omega
theorem rev_set {nb : Int} {ls : List Ln} {w1 wC : World} {A3 : Option Addr} {c3 : Nat} {u0 u1 : Value} (h3 : wC.ownsRow (w1.heap.size + 1) 51 4 (.slice A3 ls.length c3) ls.length (lnCells ls)) (hb : Below w1.heap.size w1 wC)
    (hc0 : wC.cell? ⟨w1.heap.size, 0, none⟩ = some u0) (hc1 : wC.cell? ⟨w1.heap.size, 1, none⟩ = some u1) :
    RevRel nb ls w1 (.pointer (some ⟨w1.heap.size, 0, none⟩)) ((wC.setCell ⟨w1.heap.size, 0, none⟩ (.int .i64 nb)).setCell ⟨w1.heap.size, 1, none⟩ (.slice A3 ls.length c3)) := by
  have e3 : ∀ g, (Value.slice A3 ls.length c3).ownBlock = some g → g ≠ w1.heap.size := fun g hg => by
    have := (h3.lt g hg).1
    omega
  have g1 : wC.grownBy ((wC.setCell ⟨w1.heap.size, 0, none⟩ (.int .i64 nb)).setCell ⟨w1.heap.size, 1, none⟩ (.slice A3 ls.length c3)) (some w1.heap.size) :=
    only_setCell (p := ⟨w1.heap.size, 1, none⟩) (only_setCell (p := ⟨w1.heap.size, 0, none⟩) (World.grownBy.refl _ _) (.inl rfl) _) (.inl rfl) _
  have k3 := h3.kept g1 (by
    by_cases h : (Value.slice A3 ls.length c3).ownBlock = none
    · exact .inl h
    · exact .inr (fun e => e3 _ e rfl))
  have hlt : w1.heap.size < wC.heap.size := World.block_lt_of_cell? wC ⟨w1.heap.size, 0, none⟩ hc0
  refine ⟨_, A3, c3, rfl, ?_, ?_, ownsRow_base k3 (by omega), Nat.le_refl _, Nat.lt_of_lt_of_le hlt g1.size, e3, (hb.setCell (p := ⟨w1.heap.size, 0, none⟩) (Nat.le_refl _) _).setCell (p := ⟨w1.heap.size, 1, none⟩) (Nat.le_refl _) _⟩
  · rw [World.cell?_setCell_other _ _ _ _ (by simp)]
    exact World.cell?_setCell_same _ _ _ hc0
  · refine World.cell?_setCell_same _ _ _ (u := u1) ?_
    rw [World.cell?_setCell_other _ _ _ _ (by simp)]
    exact hc1

theorem grownBy_two (w : World) (B i j : Nat) (u v : Value) : w.grownBy ((w.setCell ⟨B, i, none⟩ u).setCell ⟨B, j, none⟩ v) (some B) :=
  only_setCell (p := ⟨B, j, none⟩) (only_setCell (p := ⟨B, i, none⟩) (World.grownBy.refl _ _) (.inl rfl) _) (.inl rfl) _
/-- A network whose lines are the call's own and an error code come back; nothing that lay has turned. -/
def NetRE (w : World) (nb : Int) (ls : List Ln) (er : Int) (e : Ending) (w' : World) : Prop :=
  ∃ A c, e = .returned (.tuple #[.agg #[.int .i64 nb, .slice A ls.length c], .int .i64 er]) ∧ w'.ownsRow w.heap.size 51 4 (.slice A ls.length c) ls.length (lnCells ls) ∧ Below w.heap.size w w'
/-- Line x the other way round. -/
def swapAt (ls : List Ln) (x : Nat) : List Ln := ls.set x ((ls.getD x (0, 0, 0, 0)).2.1, (ls.getD x (0, 0, 0, 0)).1, (ls.getD x (0, 0, 0, 0)).2.2)
theorem swapAt_length (ls : List Ln) (x : Nat) : (swapAt ls x).length = ls.length := by simp [swapAt]
theorem owns_swap {w : World} {base g cap : Nat} {ls : List Ln} {x : Nat} (h : w.ownsRow base 51 4 (.slice (some ⟨g, 0, none⟩) ls.length cap) ls.length (lnCells ls)) (hx : x < ls.length) :
    ((w.setCell ⟨g, x * 4, none⟩ (.int .i64 (ls.getD x (0, 0, 0, 0)).2.1)).setCell ⟨g, x * 4 + 1, none⟩ (.int .i64 (ls.getD x (0, 0, 0, 0)).1)).ownsRow base 51 4 (.slice (some ⟨g, 0, none⟩) (swapAt ls x).length cap) (swapAt ls x).length (lnCells (swapAt ls x)) := by
  have h1 := owns_setLn h x 0 (ls.getD x (0, 0, 0, 0)).2.1 hx (by omega)
  rw [show ls.length = (ls.set x (setLn (ls.getD x (0, 0, 0, 0)) 0 (ls.getD x (0, 0, 0, 0)).2.1)).length by simp] at h1
  have h2 := owns_setLn h1 x 1 (ls.getD x (0, 0, 0, 0)).1 (by simpa using hx) (by omega)
  rw [List.set_set] at h2
  simp only [List.length_set] at h2
  rw [swapAt_length]
  unfold swapAt
  rw [show (ls.set x (setLn (ls.getD x (0, 0, 0, 0)) 0 (ls.getD x (0, 0, 0, 0)).2.1)).getD x (0, 0, 0, 0) = setLn (ls.getD x (0, 0, 0, 0)) 0 (ls.getD x (0, 0, 0, 0)).2.1 by simp [hx]] at h2
  exact h2

set_option maxRecDepth 100000 in
set_option maxHeartbeats 8000000 in
theorem rev_ok (nb : Int) (A : Option Addr) (c : Nat) (ls : List Ln) (x : Nat) (w : World) (hl : LinesR w w.heap.size A ls) (hm : ls.length ≤ 1000000) (he : checkE nb ls = 0) (hx : x < ls.length) :
    Calls Try.prog 34 #[.agg #[.int .i64 nb, .slice A ls.length c], .int .i64 x] w (NetRE w nb (swapAt ls x) 0) := by
  have HL := Lib.hid hl
  clear hl
  have k1 := fun W hl => check_any nb A c ls W hl
  rw [he] at k1
  have K1 := Lib.hid k1
  clear k1 he
  go_enter Try.func34, Try.ntmps34
  go_wp2_with fail
  refine (K1.out _ (HL.out.upto (below_alloc2 w _ _))).mono ?_
  rintro e w1 ⟨rfl, hb1⟩
  have hz := hb1.size
  simp only [World.size_alloc] at hz
  have hB1 : Below w.heap.size w w1 := (below_alloc2 w _ _).trans (hb1.mono (by simp; omega))
  have q0 : w1.cell? ⟨w.heap.size, 0, none⟩ = some (.int .i64 nb) := (hb1.cell (by simp; omega)).trans (by simp)
  have q1 : w1.cell? ⟨w.heap.size, 1, none⟩ = some (.slice A ls.length c) := (hb1.cell (by simp; omega)).trans (by simp)
  have r0 : w1.cell? ⟨w.heap.size + 1, 0, none⟩ = some (.int .i64 0) := (hb1.cell (by simp)).trans (by simp)
  have r1 : w1.cell? ⟨w.heap.size + 1, 1, none⟩ = some (.slice none 0 0) := (hb1.cell (by simp)).trans (by simp)
  have HB1 := Lib.hid hB1
  replace HL := Lib.hid (HL.out.upto hB1)
  have s0 : w1.frozen? ⟨w.heap.size + 1, 0, none⟩ = false := (hb1.frozen (by simp)).trans (by simp)
  have s1 : w1.frozen? ⟨w.heap.size + 1, 1, none⟩ = false := (hb1.frozen (by simp)).trans (by simp)
  clear hb1 hB1 K1
  go_upto_region 6 with fail
  go_cut [7] (fun s7 wx => RevRel nb ls w1 s7 wx)
  case first =>
    have CL := Lib.hid (fun W h => clone_any A c ls W h hm)
    have hzz : w.heap.size < w1.heap.size := by omega
    have hzy : w.heap.size + 1 < w1.heap.size := by omega
    have hne1 : ¬ w.heap.size = w1.heap.size := by omega
    have hne2 : ¬ w1.heap.size = w.heap.size := by omega
    go_region_held3 (fun w' => w'.cell? ⟨w.heap.size, 0, none⟩ = some (.int .i64 nb) ∧ w'.cell? ⟨w.heap.size, 1, none⟩ = some (.slice A ls.length c))
      (first | go_keep | exact ⟨g0, g1⟩)
      (first | (go_at_call 48; refine (CL.out _ (by first | exact HL.out | exact (HL.out.alloc (Nat.le_refl _) _).more (by simp))).mono ?_; rintro e wC ⟨v, rfl, hown, hb⟩; obtain ⟨A3, c3, rfl, hI3⟩ := ownsRow_linesR hown; obtain ⟨hcC, hfC⟩ := bcell hb; have hsC := hb.size; (try simp only [World.size_drew, World.size_alloc] at hsC); have hzC : w.heap.size < wC.heap.size := (by omega); have g0 : wC.cell? ⟨w.heap.size, 0, none⟩ = some (.int .i64 nb) := (hb.cell (by show w.heap.size < _; simp; omega)).trans (by simp [*]); have g1 : wC.cell? ⟨w.heap.size, 1, none⟩ = some (.slice A ls.length c) := (hb.cell (by show w.heap.size < _; simp; omega)).trans (by simp [*]);  have HOWN := Lib.hid hown; have HBC := Lib.hid hb; clear hown hb hI3))
    all_goals (go_wp2_with fail; go_meet; first
      | exact rev_alloc HOWN.out (Below.trans (Below.refl _ _).drew HBC.out)
      | exact rev_set (u0 := .int .i64 0) (u1 := .slice none 0 0) (by have h := HOWN.out; simp only [World.size_drew, World.size_alloc] at h; exact h) (Below.trans ((Below.refl _ _).alloc (Nat.le_refl _) _).drew (HBC.out.mono (by simp))) ((HBC.out.cell (by simp)).trans (by simp)) ((HBC.out.cell (by simp)).trans (by simp)))
  case rest =>
    obtain ⟨B, A3, c3, rfl, p0, p1, hown, hwB, hBx, hgB, hbx⟩ := hcut
    obtain ⟨g, rfl⟩ : ∃ g, A3 = some ⟨g, 0, none⟩ := by
      rcases hown.2 with ⟨h, h0⟩ | ⟨g, cap, cur, h, _⟩
      · omega
      · simp at h; exact ⟨g, h.1⟩
    have hgB' : ¬ g = B := hgB g rfl
    have hgB'' : ¬ B = g := fun h => hgB' h.symm
    obtain ⟨hg1, hg2⟩ := hown.lt g rfl
    obtain ⟨b, off, rfl, hbb, hcc⟩ := HL.out (by omega)
    obtain ⟨l0, l1, l2, l3⟩ := hcc x hx
    have f0 : wc.cell? ⟨b, off + x * 4, none⟩ = _ := (hbx.cell (p := ⟨b, off + x * 4, none⟩) hbb).trans l0
    have f1 : wc.cell? ⟨b, off + x * 4 + 1, none⟩ = _ := (hbx.cell (p := ⟨b, off + x * 4 + 1, none⟩) hbb).trans l1
    have o0 := (hown.cellAt (x * 4) (by omega)).trans (lnCells_at ls x hx).1
    have o1 := (hown.cellAt (x * 4 + 1) (by omega)).trans (lnCells_at ls x hx).2.1
    have z0 := hown.frozenAt (x * 4)
    have z1 := hown.frozenAt (x * 4 + 1)
    have q1' := (hbx.cell (p := ⟨w.heap.size, 1, none⟩) (by show w.heap.size < _; omega)).trans q1
    have r0' := (hbx.cell (p := ⟨w.heap.size + 1, 0, none⟩) (by show w.heap.size + 1 < _; omega)).trans r0
    have r1' := (hbx.cell (p := ⟨w.heap.size + 1, 1, none⟩) (by show w.heap.size + 1 < _; omega)).trans r1
    have s0' := (hbx.frozen (p := ⟨w.heap.size + 1, 0, none⟩) (by show w.heap.size + 1 < _; omega)).trans s0
    have s1' := (hbx.frozen (p := ⟨w.heap.size + 1, 1, none⟩) (by show w.heap.size + 1 < _; omega)).trans s1
    have HSW := Lib.hid (owns_swap hown hx)
    have HBX := Lib.hid hbx
    have hbg : ¬ b = g := by omega
    have hbg' : ¬ g = b := by omega
    have hwg : ¬ w.heap.size = g := by omega
    have hwg' : ¬ g = w.heap.size := by omega
    have i1 : (0 : Int) ≤ (x : Int) := by omega
    have i2 : (x : Int) < (ls.length : Int) := by omega
    clear hown hbx hcc l0 l1 l2 l3 q0 q1 r0 r1 s0 s1 hgB
    have hvg : ¬ w.heap.size + 1 = g := by omega
    have hvg' : ¬ g = w.heap.size + 1 := by omega
    have hvB : ¬ w.heap.size + 1 = B := by omega
    have hvB' : ¬ B = w.heap.size + 1 := by omega
    generalize (ls.getD x (0, 0, 0, 0)).1 = fx at *
    generalize (ls.getD x (0, 0, 0, 0)).2.1 = tx at *
    go_wp2_with fail
    go_region_held3 (fun w' => w'.cell? ⟨B, 1, none⟩ = some (.slice (some ⟨g, 0, none⟩) ls.length c3) ∧ w'.cell? ⟨w.heap.size, 1, none⟩ = some (.slice (some ⟨b, off, none⟩) ls.length c) ∧ w'.cell? ⟨b, off + x * 4, none⟩ = some (.int .i64 fx) ∧ w'.cell? ⟨b, off + x * 4 + 1, none⟩ = some (.int .i64 tx))
      (go_keep) (fail)
    go_wp2_with fail
    refine bodyPost_ret (v := .tuple #[.agg #[.int .i64 nb, .slice (some ⟨g, 0, none⟩) ls.length c3], .int .i64 0]) ?_ rfl ?_
    · simp [results, Try.results34, go_sem, *]
    · refine ⟨_, _, by rw [swapAt_length], ?_, ?_⟩
      · have hk := grownBy_two (((wc.setCell ⟨g, x * 4, none⟩ (.int .i64 tx)).setCell ⟨g, x * 4 + 1, none⟩ (.int .i64 fx))) (w.heap.size + 1) 0 1 (.int .i64 nb) (.slice (some ⟨g, 0, none⟩) ls.length c3)
        exact (ownsRow_base (HSW.out.kept hk (.inr (by simp [Value.ownBlock]; omega))) (by omega)).drew
      · exact ((((((HB1.out.trans (HBX.out.mono (by omega))).setCell (p := ⟨g, x * 4, none⟩) (by show w.heap.size ≤ g; omega) _).setCell (p := ⟨g, x * 4 + 1, none⟩) (by show w.heap.size ≤ g; omega) _).setCell (p := ⟨w.heap.size + 1, 0, none⟩) (by show w.heap.size ≤ w.heap.size + 1; omega) _).setCell (p := ⟨w.heap.size + 1, 1, none⟩) (by show w.heap.size ≤ w.heap.size + 1; omega) _)).drew

def revE (nb : Int) (ls : List Ln) (x : Int) : Int := if checkE nb ls = 0 then (if x < 0 ∨ (ls.length : Int) ≤ x then 1 else 0) else checkE nb ls
def revNb (nb : Int) (ls : List Ln) (x : Int) : Int := if revE nb ls x = 0 then nb else 0
def revL (nb : Int) (ls : List Ln) (x : Int) : List Ln := if revE nb ls x = 0 then swapAt ls x.toNat else []

theorem rev_any (nb : Int) (A : Option Addr) (c : Nat) (ls : List Ln) (x : Int) (w : World) (hl : LinesR w w.heap.size A ls) (hm : ls.length ≤ 1000000) :
    Calls Try.prog 34 #[.agg #[.int .i64 nb, .slice A ls.length c], .int .i64 x] w (NetRE w (revNb nb ls x) (revL nb ls x) (revE nb ls x)) := by
  by_cases he : checkE nb ls = 0
  · by_cases hx : x < 0 ∨ (ls.length : Int) ≤ x
    · have h1 : revE nb ls x = 1 := by rw [revE, if_pos he, if_pos hx]
      rw [revNb, revL, h1, if_neg (by omega), if_neg (by omega)]
      have HL := Lib.hid hl
      clear hl h1
      have k1 := fun W hl => check_any nb A c ls W hl
      rw [he] at k1
      have K1 := Lib.hid k1
      clear k1 he
      have hx' : (decide (x < 0) = true) ∨ (decide (x < 0) = false ∧ (ls.length : Int) ≤ x) := by by_cases h : x < 0 <;> simp [h]; omega
      clear hx
      rcases hx' with hx | ⟨hx, hx2⟩
      all_goals
        go_enter Try.func34, Try.ntmps34
        go_wp2_with fail
        refine (K1.out _ (HL.out.upto (below_alloc2 w _ _))).mono ?_
        rintro e w1 ⟨rfl, hb1⟩
        have hz := hb1.size
        simp only [World.size_alloc] at hz
        have hB1 : Below w.heap.size w w1 := (below_alloc2 w _ _).trans (hb1.mono (by simp; omega))
        have q1 : w1.cell? ⟨w.heap.size, 1, none⟩ = some (.slice A ls.length c) := (hb1.cell (by simp; omega)).trans (by simp)
        have r0 : w1.cell? ⟨w.heap.size + 1, 0, none⟩ = some (.int .i64 0) := (hb1.cell (by simp)).trans (by simp)
        have r1 : w1.cell? ⟨w.heap.size + 1, 1, none⟩ = some (.slice none 0 0) := (hb1.cell (by simp)).trans (by simp)
        have s0 : w1.frozen? ⟨w.heap.size + 1, 0, none⟩ = false := (hb1.frozen (by simp)).trans (by simp)
        have s1 : w1.frozen? ⟨w.heap.size + 1, 1, none⟩ = false := (hb1.frozen (by simp)).trans (by simp)
        have HB1 := Lib.hid hB1
        clear hb1 hB1
        go_wp2_with fail
        refine bodyPost_ret (v := .tuple #[.agg #[.int .i64 0, .slice none 0 0], .int .i64 1]) (by simp [results, Try.results34, go_sem, *]) rfl ⟨none, 0, rfl, World.ownsRow_nil _ _ _ _, ?_⟩
        exact (HB1.out.setCell (p := ⟨w.heap.size + 1, 0, none⟩) (by show w.heap.size ≤ w.heap.size + 1; omega) _).setCell (p := ⟨w.heap.size + 1, 1, none⟩) (by show w.heap.size ≤ w.heap.size + 1; omega) _
    · have h1 : revE nb ls x = 0 := by rw [revE, if_pos he, if_neg hx]
      rw [revNb, revL, h1, if_pos rfl, if_pos rfl]
      obtain ⟨k, rfl⟩ := Int.eq_ofNat_of_zero_le (show 0 ≤ x by omega)
      exact rev_ok nb A c ls k w hl hm he (by omega)
  · have h1 : revE nb ls x = checkE nb ls := by rw [revE, if_neg he]
    rw [revNb, revL, h1, if_neg he, if_neg he]
    have HL := Lib.hid hl
    clear hl h1
    have k1 := fun W hl => check_any nb A c ls W hl
    have hb : (checkE nb ls != 0) = true := by rw [bne_iff_ne]; exact he
    clear he
    generalize checkE nb ls = er at *
    have K1 := Lib.hid k1
    clear k1
    go_enter Try.func34, Try.ntmps34
    go_wp2_with fail
    refine (K1.out _ (HL.out.upto (below_alloc2 w _ _))).mono ?_
    rintro e w1 ⟨rfl, hb1⟩
    have hz := hb1.size
    simp only [World.size_alloc] at hz
    have hB1 : Below w.heap.size w w1 := (below_alloc2 w _ _).trans (hb1.mono (by simp; omega))
    have r0 : w1.cell? ⟨w.heap.size + 1, 0, none⟩ = some (.int .i64 0) := (hb1.cell (by simp)).trans (by simp)
    have r1 : w1.cell? ⟨w.heap.size + 1, 1, none⟩ = some (.slice none 0 0) := (hb1.cell (by simp)).trans (by simp)
    have s0 : w1.frozen? ⟨w.heap.size + 1, 0, none⟩ = false := (hb1.frozen (by simp)).trans (by simp)
    have s1 : w1.frozen? ⟨w.heap.size + 1, 1, none⟩ = false := (hb1.frozen (by simp)).trans (by simp)
    have HB1 := Lib.hid hB1
    clear hb1 hB1
    go_wp2_with fail
    refine bodyPost_ret (v := .tuple #[.agg #[.int .i64 0, .slice none 0 0], .int .i64 er]) (by simp [results, Try.results34, go_sem, *]) rfl ⟨none, 0, rfl, World.ownsRow_nil _ _ _ _, ?_⟩
    exact (HB1.out.setCell (p := ⟨w.heap.size + 1, 0, none⟩) (by show w.heap.size ≤ w.heap.size + 1; omega) _).setCell (p := ⟨w.heap.size + 1, 1, none⟩) (by show w.heap.size ≤ w.heap.size + 1; omega) _
end Go.Proofs.Ytcacaiakkfgdpaa
