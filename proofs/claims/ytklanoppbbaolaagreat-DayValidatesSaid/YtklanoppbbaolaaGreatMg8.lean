/- The text CkC. -/
import Derived.Test.YtklanoppbbaolaaGreatMg7
/- outage.Check. -/
namespace Go.Proofs.YtklanoppbbaolaaGreat
open Go.RowKit
set_option linter.unusedSimpArgs false
set_option linter.unusedVariables false

/-- What is wrong with one outage: 12 the kind, 1 a number, 0 nothing. -/
def ogWr (lines units hours : Int) (o : Og) : Int :=
  if o.1 ≠ 1 ∧ o.1 ≠ 2 ∧ o.1 ≠ 3 then 12
  else if o.2.1 < 0 ∨ (if o.1 = 3 then units else lines) ≤ o.2.1 ∨ o.2.2.1 < 0 ∨ o.2.2.2 < o.2.2.1 ∨ hours ≤ o.2.2.2 then 1 else 0
def chkG (f : Og → Int) : List Og → Nat → Int × Int
  | [], _ => (0, 0)
  | o :: l, i => if f o = 0 then chkG f l (i + 1) else (i, f o)
/-- What Check answers: the index and the error. -/
def ogChk (lines units hours : Int) (l : List Og) : Int × Int := if 16 < l.length then (0, 5) else chkG (ogWr lines units hours) l 0
theorem chkG_hit {f : Og → Int} {l : List Og} {k : Nat} (hk : k < l.length) (h : f (l.getD k (0, 0, 0, 0)) = 0) : chkG f (l.drop k) k = chkG f (l.drop (k + 1)) (k + 1) := by
  rw [List.drop_eq_getElem_cons hk, chkG, if_pos (by rw [← getD_eq l k (0, 0, 0, 0) hk]; exact h)]
theorem chkG_miss {f : Og → Int} {l : List Og} {k : Nat} (hk : k < l.length) (h : f (l.getD k (0, 0, 0, 0)) ≠ 0) : chkG f (l.drop k) k = ((k : Int), f (l.getD k (0, 0, 0, 0))) := by
  rw [List.drop_eq_getElem_cons hk, chkG, if_neg (by rw [← getD_eq l k (0, 0, 0, 0) hk]; exact h), getD_eq l k (0, 0, 0, 0) hk]
def ChkE (w : World) (r : Int × Int) (e : Ending) (w' : World) : Prop := e = .returned (.tuple #[.int .i64 r.1, .int .i64 r.2]) ∧ Below w.heap.size w w'
theorem ChkE.of {w w' : World} {i er : Int} {r : Int × Int} (h : r = (i, er)) (hb : Below w.heap.size w w') : ChkE w r (.returned (.tuple #[.int .i64 i, .int .i64 er])) w' := by
  subst h; exact ⟨rfl, hb⟩

set_option maxRecDepth 100000 in
set_option maxHeartbeats 8000000 in
theorem ocheck_any (lines units hours : Int) (A : Option Addr) (c : Nat) (l : List Og) (w : World) (hl : OgsR w w.heap.size A l) (hm : l.length ≤ 1000000) :
    Calls Tryz.prog 33 #[.slice A l.length c, .int .i64 lines, .int .i64 units, .int .i64 hours] w (ChkE w (ogChk lines units hours l)) := by
  have HL := Lib.hid hl
  clear hl
  by_cases h16 : 16 < l.length
  · rw [ogChk, if_pos h16]
    have b2 : decide ((16 : Int) < l.length) = true := by simp; omega
    go_enter Tryz.func33, Tryz.ntmps33
    go_wp2_with fail
    go_ret2
    exact ChkE.of rfl (Below.refl _ _)
  rw [ogChk, if_neg h16]
  have b2 : decide ((16 : Int) < l.length) = false := by simp; omega
  obtain ⟨f, hf⟩ : ∃ f, ogWr lines units hours = f := ⟨_, rfl⟩
  rw [hf]
  have HF := Lib.hid hf
  clear hf
  go_enter Tryz.func33, Tryz.ntmps33
  go_wp2_with fail
  go_loopg [8, 9, 10, 11, 12, 18] l.length (fun g s8 s9 s10 s11 s12 i wr => ∃ k : Nat, k + g = l.length ∧ i = .int .i64 k ∧ s8 = .int .i64 0 ∧ s9 = .int .i64 0 ∧ chkG f l 0 = chkG f (l.drop k) k ∧ Below w.heap.size w wr)
  case atStart => exact ⟨0, by omega, rfl, rfl, rfl, by rw [List.drop_zero], Below.refl _ _⟩
  case round =>
    obtain ⟨k, hkg, rfl, rfl, rfl, hd, hb⟩ := hrel
    have HD := Lib.hid hd
    have HB := Lib.hid hb
    have hsz := hb.size
    clear hd hb
    cases gk with
    | zero =>
      obtain rfl : k = l.length := by omega
      clear hkg
      go_wp2_with fail
      go_ret2
      exact ChkE.of (by rw [HD.out, List.drop_length, chkG]) HB.out
    | succ g =>
      have hk : k < l.length := by omega
      have HG := Lib.hid hkg
      clear hkg
      obtain ⟨b, off, rfl, hbl, hc⟩ := HL.out (by omega)
      obtain ⟨e0, e1, e2, e3⟩ := hc k hk
      have f0 := (HB.out.cell (p := ⟨b, off + k * 4, none⟩) hbl).trans e0
      have f1 := (HB.out.cell (p := ⟨b, off + k * 4 + 1, none⟩) hbl).trans e1
      have f2 := (HB.out.cell (p := ⟨b, off + k * 4 + 2, none⟩) hbl).trans e2
      have f3 := (HB.out.cell (p := ⟨b, off + k * 4 + 3, none⟩) hbl).trans e3
      clear e0 e1 e2 e3 hc
      have hit : f (l.getD k (0, 0, 0, 0)) = 0 → chkG f l 0 = chkG f (l.drop (k + 1)) (k + 1) := fun h => HD.out.trans (chkG_hit hk h)
      have miss : ∀ er : Int, er ≠ 0 → f (l.getD k (0, 0, 0, 0)) = er → chkG f l 0 = ((k : Int), er) := fun er h0 h => by rw [HD.out, chkG_miss hk (by rw [h]; exact h0), h]
      have HIT := Lib.hid hit
      have MISS := Lib.hid miss
      clear hit miss
      obtain ⟨o, hgl⟩ : ∃ o, l.getD k (0, 0, 0, 0) = o := ⟨_, rfl⟩
      rw [hgl] at f0 f1 f2 f3 HIT MISS
      clear hgl
      obtain ⟨ok, ox, of', ot⟩ := o
      simp only at f0 f1 f2 f3
      have hw : f (ok, ox, of', ot) = if ok ≠ 1 ∧ ok ≠ 2 ∧ ok ≠ 3 then 12 else if ox < 0 ∨ (if ok = 3 then units else lines) ≤ ox ∨ of' < 0 ∨ ot < of' ∨ hours ≤ ot then 1 else 0 := by rw [← HF.out]; rfl
      have HW := Lib.hid hw
      clear hw
      by_cases hk1 : ok = 1
      · have t1 : (ok == 1) = true := by rw [beq_iff_eq]; exact hk1
        have HK := Lib.hid (show ok = 1 from hk1)
        clear hk1
        by_cases q0 : ox < 0
        · have p0 : decide (ox < 0) = true := decide_eq_true q0
          have hE : f (ok, ox, of', ot) = 1 := by
            have := HK.out
            rw [HW.out, if_neg (by omega), this, if_pos (by simp; omega)]
          have HE := Lib.hid hE
          clear hE
          go_wp2_with fail
          go_ret2
          exact ChkE.of (MISS.out 1 (by decide) HE.out) (HB.out.alloc (by omega) _)
        have p0 : decide (ox < 0) = false := decide_eq_false q0
        by_cases q1 : lines ≤ ox
        · have p1 : decide (lines ≤ ox) = true := decide_eq_true q1
          have hE : f (ok, ox, of', ot) = 1 := by
            have := HK.out
            rw [HW.out, if_neg (by omega), this, if_pos (by simp; omega)]
          have HE := Lib.hid hE
          clear hE
          go_wp2_with fail
          go_ret2
          exact ChkE.of (MISS.out 1 (by decide) HE.out) (HB.out.alloc (by omega) _)
        have p1 : decide (lines ≤ ox) = false := decide_eq_false q1
        by_cases q2 : of' < 0
        · have p2 : decide (of' < 0) = true := decide_eq_true q2
          have hE : f (ok, ox, of', ot) = 1 := by
            have := HK.out
            rw [HW.out, if_neg (by omega), this, if_pos (by simp; omega)]
          have HE := Lib.hid hE
          clear hE
          go_wp2_with fail
          go_ret2
          exact ChkE.of (MISS.out 1 (by decide) HE.out) (HB.out.alloc (by omega) _)
        have p2 : decide (of' < 0) = false := decide_eq_false q2
        by_cases q3 : ot < of'
        · have p3 : decide (ot < of') = true := decide_eq_true q3
          have hE : f (ok, ox, of', ot) = 1 := by
            have := HK.out
            rw [HW.out, if_neg (by omega), this, if_pos (by simp; omega)]
          have HE := Lib.hid hE
          clear hE
          go_wp2_with fail
          go_ret2
          exact ChkE.of (MISS.out 1 (by decide) HE.out) (HB.out.alloc (by omega) _)
        have p3 : decide (ot < of') = false := decide_eq_false q3
        by_cases q4 : hours ≤ ot
        · have p4 : decide (hours ≤ ot) = true := decide_eq_true q4
          have hE : f (ok, ox, of', ot) = 1 := by
            have := HK.out
            rw [HW.out, if_neg (by omega), this, if_pos (by simp; omega)]
          have HE := Lib.hid hE
          clear hE
          go_wp2_with fail
          go_ret2
          exact ChkE.of (MISS.out 1 (by decide) HE.out) (HB.out.alloc (by omega) _)
        have p4 : decide (hours ≤ ot) = false := decide_eq_false q4
        have hE : f (ok, ox, of', ot) = 0 := by
          have := HK.out
          rw [HW.out, if_neg (by omega), this, if_neg (by simp; omega)]
        have HE := Lib.hid hE
        clear hE
        go_wp2_with fail
        go_roundg g
        case measure => omega
        case rel => exact ⟨k + 1, by have := HG.out; omega, by go_num, rfl, rfl, HIT.out HE.out, HB.out.alloc (by omega) _⟩
      have t1 : (ok == 1) = false := by rw [beq_eq_false_iff_ne]; exact hk1
      by_cases hk2 : ok = 2
      · have t2 : (ok == 2) = true := by rw [beq_iff_eq]; exact hk2
        have HK := Lib.hid (show ok = 2 from hk2)
        clear hk2
        by_cases q0 : ox < 0
        · have p0 : decide (ox < 0) = true := decide_eq_true q0
          have hE : f (ok, ox, of', ot) = 1 := by
            have := HK.out
            rw [HW.out, if_neg (by omega), this, if_pos (by simp; omega)]
          have HE := Lib.hid hE
          clear hE
          go_wp2_with fail
          go_ret2
          exact ChkE.of (MISS.out 1 (by decide) HE.out) (HB.out.alloc (by omega) _)
        have p0 : decide (ox < 0) = false := decide_eq_false q0
        by_cases q1 : lines ≤ ox
        · have p1 : decide (lines ≤ ox) = true := decide_eq_true q1
          have hE : f (ok, ox, of', ot) = 1 := by
            have := HK.out
            rw [HW.out, if_neg (by omega), this, if_pos (by simp; omega)]
          have HE := Lib.hid hE
          clear hE
          go_wp2_with fail
          go_ret2
          exact ChkE.of (MISS.out 1 (by decide) HE.out) (HB.out.alloc (by omega) _)
        have p1 : decide (lines ≤ ox) = false := decide_eq_false q1
        by_cases q2 : of' < 0
        · have p2 : decide (of' < 0) = true := decide_eq_true q2
          have hE : f (ok, ox, of', ot) = 1 := by
            have := HK.out
            rw [HW.out, if_neg (by omega), this, if_pos (by simp; omega)]
          have HE := Lib.hid hE
          clear hE
          go_wp2_with fail
          go_ret2
          exact ChkE.of (MISS.out 1 (by decide) HE.out) (HB.out.alloc (by omega) _)
        have p2 : decide (of' < 0) = false := decide_eq_false q2
        by_cases q3 : ot < of'
        · have p3 : decide (ot < of') = true := decide_eq_true q3
          have hE : f (ok, ox, of', ot) = 1 := by
            have := HK.out
            rw [HW.out, if_neg (by omega), this, if_pos (by simp; omega)]
          have HE := Lib.hid hE
          clear hE
          go_wp2_with fail
          go_ret2
          exact ChkE.of (MISS.out 1 (by decide) HE.out) (HB.out.alloc (by omega) _)
        have p3 : decide (ot < of') = false := decide_eq_false q3
        by_cases q4 : hours ≤ ot
        · have p4 : decide (hours ≤ ot) = true := decide_eq_true q4
          have hE : f (ok, ox, of', ot) = 1 := by
            have := HK.out
            rw [HW.out, if_neg (by omega), this, if_pos (by simp; omega)]
          have HE := Lib.hid hE
          clear hE
          go_wp2_with fail
          go_ret2
          exact ChkE.of (MISS.out 1 (by decide) HE.out) (HB.out.alloc (by omega) _)
        have p4 : decide (hours ≤ ot) = false := decide_eq_false q4
        have hE : f (ok, ox, of', ot) = 0 := by
          have := HK.out
          rw [HW.out, if_neg (by omega), this, if_neg (by simp; omega)]
        have HE := Lib.hid hE
        clear hE
        go_wp2_with fail
        go_roundg g
        case measure => omega
        case rel => exact ⟨k + 1, by have := HG.out; omega, by go_num, rfl, rfl, HIT.out HE.out, HB.out.alloc (by omega) _⟩
      have t2 : (ok == 2) = false := by rw [beq_eq_false_iff_ne]; exact hk2
      by_cases hk3 : ok = 3
      · have t3 : (ok == 3) = true := by rw [beq_iff_eq]; exact hk3
        have HK := Lib.hid (show ok = 3 from hk3)
        clear hk3
        by_cases q0 : ox < 0
        · have p0 : decide (ox < 0) = true := decide_eq_true q0
          have hE : f (ok, ox, of', ot) = 1 := by
            have := HK.out
            rw [HW.out, if_neg (by omega), this, if_pos (by simp; omega)]
          have HE := Lib.hid hE
          clear hE
          go_wp2_with fail
          go_ret2
          exact ChkE.of (MISS.out 1 (by decide) HE.out) (HB.out.alloc (by omega) _)
        have p0 : decide (ox < 0) = false := decide_eq_false q0
        by_cases q1 : units ≤ ox
        · have p1 : decide (units ≤ ox) = true := decide_eq_true q1
          have hE : f (ok, ox, of', ot) = 1 := by
            have := HK.out
            rw [HW.out, if_neg (by omega), this, if_pos (by simp; omega)]
          have HE := Lib.hid hE
          clear hE
          go_wp2_with fail
          go_ret2
          exact ChkE.of (MISS.out 1 (by decide) HE.out) (HB.out.alloc (by omega) _)
        have p1 : decide (units ≤ ox) = false := decide_eq_false q1
        by_cases q2 : of' < 0
        · have p2 : decide (of' < 0) = true := decide_eq_true q2
          have hE : f (ok, ox, of', ot) = 1 := by
            have := HK.out
            rw [HW.out, if_neg (by omega), this, if_pos (by simp; omega)]
          have HE := Lib.hid hE
          clear hE
          go_wp2_with fail
          go_ret2
          exact ChkE.of (MISS.out 1 (by decide) HE.out) (HB.out.alloc (by omega) _)
        have p2 : decide (of' < 0) = false := decide_eq_false q2
        by_cases q3 : ot < of'
        · have p3 : decide (ot < of') = true := decide_eq_true q3
          have hE : f (ok, ox, of', ot) = 1 := by
            have := HK.out
            rw [HW.out, if_neg (by omega), this, if_pos (by simp; omega)]
          have HE := Lib.hid hE
          clear hE
          go_wp2_with fail
          go_ret2
          exact ChkE.of (MISS.out 1 (by decide) HE.out) (HB.out.alloc (by omega) _)
        have p3 : decide (ot < of') = false := decide_eq_false q3
        by_cases q4 : hours ≤ ot
        · have p4 : decide (hours ≤ ot) = true := decide_eq_true q4
          have hE : f (ok, ox, of', ot) = 1 := by
            have := HK.out
            rw [HW.out, if_neg (by omega), this, if_pos (by simp; omega)]
          have HE := Lib.hid hE
          clear hE
          go_wp2_with fail
          go_ret2
          exact ChkE.of (MISS.out 1 (by decide) HE.out) (HB.out.alloc (by omega) _)
        have p4 : decide (hours ≤ ot) = false := decide_eq_false q4
        have hE : f (ok, ox, of', ot) = 0 := by
          have := HK.out
          rw [HW.out, if_neg (by omega), this, if_neg (by simp; omega)]
        have HE := Lib.hid hE
        clear hE
        go_wp2_with fail
        go_roundg g
        case measure => omega
        case rel => exact ⟨k + 1, by have := HG.out; omega, by go_num, rfl, rfl, HIT.out HE.out, HB.out.alloc (by omega) _⟩
      have t3 : (ok == 3) = false := by rw [beq_eq_false_iff_ne]; exact hk3
      have hE : f (ok, ox, of', ot) = 12 := by rw [HW.out, if_pos ⟨hk1, hk2, hk3⟩]
      have HE := Lib.hid hE
      clear hE
      go_wp2_with fail
      go_ret2
      exact ChkE.of (MISS.out 12 (by decide) HE.out) (HB.out.alloc (by omega) _)
end Go.Proofs.YtklanoppbbaolaaGreat
