/- The chapter's network of layer 14 and awake. -/
import Derived.Test.YtcacaiakkfgdpaaAtB
import Derived.Test.YtcacaiakkfgdpaaUniB
import Derived.Test.YtcacaiakkfgdpaaIslF
namespace Go.Proofs.Ytcacaiakkfgdpaa
open Go.RowKit
set_option linter.unusedVariables false

def threeLs : List Ln := [(0, 1, 10, 100), (1, 2, 5, 50), (0, 2, 10, 70)]
theorem lits2 (w : World) (xs ys : Array Value) (l m : List Int) (hx : xs = (l.map (Value.int .i64)).toArray) (hy : ys = (m.map (Value.int .i64)).toArray) :
    IntsR ((w.alloc (.cells xs 3)).alloc (.cells ys 3)) ((w.alloc (.cells xs 3)).alloc (.cells ys 3)).heap.size (some ⟨w.heap.size, 0, none⟩) l ∧
      IntsR ((w.alloc (.cells xs 3)).alloc (.cells ys 3)) ((w.alloc (.cells xs 3)).alloc (.cells ys 3)).heap.size (some ⟨w.heap.size + 1, 0, none⟩) m := by
  refine ⟨(IntsR.litU w _ l xs hx).upto ((Below.refl _ _).alloc (Nat.le_refl _) _), ?_⟩
  have := IntsR.litU (w.alloc (.cells xs 3)) 3 m ys hy
  rw [World.size_alloc w] at this
  exact this

set_option maxHeartbeats 1000000 in
theorem three_any (w : World) : Calls Try.prog 33 #[] w (NetE w 3 threeLs) := by
  go_enter Try.func33, Try.ntmps33
  go_wp2
  refine bodyPost_ret (v := .agg #[.int .i64 3, .slice (some ⟨w.heap.size + 1, 0, none⟩) 3 3]) (by simp [results, Try.results33, go_sem]) rfl ⟨_, rfl, ?_, ?_⟩
  · have h := LinesR.lit (w.alloc (.cells #[.int .i64 3, .slice (some ⟨w.heap.size + 1, 0, none⟩) 3 3] 24)) 51 threeLs _ (by rfl)
    rw [World.size_alloc] at h
    rw [World.size_alloc, World.size_alloc]
    exact h
  · exact below_alloc2 _ _ _

theorem three_facts : (inL 3 threeLs [1] = [0, 2] ∧ outsE 3 threeLs [1] = 0 ∧ atL 3 threeLs [1] 2 = [2] ∧ atE 3 threeLs [1] 2 = 0) ∧ (uniL [0, 2] [1, 2] = [0, 1, 2] ∧ uniE [0, 2] [1, 2] = 0) ∧ checkE 3 threeLs = 0 ∧ outsE 3 threeLs [1, 1] = 1 ∧ outsE 3 threeLs [3] = 1 ∧ checkE 0 [] = 1 := by
  refine ⟨by decide, ⟨?_, by decide⟩, by decide⟩
  have h : ascB [0, 2] = true ∧ ascB [1, 2] = true := by decide
  rw [uniL, if_pos h]
  exact unionL_eq (by decide) fun x => by
    simp only [List.mem_cons, List.not_mem_nil, or_false]
    omega

set_option maxRecDepth 100000 in
set_option maxHeartbeats 4000000 in
theorem awake14_any (w : World) : Calls Try.prog 14 #[] w fun e w' => e = .returned (.bool true) ∧ Below w.heap.size w w' := by
  obtain ⟨⟨f1, f2, f3, f4⟩, ⟨f5, f6⟩, f7, f8, f9, f10⟩ := three_facts
  have k1 := fun A A' W hl ho => in_any 3 A A' 3 1 threeLs [1] W hl ho (by decide) (by decide)
  have k2 := fun A A' W hl ho => at_any 3 A A' 3 1 threeLs [1] 2 W hl ho (by decide) (by decide)
  have k3 := fun A A' W ha hb => union_any A A' 2 2 [0, 2] [1, 2] W ha hb (by decide) (by decide)
  have k4 := fun A W hl => check_any 3 A 3 threeLs W hl
  have k5 := fun A A' W hl ho => outs_any 3 A A' 3 2 threeLs [1, 1] W hl ho (by decide) (by decide)
  have k6 := fun A A' W hl ho => outs_any 3 A A' 3 1 threeLs [3] W hl ho (by decide) (by decide)
  have k7 := fun W => check_any 0 none 0 [] W LinesR.nil_
  rw [f1, f2] at k1
  rw [f3, f4] at k2
  rw [f5, f6] at k3
  rw [f7] at k4
  rw [f8] at k5
  rw [f9] at k6
  rw [f10] at k7
  have K1 := Lib.hid k1
  have K2 := Lib.hid k2
  have K3 := Lib.hid k3
  have K5 := Lib.hid k5
  have K6 := Lib.hid k6
  have K7 := Lib.hid k7
  have K4 := Lib.hid k4
  clear k1 k2 k3 k4 k5 k6 k7 f1 f2 f3 f4 f5 f6 f7 f8 f9 f10
  go_enter Try.func14, Try.ntmps14
  go_wp2_with fail
  refine (three_any _).mono ?_
  rintro e w0 ⟨A, rfl, hl, hb⟩
  have HB0 := Lib.hid hb
  have HL := Lib.hid hl
  clear hb hl
  rw [show threeLs.length = 3 from rfl]
  go_upto_region 2 with fail
  have hb : Below w0.heap.size w0 (w0.alloc (.cells #[.int .i64 3, .slice A 3 3] 24)) := (Below.refl _ _).alloc (Nat.le_refl _) _
  have p0 : (w0.alloc (.cells #[.int .i64 3, .slice A 3 3] 24)).cell? ⟨w0.heap.size, 0, none⟩ = some (.int .i64 3) := cell_alloc_at _ _ _ _ _ rfl
  have p1 : (w0.alloc (.cells #[.int .i64 3, .slice A 3 3] 24)).cell? ⟨w0.heap.size, 1, none⟩ = some (.slice A 3 3) := cell_alloc_at _ _ _ _ _ rfl
  have hzB : w0.heap.size < (w0.alloc (.cells #[.int .i64 3, .slice A 3 3] 24)).heap.size := by simp
  generalize w0.alloc (.cells #[.int .i64 3, .slice A 3 3] 24) = w1 at *
  have HB1 := Lib.hid (HB0.out.trans (hb.mono HB0.out.size))
  replace HL := Lib.hid (HL.out.upto hb)
  clear hb HB0
  generalize w0.heap.size = B at *
  go_wp2_with fail
  have hI := IntsR.litU w1 3 [1] #[.int .i64 1] rfl
  have hb := (Below.refl w1.heap.size w1).alloc (Nat.le_refl _) (.cells #[.int .i64 1] 3)
  have H1 := Lib.hid hI
  clear hI
  have HB2 := Lib.hid (HB1.out.trans (hb.mono HB1.out.size))
  clear HB1
  replace HL := Lib.hid (HL.out.upto hb)
  replace p0 := (hb.cell (p := ⟨B, 0, none⟩) hzB).trans p0
  replace p1 := (hb.cell (p := ⟨B, 1, none⟩) hzB).trans p1
  replace hzB : B < (w1.alloc (.cells #[.int .i64 1] 3)).heap.size := Nat.lt_of_lt_of_le hzB hb.size
  clear hb
  refine (K1.out _ _ _ HL.out H1.out).mono ?_
  rintro e w3 ⟨v, rfl, hown, hb⟩
  obtain ⟨Aa, ca, rfl, hI⟩ := ownsRow_ints hown
  have HIa := Lib.hid hI
  clear hown hI
  have HB3 := Lib.hid (HB2.out.trans (hb.mono HB2.out.size))
  clear HB2
  replace HL := Lib.hid (HL.out.upto hb)
  replace H1 := Lib.hid (H1.out.upto hb)
  replace p0 := (hb.cell (p := ⟨B, 0, none⟩) hzB).trans p0
  replace p1 := (hb.cell (p := ⟨B, 1, none⟩) hzB).trans p1
  replace hzB : B < w3.heap.size := Nat.lt_of_lt_of_le hzB hb.size
  clear hb
  go_wp2_with fail
  have hI := IntsR.litU w3 3 [1] #[.int .i64 1] rfl
  have hb := (Below.refl w3.heap.size w3).alloc (Nat.le_refl _) (.cells #[.int .i64 1] 3)
  have H2 := Lib.hid hI
  clear hI
  have HB4 := Lib.hid (HB3.out.trans (hb.mono HB3.out.size))
  clear HB3
  replace HL := Lib.hid (HL.out.upto hb)
  replace H1 := Lib.hid (H1.out.upto hb)
  replace HIa := Lib.hid (HIa.out.upto hb)
  replace p0 := (hb.cell (p := ⟨B, 0, none⟩) hzB).trans p0
  replace p1 := (hb.cell (p := ⟨B, 1, none⟩) hzB).trans p1
  replace hzB : B < (w3.alloc (.cells #[.int .i64 1] 3)).heap.size := Nat.lt_of_lt_of_le hzB hb.size
  clear hb
  refine (K2.out _ _ _ HL.out H2.out).mono ?_
  rintro e w5 ⟨v, rfl, hown, hb⟩
  obtain ⟨Ab, cb, rfl, hI⟩ := ownsRow_ints hown
  have HIb := Lib.hid hI
  clear hown hI
  have HB5 := Lib.hid (HB4.out.trans (hb.mono HB4.out.size))
  clear HB4
  replace HL := Lib.hid (HL.out.upto hb)
  replace H1 := Lib.hid (H1.out.upto hb)
  replace HIa := Lib.hid (HIa.out.upto hb)
  replace H2 := Lib.hid (H2.out.upto hb)
  replace p0 := (hb.cell (p := ⟨B, 0, none⟩) hzB).trans p0
  replace p1 := (hb.cell (p := ⟨B, 1, none⟩) hzB).trans p1
  replace hzB : B < w5.heap.size := Nat.lt_of_lt_of_le hzB hb.size
  clear hb
  go_wp2_with fail
  obtain ⟨hI, hJ⟩ := lits2 w5 #[.int .i64 0, .int .i64 2] #[.int .i64 1, .int .i64 2] [0, 2] [1, 2] rfl rfl
  have hb := below_alloc2 w5 (.cells #[.int .i64 0, .int .i64 2] 3) (.cells #[.int .i64 1, .int .i64 2] 3)
  have H3 := Lib.hid hI
  have H4 := Lib.hid hJ
  clear hI hJ
  have HB6 := Lib.hid (HB5.out.trans (hb.mono HB5.out.size))
  clear HB5
  replace HL := Lib.hid (HL.out.upto hb)
  replace H1 := Lib.hid (H1.out.upto hb)
  replace HIa := Lib.hid (HIa.out.upto hb)
  replace H2 := Lib.hid (H2.out.upto hb)
  replace HIb := Lib.hid (HIb.out.upto hb)
  replace p0 := (hb.cell (p := ⟨B, 0, none⟩) hzB).trans p0
  replace p1 := (hb.cell (p := ⟨B, 1, none⟩) hzB).trans p1
  replace hzB : B < ((w5.alloc (.cells #[.int .i64 0, .int .i64 2] 3)).alloc (.cells #[.int .i64 1, .int .i64 2] 3)).heap.size := Nat.lt_of_lt_of_le hzB hb.size
  clear hb
  refine (K3.out _ _ _ H3.out H4.out).mono ?_
  rintro e w7 ⟨v, rfl, hown, hb⟩
  obtain ⟨Ac, cc, rfl, hI⟩ := ownsRow_ints hown
  have HIc := Lib.hid hI
  clear hown hI
  have HB7 := Lib.hid (HB6.out.trans (hb.mono HB6.out.size))
  clear HB6
  replace HL := Lib.hid (HL.out.upto hb)
  replace H1 := Lib.hid (H1.out.upto hb)
  replace HIa := Lib.hid (HIa.out.upto hb)
  replace H2 := Lib.hid (H2.out.upto hb)
  replace HIb := Lib.hid (HIb.out.upto hb)
  replace H3 := Lib.hid (H3.out.upto hb)
  replace H4 := Lib.hid (H4.out.upto hb)
  replace p0 := (hb.cell (p := ⟨B, 0, none⟩) hzB).trans p0
  replace p1 := (hb.cell (p := ⟨B, 1, none⟩) hzB).trans p1
  replace hzB : B < w7.heap.size := Nat.lt_of_lt_of_le hzB hb.size
  clear hb
  go_wp2_with fail
  refine (K4.out _ _ HL.out).mono ?_
  rintro e w8 ⟨rfl, hb⟩
  have HB8 := Lib.hid (HB7.out.trans (hb.mono HB7.out.size))
  clear HB7
  replace HL := Lib.hid (HL.out.upto hb)
  replace H1 := Lib.hid (H1.out.upto hb)
  replace HIa := Lib.hid (HIa.out.upto hb)
  replace H2 := Lib.hid (H2.out.upto hb)
  replace HIb := Lib.hid (HIb.out.upto hb)
  replace H3 := Lib.hid (H3.out.upto hb)
  replace H4 := Lib.hid (H4.out.upto hb)
  replace HIc := Lib.hid (HIc.out.upto hb)
  replace p0 := (hb.cell (p := ⟨B, 0, none⟩) hzB).trans p0
  replace p1 := (hb.cell (p := ⟨B, 1, none⟩) hzB).trans p1
  replace hzB : B < w8.heap.size := Nat.lt_of_lt_of_le hzB hb.size
  clear hb
  go_wp2_with fail
  have hI := IntsR.litU w8 3 [0, 2] #[.int .i64 0, .int .i64 2] rfl
  have hb := (Below.refl w8.heap.size w8).alloc (Nat.le_refl _) (.cells #[.int .i64 0, .int .i64 2] 3)
  have H5 := Lib.hid hI
  clear hI
  have HB9 := Lib.hid (HB8.out.trans (hb.mono HB8.out.size))
  clear HB8
  replace HL := Lib.hid (HL.out.upto hb)
  replace H1 := Lib.hid (H1.out.upto hb)
  replace HIa := Lib.hid (HIa.out.upto hb)
  replace H2 := Lib.hid (H2.out.upto hb)
  replace HIb := Lib.hid (HIb.out.upto hb)
  replace H3 := Lib.hid (H3.out.upto hb)
  replace H4 := Lib.hid (H4.out.upto hb)
  replace HIc := Lib.hid (HIc.out.upto hb)
  replace p0 := (hb.cell (p := ⟨B, 0, none⟩) hzB).trans p0
  replace p1 := (hb.cell (p := ⟨B, 1, none⟩) hzB).trans p1
  replace hzB : B < (w8.alloc (.cells #[.int .i64 0, .int .i64 2] 3)).heap.size := Nat.lt_of_lt_of_le hzB hb.size
  clear hb
  refine (ints_same _ _ _ _ [0, 2] _ HIa.out H5.out (by decide)).mono ?_
  rintro e w10 ⟨rfl, hb⟩
  have HB10 := Lib.hid (HB9.out.trans (hb.mono HB9.out.size))
  clear HB9
  replace HL := Lib.hid (HL.out.upto hb)
  replace H1 := Lib.hid (H1.out.upto hb)
  replace HIa := Lib.hid (HIa.out.upto hb)
  replace H2 := Lib.hid (H2.out.upto hb)
  replace HIb := Lib.hid (HIb.out.upto hb)
  replace H3 := Lib.hid (H3.out.upto hb)
  replace H4 := Lib.hid (H4.out.upto hb)
  replace HIc := Lib.hid (HIc.out.upto hb)
  replace H5 := Lib.hid (H5.out.upto hb)
  replace p0 := (hb.cell (p := ⟨B, 0, none⟩) hzB).trans p0
  replace p1 := (hb.cell (p := ⟨B, 1, none⟩) hzB).trans p1
  replace hzB : B < w10.heap.size := Nat.lt_of_lt_of_le hzB hb.size
  clear hb
  go_wp2_with fail
  have hI := IntsR.litU w10 3 [2] #[.int .i64 2] rfl
  have hb := (Below.refl w10.heap.size w10).alloc (Nat.le_refl _) (.cells #[.int .i64 2] 3)
  have H6 := Lib.hid hI
  clear hI
  have HB11 := Lib.hid (HB10.out.trans (hb.mono HB10.out.size))
  clear HB10
  replace HL := Lib.hid (HL.out.upto hb)
  replace H1 := Lib.hid (H1.out.upto hb)
  replace HIa := Lib.hid (HIa.out.upto hb)
  replace H2 := Lib.hid (H2.out.upto hb)
  replace HIb := Lib.hid (HIb.out.upto hb)
  replace H3 := Lib.hid (H3.out.upto hb)
  replace H4 := Lib.hid (H4.out.upto hb)
  replace HIc := Lib.hid (HIc.out.upto hb)
  replace H5 := Lib.hid (H5.out.upto hb)
  replace p0 := (hb.cell (p := ⟨B, 0, none⟩) hzB).trans p0
  replace p1 := (hb.cell (p := ⟨B, 1, none⟩) hzB).trans p1
  replace hzB : B < (w10.alloc (.cells #[.int .i64 2] 3)).heap.size := Nat.lt_of_lt_of_le hzB hb.size
  clear hb
  refine (ints_same _ _ _ _ [2] _ HIb.out H6.out (by decide)).mono ?_
  rintro e w12 ⟨rfl, hb⟩
  have HB12 := Lib.hid (HB11.out.trans (hb.mono HB11.out.size))
  clear HB11
  replace HL := Lib.hid (HL.out.upto hb)
  replace H1 := Lib.hid (H1.out.upto hb)
  replace HIa := Lib.hid (HIa.out.upto hb)
  replace H2 := Lib.hid (H2.out.upto hb)
  replace HIb := Lib.hid (HIb.out.upto hb)
  replace H3 := Lib.hid (H3.out.upto hb)
  replace H4 := Lib.hid (H4.out.upto hb)
  replace HIc := Lib.hid (HIc.out.upto hb)
  replace H5 := Lib.hid (H5.out.upto hb)
  replace H6 := Lib.hid (H6.out.upto hb)
  replace p0 := (hb.cell (p := ⟨B, 0, none⟩) hzB).trans p0
  replace p1 := (hb.cell (p := ⟨B, 1, none⟩) hzB).trans p1
  replace hzB : B < w12.heap.size := Nat.lt_of_lt_of_le hzB hb.size
  clear hb
  go_wp2_with fail
  have hI := IntsR.litU w12 3 [0, 1, 2] #[.int .i64 0, .int .i64 1, .int .i64 2] rfl
  have hb := (Below.refl w12.heap.size w12).alloc (Nat.le_refl _) (.cells #[.int .i64 0, .int .i64 1, .int .i64 2] 3)
  have H7 := Lib.hid hI
  clear hI
  have HB13 := Lib.hid (HB12.out.trans (hb.mono HB12.out.size))
  clear HB12
  replace HL := Lib.hid (HL.out.upto hb)
  replace H1 := Lib.hid (H1.out.upto hb)
  replace HIa := Lib.hid (HIa.out.upto hb)
  replace H2 := Lib.hid (H2.out.upto hb)
  replace HIb := Lib.hid (HIb.out.upto hb)
  replace H3 := Lib.hid (H3.out.upto hb)
  replace H4 := Lib.hid (H4.out.upto hb)
  replace HIc := Lib.hid (HIc.out.upto hb)
  replace H5 := Lib.hid (H5.out.upto hb)
  replace H6 := Lib.hid (H6.out.upto hb)
  replace p0 := (hb.cell (p := ⟨B, 0, none⟩) hzB).trans p0
  replace p1 := (hb.cell (p := ⟨B, 1, none⟩) hzB).trans p1
  replace hzB : B < (w12.alloc (.cells #[.int .i64 0, .int .i64 1, .int .i64 2] 3)).heap.size := Nat.lt_of_lt_of_le hzB hb.size
  clear hb
  refine (ints_same _ _ _ _ [0, 1, 2] _ HIc.out H7.out (by decide)).mono ?_
  rintro e w14 ⟨rfl, hb⟩
  have HB14 := Lib.hid (HB13.out.trans (hb.mono HB13.out.size))
  clear HB13
  replace HL := Lib.hid (HL.out.upto hb)
  replace H1 := Lib.hid (H1.out.upto hb)
  replace HIa := Lib.hid (HIa.out.upto hb)
  replace H2 := Lib.hid (H2.out.upto hb)
  replace HIb := Lib.hid (HIb.out.upto hb)
  replace H3 := Lib.hid (H3.out.upto hb)
  replace H4 := Lib.hid (H4.out.upto hb)
  replace HIc := Lib.hid (HIc.out.upto hb)
  replace H5 := Lib.hid (H5.out.upto hb)
  replace H6 := Lib.hid (H6.out.upto hb)
  replace H7 := Lib.hid (H7.out.upto hb)
  replace p0 := (hb.cell (p := ⟨B, 0, none⟩) hzB).trans p0
  replace p1 := (hb.cell (p := ⟨B, 1, none⟩) hzB).trans p1
  replace hzB : B < w14.heap.size := Nat.lt_of_lt_of_le hzB hb.size
  clear hb
  go_wp2_with fail
  have hI := IntsR.litU w14 3 [1, 1] #[.int .i64 1, .int .i64 1] rfl
  have hb := (Below.refl w14.heap.size w14).alloc (Nat.le_refl _) (.cells #[.int .i64 1, .int .i64 1] 3)
  have H8 := Lib.hid hI
  clear hI
  have HB15 := Lib.hid (HB14.out.trans (hb.mono HB14.out.size))
  clear HB14
  replace HL := Lib.hid (HL.out.upto hb)
  replace H1 := Lib.hid (H1.out.upto hb)
  replace HIa := Lib.hid (HIa.out.upto hb)
  replace H2 := Lib.hid (H2.out.upto hb)
  replace HIb := Lib.hid (HIb.out.upto hb)
  replace H3 := Lib.hid (H3.out.upto hb)
  replace H4 := Lib.hid (H4.out.upto hb)
  replace HIc := Lib.hid (HIc.out.upto hb)
  replace H5 := Lib.hid (H5.out.upto hb)
  replace H6 := Lib.hid (H6.out.upto hb)
  replace H7 := Lib.hid (H7.out.upto hb)
  replace p0 := (hb.cell (p := ⟨B, 0, none⟩) hzB).trans p0
  replace p1 := (hb.cell (p := ⟨B, 1, none⟩) hzB).trans p1
  replace hzB : B < (w14.alloc (.cells #[.int .i64 1, .int .i64 1] 3)).heap.size := Nat.lt_of_lt_of_le hzB hb.size
  clear hb
  refine (K5.out _ _ _ HL.out H8.out).mono ?_
  rintro e w16 ⟨rfl, hb⟩
  have HB16 := Lib.hid (HB15.out.trans (hb.mono HB15.out.size))
  clear HB15
  replace HL := Lib.hid (HL.out.upto hb)
  replace H1 := Lib.hid (H1.out.upto hb)
  replace HIa := Lib.hid (HIa.out.upto hb)
  replace H2 := Lib.hid (H2.out.upto hb)
  replace HIb := Lib.hid (HIb.out.upto hb)
  replace H3 := Lib.hid (H3.out.upto hb)
  replace H4 := Lib.hid (H4.out.upto hb)
  replace HIc := Lib.hid (HIc.out.upto hb)
  replace H5 := Lib.hid (H5.out.upto hb)
  replace H6 := Lib.hid (H6.out.upto hb)
  replace H7 := Lib.hid (H7.out.upto hb)
  replace H8 := Lib.hid (H8.out.upto hb)
  replace p0 := (hb.cell (p := ⟨B, 0, none⟩) hzB).trans p0
  replace p1 := (hb.cell (p := ⟨B, 1, none⟩) hzB).trans p1
  replace hzB : B < w16.heap.size := Nat.lt_of_lt_of_le hzB hb.size
  clear hb
  go_wp2_with fail
  have hI := IntsR.litU w16 3 [3] #[.int .i64 3] rfl
  have hb := (Below.refl w16.heap.size w16).alloc (Nat.le_refl _) (.cells #[.int .i64 3] 3)
  have H9 := Lib.hid hI
  clear hI
  have HB17 := Lib.hid (HB16.out.trans (hb.mono HB16.out.size))
  clear HB16
  replace HL := Lib.hid (HL.out.upto hb)
  replace H1 := Lib.hid (H1.out.upto hb)
  replace HIa := Lib.hid (HIa.out.upto hb)
  replace H2 := Lib.hid (H2.out.upto hb)
  replace HIb := Lib.hid (HIb.out.upto hb)
  replace H3 := Lib.hid (H3.out.upto hb)
  replace H4 := Lib.hid (H4.out.upto hb)
  replace HIc := Lib.hid (HIc.out.upto hb)
  replace H5 := Lib.hid (H5.out.upto hb)
  replace H6 := Lib.hid (H6.out.upto hb)
  replace H7 := Lib.hid (H7.out.upto hb)
  replace H8 := Lib.hid (H8.out.upto hb)
  replace p0 := (hb.cell (p := ⟨B, 0, none⟩) hzB).trans p0
  replace p1 := (hb.cell (p := ⟨B, 1, none⟩) hzB).trans p1
  replace hzB : B < (w16.alloc (.cells #[.int .i64 3] 3)).heap.size := Nat.lt_of_lt_of_le hzB hb.size
  clear hb
  refine (K6.out _ _ _ HL.out H9.out).mono ?_
  rintro e w18 ⟨rfl, hb⟩
  have HB18 := Lib.hid (HB17.out.trans (hb.mono HB17.out.size))
  clear HB17
  replace HL := Lib.hid (HL.out.upto hb)
  replace H1 := Lib.hid (H1.out.upto hb)
  replace HIa := Lib.hid (HIa.out.upto hb)
  replace H2 := Lib.hid (H2.out.upto hb)
  replace HIb := Lib.hid (HIb.out.upto hb)
  replace H3 := Lib.hid (H3.out.upto hb)
  replace H4 := Lib.hid (H4.out.upto hb)
  replace HIc := Lib.hid (HIc.out.upto hb)
  replace H5 := Lib.hid (H5.out.upto hb)
  replace H6 := Lib.hid (H6.out.upto hb)
  replace H7 := Lib.hid (H7.out.upto hb)
  replace H8 := Lib.hid (H8.out.upto hb)
  replace H9 := Lib.hid (H9.out.upto hb)
  replace p0 := (hb.cell (p := ⟨B, 0, none⟩) hzB).trans p0
  replace p1 := (hb.cell (p := ⟨B, 1, none⟩) hzB).trans p1
  replace hzB : B < w18.heap.size := Nat.lt_of_lt_of_le hzB hb.size
  clear hb
  go_wp2_with fail
  refine (K7.out _).mono ?_
  rintro e w19 ⟨rfl, hb⟩
  have HB19 := Lib.hid (HB18.out.trans (hb.mono HB18.out.size))
  clear HB18
  replace HL := Lib.hid (HL.out.upto hb)
  replace H1 := Lib.hid (H1.out.upto hb)
  replace HIa := Lib.hid (HIa.out.upto hb)
  replace H2 := Lib.hid (H2.out.upto hb)
  replace HIb := Lib.hid (HIb.out.upto hb)
  replace H3 := Lib.hid (H3.out.upto hb)
  replace H4 := Lib.hid (H4.out.upto hb)
  replace HIc := Lib.hid (HIc.out.upto hb)
  replace H5 := Lib.hid (H5.out.upto hb)
  replace H6 := Lib.hid (H6.out.upto hb)
  replace H7 := Lib.hid (H7.out.upto hb)
  replace H8 := Lib.hid (H8.out.upto hb)
  replace H9 := Lib.hid (H9.out.upto hb)
  replace p0 := (hb.cell (p := ⟨B, 0, none⟩) hzB).trans p0
  replace p1 := (hb.cell (p := ⟨B, 1, none⟩) hzB).trans p1
  replace hzB : B < w19.heap.size := Nat.lt_of_lt_of_le hzB hb.size
  clear hb
  go_wp2_with fail
  go_ret
  exact ⟨rfl, HB19.out⟩
end Go.Proofs.Ytcacaiakkfgdpaa
