/- The text TreH. -/
import Derived.Test.YtmojjfdamdgegaaMg37
import Derived.Test.YtmojjfdamdgegaaMg38
import Derived.Test.YtmojjfdamdgegaaMg30
/- awake of layer 16. -/
namespace Go.Proofs.Ytmojjfdamdgegaa
open Go.RowKit
set_option linter.unusedVariables false
set_option maxRecDepth 100000

def threeLs : List Ln := [(0, 1, 10, 100), (1, 2, 5, 50), (0, 2, 10, 70)]
theorem three16_any (w : World) : Calls Try.prog 24 #[] w (NetE w 3 threeLs) := by
  go_enter Try.func24, Try.ntmps24
  go_wp2
  refine bodyPost_ret (v := .agg #[.int .i64 3, .slice (some ⟨w.heap.size + 1, 0, none⟩) 3 3]) (by simp [results, Try.results24, go_sem]) rfl ⟨_, rfl, ?_, ?_⟩
  · have h := LinesR.lit (w.alloc (.cells #[.int .i64 3, .slice (some ⟨w.heap.size + 1, 0, none⟩) 3 3] 24)) 44 threeLs _ (by rfl)
    rw [World.size_alloc] at h
    rw [World.size_alloc, World.size_alloc]
    exact h
  · exact below_alloc2 _ _ _
theorem aw_tree (A : Option Addr) (W : World) (hl : LinesR W W.heap.size A threeLs) : Calls Try.prog 17 #[.agg #[.int .i64 3, .slice A 3 3], .slice none 0 0] W (IntsE W [0, 1] 0) := by
  have h := tree_any 3 A none 3 0 threeLs [] W hl IntsR.nil_ (by decide) (by decide)
  rw [show treeL 3 threeLs [] = [0, 1] by decide +kernel, show outsE 3 threeLs [] = 0 by decide +kernel] at h
  exact h
theorem aw_brg (A : Option Addr) (W : World) (hl : LinesR W W.heap.size A threeLs) : Calls Try.prog 16 #[.agg #[.int .i64 3, .slice A 3 3], .slice none 0 0] W (IntsE W [] 0) := by
  have h := bridges_any 3 A none 3 0 threeLs [] W hl IntsR.nil_ (by decide) (by decide)
  rw [show brgL 3 threeLs [] = [] by decide +kernel, show outsE 3 threeLs [] = 0 by decide +kernel] at h
  exact h
theorem brg_two : brgL 3 threeLs [2] = [0, 1] := by
  have u0 : unionL [2] [0] = [0, 2] := unionL_eq (by simp) (by intro x; simp; constructor <;> (intro h; omega))
  have u1 : unionL [2] [1] = [1, 2] := unionL_eq (by simp) (by intro x; simp; constructor <;> (intro h; omega))
  have p0 : decide (cntL 3 threeLs [2] < cntL 3 threeLs (unionL [2] [0])) = true := by rw [u0]; decide +kernel
  have p1 : decide (cntL 3 threeLs [2] < cntL 3 threeLs (unionL [2] [1])) = true := by rw [u1]; decide +kernel
  rw [brgL, if_pos (by decide +kernel), show svcL [2] threeLs.length = [0, 1] by decide +kernel]
  unfold brgTo
  rw [List.take_of_length_le (by simp), List.filter_cons, if_pos p0, List.filter_cons, if_pos p1]
  rfl
theorem aw_brg2 (A X : Option Addr) (W : World) (hl : LinesR W W.heap.size A threeLs) (hx : IntsR W W.heap.size X [2]) : Calls Try.prog 16 #[.agg #[.int .i64 3, .slice A 3 3], .slice X 1 1] W (IntsE W [0, 1] 0) := by
  have h := bridges_any 3 A X 3 1 threeLs [2] W hl hx (by decide) (by decide)
  rw [brg_two, show outsE 3 threeLs [2] = 0 by decide +kernel] at h
  exact h
theorem aw_path (A : Option Addr) (W : World) (hl : LinesR W W.heap.size A threeLs) : Calls Try.prog 23 #[.agg #[.int .i64 3, .slice A 3 3], .slice none 0 0, .int .i64 2, .int .i64 0] W (IntsE W [-1, -1, 0] 0) :=
  path_ok 3 A none 3 0 threeLs [] 2 0 5 true [-1, -1, 0] W hl IntsR.nil_ (by decide) (by decide) (by decide +kernel) (by decide +kernel) (by decide +kernel)
theorem cyc_fuel (out : List Int) (h : ((svcL out 3).all fun x => hasB (treeL 3 threeLs out) x || (dfsF threeLs (treeL 3 threeLs out) (threeLs.getD x.toNat (0, 0, 0, 0)).1 5 (threeLs.getD x.toNat (0, 0, 0, 0)).2.1 (-1) (List.replicate 3 0)).isSome) = true) :
    ∀ x ∈ svcL out threeLs.length, hasB (treeL 3 threeLs out) x = false → ∃ r t, dfsF threeLs (treeL 3 threeLs out) (threeLs.getD x.toNat (0, 0, 0, 0)).1 5 (threeLs.getD x.toNat (0, 0, 0, 0)).2.1 (-1) (List.replicate threeLs.length 0) = some (r, t) := by
  intro x hx hf
  rw [List.all_eq_true] at h
  have := h x hx
  rw [hf, Bool.false_or, Option.isSome_iff_exists] at this
  obtain ⟨⟨r, t⟩, e⟩ := this
  exact ⟨r, t, e⟩
theorem aw_cyc (A : Option Addr) (W : World) (hl : LinesR W W.heap.size A threeLs) : Calls Try.prog 18 #[.agg #[.int .i64 3, .slice A 3 3], .slice none 0 0] W (CycE W [[-1, -1, 1]] 0) := by
  have h := cycles_ok 3 A none 3 0 threeLs [] 5 W hl IntsR.nil_ (by decide) (by decide) (by decide +kernel) (cyc_fuel [] (by decide +kernel))
  rw [show cycTo threeLs (treeL 3 threeLs []) 5 (svcL [] threeLs.length) (svcL [] threeLs.length).length = [[-1, -1, 1]] by decide +kernel] at h
  exact h
theorem aw_cyc2 (A X : Option Addr) (W : World) (hl : LinesR W W.heap.size A threeLs) (hx : IntsR W W.heap.size X [2]) : Calls Try.prog 18 #[.agg #[.int .i64 3, .slice A 3 3], .slice X 1 1] W (CycE W [] 0) := by
  have h := cycles_ok 3 A X 3 1 threeLs [2] 5 W hl hx (by decide) (by decide) (by decide +kernel) (cyc_fuel [2] (by decide +kernel))
  rw [show cycTo threeLs (treeL 3 threeLs [2]) 5 (svcL [2] threeLs.length) (svcL [2] threeLs.length).length = [] by decide +kernel] at h
  exact h
theorem row_small : ∀ i, i < ([[-1, -1, 1]] : List (List Int)).length → (([[-1, -1, 1]] : List (List Int)).getD i []).length ≤ 1000000 := fun i hi => by
  obtain rfl : i = 0 := by simp at hi; omega
  decide
theorem rows_lit (w : World) : RowsR ((w.alloc (.cells #[.int .i64 (-1), .int .i64 (-1), .int .i64 1] 3)).alloc (.cells #[.slice (some ⟨w.heap.size, 0, none⟩) 3 3] 25)) ((w.alloc (.cells #[.int .i64 (-1), .int .i64 (-1), .int .i64 1] 3)).alloc (.cells #[.slice (some ⟨w.heap.size, 0, none⟩) 3 3] 25)).heap.size (some ⟨w.heap.size + 1, 0, none⟩) [[-1, -1, 1]] ∧
    Below w.heap.size w ((w.alloc (.cells #[.int .i64 (-1), .int .i64 (-1), .int .i64 1] 3)).alloc (.cells #[.slice (some ⟨w.heap.size, 0, none⟩) 3 3] 25)) := by
  have hb : Below w.heap.size w ((w.alloc (.cells #[.int .i64 (-1), .int .i64 (-1), .int .i64 1] 3)).alloc (.cells #[.slice (some ⟨w.heap.size, 0, none⟩) 3 3] 25)) := below_alloc2 _ _ _
  have h := IntsR.litU w 3 [-1, -1, 1] #[.int .i64 (-1), .int .i64 (-1), .int .i64 1] rfl
  have h1 := World.size_alloc w (.cells #[.int .i64 (-1), .int .i64 (-1), .int .i64 1] 3)
  have hb2 : Below (w.alloc (.cells #[.int .i64 (-1), .int .i64 (-1), .int .i64 1] 3)).heap.size (w.alloc (.cells #[.int .i64 (-1), .int .i64 (-1), .int .i64 1] 3)) ((w.alloc (.cells #[.int .i64 (-1), .int .i64 (-1), .int .i64 1] 3)).alloc (.cells #[.slice (some ⟨w.heap.size, 0, none⟩) 3 3] 25)) := (Below.refl _ _).alloc (Nat.le_refl _) _
  refine ⟨fun _ => ⟨w.heap.size + 1, 0, rfl, by simp, fun i hi => ?_⟩, hb⟩
  obtain rfl : i = 0 := by simp at hi; omega
  exact ⟨some ⟨w.heap.size, 0, none⟩, 3, by rw [cell_alloc_at _ _ _ _ _ h1.symm]; rfl, h.upto hb2⟩

set_option maxHeartbeats 8000000 in
theorem awake16_any (w : World) : Calls Try.prog 12 #[] w fun e w' => e = .returned (.bool true) ∧ Below w.heap.size w w' := by
  have HB0 := Lib.hid (Below.refl w.heap.size w)
  go_enter Try.func12, Try.ntmps12
  go_wp2_with fail
  refine (three16_any _).mono ?_
  rintro e w1 ⟨A3, rfl, hl, hb⟩
  simp only [show threeLs.length = 3 from rfl]
  have HL := Lib.hid hl
  clear hl
  have HB1 := Lib.hid (HB0.out.trans (hb.mono HB0.out.size))
  clear HB0
  clear hb
  go_wp2_with fail
  refine (aw_tree _ _ HL.out).mono ?_
  rintro e w2 ⟨v, rfl, hown, hb⟩
  obtain ⟨Aa, ca, rfl, hI⟩ := ownsRow_ints hown
  have HIa := Lib.hid hI
  clear hown hI
  have HB2 := Lib.hid (HB1.out.trans (hb.mono HB1.out.size))
  clear HB1
  replace HL := Lib.hid (HL.out.upto hb)
  clear hb
  clear HL
  go_wp2_with fail
  refine (three16_any _).mono ?_
  rintro e w3 ⟨A3, rfl, hl, hb⟩
  simp only [show threeLs.length = 3 from rfl]
  have HL := Lib.hid hl
  clear hl
  have HB3 := Lib.hid (HB2.out.trans (hb.mono HB2.out.size))
  clear HB2
  replace HIa := Lib.hid (HIa.out.upto hb)
  clear hb
  go_wp2_with fail
  refine (aw_brg _ _ HL.out).mono ?_
  rintro e w4 ⟨v, rfl, hown, hb⟩
  obtain ⟨Ab, cb, rfl, hI⟩ := ownsRow_ints hown
  have HIb := Lib.hid hI
  clear hown hI
  have HB4 := Lib.hid (HB3.out.trans (hb.mono HB3.out.size))
  clear HB3
  replace HIa := Lib.hid (HIa.out.upto hb)
  replace HL := Lib.hid (HL.out.upto hb)
  clear hb
  clear HL
  go_wp2_with fail
  refine (three16_any _).mono ?_
  rintro e w5 ⟨A3, rfl, hl, hb⟩
  simp only [show threeLs.length = 3 from rfl]
  have HL := Lib.hid hl
  clear hl
  have HB5 := Lib.hid (HB4.out.trans (hb.mono HB4.out.size))
  clear HB4
  replace HIa := Lib.hid (HIa.out.upto hb)
  replace HIb := Lib.hid (HIb.out.upto hb)
  clear hb
  go_wp2_with fail
  refine (aw_path _ _ HL.out).mono ?_
  rintro e w6 ⟨v, rfl, hown, hb⟩
  obtain ⟨Aw, cw, rfl, hI⟩ := ownsRow_ints hown
  have HIw := Lib.hid hI
  clear hown hI
  have HB6 := Lib.hid (HB5.out.trans (hb.mono HB5.out.size))
  clear HB5
  replace HIa := Lib.hid (HIa.out.upto hb)
  replace HIb := Lib.hid (HIb.out.upto hb)
  replace HL := Lib.hid (HL.out.upto hb)
  clear hb
  clear HL
  go_wp2_with fail
  refine (three16_any _).mono ?_
  rintro e w7 ⟨A3, rfl, hl, hb⟩
  simp only [show threeLs.length = 3 from rfl]
  have HL := Lib.hid hl
  clear hl
  have HB7 := Lib.hid (HB6.out.trans (hb.mono HB6.out.size))
  clear HB6
  replace HIa := Lib.hid (HIa.out.upto hb)
  replace HIb := Lib.hid (HIb.out.upto hb)
  replace HIw := Lib.hid (HIw.out.upto hb)
  clear hb
  go_wp2_with fail
  refine (aw_cyc _ _ HL.out).mono ?_
  rintro e w8 ⟨v, rfl, hown, hb⟩
  obtain ⟨Ac, cc, rfl, hI⟩ := hown.read
  have HRc := Lib.hid hI
  clear hown hI
  have HB8 := Lib.hid (HB7.out.trans (hb.mono HB7.out.size))
  clear HB7
  replace HIa := Lib.hid (HIa.out.upto hb)
  replace HIb := Lib.hid (HIb.out.upto hb)
  replace HIw := Lib.hid (HIw.out.upto hb)
  replace HL := Lib.hid (HL.out.upto hb)
  clear hb
  clear HL
  go_wp2_with fail
  refine (three16_any _).mono ?_
  rintro e w9 ⟨A3, rfl, hl, hb⟩
  simp only [show threeLs.length = 3 from rfl]
  have HL := Lib.hid hl
  clear hl
  have HB9 := Lib.hid (HB8.out.trans (hb.mono HB8.out.size))
  clear HB8
  replace HIa := Lib.hid (HIa.out.upto hb)
  replace HIb := Lib.hid (HIb.out.upto hb)
  replace HIw := Lib.hid (HIw.out.upto hb)
  replace HRc := Lib.hid (HRc.out.upto hb)
  clear hb
  go_wp2_with fail
  have hI := IntsR.litU w9 3 [2] #[.int .i64 2] rfl
  have hb := (Below.refl w9.heap.size w9).alloc (Nat.le_refl _) (.cells #[.int .i64 2] 3)
  have HZ := Lib.hid hI
  clear hI
  have HB10 := Lib.hid (HB9.out.trans (hb.mono HB9.out.size))
  clear HB9
  replace HIa := Lib.hid (HIa.out.upto hb)
  replace HIb := Lib.hid (HIb.out.upto hb)
  replace HIw := Lib.hid (HIw.out.upto hb)
  replace HRc := Lib.hid (HRc.out.upto hb)
  replace HL := Lib.hid (HL.out.upto hb)
  clear hb
  refine (aw_brg2 _ _ _ HL.out HZ.out).mono ?_
  rintro e w11 ⟨v, rfl, hown, hb⟩
  obtain ⟨Ad, cd, rfl, hI⟩ := ownsRow_ints hown
  have HId := Lib.hid hI
  clear hown hI
  have HB11 := Lib.hid (HB10.out.trans (hb.mono HB10.out.size))
  clear HB10
  replace HIa := Lib.hid (HIa.out.upto hb)
  replace HIb := Lib.hid (HIb.out.upto hb)
  replace HIw := Lib.hid (HIw.out.upto hb)
  replace HRc := Lib.hid (HRc.out.upto hb)
  replace HL := Lib.hid (HL.out.upto hb)
  replace HZ := Lib.hid (HZ.out.upto hb)
  clear hb
  clear HZ
  clear HL
  go_wp2_with fail
  refine (three16_any _).mono ?_
  rintro e w12 ⟨A3, rfl, hl, hb⟩
  simp only [show threeLs.length = 3 from rfl]
  have HL := Lib.hid hl
  clear hl
  have HB12 := Lib.hid (HB11.out.trans (hb.mono HB11.out.size))
  clear HB11
  replace HIa := Lib.hid (HIa.out.upto hb)
  replace HIb := Lib.hid (HIb.out.upto hb)
  replace HIw := Lib.hid (HIw.out.upto hb)
  replace HRc := Lib.hid (HRc.out.upto hb)
  replace HId := Lib.hid (HId.out.upto hb)
  clear hb
  go_wp2_with fail
  have hI := IntsR.litU w12 3 [2] #[.int .i64 2] rfl
  have hb := (Below.refl w12.heap.size w12).alloc (Nat.le_refl _) (.cells #[.int .i64 2] 3)
  have HZ := Lib.hid hI
  clear hI
  have HB13 := Lib.hid (HB12.out.trans (hb.mono HB12.out.size))
  clear HB12
  replace HIa := Lib.hid (HIa.out.upto hb)
  replace HIb := Lib.hid (HIb.out.upto hb)
  replace HIw := Lib.hid (HIw.out.upto hb)
  replace HRc := Lib.hid (HRc.out.upto hb)
  replace HId := Lib.hid (HId.out.upto hb)
  replace HL := Lib.hid (HL.out.upto hb)
  clear hb
  refine (aw_cyc2 _ _ _ HL.out HZ.out).mono ?_
  rintro e w14 ⟨v, rfl, hown, hb⟩
  obtain ⟨Ak, ck, rfl, hI⟩ := hown.read
  clear hown hI
  have HB14 := Lib.hid (HB13.out.trans (hb.mono HB13.out.size))
  clear HB13
  replace HIa := Lib.hid (HIa.out.upto hb)
  replace HIb := Lib.hid (HIb.out.upto hb)
  replace HIw := Lib.hid (HIw.out.upto hb)
  replace HRc := Lib.hid (HRc.out.upto hb)
  replace HId := Lib.hid (HId.out.upto hb)
  replace HL := Lib.hid (HL.out.upto hb)
  replace HZ := Lib.hid (HZ.out.upto hb)
  clear hb
  clear HZ
  clear HL
  simp only [List.length_nil]
  go_wp2_with fail
  have hI := IntsR.litU w14 3 [0, 1] #[.int .i64 0, .int .i64 1] rfl
  have hb := (Below.refl w14.heap.size w14).alloc (Nat.le_refl _) (.cells #[.int .i64 0, .int .i64 1] 3)
  have HZ := Lib.hid hI
  clear hI
  have HB15 := Lib.hid (HB14.out.trans (hb.mono HB14.out.size))
  clear HB14
  replace HIa := Lib.hid (HIa.out.upto hb)
  replace HIb := Lib.hid (HIb.out.upto hb)
  replace HIw := Lib.hid (HIw.out.upto hb)
  replace HRc := Lib.hid (HRc.out.upto hb)
  replace HId := Lib.hid (HId.out.upto hb)
  clear hb
  refine (ints_same Aa _ ca 2 [0, 1] _ HIa.out HZ.out (by simp)).mono ?_
  rintro e w16 ⟨rfl, hb⟩
  have HB16 := Lib.hid (HB15.out.trans (hb.mono HB15.out.size))
  clear HB15
  replace HIa := Lib.hid (HIa.out.upto hb)
  replace HIb := Lib.hid (HIb.out.upto hb)
  replace HIw := Lib.hid (HIw.out.upto hb)
  replace HRc := Lib.hid (HRc.out.upto hb)
  replace HId := Lib.hid (HId.out.upto hb)
  replace HZ := Lib.hid (HZ.out.upto hb)
  clear hb
  clear HZ
  go_wp2_with fail
  have hI := IntsR.litU w16 3 [(-1), (-1), 0] #[.int .i64 (-1), .int .i64 (-1), .int .i64 0] rfl
  have hb := (Below.refl w16.heap.size w16).alloc (Nat.le_refl _) (.cells #[.int .i64 (-1), .int .i64 (-1), .int .i64 0] 3)
  have HZ := Lib.hid hI
  clear hI
  have HB17 := Lib.hid (HB16.out.trans (hb.mono HB16.out.size))
  clear HB16
  replace HIa := Lib.hid (HIa.out.upto hb)
  replace HIb := Lib.hid (HIb.out.upto hb)
  replace HIw := Lib.hid (HIw.out.upto hb)
  replace HRc := Lib.hid (HRc.out.upto hb)
  replace HId := Lib.hid (HId.out.upto hb)
  clear hb
  refine (ints_same Aw _ cw 3 [(-1), (-1), 0] _ HIw.out HZ.out (by simp)).mono ?_
  rintro e w18 ⟨rfl, hb⟩
  have HB18 := Lib.hid (HB17.out.trans (hb.mono HB17.out.size))
  clear HB17
  replace HIa := Lib.hid (HIa.out.upto hb)
  replace HIb := Lib.hid (HIb.out.upto hb)
  replace HIw := Lib.hid (HIw.out.upto hb)
  replace HRc := Lib.hid (HRc.out.upto hb)
  replace HId := Lib.hid (HId.out.upto hb)
  replace HZ := Lib.hid (HZ.out.upto hb)
  clear hb
  clear HZ
  go_wp2_with fail
  obtain ⟨hI, hb⟩ := rows_lit w18
  have HZ := Lib.hid hI
  clear hI
  have HB19 := Lib.hid (HB18.out.trans (hb.mono HB18.out.size))
  clear HB18
  replace HIa := Lib.hid (HIa.out.upto hb)
  replace HIb := Lib.hid (HIb.out.upto hb)
  replace HIw := Lib.hid (HIw.out.upto hb)
  replace HRc := Lib.hid (HRc.out.upto hb)
  replace HId := Lib.hid (HId.out.upto hb)
  clear hb
  refine (rows_same Ac _ cc 1 [[-1, -1, 1]] _ HRc.out HZ.out (by simp) row_small).mono ?_
  rintro e w20 ⟨rfl, hb⟩
  have HB20 := Lib.hid (HB19.out.trans (hb.mono HB19.out.size))
  clear HB19
  replace HIa := Lib.hid (HIa.out.upto hb)
  replace HIb := Lib.hid (HIb.out.upto hb)
  replace HIw := Lib.hid (HIw.out.upto hb)
  replace HRc := Lib.hid (HRc.out.upto hb)
  replace HId := Lib.hid (HId.out.upto hb)
  replace HZ := Lib.hid (HZ.out.upto hb)
  clear hb
  clear HZ
  go_wp2_with fail
  have hI := IntsR.litU w20 3 [0, 1] #[.int .i64 0, .int .i64 1] rfl
  have hb := (Below.refl w20.heap.size w20).alloc (Nat.le_refl _) (.cells #[.int .i64 0, .int .i64 1] 3)
  have HZ := Lib.hid hI
  clear hI
  have HB21 := Lib.hid (HB20.out.trans (hb.mono HB20.out.size))
  clear HB20
  replace HIa := Lib.hid (HIa.out.upto hb)
  replace HIb := Lib.hid (HIb.out.upto hb)
  replace HIw := Lib.hid (HIw.out.upto hb)
  replace HRc := Lib.hid (HRc.out.upto hb)
  replace HId := Lib.hid (HId.out.upto hb)
  clear hb
  refine (ints_same Ad _ cd 2 [0, 1] _ HId.out HZ.out (by simp)).mono ?_
  rintro e w22 ⟨rfl, hb⟩
  have HB22 := Lib.hid (HB21.out.trans (hb.mono HB21.out.size))
  clear HB21
  replace HIa := Lib.hid (HIa.out.upto hb)
  replace HIb := Lib.hid (HIb.out.upto hb)
  replace HIw := Lib.hid (HIw.out.upto hb)
  replace HRc := Lib.hid (HRc.out.upto hb)
  replace HId := Lib.hid (HId.out.upto hb)
  replace HZ := Lib.hid (HZ.out.upto hb)
  clear hb
  clear HZ
  go_wp2_with fail
  go_ret
  exact ⟨rfl, HB22.out⟩
end Go.Proofs.Ytmojjfdamdgegaa
