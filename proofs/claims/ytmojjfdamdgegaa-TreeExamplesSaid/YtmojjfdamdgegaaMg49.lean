/- The text TexW. -/
import Derived.Deep.DeepCutAuto
import Derived.Test.YtmojjfdamdgegaaMg48
/- The walk of TreeExamples. -/
namespace Go.Proofs.Ytmojjfdamdgegaa
open Go.RowKit
set_option linter.unusedVariables false

set_option maxRecDepth 100000 in
set_option maxHeartbeats 16000000 in
theorem tex_walk (w : World) : Calls Try.prog 5 #[] w fun e w' => e = .returned (.bool true) ∧ Below w.heap.size w w' := by
  have hmk := run_make11
  go_enter Try.func5, Try.ntmps5
  go_wp2_with fail
  refine (awake16_any _).mono ?_
  rintro e w1 ⟨rfl, hb1⟩
  have HB1 := Lib.hid hb1
  clear hb1
  go_wp2_with fail
  refine (three16_any _).mono ?_
  rintro e w2 ⟨A, rfl, hl, hb⟩
  have HB2 := Lib.hid (HB1.out.trans (hb.mono HB1.out.size))
  have HL := Lib.hid hl
  clear hb hl HB1
  rw [show threeLs.length = 3 from rfl]
  go_upto_region 4 with fail
  have hb : Below w2.heap.size w2 (w2.alloc (.cells #[.int .i64 3, .slice A 3 3] 24)) := (Below.refl _ _).alloc (Nat.le_refl _) _
  have p0 : (w2.alloc (.cells #[.int .i64 3, .slice A 3 3] 24)).cell? ⟨w2.heap.size, 0, none⟩ = some (.int .i64 3) := cell_alloc_at _ _ _ _ _ rfl
  have p1 : (w2.alloc (.cells #[.int .i64 3, .slice A 3 3] 24)).cell? ⟨w2.heap.size, 1, none⟩ = some (.slice A 3 3) := cell_alloc_at _ _ _ _ _ rfl
  have hsz : w2.heap.size < (w2.alloc (.cells #[.int .i64 3, .slice A 3 3] 24)).heap.size := by simp
  generalize w2.alloc (.cells #[.int .i64 3, .slice A 3 3] 24) = w3 at *
  have HB3 := Lib.hid (HB2.out.trans (hb.mono HB2.out.size))
  replace HL := Lib.hid (HL.out.upto hb)
  clear hb HB2
  generalize w2.heap.size = B at *
  go_cut [47, 48, 49] (fun s47 s48 s49 wx => ∃ g, s47 = .slice (some ⟨g, 0, none⟩) 6 6 ∧ s48 = .int .i64 6 ∧ s49 = .int .i64 0 ∧ ExRows g wx ∧ Below w3.heap.size w3 wx)
  case first =>
    refine region_each' (exF A) (fun W => Below w3.heap.size w3 W) (by kernel_rfl) (by kernel_rfl) (Below.refl _ _).drew ?_ ?_
    · intro i o ho a W hW hdep hrest
      have h1 : a.tmps.getD 1 undef = .pointer (some ⟨B, 0, none⟩) := hrest 1 (apart_of (by kernel_rfl))
      have hc : ∀ v, a.eval (.const v) = v := fun _ => rfl
      clear hrest
      rcases i with _ | _ | _ | _ | _ | _ | _ | _ | _ | _ | _ | _ | _ | _ | _ | _ | _ | _ | _ | _ | i
      · injection ho with ho
        subst ho
        clear hdep
        generalize a.eval = ρ at *
        refine ⟨.agg #[.int .i64 0, .slice none 0 0], W, ?_, hW, rfl, fun _ _ h => h⟩
        simp [go_sem]
      · injection ho with ho
        subst ho
        have d0 : exF A 0 (a.tmps.getD 30 undef) W := hdep ⟨0, .data⟩ (by simp) rfl _ _ rfl rfl
        clear hdep
        have e0 : a.eval (.tmp 30) = _ := d0
        generalize a.eval = ρ at *
        refine ⟨.agg #[.int .i64 0, .slice none 0 0, .slice none 0 0, .int .i64 1], W, ?_, hW, rfl, fun _ _ h => h⟩
        simp [go_sem, hc, e0]
      · injection ho with ho
        subst ho
        clear hdep
        have e1 : a.eval (.tmp 1) = .pointer (some ⟨B, 0, none⟩) := h1
        have g0 := (hW.cell (p := ⟨B, 0, none⟩) hsz).trans p0
        have g1 := (hW.cell (p := ⟨B, 1, none⟩) hsz).trans p1
        generalize a.eval = ρ at *
        refine ⟨.agg #[.int .i64 3, .slice A 3 3], W, ?_, hW, rfl, fun _ _ h => h⟩
        simp [go_sem, e1, g0, g1]
      · injection ho with ho
        subst ho
        clear hdep
        generalize a.eval = ρ at *
        refine ⟨.slice (some ⟨W.heap.size, 0, none⟩) 1 1, W.alloc (.cells #[.int .i64 3] 3), ?_, hW.alloc hW.size _, ⟨_, rfl, Blk.new _ _ _⟩, exF_up ((Below.refl _ _).alloc (Nat.le_refl _) _)⟩
        simp [go_sem, hc]
      · injection ho with ho
        subst ho
        have d2 : exF A 2 (a.tmps.getD 32 undef) W := hdep ⟨2, .data⟩ (by simp) rfl _ _ rfl rfl
        have d3 : exF A 3 (a.tmps.getD 33 undef) W := hdep ⟨3, .data⟩ (by simp) rfl _ _ rfl rfl
        clear hdep
        have e2 : a.eval (.tmp 32) = _ := d2
        obtain ⟨b3, e3', k3⟩ := d3
        have e3 : a.eval (.tmp 33) = _ := e3'
        generalize a.eval = ρ at *
        refine ⟨.agg #[.int .i64 3, .slice A 3 3, .slice (some ⟨b3, 0, none⟩) 1 1, .int .i64 1], W, ?_, hW, ⟨_, rfl, k3⟩, fun _ _ h => h⟩
        simp [go_sem, hc, e2, e3]
      · injection ho with ho
        subst ho
        clear hdep
        have e1 : a.eval (.tmp 1) = .pointer (some ⟨B, 0, none⟩) := h1
        have g0 := (hW.cell (p := ⟨B, 0, none⟩) hsz).trans p0
        have g1 := (hW.cell (p := ⟨B, 1, none⟩) hsz).trans p1
        generalize a.eval = ρ at *
        refine ⟨.agg #[.int .i64 3, .slice A 3 3], W, ?_, hW, rfl, fun _ _ h => h⟩
        simp [go_sem, e1, g0, g1]
      · injection ho with ho
        subst ho
        clear hdep
        generalize a.eval = ρ at *
        refine ⟨.slice (some ⟨W.heap.size, 0, none⟩) 2 2, W.alloc (.cells #[.int .i64 1, .int .i64 0] 3), ?_, hW.alloc hW.size _, ⟨_, rfl, Blk.new _ _ _⟩, exF_up ((Below.refl _ _).alloc (Nat.le_refl _) _)⟩
        simp [go_sem, hc]
      · injection ho with ho
        subst ho
        have d5 : exF A 5 (a.tmps.getD 35 undef) W := hdep ⟨5, .data⟩ (by simp) rfl _ _ rfl rfl
        have d6 : exF A 6 (a.tmps.getD 36 undef) W := hdep ⟨6, .data⟩ (by simp) rfl _ _ rfl rfl
        clear hdep
        have e5 : a.eval (.tmp 35) = _ := d5
        obtain ⟨b6, e6', k6⟩ := d6
        have e6 : a.eval (.tmp 36) = _ := e6'
        generalize a.eval = ρ at *
        refine ⟨.agg #[.int .i64 3, .slice A 3 3, .slice (some ⟨b6, 0, none⟩) 2 2, .int .i64 1], W, ?_, hW, ⟨_, rfl, k6⟩, fun _ _ h => h⟩
        simp [go_sem, hc, e5, e6]
      · injection ho with ho
        subst ho
        clear hdep
        generalize a.eval = ρ at *
        refine ⟨.slice (some ⟨W.heap.size, 0, none⟩) 11 11, W.alloc (.cells z44 44), ?_, hW.alloc hW.size _, ⟨_, rfl, Blk.new _ _ _⟩, exF_up ((Below.refl _ _).alloc (Nat.le_refl _) _)⟩
        simp [go_sem, hc, hmk]
      · injection ho with ho
        subst ho
        have d8 : exF A 8 (a.tmps.getD 38 undef) W := hdep ⟨8, .data⟩ (by simp) rfl _ _ rfl rfl
        clear hdep
        obtain ⟨b8, e8', k8⟩ := d8
        have e8 : a.eval (.tmp 38) = _ := e8'
        generalize a.eval = ρ at *
        refine ⟨.agg #[.int .i64 2, .slice (some ⟨b8, 0, none⟩) 11 11], W, ?_, hW, ⟨_, rfl, k8⟩, fun _ _ h => h⟩
        simp [go_sem, hc, e8]
      · injection ho with ho
        subst ho
        clear hdep
        generalize a.eval = ρ at *
        refine ⟨.slice (some ⟨W.heap.size, 0, none⟩) 1 1, W.alloc (.cells #[.int .i64 (-1)] 3), ?_, hW.alloc hW.size _, ⟨_, rfl, Blk.new _ _ _⟩, exF_up ((Below.refl _ _).alloc (Nat.le_refl _) _)⟩
        simp [go_sem, hc]
      · injection ho with ho
        subst ho
        have d9 : exF A 9 (a.tmps.getD 39 undef) W := hdep ⟨9, .data⟩ (by simp) rfl _ _ rfl rfl
        have d10 : exF A 10 (a.tmps.getD 40 undef) W := hdep ⟨10, .data⟩ (by simp) rfl _ _ rfl rfl
        clear hdep
        obtain ⟨b9, e9', k9⟩ := d9
        have e9 : a.eval (.tmp 39) = _ := e9'
        obtain ⟨b10, e10', k10⟩ := d10
        have e10 : a.eval (.tmp 40) = _ := e10'
        generalize a.eval = ρ at *
        refine ⟨.agg #[.int .i64 2, .slice (some ⟨b9, 0, none⟩) 11 11, .slice (some ⟨b10, 0, none⟩) 1 1, .int .i64 5], W, ?_, hW, ⟨_, _, rfl, k9, k10⟩, fun _ _ h => h⟩
        simp [go_sem, hc, e9, e10]
      · injection ho with ho
        subst ho
        clear hdep
        have e1 : a.eval (.tmp 1) = .pointer (some ⟨B, 0, none⟩) := h1
        have g0 := (hW.cell (p := ⟨B, 0, none⟩) hsz).trans p0
        have g1 := (hW.cell (p := ⟨B, 1, none⟩) hsz).trans p1
        generalize a.eval = ρ at *
        refine ⟨.agg #[.int .i64 3, .slice A 3 3], W, ?_, hW, rfl, fun _ _ h => h⟩
        simp [go_sem, e1, g0, g1]
      · injection ho with ho
        subst ho
        clear hdep
        generalize a.eval = ρ at *
        refine ⟨.slice (some ⟨W.heap.size, 0, none⟩) 3 3, W.alloc (.cells #[.int .i64 0, .int .i64 1, .int .i64 2] 3), ?_, hW.alloc hW.size _, ⟨_, rfl, Blk.new _ _ _⟩, exF_up ((Below.refl _ _).alloc (Nat.le_refl _) _)⟩
        simp [go_sem, hc]
      · injection ho with ho
        subst ho
        have d12 : exF A 12 (a.tmps.getD 42 undef) W := hdep ⟨12, .data⟩ (by simp) rfl _ _ rfl rfl
        have d13 : exF A 13 (a.tmps.getD 43 undef) W := hdep ⟨13, .data⟩ (by simp) rfl _ _ rfl rfl
        clear hdep
        have e12 : a.eval (.tmp 42) = _ := d12
        obtain ⟨b13, e13', k13⟩ := d13
        have e13 : a.eval (.tmp 43) = _ := e13'
        generalize a.eval = ρ at *
        refine ⟨.agg #[.int .i64 3, .slice A 3 3, .slice (some ⟨b13, 0, none⟩) 3 3, .int .i64 0], W, ?_, hW, ⟨_, rfl, k13⟩, fun _ _ h => h⟩
        simp [go_sem, hc, e12, e13]
      · injection ho with ho
        subst ho
        clear hdep
        generalize a.eval = ρ at *
        refine ⟨.agg #[.int .i64 6, .slice none 0 0], W, ?_, hW, rfl, fun _ _ h => h⟩
        simp [go_sem, hc]
      · injection ho with ho
        subst ho
        have d15 : exF A 15 (a.tmps.getD 45 undef) W := hdep ⟨15, .data⟩ (by simp) rfl _ _ rfl rfl
        clear hdep
        have e15 : a.eval (.tmp 45) = _ := d15
        generalize a.eval = ρ at *
        refine ⟨.agg #[.int .i64 6, .slice none 0 0, .slice none 0 0, .int .i64 0], W, ?_, hW, rfl, fun _ _ h => h⟩
        simp [go_sem, hc, e15]
      · injection ho with ho
        subst ho
        have d1 : exF A 1 (a.tmps.getD 31 undef) W := hdep ⟨1, .data⟩ (by simp) rfl _ _ rfl rfl
        have d4 : exF A 4 (a.tmps.getD 34 undef) W := hdep ⟨4, .data⟩ (by simp) rfl _ _ rfl rfl
        have d7 : exF A 7 (a.tmps.getD 37 undef) W := hdep ⟨7, .data⟩ (by simp) rfl _ _ rfl rfl
        have d11 : exF A 11 (a.tmps.getD 41 undef) W := hdep ⟨11, .data⟩ (by simp) rfl _ _ rfl rfl
        have d14 : exF A 14 (a.tmps.getD 44 undef) W := hdep ⟨14, .data⟩ (by simp) rfl _ _ rfl rfl
        have d16 : exF A 16 (a.tmps.getD 46 undef) W := hdep ⟨16, .data⟩ (by simp) rfl _ _ rfl rfl
        clear hdep
        have e1 : a.eval (.tmp 31) = _ := d1
        obtain ⟨b4, e4', k4⟩ := d4
        have e4 : a.eval (.tmp 34) = _ := e4'
        obtain ⟨b7, e7', k7⟩ := d7
        have e7 : a.eval (.tmp 37) = _ := e7'
        obtain ⟨b11, c11, e11', k11, m11⟩ := d11
        have e11 : a.eval (.tmp 41) = _ := e11'
        obtain ⟨b14, e14', k14⟩ := d14
        have e14 : a.eval (.tmp 44) = _ := e14'
        have e16 : a.eval (.tmp 46) = _ := d16
        generalize a.eval = ρ at *
        have hbe : Below W.heap.size W (W.alloc (.cells #[.int .i64 0, .slice none 0 0, .slice none 0 0, .int .i64 1, .int .i64 3, .slice A 3 3, .slice (some ⟨b4, 0, none⟩) 1 1, .int .i64 1, .int .i64 3, .slice A 3 3, .slice (some ⟨b7, 0, none⟩) 2 2, .int .i64 1, .int .i64 2, .slice (some ⟨b11, 0, none⟩) 11 11, .slice (some ⟨c11, 0, none⟩) 1 1, .int .i64 5, .int .i64 3, .slice A 3 3, .slice (some ⟨b14, 0, none⟩) 3 3, .int .i64 0, .int .i64 6, .slice none 0 0, .slice none 0 0, .int .i64 0] 41)) := (Below.refl _ _).alloc (Nat.le_refl _) _
        refine ⟨.slice (some ⟨W.heap.size, 0, none⟩) 6 6, W.alloc (.cells #[.int .i64 0, .slice none 0 0, .slice none 0 0, .int .i64 1, .int .i64 3, .slice A 3 3, .slice (some ⟨b4, 0, none⟩) 1 1, .int .i64 1, .int .i64 3, .slice A 3 3, .slice (some ⟨b7, 0, none⟩) 2 2, .int .i64 1, .int .i64 2, .slice (some ⟨b11, 0, none⟩) 11 11, .slice (some ⟨c11, 0, none⟩) 1 1, .int .i64 5, .int .i64 3, .slice A 3 3, .slice (some ⟨b14, 0, none⟩) 3 3, .int .i64 0, .int .i64 6, .slice none 0 0, .slice none 0 0, .int .i64 0] 41), ?_, hW.alloc hW.size _, ⟨_, rfl, ex_fin ((HL.out.upto hW).upto hbe) (k4.upto hbe) (k7.upto hbe) (k11.upto hbe) (m11.upto hbe) (k14.upto hbe) (Blk.new _ _ _)⟩, exF_up hbe⟩
        simp [go_sem, e1, e4, e7, e11, e14, e16]
      · injection ho with ho
        subst ho
        have d17 : exF A 17 (a.tmps.getD 47 undef) W := hdep ⟨17, .data⟩ (by simp) rfl _ _ rfl rfl
        clear hdep
        obtain ⟨b17, e17', k17⟩ := d17
        have e17 : a.eval (.tmp 47) = _ := e17'
        generalize a.eval = ρ at *
        refine ⟨.int .i64 6, W, ?_, hW, rfl, fun _ _ h => h⟩
        simp [go_sem, e17]
      · injection ho with ho
        subst ho
        clear hdep
        generalize a.eval = ρ at *
        refine ⟨.int .i64 0, W, ?_, hW, rfl, fun _ _ h => h⟩
        simp [go_sem, hc]
      · simp at ho
    · intro vs W hW hF
      obtain ⟨g, hg, hR⟩ : exF A 17 (vs 17) W := hF 17 (by decide)
      have h18 : exF A 18 (vs 18) W := hF 18 (by decide)
      have h19 : exF A 19 (vs 19) W := hF 19 (by decide)
      have H := Lib.hid (And.intro hg (And.intro h18 (And.intro h19 (And.intro hR hW))))
      clear hF hg hR h18 h19
      simp only [putAll, Act.put, List.setIfInBounds_toArray, List.set_cons_zero, List.set_cons_succ, Nat.reduceAdd]
      go_wp2_with fail
      go_meet
      exact ⟨g, H.out.1, H.out.2.1, H.out.2.2.1, H.out.2.2.2.1, H.out.2.2.2.2⟩
  case rest =>
    obtain ⟨g, rfl, rfl, rfl, hR, hb⟩ := hcut
    have HB4 := Lib.hid (HB3.out.trans (hb.mono HB3.out.size))
    have HE := Lib.hid (ExSt.mk (g := g) (B := B) (A := A) (W := wc) ((hb.cell (p := ⟨B, 0, none⟩) hsz).trans p0) ((hb.cell (p := ⟨B, 1, none⟩) hsz).trans p1) (HL.out.upto hb) hR (Nat.lt_of_lt_of_le hsz hb.size))
    clear hb hR HB3 HL p0 p1 hsz hmk
    go_wp2_with fail
    go_loopg [0, 3, 4, 5, 6, 7, 8, 9, 10, 11, 49] 6 (fun gg s0 s3 s4 s5 s6 s7 s8 s9 s10 s11 s49 wr => ∃ k : Nat, k + gg = 6 ∧ s49 = .int .i64 k ∧ ExSt g B A wr ∧ Below w.heap.size w wr)
    case atStart => exact ⟨0, by omega, rfl, HE.out, HB4.out⟩
    case round =>
      clear HE HB4
      obtain ⟨k, hkg, rfl, hS, hBelow⟩ := hrel
      have HE := Lib.hid hS
      have HB4 := Lib.hid hBelow
      clear hS hBelow
      cases gk with
      | zero =>
        obtain rfl : k = 6 := by omega
        clear hkg
        have HS4 := Lib.hid (FiveSt.of HE.out)
        have p0 := HS4.out.p0
        have p1 := HS4.out.p1
        have K1 := Lib.hid (fun W hl => path_any 3 A none 3 0 threeLs [] 0 3 W hl IntsR.nil_ (by decide) (by decide))
        have K2 := Lib.hid (fun W hl => path_any 3 A none 3 0 threeLs [] (-1) 0 W hl IntsR.nil_ (by decide) (by decide))
        have K3 := Lib.hid (fun A' W hl ho => path_any 3 A A' 3 2 threeLs [0, 2] 0 1 W hl ho (by decide) (by decide))
        have K4 := Lib.hid (fun A' W hl ho => path_any 3 A A' 3 1 threeLs [4] 0 9 W hl ho (by decide) (by decide))
        have K5 := Lib.hid (fun A' W hl => cycles_any 2 A' none 3 0 twoLs [] W hl IntsR.nil_ (by decide) (by decide))
        have K6 := Lib.hid (fun A' W hl => bridges_any 2 A' none 3 0 twoLs [] W hl IntsR.nil_ (by decide) (by decide))
        have K7 := Lib.hid (fun A' A2 W hl ho => bridges_any 2 A' A2 3 2 twoLs [0, 2] W hl ho (by decide) (by decide))
        rw [tx_paths.1.1] at K1
        rw [tx_paths.1.2] at K2
        rw [tx_paths.2.1] at K3
        rw [tx_paths.2.2] at K4
        rw [tx_cyc.2, tx_cyc.1] at K5
        rw [tx_brg, tx_cyc.1] at K6
        rw [tx_brg2.1, tx_brg2.2] at K7
        generalize pathL 3 threeLs [] 0 3 = l1 at *
        generalize pathL 3 threeLs [] (-1) 0 = l2 at *
        generalize pathL 3 threeLs [0, 2] 0 1 = l3 at *
        generalize pathL 3 threeLs [4] 0 9 = l4 at *
        clear HE
        go_wp2_with fail
        refine (K1.out _ HS4.out.hA).mono ?_
        rintro e w5 ⟨va, rfl, hown, hb⟩
        obtain ⟨Ya, ya, rfl, _⟩ := ownsRow_ints hown
        clear hown
        have HS5 := Lib.hid (HS4.out.upto hb)
        have HB5 := Lib.hid (HB4.out.trans (hb.mono HB4.out.size))
        clear p0 p1
        have p0 := HS5.out.p0
        have p1 := HS5.out.p1
        clear hb HS4 HB4
        go_wp2_with fail
        refine (K2.out _ HS5.out.hA).mono ?_
        rintro e w6 ⟨vb, rfl, hown, hb⟩
        obtain ⟨Yb, yb, rfl, _⟩ := ownsRow_ints hown
        clear hown
        have HS6 := Lib.hid (HS5.out.upto hb)
        have HB6 := Lib.hid (HB5.out.trans (hb.mono HB5.out.size))
        clear p0 p1
        have p0 := HS6.out.p0
        have p1 := HS6.out.p1
        clear hb HS5 HB5
        go_wp2_with fail
        have hb := (Below.refl w6.heap.size w6).alloc (Nat.le_refl _) (.cells #[.int .i64 0, .int .i64 2] 3)
        have hI := IntsR.litU w6 3 [0, 2] #[.int .i64 0, .int .i64 2] rfl
        refine (K3.out _ _ (HS6.out.upto hb).hA hI).mono ?_
        rintro e w7 ⟨vc, rfl, hown, hb7⟩
        obtain ⟨Yc, yc, rfl, _⟩ := ownsRow_ints hown
        replace hb := hb.trans (hb7.mono hb.size)
        clear hown hb7 hI
        have HS7 := Lib.hid (HS6.out.upto hb)
        have HB7 := Lib.hid (HB6.out.trans (hb.mono HB6.out.size))
        clear p0 p1
        have p0 := HS7.out.p0
        have p1 := HS7.out.p1
        clear hb HS6 HB6
        go_wp2_with fail
        have hb := (Below.refl w7.heap.size w7).alloc (Nat.le_refl _) (.cells #[.int .i64 4] 3)
        have hI := IntsR.litU w7 3 [4] #[.int .i64 4] rfl
        refine (K4.out _ _ (HS7.out.upto hb).hA hI).mono ?_
        rintro e w8 ⟨vd, rfl, hown, hb7⟩
        obtain ⟨Yd, yd, rfl, _⟩ := ownsRow_ints hown
        replace hb := hb.trans (hb7.mono hb.size)
        clear hown hb7 hI
        have HS8 := Lib.hid (HS7.out.upto hb)
        have HB8 := Lib.hid (HB7.out.trans (hb.mono HB7.out.size))
        clear p0 p1
        have p0 := HS8.out.p0
        have p1 := HS8.out.p1
        clear hb HS7 HB7
        clear p0 p1 HS8
        go_upto_region 19 with fail
        have hl2 := LinesR.lit w8 44 twoLs _ (show  #[.int .i64 0, .int .i64 1, .int .i64 1, .int .i64 0, .int .i64 1, .int .i64 0, .int .i64 2, .int .i64 0, .int .i64 0, .int .i64 1, .int .i64 3, .int .i64 0] = (lnCells twoLs).toArray from rfl)
        have z1 := World.size_alloc w8 (.cells #[.int .i64 0, .int .i64 1, .int .i64 1, .int .i64 0, .int .i64 1, .int .i64 0, .int .i64 2, .int .i64 0, .int .i64 0, .int .i64 1, .int .i64 3, .int .i64 0] 44)
        rw [← z1] at hl2
        have hb : Below w8.heap.size w8 ((w8.alloc (.cells #[.int .i64 0, .int .i64 1, .int .i64 1, .int .i64 0, .int .i64 1, .int .i64 0, .int .i64 2, .int .i64 0, .int .i64 0, .int .i64 1, .int .i64 3, .int .i64 0] 44)).alloc (.cells #[.int .i64 2, .slice (some ⟨w8.heap.size, 0, none⟩) 3 3] 24)) := below_alloc2 w8 _ _
        have hb' : Below (w8.alloc (.cells #[.int .i64 0, .int .i64 1, .int .i64 1, .int .i64 0, .int .i64 1, .int .i64 0, .int .i64 2, .int .i64 0, .int .i64 0, .int .i64 1, .int .i64 3, .int .i64 0] 44)).heap.size (w8.alloc (.cells #[.int .i64 0, .int .i64 1, .int .i64 1, .int .i64 0, .int .i64 1, .int .i64 0, .int .i64 2, .int .i64 0, .int .i64 0, .int .i64 1, .int .i64 3, .int .i64 0] 44)) ((w8.alloc (.cells #[.int .i64 0, .int .i64 1, .int .i64 1, .int .i64 0, .int .i64 1, .int .i64 0, .int .i64 2, .int .i64 0, .int .i64 0, .int .i64 1, .int .i64 3, .int .i64 0] 44)).alloc (.cells #[.int .i64 2, .slice (some ⟨w8.heap.size, 0, none⟩) 3 3] 24)) := (Below.refl _ _).alloc (Nat.le_refl _) _
        have q0 : ((w8.alloc (.cells #[.int .i64 0, .int .i64 1, .int .i64 1, .int .i64 0, .int .i64 1, .int .i64 0, .int .i64 2, .int .i64 0, .int .i64 0, .int .i64 1, .int .i64 3, .int .i64 0] 44)).alloc (.cells #[.int .i64 2, .slice (some ⟨w8.heap.size, 0, none⟩) 3 3] 24)).cell? ⟨w8.heap.size + 1, 0, none⟩ = some (.int .i64 2) := by rw [cell_alloc_at _ _ _ _ _ z1.symm]; rfl
        have q1 : ((w8.alloc (.cells #[.int .i64 0, .int .i64 1, .int .i64 1, .int .i64 0, .int .i64 1, .int .i64 0, .int .i64 2, .int .i64 0, .int .i64 0, .int .i64 1, .int .i64 3, .int .i64 0] 44)).alloc (.cells #[.int .i64 2, .slice (some ⟨w8.heap.size, 0, none⟩) 3 3] 24)).cell? ⟨w8.heap.size + 1, 1, none⟩ = some (.slice (some ⟨w8.heap.size, 0, none⟩) 3 3) := by rw [cell_alloc_at _ _ _ _ _ z1.symm]; rfl
        have hz : w8.heap.size + 1 < ((w8.alloc (.cells #[.int .i64 0, .int .i64 1, .int .i64 1, .int .i64 0, .int .i64 1, .int .i64 0, .int .i64 2, .int .i64 0, .int .i64 0, .int .i64 1, .int .i64 3, .int .i64 0] 44)).alloc (.cells #[.int .i64 2, .slice (some ⟨w8.heap.size, 0, none⟩) 3 3] 24)).heap.size := by simp
        have HL2 := Lib.hid (hl2.upto hb')
        have HB9 := Lib.hid (HB8.out.trans (hb.mono HB8.out.size))
        clear hl2 hb hb' z1 HB8
        generalize ((w8.alloc (.cells #[.int .i64 0, .int .i64 1, .int .i64 1, .int .i64 0, .int .i64 1, .int .i64 0, .int .i64 2, .int .i64 0, .int .i64 0, .int .i64 1, .int .i64 3, .int .i64 0] 44)).alloc (.cells #[.int .i64 2, .slice (some ⟨w8.heap.size, 0, none⟩) 3 3] 24)) = w9 at *
        generalize w8.heap.size = S at *
        go_wp2_with fail
        refine (K5.out _ _ HL2.out).mono ?_
        rintro e w10 ⟨v, rfl, hown, hb⟩
        obtain ⟨Ar, cr, rfl, hR⟩ := hown.read
        have HR := Lib.hid hR
        clear hown hR
        replace HL2 := Lib.hid (HL2.out.upto hb)
        replace q0 := (hb.cell (p := ⟨S + 1, 0, none⟩) hz).trans q0
        replace q1 := (hb.cell (p := ⟨S + 1, 1, none⟩) hz).trans q1
        replace hz : S + 1 < w10.heap.size := Nat.lt_of_lt_of_le hz hb.size
        have HB10 := Lib.hid (HB9.out.trans (hb.mono HB9.out.size))
        clear hb HB9
        go_wp2_with fail
        refine (K6.out _ _ HL2.out).mono ?_
        rintro e w11 ⟨v, rfl, hown, hb⟩
        obtain ⟨Am, cm, rfl, _⟩ := ownsRow_ints hown
        clear hown
        replace HL2 := Lib.hid (HL2.out.upto hb)
        replace HR := Lib.hid (HR.out.upto hb)
        replace q0 := (hb.cell (p := ⟨S + 1, 0, none⟩) hz).trans q0
        replace q1 := (hb.cell (p := ⟨S + 1, 1, none⟩) hz).trans q1
        replace hz : S + 1 < w11.heap.size := Nat.lt_of_lt_of_le hz hb.size
        have HB11 := Lib.hid (HB10.out.trans (hb.mono HB10.out.size))
        clear hb HB10
        go_wp2_with fail
        have hb := (Below.refl w11.heap.size w11).alloc (Nat.le_refl _) (.cells #[.int .i64 0, .int .i64 2] 3)
        have hI := IntsR.litU w11 3 [0, 2] #[.int .i64 0, .int .i64 2] rfl
        refine (K7.out _ _ _ (HL2.out.upto hb) hI).mono ?_
        rintro e w12 ⟨v, rfl, hown, hb7⟩
        obtain ⟨Ak, ck, rfl, hIk⟩ := ownsRow_ints hown
        have HIk := Lib.hid hIk
        replace hb := hb.trans (hb7.mono hb.size)
        clear hown hb7 hI hIk
        replace HL2 := Lib.hid (HL2.out.upto hb)
        replace HR := Lib.hid (HR.out.upto hb)
        replace q0 := (hb.cell (p := ⟨S + 1, 0, none⟩) hz).trans q0
        replace q1 := (hb.cell (p := ⟨S + 1, 1, none⟩) hz).trans q1
        replace hz : S + 1 < w12.heap.size := Nat.lt_of_lt_of_le hz hb.size
        have HB12 := Lib.hid (HB11.out.trans (hb.mono HB11.out.size))
        clear hb HB11
        obtain ⟨hR2, hb⟩ := rows_lit2 w12 [1, 1, 0] [-1, 0, 1] #[.int .i64 1, .int .i64 1, .int .i64 0] #[.int .i64 (-1), .int .i64 0, .int .i64 1] rfl rfl
        have HR2 := Lib.hid hR2
        have HR1 := Lib.hid (HR.out.upto hb)
        have HIk1 := Lib.hid (HIk.out.upto hb)
        have HB13 := Lib.hid (HB12.out.trans (hb.mono HB12.out.size))
        clear hb hR2 HR HIk HB12 HL2 q0 q1 hz
        go_wp2_with fail
        refine (rows_same _ _ _ _ [[1, 1, 0], [-1, 0, 1]] _ HR1.out HR2.out (by decide) row_small2).mono ?_
        rintro e w14 ⟨rfl, hb⟩
        have HIk2 := Lib.hid (HIk1.out.upto hb)
        have HB14 := Lib.hid (HB13.out.trans (hb.mono HB13.out.size))
        clear hb HIk1 HB13 HR1 HR2
        have hb := (Below.refl w14.heap.size w14).alloc (Nat.le_refl _) (.cells #[.int .i64 1] 3)
        have hI := IntsR.litU w14 3 [1] #[.int .i64 1] rfl
        have HI1 := Lib.hid hI
        have HIk3 := Lib.hid (HIk2.out.upto hb)
        have HB15 := Lib.hid (HB14.out.trans (hb.mono HB14.out.size))
        clear hb hI HIk2 HB14
        go_wp2_with fail
        refine (ints_same _ _ _ _ [1] _ HIk3.out HI1.out (by decide)).mono ?_
        rintro e w16 ⟨rfl, hb⟩
        have HB16 := Lib.hid (HB15.out.trans (hb.mono HB15.out.size))
        clear hb HB15 HIk3 HI1
        go_wp2_with fail
        go_ret
        exact ⟨rfl, HB16.out⟩
      | succ g2 =>
        have hk : k < 6 := by omega
        have HG := Lib.hid hkg
        clear hkg
        obtain ⟨A2, c2, A3, c3, r0, r1, r2, r3, hl2, ho3⟩ := HE.out.rows.2 k hk
        obtain ⟨f1, f2, f3, f4, f5, f6, f7, f8⟩ := ex_facts k hk
        have kb := fun W hl ho => bridges_any (exRow k).1 A2 A3 c2 c3 (exRow k).2.1 (exRow k).2.2.1 W hl ho (by omega) (by omega)
        have kt := fun W hl ho => tree_any (exRow k).1 A2 A3 c2 c3 (exRow k).2.1 (exRow k).2.2.1 W hl ho (by omega) (by omega)
        have kc := fun W hl ho => cycles_any (exRow k).1 A2 A3 c2 c3 (exRow k).2.1 (exRow k).2.2.1 W hl ho (by omega) (by omega)
        have kp := fun W hl ho => path_any (exRow k).1 A2 A3 c2 c3 (exRow k).2.1 (exRow k).2.2.1 0 0 W hl ho (by omega) (by omega)
        rw [f4, f3] at kb
        rw [f5, f3] at kt
        rw [f6, f3] at kc
        rw [f7] at kp
        have hz1 : ((k : Int) < 6) := by omega
        generalize pathL (exRow k).1 (exRow k).2.1 (exRow k).2.2.1 0 0 = pl at *
        clear f3 f4 f5 f6 f7
        generalize (exRow k).1 = nb at *
        generalize (exRow k).2.1 = ls at *
        generalize (exRow k).2.2.1 = out at *
        generalize (exRow k).2.2.2 = er at *
        have LO := Lib.hid (And.intro hl2 ho3)
        clear hl2 ho3
        have GLT := Lib.hid HE.out.rows.1
        have kk1 : (0 : Int) ≤ (k : Int) := by omega
        by_cases her : er = 0
        · subst her
          have b3 : ((pl.length : Int) != (ls.length : Int)) = false := by rw [f8, if_pos rfl]; simp
          clear f8
          have KB := Lib.hid kb
          have KT := Lib.hid kt
          have KC := Lib.hid kc
          have KP := Lib.hid kp
          clear kb kt kc kp
          go_wp2_with fail
          have hb : Below wr.heap.size wr (wr.alloc (.cells #[.int .i64 nb, .slice A2 ls.length c2, .slice A3 out.length c3, .int .i64 0] 41)) := (Below.refl _ _).alloc (Nat.le_refl _) _
          have hS5 : ExRow2 g B A nb ls out 0 A2 A3 c2 c3 wr.heap.size (wr.alloc (.cells #[.int .i64 nb, .slice A2 ls.length c2, .slice A3 out.length c3, .int .i64 0] 41)) := ⟨HE.out.upto hb, cell_alloc_at _ _ _ _ _ rfl, cell_alloc_at _ _ _ _ _ rfl, cell_alloc_at _ _ _ _ _ rfl, cell_alloc_at _ _ _ _ _ rfl, LO.out.1.upto hb, LO.out.2.upto hb, by simp⟩
          have HB5 := Lib.hid (HB4.out.trans (hb.mono HB4.out.size))
          generalize wr.alloc (.cells #[.int .i64 nb, .slice A2 ls.length c2, .slice A3 out.length c3, .int .i64 0] 41) = w5 at *
          generalize wr.heap.size = X at *
          have HS5 := Lib.hid hS5
          have x0 := hS5.x0
          have x1 := hS5.x1
          have x2 := hS5.x2
          have x3 := hS5.x3
          clear hb hS5 r0 r1 r2 r3 HE HB4 LO GLT
          go_wp2_with fail
          refine (KB.out _ HS5.out.hl HS5.out.ho).mono ?_
          rintro e w6 ⟨v0, rfl, hown, hb⟩
          obtain ⟨Y0, y0, rfl, _⟩ := ownsRow_ints hown
          have HS6 := Lib.hid (HS5.out.upto hb)
          have HB6 := Lib.hid (HB5.out.trans (hb.mono HB5.out.size))
          clear x0 x1 x2 x3
          have x0 := HS6.out.x0
          have x1 := HS6.out.x1
          have x2 := HS6.out.x2
          have x3 := HS6.out.x3
          clear hb hown HS5 HB5
          go_wp2_with fail
          refine (KT.out _ HS6.out.hl HS6.out.ho).mono ?_
          rintro e w7 ⟨v1, rfl, hown, hb⟩
          obtain ⟨Y1, y1, rfl, _⟩ := ownsRow_ints hown
          have HS7 := Lib.hid (HS6.out.upto hb)
          have HB7 := Lib.hid (HB6.out.trans (hb.mono HB6.out.size))
          clear x0 x1 x2 x3
          have x0 := HS7.out.x0
          have x1 := HS7.out.x1
          have x2 := HS7.out.x2
          have x3 := HS7.out.x3
          clear hb hown HS6 HB6
          go_wp2_with fail
          refine (KC.out _ HS7.out.hl HS7.out.ho).mono ?_
          rintro e w8 ⟨v2, rfl, hown, hb⟩
          obtain ⟨Y2, y2, rfl⟩ := rowsOwn_slice hown
          have HS8 := Lib.hid (HS7.out.upto hb)
          have HB8 := Lib.hid (HB7.out.trans (hb.mono HB7.out.size))
          clear x0 x1 x2 x3
          have x0 := HS8.out.x0
          have x1 := HS8.out.x1
          have x2 := HS8.out.x2
          have x3 := HS8.out.x3
          clear hb hown HS7 HB7
          go_wp2_with fail
          refine (KP.out _ HS8.out.hl HS8.out.ho).mono ?_
          rintro e w9 ⟨v3, rfl, hown, hb⟩
          obtain ⟨Y3, y3, rfl, _⟩ := ownsRow_ints hown
          have HS9 := Lib.hid (HS8.out.upto hb)
          have HB9 := Lib.hid (HB8.out.trans (hb.mono HB8.out.size))
          clear x0 x1 x2 x3
          have x0 := HS9.out.x0
          have x1 := HS9.out.x1
          have x2 := HS9.out.x2
          have x3 := HS9.out.x3
          clear hb hown HS8 HB8
          go_wp2_with fail
          go_roundg g2
          case measure => omega
          case rel => exact ⟨k + 1, by have := HG.out; omega, by go_num, HS9.out.ex, HB9.out⟩
        · have b1 : (er != er) = false := by simp
          have b2 : (er != 0) = true := by rw [bne_iff_ne]; exact her
          have b4 : (er == 0) = false := by simpa using her
          have b3 : ((pl.length : Int) != 0) = false := by rw [f8, if_neg her]; simp
          clear f8 her
          have KB := Lib.hid kb
          have KT := Lib.hid kt
          have KC := Lib.hid kc
          have KP := Lib.hid kp
          clear kb kt kc kp
          go_wp2_with fail
          have hb : Below wr.heap.size wr (wr.alloc (.cells #[.int .i64 nb, .slice A2 ls.length c2, .slice A3 out.length c3, .int .i64 er] 41)) := (Below.refl _ _).alloc (Nat.le_refl _) _
          have hS5 : ExRow2 g B A nb ls out er A2 A3 c2 c3 wr.heap.size (wr.alloc (.cells #[.int .i64 nb, .slice A2 ls.length c2, .slice A3 out.length c3, .int .i64 er] 41)) := ⟨HE.out.upto hb, cell_alloc_at _ _ _ _ _ rfl, cell_alloc_at _ _ _ _ _ rfl, cell_alloc_at _ _ _ _ _ rfl, cell_alloc_at _ _ _ _ _ rfl, LO.out.1.upto hb, LO.out.2.upto hb, by simp⟩
          have HB5 := Lib.hid (HB4.out.trans (hb.mono HB4.out.size))
          generalize wr.alloc (.cells #[.int .i64 nb, .slice A2 ls.length c2, .slice A3 out.length c3, .int .i64 er] 41) = w5 at *
          generalize wr.heap.size = X at *
          have HS5 := Lib.hid hS5
          have x0 := hS5.x0
          have x1 := hS5.x1
          have x2 := hS5.x2
          have x3 := hS5.x3
          clear hb hS5 r0 r1 r2 r3 HE HB4 LO GLT
          go_wp2_with fail
          refine (KB.out _ HS5.out.hl HS5.out.ho).mono ?_
          rintro e w6 ⟨v0, rfl, hown, hb⟩
          obtain ⟨Y0, y0, rfl, _⟩ := ownsRow_ints hown
          have HS6 := Lib.hid (HS5.out.upto hb)
          have HB6 := Lib.hid (HB5.out.trans (hb.mono HB5.out.size))
          clear x0 x1 x2 x3
          have x0 := HS6.out.x0
          have x1 := HS6.out.x1
          have x2 := HS6.out.x2
          have x3 := HS6.out.x3
          clear hb hown HS5 HB5
          go_wp2_with fail
          refine (KT.out _ HS6.out.hl HS6.out.ho).mono ?_
          rintro e w7 ⟨v1, rfl, hown, hb⟩
          obtain ⟨Y1, y1, rfl, _⟩ := ownsRow_ints hown
          have HS7 := Lib.hid (HS6.out.upto hb)
          have HB7 := Lib.hid (HB6.out.trans (hb.mono HB6.out.size))
          clear x0 x1 x2 x3
          have x0 := HS7.out.x0
          have x1 := HS7.out.x1
          have x2 := HS7.out.x2
          have x3 := HS7.out.x3
          clear hb hown HS6 HB6
          go_wp2_with fail
          refine (KC.out _ HS7.out.hl HS7.out.ho).mono ?_
          rintro e w8 ⟨v2, rfl, hown, hb⟩
          obtain ⟨Y2, y2, rfl⟩ := rowsOwn_slice hown
          have HS8 := Lib.hid (HS7.out.upto hb)
          have HB8 := Lib.hid (HB7.out.trans (hb.mono HB7.out.size))
          clear x0 x1 x2 x3
          have x0 := HS8.out.x0
          have x1 := HS8.out.x1
          have x2 := HS8.out.x2
          have x3 := HS8.out.x3
          clear hb hown HS7 HB7
          go_wp2_with fail
          refine (KP.out _ HS8.out.hl HS8.out.ho).mono ?_
          rintro e w9 ⟨v3, rfl, hown, hb⟩
          obtain ⟨Y3, y3, rfl, _⟩ := ownsRow_ints hown
          have HS9 := Lib.hid (HS8.out.upto hb)
          have HB9 := Lib.hid (HB8.out.trans (hb.mono HB8.out.size))
          clear x0 x1 x2 x3
          have x0 := HS9.out.x0
          have x1 := HS9.out.x1
          have x2 := HS9.out.x2
          have x3 := HS9.out.x3
          clear hb hown HS8 HB8
          go_wp2_with fail
          go_roundg g2
          case measure => omega
          case rel => exact ⟨k + 1, by have := HG.out; omega, by go_num, HS9.out.ex, HB9.out⟩
end Go.Proofs.Ytmojjfdamdgegaa
