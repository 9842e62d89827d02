/- The text RfW. -/
import Derived.Deep.DeepCutAuto
import Derived.Test.YtmojjfdamdgegaaMg44
import Derived.Test.YtmojjfdamdgegaaMg27
/- The contract of the reference function way of layer 16. -/
namespace Go.Proofs.Ytmojjfdamdgegaa
open Go.RowKit
set_option linter.unusedVariables false

/-- A row at the head of a block of its own. -/
def RowV (w : World) (n : Nat) (l : List Int) (e : Ending) (w' : World) : Prop := ∃ g, e = .returned (.slice (some ⟨g, 0, none⟩) n n) ∧ w.heap.size ≤ g ∧ RowI 3 w' g l ∧ Below w.heap.size w w'
set_option maxRecDepth 100000 in
set_option maxHeartbeats 4000000 in
theorem refway_any (nb : Int) (A Tt : Option Addr) (c ct : Nat) (ls : List Ln) (tl : List Int) (a b : Int) (w : World) (hl : LinesR w w.heap.size A ls) (ht : IntsR w w.heap.size Tt tl) (hm : ls.length ≤ 1000000) (hn : tl.length ≤ 1000000) (hin : ∀ k, k < tl.length → ∃ j : Nat, tl.getD k 0 = (j : Int) ∧ j < ls.length) :
    Calls Try.prog 39 #[.agg #[.int .i64 nb, .slice A ls.length c], .slice Tt tl.length ct, .int .i64 a, .int .i64 b] w (RowV w ls.length (wayTo nb ls tl a b tl.length)) := by
  have hmk := fun W => run_make_row' (P := Try.prog) 25 3 (.int .i64 0) 8 Try.underlying25 info_int rfl .i64 .i64 ls.length (by omega) (by omega) W
  have hb0 : Below (w.heap.size + 1) (w.alloc (.cells #[.int .i64 nb, .slice A ls.length c] 24)) ((w.alloc (.cells #[.int .i64 nb, .slice A ls.length c] 24)).alloc (.cells (madeCells #[.int .i64 0] ls.length) 3)) := (Below.refl _ _).alloc (by simp) _
  have hb1 : Below w.heap.size w ((w.alloc (.cells #[.int .i64 nb, .slice A ls.length c] 24)).alloc (.cells (madeCells #[.int .i64 0] ls.length) 3)) := ((Below.refl _ _).alloc (Nat.le_refl _) _).trans (hb0.mono (by omega))
  have hr0 := rowI_zero (w.alloc (.cells #[.int .i64 nb, .slice A ls.length c] 24)) 3 ls.length
  rw [World.size_alloc] at hr0
  have q0 : ((w.alloc (.cells #[.int .i64 nb, .slice A ls.length c] 24)).alloc (.cells (madeCells #[.int .i64 0] ls.length) 3)).cell? ⟨w.heap.size, 0, none⟩ = some (.int .i64 nb) := (hb0.cell (p := ⟨w.heap.size, 0, none⟩) (by show w.heap.size < _; omega)).trans (by simp)
  have q1 : ((w.alloc (.cells #[.int .i64 nb, .slice A ls.length c] 24)).alloc (.cells (madeCells #[.int .i64 0] ls.length) 3)).cell? ⟨w.heap.size, 1, none⟩ = some (.slice A ls.length c) := (hb0.cell (p := ⟨w.heap.size, 1, none⟩) (by show w.heap.size < _; omega)).trans (by simp)
  have HL0 := Lib.hid hl
  have HT0 := Lib.hid ht
  have HIN := Lib.hid hin
  have HR0 := Lib.hid (show RowI 3 ((w.alloc (.cells #[.int .i64 nb, .slice A ls.length c] 24)).alloc (.cells (madeCells #[.int .i64 0] ls.length) 3)) (w.heap.size + 1) (wayTo nb ls tl a b 0) from hr0)
  have HB1 := Lib.hid hb1
  have HQ := Lib.hid (And.intro q0 q1)
  clear hl ht hin hr0 hb0 hb1 q0 q1
  go_enter Try.func39, Try.ntmps39
  go_wp2_with fail
  try rw [World.size_alloc]
  generalize ((w.alloc (.cells #[.int .i64 nb, .slice A ls.length c] 24)).alloc (.cells (madeCells #[.int .i64 0] ls.length) 3)) = W0 at *
  go_loopg [10, 11] tl.length (fun g i s11 wr => ∃ k : Nat, k + g = tl.length ∧ i = .int .i64 k ∧ RowI 3 wr (w.heap.size + 1) (wayTo nb ls tl a b k) ∧ Below w.heap.size w wr ∧ wr.cell? ⟨w.heap.size, 0, none⟩ = some (.int .i64 nb) ∧ wr.cell? ⟨w.heap.size, 1, none⟩ = some (.slice A ls.length c))
  case atStart => exact ⟨0, by omega, rfl, HR0.out, HB1.out, HQ.out.1, HQ.out.2⟩
  case round =>
    obtain ⟨k, hkg, rfl, hrow, hbw, q0, q1⟩ := hrel
    have HROW := Lib.hid hrow
    have HBW := Lib.hid hbw
    have hrl := hrow.lt
    clear hrow hbw HQ HR0 HB1
    cases gk with
    | zero =>
      obtain rfl : k = tl.length := by omega
      clear hkg
      go_wp2_with fail
      go_ret
      exact ⟨_, rfl, by omega, HROW.out, HBW.out⟩
    | succ g =>
      have hk : k < tl.length := by omega
      have HG := Lib.hid hkg
      clear hkg
      obtain ⟨j, hj1, hj⟩ := HIN.out k hk
      have HST0 := Lib.hid (wayTo_succ nb ls tl a b k hk)
      have HL1 := Lib.hid (HL0.out.upto HBW.out)
      have HT1 := Lib.hid (HT0.out.upto HBW.out)
      obtain ⟨bt, offt, hAt, hbt, hct⟩ := HT1.out (by omega)
      subst hAt
      have et := hct k hk
      rw [hj1] at et
      have hz : w.heap.size < wr.heap.size := by omega
      have hst := HST0.out
      rw [hj1, wayStep, Int.toNat_natCast] at hst
      have hrlw : (woL tl (j : Int)).length ≤ 1000000 := by
        have h := List.length_filter_le (fun y => decide (y ≠ (j : Int))) tl
        unfold woL
        omega
      have kw := fun W hi => without_any (some ⟨bt, offt, none⟩) ct tl (j : Int) W hi (by omega)
      have kj := fun X cx W hl hx => joined16_any nb A X c cx ls (woL tl (j : Int)) a b W hl hx hm hrlw
      have kj2 := fun X cx W hl hx => joined16_any nb A X c cx ls (woL tl (j : Int)) a (ls.getD j (0, 0, 0, 0)).1 W hl hx hm hrlw
      generalize connB nb ls (notIn (woL tl (j : Int)) ls.length) a b = jb at *
      generalize connB nb ls (notIn (woL tl (j : Int)) ls.length) a (ls.getD j (0, 0, 0, 0)).1 = jc at *
      generalize woL tl (j : Int) = rl at *
      obtain ⟨bl, offl, hAl, hbl0, hcl⟩ := HL1.out (by omega)
      subst hAl
      obtain ⟨f0, _, _, _⟩ := hcl j hj
      generalize (ls.getD j (0, 0, 0, 0)).1 = lf at *
      have KW := Lib.hid kw
      have KJ0 := Lib.hid kj
      have KJ20 := Lib.hid kj2
      have hbl : bl < wr.heap.size := hbl0
      have HS := Lib.hid hst
      clear hct hj1 kw kj kj2 hcl hbl0 HST0 hst
      go_wp2_with fail
      refine (KW.out _ HT1.out).mono ?_
      rintro e w3 ⟨v, rfl, hown, hb⟩
      obtain ⟨X, cx, rfl, hIX⟩ := ownsRow_ints hown
      have HX3 := Lib.hid hIX
      have KJ := Lib.hid (KJ0.out X cx)
      have KJ2 := Lib.hid (KJ20.out X cx)
      have HL3 := Lib.hid (HL1.out.upto hb)
      have HT3 := Lib.hid (HT1.out.upto hb)
      replace HROW := Lib.hid (HROW.out.grow hb)
      replace HBW := Lib.hid (HBW.out.trans (hb.mono HBW.out.size))
      replace q0 := (hb.cell (p := ⟨w.heap.size, 0, none⟩) hz).trans q0
      replace q1 := (hb.cell (p := ⟨w.heap.size, 1, none⟩) hz).trans q1
      replace et := (hb.cell (p := ⟨bt, offt + k, none⟩) hbt).trans et
      replace f0 := (hb.cell (p := ⟨bl, offl + j * 4, none⟩) hbl).trans f0
      replace hz : w.heap.size < w3.heap.size := Nat.lt_of_lt_of_le hz hb.size
      replace hbt : bt < w3.heap.size := Nat.lt_of_lt_of_le hbt hb.size
      replace hbl : bl < w3.heap.size := Nat.lt_of_lt_of_le hbl hb.size
      clear hown hIX hb KJ0 KJ20 HL1 HT1 hrl
      go_wp2_with fail
      refine (KJ.out _ HL3.out HX3.out).mono ?_
      rintro e w4 ⟨rfl, hb⟩
      have HL := Lib.hid (HL3.out.upto hb)
      have HX := Lib.hid (HX3.out.upto hb)
      replace HROW := Lib.hid (HROW.out.grow hb)
      have HB4 := Lib.hid (HBW.out.trans (hb.mono HBW.out.size))
      replace q0 := (hb.cell (p := ⟨w.heap.size, 0, none⟩) hz).trans q0
      replace q1 := (hb.cell (p := ⟨w.heap.size, 1, none⟩) hz).trans q1
      replace et := (hb.cell (p := ⟨bt, offt + k, none⟩) hbt).trans et
      replace f0 := (hb.cell (p := ⟨bl, offl + j * 4, none⟩) hbl).trans f0
      replace hz : w.heap.size < w4.heap.size := Nat.lt_of_lt_of_le hz hb.size
      replace hbt : bt < w4.heap.size := Nat.lt_of_lt_of_le hbt hb.size
      replace hbl : bl < w4.heap.size := Nat.lt_of_lt_of_le hbl hb.size
      clear hb HL3 HX3 HBW KJ KW HT3
      cases jb with
      | true =>
        have HST := Lib.hid (HS.out.trans (if_pos rfl))
        clear HS
        go_wp2_with fail
        go_roundg g
        case measure => omega
        case rel => exact ⟨k + 1, by have := HG.out; omega, by go_num, by rw [HST.out]; exact HROW.out, HB4.out, q0, q1⟩
      | false =>
        cases jc with
        | true =>
          have HST := Lib.hid (HS.out.trans (if_neg (by simp)))
          clear HS
          go_wp2_with fail
          refine region_calls (w0 := w4) (fun jq => match jq with | 0 => .agg #[.int .i64 nb, .slice (some ⟨bl, offl, none⟩) ls.length c] | 1 => .slice X rl.length cx | 2 => .int .i64 a | 3 => .pointer (some ⟨w.heap.size, 1, none⟩) | 4 => .slice (some ⟨bl, offl, none⟩) ls.length c | 5 => .slice (some ⟨bt, offt, none⟩) tl.length ct | 6 => .int .i64 (k : Int) | 7 => .pointer (some ⟨bt, offt + k, none⟩) | 8 => .int .i64 (j : Int) | 9 => .pointer (some ⟨bl, offl + j * 4, none⟩) | 10 => .pointer (some ⟨bl, offl + j * 4, none⟩) | 11 => .int .i64 lf | 12 => .bool true | _ => undef) (by kernel_rfl) (by kernel_rfl) ?_ ?_
          · intro iq oq ho aq W hI hdep hrest hgd
            have r4 : aq.eval (.tmp 4) = .pointer (some ⟨w.heap.size, 0, none⟩) := hrest 4 (apart_of (by kernel_rfl))
            have r11 : aq.eval (.tmp 11) = .slice X rl.length cx := hrest 11 (apart_of (by kernel_rfl))
            have r2 : aq.eval (.tmp 2) = .int .i64 a := hrest 2 (apart_of (by kernel_rfl))
            have r1 : aq.eval (.tmp 1) = .slice (some ⟨bt, offt, none⟩) tl.length ct := hrest 1 (apart_of (by kernel_rfl))
            have r10 : aq.eval (.tmp 10) = .int .i64 (k : Int) := hrest 10 (apart_of (by kernel_rfl))
            have hc : ∀ v, aq.eval (.const v) = v := fun _ => rfl
            have hfn : ∀ f, aq.eval (.func f) = .func (.func f) #[] #[] := fun _ => rfl
            clear hrest
            rcases iq with _ | _ | _ | _ | _ | _ | _ | _ | _ | _ | _ | _ | _ | iq
            · injection ho with ho
              subst ho
              clear hdep hgd
              have x0 := (hI.cell (p := ⟨w.heap.size, 0, none⟩) hz).trans q0
              have x1 := (hI.cell (p := ⟨w.heap.size, 1, none⟩) hz).trans q1
              refine ⟨fun _ => .inl ?_, fun hw => (by simp [Region.wanted] at hw)⟩
              clear hI
              generalize aq.eval = ρ at *
              simp [go_sem, r4, x0, x1]
            · injection ho with ho
              subst ho
              clear hdep hgd
              refine ⟨fun _ => .inl ?_, fun hw => (by simp [Region.wanted] at hw)⟩
              clear hI
              generalize aq.eval = ρ at *
              simp [go_sem, r11]
            · injection ho with ho
              subst ho
              clear hdep hgd
              refine ⟨fun _ => .inl ?_, fun hw => (by simp [Region.wanted] at hw)⟩
              clear hI
              generalize aq.eval = ρ at *
              simp [go_sem, r2]
            · injection ho with ho
              subst ho
              clear hdep hgd
              refine ⟨fun _ => .inl ?_, fun hw => (by simp [Region.wanted] at hw)⟩
              clear hI
              generalize aq.eval = ρ at *
              simp [go_sem, r4]
            · injection ho with ho
              subst ho
              have d3 : aq.eval (.tmp 36) = .pointer (some ⟨w.heap.size, 1, none⟩) := hdep ⟨3, .data⟩ (by simp) rfl _ _ rfl rfl
              clear hdep hgd
              have x1 := (hI.cell (p := ⟨w.heap.size, 1, none⟩) hz).trans q1
              refine ⟨fun _ => .inl ?_, fun hw => (by simp [Region.wanted] at hw)⟩
              clear hI
              generalize aq.eval = ρ at *
              simp [go_sem, d3, x1]
            · injection ho with ho
              subst ho
              clear hdep hgd
              refine ⟨fun _ => .inl ?_, fun hw => (by simp [Region.wanted] at hw)⟩
              clear hI
              generalize aq.eval = ρ at *
              simp [go_sem, r1]
            · injection ho with ho
              subst ho
              clear hdep hgd
              refine ⟨fun _ => .inl ?_, fun hw => (by simp [Region.wanted] at hw)⟩
              clear hI
              generalize aq.eval = ρ at *
              simp [go_sem, r10]
            · injection ho with ho
              subst ho
              have d5 : aq.eval (.tmp 38) = .slice (some ⟨bt, offt, none⟩) tl.length ct := hdep ⟨5, .data⟩ (by simp) rfl _ _ rfl rfl
              have d6 : aq.eval (.tmp 39) = .int .i64 (k : Int) := hdep ⟨6, .data⟩ (by simp) rfl _ _ rfl rfl
              clear hdep hgd
              refine ⟨fun _ => .inl ?_, fun hw => (by simp [Region.wanted] at hw)⟩
              clear hI
              generalize aq.eval = ρ at *
              simp [go_sem, d5, d6, hk]
            · injection ho with ho
              subst ho
              have d7 : aq.eval (.tmp 40) = .pointer (some ⟨bt, offt + k, none⟩) := hdep ⟨7, .data⟩ (by simp) rfl _ _ rfl rfl
              clear hdep hgd
              have x0 := (hI.cell (p := ⟨bt, offt + k, none⟩) hbt).trans et
              refine ⟨fun _ => .inl ?_, fun hw => (by simp [Region.wanted] at hw)⟩
              clear hI
              generalize aq.eval = ρ at *
              simp [go_sem, d7, x0]
            · injection ho with ho
              subst ho
              have d4 : aq.eval (.tmp 37) = .slice (some ⟨bl, offl, none⟩) ls.length c := hdep ⟨4, .data⟩ (by simp) rfl _ _ rfl rfl
              have d8 : aq.eval (.tmp 41) = .int .i64 (j : Int) := hdep ⟨8, .data⟩ (by simp) rfl _ _ rfl rfl
              clear hdep hgd
              refine ⟨fun _ => .inl ?_, fun hw => (by simp [Region.wanted] at hw)⟩
              clear hI
              generalize aq.eval = ρ at *
              simp [go_sem, d4, d8, hj]
            · injection ho with ho
              subst ho
              have d9 : aq.eval (.tmp 42) = .pointer (some ⟨bl, offl + j * 4, none⟩) := hdep ⟨9, .data⟩ (by simp) rfl _ _ rfl rfl
              clear hdep hgd
              refine ⟨fun _ => .inl ?_, fun hw => (by simp [Region.wanted] at hw)⟩
              clear hI
              generalize aq.eval = ρ at *
              simp [go_sem, d9]
            · injection ho with ho
              subst ho
              have d10 : aq.eval (.tmp 43) = .pointer (some ⟨bl, offl + j * 4, none⟩) := hdep ⟨10, .data⟩ (by simp) rfl _ _ rfl rfl
              clear hdep hgd
              have x0 := (hI.cell (p := ⟨bl, offl + j * 4, none⟩) hbl).trans f0
              refine ⟨fun _ => .inl ?_, fun hw => (by simp [Region.wanted] at hw)⟩
              clear hI
              generalize aq.eval = ρ at *
              simp [go_sem, d10, x0]
            · injection ho with ho
              subst ho
              have d0 : aq.eval (.tmp 33) = .agg #[.int .i64 nb, .slice (some ⟨bl, offl, none⟩) ls.length c] := hdep ⟨0, .data⟩ (by simp) rfl _ _ rfl rfl
              have d1 : aq.eval (.tmp 34) = .slice X rl.length cx := hdep ⟨1, .data⟩ (by simp) rfl _ _ rfl rfl
              have d2 : aq.eval (.tmp 35) = .int .i64 a := hdep ⟨2, .data⟩ (by simp) rfl _ _ rfl rfl
              have d11 : aq.eval (.tmp 44) = .int .i64 lf := hdep ⟨11, .data⟩ (by simp) rfl _ _ rfl rfl
              clear hdep hgd
              refine ⟨fun _ => .inr ⟨36, #[.agg #[.int .i64 nb, .slice (some ⟨bl, offl, none⟩) ls.length c], .slice X rl.length cx, .int .i64 a, .int .i64 lf], ?_, KJ2.out W (HL.out.upto hI) (HX.out.upto hI)⟩, fun hw => (by simp [Region.wanted] at hw)⟩
              clear hI
              generalize aq.eval = ρ at *
              simp [go_sem, d0, d1, d2, d11, hfn]
            · simp at ho
          intro wq hb
          simp only [putAll, Act.put, List.setIfInBounds_toArray, List.set_cons_zero, List.set_cons_succ, Nat.reduceAdd]
          have hrowq := HROW.out.grow hb
          have et := (hb.cell (p := ⟨bt, offt + k, none⟩) hbt).trans et
          have hgl := hrowq.lt
          have hxc := hrowq.cell (i := j) (by rw [wayTo_len]; exact hj)
          have hfz := hrowq.frz j
          have HR2 := Lib.hid (hrowq.put j 1)
          have hb4 := HB4.out.trans (hb.mono HB4.out.size)
          have HB5 := Lib.hid (hb4.setCell (p := ⟨w.heap.size + 1, j, none⟩) (by show w.heap.size ≤ w.heap.size + 1; omega) (.int .i64 1))
          have q0' := (hb.cell (p := ⟨w.heap.size, 0, none⟩) hz).trans q0
          have q1' := (hb.cell (p := ⟨w.heap.size, 1, none⟩) hz).trans q1
          have HQ0 := Lib.hid ((World.cell?_setCell_other _ _ _ (.int .i64 1) (show (⟨w.heap.size + 1, j, none⟩ : Addr) ≠ ⟨w.heap.size, 0, none⟩ from fun h => by injection h with h; omega)).trans q0')
          have HQ1 := Lib.hid ((World.cell?_setCell_other _ _ _ (.int .i64 1) (show (⟨w.heap.size + 1, j, none⟩ : Addr) ≠ ⟨w.heap.size, 1, none⟩ from fun h => by injection h with h; omega)).trans q1')
          clear hrowq hb4 hb q0' q1'
          generalize (wayTo nb ls tl a b k).getD j 0 = oldv at hxc
          go_wp2_with fail
          go_roundg g
          case measure => omega
          case rel => exact ⟨k + 1, by have := HG.out; omega, by go_num, by rw [HST.out]; exact HR2.out, HB5.out, HQ0.out, HQ1.out⟩
        | false =>
          have HST := Lib.hid (HS.out.trans (if_neg (by simp)))
          clear HS
          go_wp2_with fail
          refine region_calls (w0 := w4) (fun jq => match jq with | 0 => .agg #[.int .i64 nb, .slice (some ⟨bl, offl, none⟩) ls.length c] | 1 => .slice X rl.length cx | 2 => .int .i64 a | 3 => .pointer (some ⟨w.heap.size, 1, none⟩) | 4 => .slice (some ⟨bl, offl, none⟩) ls.length c | 5 => .slice (some ⟨bt, offt, none⟩) tl.length ct | 6 => .int .i64 (k : Int) | 7 => .pointer (some ⟨bt, offt + k, none⟩) | 8 => .int .i64 (j : Int) | 9 => .pointer (some ⟨bl, offl + j * 4, none⟩) | 10 => .pointer (some ⟨bl, offl + j * 4, none⟩) | 11 => .int .i64 lf | 12 => .bool false | _ => undef) (by kernel_rfl) (by kernel_rfl) ?_ ?_
          · intro iq oq ho aq W hI hdep hrest hgd
            have r4 : aq.eval (.tmp 4) = .pointer (some ⟨w.heap.size, 0, none⟩) := hrest 4 (apart_of (by kernel_rfl))
            have r11 : aq.eval (.tmp 11) = .slice X rl.length cx := hrest 11 (apart_of (by kernel_rfl))
            have r2 : aq.eval (.tmp 2) = .int .i64 a := hrest 2 (apart_of (by kernel_rfl))
            have r1 : aq.eval (.tmp 1) = .slice (some ⟨bt, offt, none⟩) tl.length ct := hrest 1 (apart_of (by kernel_rfl))
            have r10 : aq.eval (.tmp 10) = .int .i64 (k : Int) := hrest 10 (apart_of (by kernel_rfl))
            have hc : ∀ v, aq.eval (.const v) = v := fun _ => rfl
            have hfn : ∀ f, aq.eval (.func f) = .func (.func f) #[] #[] := fun _ => rfl
            clear hrest
            rcases iq with _ | _ | _ | _ | _ | _ | _ | _ | _ | _ | _ | _ | _ | iq
            · injection ho with ho
              subst ho
              clear hdep hgd
              have x0 := (hI.cell (p := ⟨w.heap.size, 0, none⟩) hz).trans q0
              have x1 := (hI.cell (p := ⟨w.heap.size, 1, none⟩) hz).trans q1
              refine ⟨fun _ => .inl ?_, fun hw => (by simp [Region.wanted] at hw)⟩
              clear hI
              generalize aq.eval = ρ at *
              simp [go_sem, r4, x0, x1]
            · injection ho with ho
              subst ho
              clear hdep hgd
              refine ⟨fun _ => .inl ?_, fun hw => (by simp [Region.wanted] at hw)⟩
              clear hI
              generalize aq.eval = ρ at *
              simp [go_sem, r11]
            · injection ho with ho
              subst ho
              clear hdep hgd
              refine ⟨fun _ => .inl ?_, fun hw => (by simp [Region.wanted] at hw)⟩
              clear hI
              generalize aq.eval = ρ at *
              simp [go_sem, r2]
            · injection ho with ho
              subst ho
              clear hdep hgd
              refine ⟨fun _ => .inl ?_, fun hw => (by simp [Region.wanted] at hw)⟩
              clear hI
              generalize aq.eval = ρ at *
              simp [go_sem, r4]
            · injection ho with ho
              subst ho
              have d3 : aq.eval (.tmp 36) = .pointer (some ⟨w.heap.size, 1, none⟩) := hdep ⟨3, .data⟩ (by simp) rfl _ _ rfl rfl
              clear hdep hgd
              have x1 := (hI.cell (p := ⟨w.heap.size, 1, none⟩) hz).trans q1
              refine ⟨fun _ => .inl ?_, fun hw => (by simp [Region.wanted] at hw)⟩
              clear hI
              generalize aq.eval = ρ at *
              simp [go_sem, d3, x1]
            · injection ho with ho
              subst ho
              clear hdep hgd
              refine ⟨fun _ => .inl ?_, fun hw => (by simp [Region.wanted] at hw)⟩
              clear hI
              generalize aq.eval = ρ at *
              simp [go_sem, r1]
            · injection ho with ho
              subst ho
              clear hdep hgd
              refine ⟨fun _ => .inl ?_, fun hw => (by simp [Region.wanted] at hw)⟩
              clear hI
              generalize aq.eval = ρ at *
              simp [go_sem, r10]
            · injection ho with ho
              subst ho
              have d5 : aq.eval (.tmp 38) = .slice (some ⟨bt, offt, none⟩) tl.length ct := hdep ⟨5, .data⟩ (by simp) rfl _ _ rfl rfl
              have d6 : aq.eval (.tmp 39) = .int .i64 (k : Int) := hdep ⟨6, .data⟩ (by simp) rfl _ _ rfl rfl
              clear hdep hgd
              refine ⟨fun _ => .inl ?_, fun hw => (by simp [Region.wanted] at hw)⟩
              clear hI
              generalize aq.eval = ρ at *
              simp [go_sem, d5, d6, hk]
            · injection ho with ho
              subst ho
              have d7 : aq.eval (.tmp 40) = .pointer (some ⟨bt, offt + k, none⟩) := hdep ⟨7, .data⟩ (by simp) rfl _ _ rfl rfl
              clear hdep hgd
              have x0 := (hI.cell (p := ⟨bt, offt + k, none⟩) hbt).trans et
              refine ⟨fun _ => .inl ?_, fun hw => (by simp [Region.wanted] at hw)⟩
              clear hI
              generalize aq.eval = ρ at *
              simp [go_sem, d7, x0]
            · injection ho with ho
              subst ho
              have d4 : aq.eval (.tmp 37) = .slice (some ⟨bl, offl, none⟩) ls.length c := hdep ⟨4, .data⟩ (by simp) rfl _ _ rfl rfl
              have d8 : aq.eval (.tmp 41) = .int .i64 (j : Int) := hdep ⟨8, .data⟩ (by simp) rfl _ _ rfl rfl
              clear hdep hgd
              refine ⟨fun _ => .inl ?_, fun hw => (by simp [Region.wanted] at hw)⟩
              clear hI
              generalize aq.eval = ρ at *
              simp [go_sem, d4, d8, hj]
            · injection ho with ho
              subst ho
              have d9 : aq.eval (.tmp 42) = .pointer (some ⟨bl, offl + j * 4, none⟩) := hdep ⟨9, .data⟩ (by simp) rfl _ _ rfl rfl
              clear hdep hgd
              refine ⟨fun _ => .inl ?_, fun hw => (by simp [Region.wanted] at hw)⟩
              clear hI
              generalize aq.eval = ρ at *
              simp [go_sem, d9]
            · injection ho with ho
              subst ho
              have d10 : aq.eval (.tmp 43) = .pointer (some ⟨bl, offl + j * 4, none⟩) := hdep ⟨10, .data⟩ (by simp) rfl _ _ rfl rfl
              clear hdep hgd
              have x0 := (hI.cell (p := ⟨bl, offl + j * 4, none⟩) hbl).trans f0
              refine ⟨fun _ => .inl ?_, fun hw => (by simp [Region.wanted] at hw)⟩
              clear hI
              generalize aq.eval = ρ at *
              simp [go_sem, d10, x0]
            · injection ho with ho
              subst ho
              have d0 : aq.eval (.tmp 33) = .agg #[.int .i64 nb, .slice (some ⟨bl, offl, none⟩) ls.length c] := hdep ⟨0, .data⟩ (by simp) rfl _ _ rfl rfl
              have d1 : aq.eval (.tmp 34) = .slice X rl.length cx := hdep ⟨1, .data⟩ (by simp) rfl _ _ rfl rfl
              have d2 : aq.eval (.tmp 35) = .int .i64 a := hdep ⟨2, .data⟩ (by simp) rfl _ _ rfl rfl
              have d11 : aq.eval (.tmp 44) = .int .i64 lf := hdep ⟨11, .data⟩ (by simp) rfl _ _ rfl rfl
              clear hdep hgd
              refine ⟨fun _ => .inr ⟨36, #[.agg #[.int .i64 nb, .slice (some ⟨bl, offl, none⟩) ls.length c], .slice X rl.length cx, .int .i64 a, .int .i64 lf], ?_, KJ2.out W (HL.out.upto hI) (HX.out.upto hI)⟩, fun hw => (by simp [Region.wanted] at hw)⟩
              clear hI
              generalize aq.eval = ρ at *
              simp [go_sem, d0, d1, d2, d11, hfn]
            · simp at ho
          intro wq hb
          simp only [putAll, Act.put, List.setIfInBounds_toArray, List.set_cons_zero, List.set_cons_succ, Nat.reduceAdd]
          have hrowq := HROW.out.grow hb
          have et := (hb.cell (p := ⟨bt, offt + k, none⟩) hbt).trans et
          have hgl := hrowq.lt
          have hxc := hrowq.cell (i := j) (by rw [wayTo_len]; exact hj)
          have hfz := hrowq.frz j
          have HR2 := Lib.hid (hrowq.put j (-1))
          have hb4 := HB4.out.trans (hb.mono HB4.out.size)
          have HB5 := Lib.hid (hb4.setCell (p := ⟨w.heap.size + 1, j, none⟩) (by show w.heap.size ≤ w.heap.size + 1; omega) (.int .i64 (-1)))
          have q0' := (hb.cell (p := ⟨w.heap.size, 0, none⟩) hz).trans q0
          have q1' := (hb.cell (p := ⟨w.heap.size, 1, none⟩) hz).trans q1
          have HQ0 := Lib.hid ((World.cell?_setCell_other _ _ _ (.int .i64 (-1)) (show (⟨w.heap.size + 1, j, none⟩ : Addr) ≠ ⟨w.heap.size, 0, none⟩ from fun h => by injection h with h; omega)).trans q0')
          have HQ1 := Lib.hid ((World.cell?_setCell_other _ _ _ (.int .i64 (-1)) (show (⟨w.heap.size + 1, j, none⟩ : Addr) ≠ ⟨w.heap.size, 1, none⟩ from fun h => by injection h with h; omega)).trans q1')
          clear hrowq hb4 hb q0' q1'
          generalize (wayTo nb ls tl a b k).getD j 0 = oldv at hxc
          go_wp2_with fail
          go_roundg g
          case measure => omega
          case rel => exact ⟨k + 1, by have := HG.out; omega, by go_num, by rw [HST.out]; exact HR2.out, HB5.out, HQ0.out, HQ1.out⟩
end Go.Proofs.Ytmojjfdamdgegaa
