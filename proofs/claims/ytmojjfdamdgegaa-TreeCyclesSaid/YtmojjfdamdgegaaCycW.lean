/- The walk of TreeCycles. -/
import Derived.Test.YtmojjfdamdgegaaTreH
import Derived.Test.YtmojjfdamdgegaaCycP
import Derived.Test.YtmojjfdamdgegaaIslF
import Derived.Deep.DeepCutAuto
namespace Go.Proofs.Ytmojjfdamdgegaa
open Go.RowKit
set_option linter.unusedVariables false

set_option maxRecDepth 100000 in
set_option maxHeartbeats 8000000 in
theorem cyc_walk (nb : Int) (A : Option Addr) (c : Nat) (ls : List Ln) (O : Option Addr) (co : Nat) (out : List Int) (w : World) (hl : LinesR w w.heap.size A ls) (ho : IntsR w w.heap.size O out) :
    Calls Try.prog 10 #[.agg #[.int .i64 nb, .slice A ls.length c], .slice O out.length co] w fun e w' => e = .returned (.bool true) ∧ Below w.heap.size w w' := by
  obtain ⟨i0, hi0, hz0, hz1, hz2⟩ := info_parts info_int
  have HL := Lib.hid hl
  have HO := Lib.hid ho
  clear hl ho
  have kl := fun W b hb => long_lit1 (.int .i64 nb) A ls.length c 25 W b hb O out.length co
  cases hlong : longB [out.length] ls.length with
  | true =>
    rw [hlong] at kl
    have KL := Lib.hid kl
    clear kl hlong
    have HB0 := Lib.hid (Below.refl w.heap.size w)
    go_enter Try.func10, Try.ntmps10
    go_wp2_with fail
    have hb := below_alloc2 w (.cells #[.int .i64 nb, .slice A ls.length c] 24) (.cells #[.slice O out.length co] 25)
    have q0 : ((w.alloc (.cells #[.int .i64 nb, .slice A ls.length c] 24)).alloc (.cells #[.slice O out.length co] 25)).cell? ⟨w.heap.size, 0, none⟩ = some (.int .i64 nb) := by simp
    have q1 : ((w.alloc (.cells #[.int .i64 nb, .slice A ls.length c] 24)).alloc (.cells #[.slice O out.length co] 25)).cell? ⟨w.heap.size, 1, none⟩ = some (.slice A ls.length c) := by simp
    have hz : w.heap.size < ((w.alloc (.cells #[.int .i64 nb, .slice A ls.length c] 24)).alloc (.cells #[.slice O out.length co] 25)).heap.size := by simp; omega
    have HB1 := Lib.hid (HB0.out.trans (hb.mono HB0.out.size))
    clear HB0
    replace HL := Lib.hid (HL.out.upto hb)
    replace HO := Lib.hid (HO.out.upto hb)
    clear hb
    refine (KL.out (w.alloc (.cells #[.int .i64 nb, .slice A ls.length c] 24)) _ (by simp)).mono ?_
    rintro e w2 ⟨rfl, hb⟩
    rw [← World.size_alloc (w.alloc (.cells #[.int .i64 nb, .slice A ls.length c] 24)) (.cells #[.slice O out.length co] 25)] at hb
    have HB2 := Lib.hid (HB1.out.trans (hb.mono HB1.out.size))
    clear HB1
    replace HL := Lib.hid (HL.out.upto hb)
    replace HO := Lib.hid (HO.out.upto hb)
    replace q0 := (hb.cell (p := ⟨w.heap.size, 0, none⟩) hz).trans q0
    replace q1 := (hb.cell (p := ⟨w.heap.size, 1, none⟩) hz).trans q1
    replace hz : w.heap.size < w2.heap.size := Nat.lt_of_lt_of_le hz hb.size
    clear hb
    go_wp2_with fail
    refine (awake16_any _).mono ?_
    rintro e w3 ⟨rfl, hb⟩
    have HB3 := Lib.hid (HB2.out.trans (hb.mono HB2.out.size))
    clear HB2
    replace HL := Lib.hid (HL.out.upto hb)
    replace HO := Lib.hid (HO.out.upto hb)
    replace q0 := (hb.cell (p := ⟨w.heap.size, 0, none⟩) hz).trans q0
    replace q1 := (hb.cell (p := ⟨w.heap.size, 1, none⟩) hz).trans q1
    replace hz : w.heap.size < w3.heap.size := Nat.lt_of_lt_of_le hz hb.size
    clear hb
    go_wp2_with fail
    go_ret
    exact ⟨rfl, HB3.out⟩
  | false =>
    rw [hlong] at kl
    have hb100 := longB_false hlong
    have h1 : out.length ≤ 100 := hb100.1 _ (by simp)
    have h2 : ls.length ≤ 100 := hb100.2
    have KL := Lib.hid kl
    clear kl hlong hb100
    have ko := fun W hl ho => outs_any nb A O c co ls out W hl ho (by omega) (by omega)
    by_cases he : outsE nb ls out = 0
    · have hin := tree_in he
      have hsl := svcL_le out ls.length
      have kt := fun W hl ho => tree_any nb A O c co ls out W hl ho (by omega) (by omega)
      have ki := fun W hl ho => in_any nb A O c co ls out W hl ho (by omega) (by omega)
      rw [inL, if_pos he, he] at ki
      have kc := fun W hl ho => cycles_ok nb A O c co ls out _ W hl ho (by omega) (by omega) he (cyc_dfs he)
      rw [he] at ko kt
      have how : (svcL out ls.length).filter (fun x => !hasB (treeL nb ls out) x) = ownL nb ls out := rfl
      have hcl := cyc_len he
      have hcv := fun i k hi hk => cyc_val he (i := i) (k := k) hi hk
      have hol : (ownL nb ls out).length ≤ 1000000 := by
        have h := List.length_filter_le (fun x => !hasB (treeL nb ls out) x) (svcL out ls.length)
        rw [how] at h
        omega
      have hrl : (cycL nb ls out).length ≤ 1000000 := by rw [hcl]; exact hol
      have e1 : cycTo ls (treeL nb ls out) ((treeL nb ls out).length + 1) (svcL out ls.length) (svcL out ls.length).length = cycL nb ls out := rfl
      rw [e1] at kc
      clear he e1
      generalize cycL nb ls out = rows at *
      generalize ownL nb ls out = own at *
      generalize treeL nb ls out = tl at *
      generalize svcL out ls.length = sv at *
      have KO := Lib.hid ko
      have KT := Lib.hid kt
      have KI := Lib.hid ki
      have KC := Lib.hid kc
      have HOW := Lib.hid how
      have HLN := Lib.hid hcl
      have HCV := Lib.hid hcv
      clear ko kt ki kc how hcv hcl
      have HB0 := Lib.hid (Below.refl w.heap.size w)
      go_enter Try.func10, Try.ntmps10
      go_wp2_with fail
      have hb := below_alloc2 w (.cells #[.int .i64 nb, .slice A ls.length c] 24) (.cells #[.slice O out.length co] 25)
      have q0 : ((w.alloc (.cells #[.int .i64 nb, .slice A ls.length c] 24)).alloc (.cells #[.slice O out.length co] 25)).cell? ⟨w.heap.size, 0, none⟩ = some (.int .i64 nb) := by simp
      have q1 : ((w.alloc (.cells #[.int .i64 nb, .slice A ls.length c] 24)).alloc (.cells #[.slice O out.length co] 25)).cell? ⟨w.heap.size, 1, none⟩ = some (.slice A ls.length c) := by simp
      have hz : w.heap.size < ((w.alloc (.cells #[.int .i64 nb, .slice A ls.length c] 24)).alloc (.cells #[.slice O out.length co] 25)).heap.size := by simp; omega
      have HB1 := Lib.hid (HB0.out.trans (hb.mono HB0.out.size))
      clear HB0
      replace HL := Lib.hid (HL.out.upto hb)
      replace HO := Lib.hid (HO.out.upto hb)
      clear hb
      refine (KL.out (w.alloc (.cells #[.int .i64 nb, .slice A ls.length c] 24)) _ (by simp)).mono ?_
      rintro e w2 ⟨rfl, hb⟩
      rw [← World.size_alloc (w.alloc (.cells #[.int .i64 nb, .slice A ls.length c] 24)) (.cells #[.slice O out.length co] 25)] at hb
      have HB2 := Lib.hid (HB1.out.trans (hb.mono HB1.out.size))
      clear HB1
      replace HL := Lib.hid (HL.out.upto hb)
      replace HO := Lib.hid (HO.out.upto hb)
      replace q0 := (hb.cell (p := ⟨w.heap.size, 0, none⟩) hz).trans q0
      replace q1 := (hb.cell (p := ⟨w.heap.size, 1, none⟩) hz).trans q1
      replace hz : w.heap.size < w2.heap.size := Nat.lt_of_lt_of_le hz hb.size
      clear hb
      go_wp2_with fail
      refine (awake16_any _).mono ?_
      rintro e w3 ⟨rfl, hb⟩
      have HB3 := Lib.hid (HB2.out.trans (hb.mono HB2.out.size))
      clear HB2
      replace HL := Lib.hid (HL.out.upto hb)
      replace HO := Lib.hid (HO.out.upto hb)
      replace q0 := (hb.cell (p := ⟨w.heap.size, 0, none⟩) hz).trans q0
      replace q1 := (hb.cell (p := ⟨w.heap.size, 1, none⟩) hz).trans q1
      replace hz : w.heap.size < w3.heap.size := Nat.lt_of_lt_of_le hz hb.size
      clear hb
      go_wp2_with fail
      refine (KO.out _ HL.out HO.out).mono ?_
      rintro e w4 ⟨rfl, hb⟩
      have HB4 := Lib.hid (HB3.out.trans (hb.mono HB3.out.size))
      clear HB3
      replace HL := Lib.hid (HL.out.upto hb)
      replace HO := Lib.hid (HO.out.upto hb)
      replace q0 := (hb.cell (p := ⟨w.heap.size, 0, none⟩) hz).trans q0
      replace q1 := (hb.cell (p := ⟨w.heap.size, 1, none⟩) hz).trans q1
      replace hz : w.heap.size < w4.heap.size := Nat.lt_of_lt_of_le hz hb.size
      clear hb
      go_wp2_with fail
      refine (KC.out _ HL.out HO.out).mono ?_
      rintro e w5 ⟨v, rfl, hown, hb⟩
      obtain ⟨Ar, cr, rfl, hR⟩ := hown.read
      have HR := Lib.hid hR
      clear hown hR
      have HB5 := Lib.hid (HB4.out.trans (hb.mono HB4.out.size))
      clear HB4
      replace HL := Lib.hid (HL.out.upto hb)
      replace HO := Lib.hid (HO.out.upto hb)
      replace q0 := (hb.cell (p := ⟨w.heap.size, 0, none⟩) hz).trans q0
      replace q1 := (hb.cell (p := ⟨w.heap.size, 1, none⟩) hz).trans q1
      replace hz : w.heap.size < w5.heap.size := Nat.lt_of_lt_of_le hz hb.size
      clear hb
      go_wp2_with fail
      refine (KT.out _ HL.out HO.out).mono ?_
      rintro e w6 ⟨v, rfl, hown, hb⟩
      obtain ⟨At, ct, rfl, hI⟩ := ownsRow_ints hown
      have HIt := Lib.hid hI
      clear hown hI
      have HB6 := Lib.hid (HB5.out.trans (hb.mono HB5.out.size))
      clear HB5
      replace HL := Lib.hid (HL.out.upto hb)
      replace HO := Lib.hid (HO.out.upto hb)
      replace HR := Lib.hid (HR.out.upto hb)
      replace q0 := (hb.cell (p := ⟨w.heap.size, 0, none⟩) hz).trans q0
      replace q1 := (hb.cell (p := ⟨w.heap.size, 1, none⟩) hz).trans q1
      replace hz : w.heap.size < w6.heap.size := Nat.lt_of_lt_of_le hz hb.size
      clear hb
      go_wp2_with fail
      refine (KI.out _ HL.out HO.out).mono ?_
      rintro e w7 ⟨v, rfl, hown, hb⟩
      obtain ⟨Ai, ci, rfl, hI⟩ := ownsRow_ints hown
      have HIi := Lib.hid hI
      clear hown hI
      have HB7 := Lib.hid (HB6.out.trans (hb.mono HB6.out.size))
      clear HB6
      replace HL := Lib.hid (HL.out.upto hb)
      replace HO := Lib.hid (HO.out.upto hb)
      replace HR := Lib.hid (HR.out.upto hb)
      replace HIt := Lib.hid (HIt.out.upto hb)
      replace q0 := (hb.cell (p := ⟨w.heap.size, 0, none⟩) hz).trans q0
      replace q1 := (hb.cell (p := ⟨w.heap.size, 1, none⟩) hz).trans q1
      replace hz : w.heap.size < w7.heap.size := Nat.lt_of_lt_of_le hz hb.size
      clear hb
      go_wp2_with fail
      go_loopg [11, 12] sv.length (fun g s i wr => ∃ k : Nat, k + g = sv.length ∧ i = .int .i64 k ∧ wr.ownsRow w7.heap.size 3 1 s ((sv.take k).filter (fun x => !hasB tl x)).length (((sv.take k).filter (fun x => !hasB tl x)).map (Value.int .i64)) ∧ Below w7.heap.size w7 wr)
      case atStart => exact ⟨0, by omega, rfl, World.ownsRow_nil _ _ _ _, Below.refl _ _⟩
      case round =>
        obtain ⟨k, hkg, rfl, hrow, hbx⟩ := hrel
        have HBX := Lib.hid hbx
        have hsx := hbx.size
        clear hbx
        cases gk with
        | zero =>
          obtain rfl : k = sv.length := by omega
          clear hkg
          rw [List.take_length, HOW.out] at hrow
          obtain ⟨A11, c11, rfl, hI11⟩ := ownsRow_ints hrow
          have HI11 := Lib.hid hI11
          have HRX := Lib.hid (HR.out.upto HBX.out)
          replace q1 := (HBX.out.cell (p := ⟨w.heap.size, 1, none⟩) hz).trans q1
          replace hz : w.heap.size < wr.heap.size := Nat.lt_of_lt_of_le hz hsx
          have HBY := Lib.hid (HB7.out.trans (HBX.out.mono HB7.out.size))
          have hlen : ((own.length : Int) != (rows.length : Int)) = false := by rw [HLN.out]; simp
          clear hrow hI11 HL HO HR HIt HIi HB7 HBX hsx q0
          generalize wr = wy at *
          go_wp2_with fail
          clear hlen
          go_loopg [13, 14] rows.length (fun g i s14 wr => ∃ k : Nat, k + g = rows.length ∧ i = .int .i64 k ∧ Below wy.heap.size wy wr)
          case atStart => exact ⟨0, by omega, rfl, Below.refl _ _⟩
          case round =>
            obtain ⟨i, hig, rfl, hbel⟩ := hrel
            have HBW := Lib.hid hbel
            clear hbel
            cases gk with
            | zero =>
              obtain rfl : i = rows.length := by omega
              clear hig
              go_wp2_with fail
              go_ret
              exact ⟨rfl, HBY.out.trans (HBW.out.mono HBY.out.size)⟩
            | succ g =>
              have hir : i < rows.length := by omega
              have HG := Lib.hid hig
              clear hig
              go_wp2_with fail
              go_loopg [14] own.length (fun g i wr => ∃ k : Nat, k + g = own.length ∧ i = .int .i64 k ∧ Below wy.heap.size wy wr)
              case atStart => exact ⟨0, by omega, rfl, HBW.out⟩
              case round =>
                obtain ⟨k, hkg, rfl, hbel⟩ := hrel
                have HBZ := Lib.hid hbel
                clear hbel HBW
                cases gk with
                | zero =>
                  obtain rfl : k = own.length := by omega
                  clear hkg
                  go_wp2_with fail
                  go_roundg g
                  case measure => omega
                  case rel => exact ⟨i + 1, by have := HG.out; omega, by go_num, HBZ.out⟩
                | succ g2 =>
                  have hko : k < own.length := by omega
                  have HG2 := Lib.hid hkg
                  clear hkg
                  generalize wr = wz at *
                  obtain ⟨x, hx1, hxl, hrl, hxv⟩ := HCV.out i k (by have := HLN.out; omega) hko
                  obtain ⟨br, offr, hAr, hbr, hcr⟩ := HRX.out (by omega)
                  subst hAr
                  obtain ⟨Aq, ci, er, hIq⟩ := hcr i hir
                  obtain ⟨bq, offq, hAq, hbq, hcq⟩ := hIq (by omega)
                  subst hAq
                  have ex := hcq x (by omega)
                  obtain ⟨bo, offo, hAo, hbo, hco⟩ := HI11.out (by omega)
                  subst hAo
                  have eo := hco k hko
                  rw [hx1] at eo
                  rw [hxv] at ex
                  rw [hrl] at er
                  have hi1 := HBZ.out
                  replace er := (hi1.cell (p := ⟨br, offr + i, none⟩) hbr).trans er
                  replace eo := (hi1.cell (p := ⟨bo, offo + k, none⟩) hbo).trans eo
                  replace ex := (hi1.cell (p := ⟨bq, offq + x, none⟩) hbq).trans ex
                  replace q1 := (hi1.cell (p := ⟨w.heap.size, 1, none⟩) hz).trans q1
                  replace hbr : br < wz.heap.size := Nat.lt_of_lt_of_le hbr hi1.size
                  replace hbo : bo < wz.heap.size := Nat.lt_of_lt_of_le hbo hi1.size
                  replace hbq : bq < wz.heap.size := Nat.lt_of_lt_of_le hbq hi1.size
                  replace hz : w.heap.size < wz.heap.size := Nat.lt_of_lt_of_le hz hi1.size
                  have i1 : ¬ (x : Int) < 0 := by omega
                  clear hcr hcq hco hIq hi1 hx1 hxv hrl
                  by_cases hik : i = k
                  · rw [if_pos hik] at ex
                    subst hik
                    go_wp2_with fail
                    refine region_calls (w0 := wz) (fun jq => match jq with | 0 => .slice (some ⟨br, offr, none⟩) rows.length cr | 1 => .int .i64 (i : Int) | 2 => .pointer (some ⟨br, offr + i, none⟩) | 3 => .slice (some ⟨bq, offq, none⟩) ls.length ci | 4 => .int .i64 (ls.length : Int) | 5 => .pointer (some ⟨w.heap.size, 1, none⟩) | 6 => .slice A ls.length c | 7 => .int .i64 (ls.length : Int) | 8 => .bool false | 9 => .bool false | 10 => .slice (some ⟨bo, offo, none⟩) own.length c11 | 11 => .int .i64 (i : Int) | 12 => .pointer (some ⟨bo, offo + i, none⟩) | 13 => .int .i64 (x : Int) | 14 => .bool false | 15 => .bool false | 16 => .bool false | 17 => .slice (some ⟨bo, offo, none⟩) own.length c11 | 18 => .int .i64 (i : Int) | 19 => .pointer (some ⟨bo, offo + i, none⟩) | 20 => .int .i64 (x : Int) | 21 => .slice (some ⟨br, offr, none⟩) rows.length cr | 22 => .int .i64 (i : Int) | 23 => .pointer (some ⟨br, offr + i, none⟩) | 24 => .slice (some ⟨bq, offq, none⟩) ls.length ci | 25 => .int .i64 (ls.length : Int) | 26 => .bool false | 27 => .bool false | 28 => .bool false | 29 => .int .i64 (i : Int) | 30 => .int .i64 (i : Int) | 31 => .bool true | 32 => .bool true | 33 => .slice (some ⟨br, offr, none⟩) rows.length cr | 34 => .int .i64 (i : Int) | 35 => .pointer (some ⟨br, offr + i, none⟩) | 36 => .slice (some ⟨bq, offq, none⟩) ls.length ci | 37 => .slice (some ⟨bo, offo, none⟩) own.length c11 | 38 => .int .i64 (i : Int) | 39 => .pointer (some ⟨bo, offo + i, none⟩) | 40 => .int .i64 (x : Int) | 41 => .pointer (some ⟨bq, offq + x, none⟩) | 42 => .int .i64 1 | 43 => .bool false | 44 => .bool false | 45 => .bool false | 46 => .bool false | 47 => .int .i64 (i : Int) | 48 => .int .i64 (i : Int) | 49 => .bool false | 50 => .bool false | 51 => undef | 52 => undef | 53 => undef | 54 => undef | 55 => undef | 56 => undef | 57 => undef | 58 => undef | 59 => undef | 60 => undef | 61 => undef | 62 => .bool false | 63 => .bool false | _ => undef) (by kernel_rfl) (by kernel_rfl) ?_ ?_
                    · intro iq oq ho aq W hI hdep hrest hgd
                      have r5 : aq.eval (.tmp 5) = .slice (some ⟨br, offr, none⟩) rows.length cr := hrest 5 (apart_of (by kernel_rfl))
                      have r13 : aq.eval (.tmp 13) = .int .i64 (i : Int) := hrest 13 (apart_of (by kernel_rfl))
                      have r2 : aq.eval (.tmp 2) = .pointer (some ⟨w.heap.size, 0, none⟩) := hrest 2 (apart_of (by kernel_rfl))
                      have r11 : aq.eval (.tmp 11) = .slice (some ⟨bo, offo, none⟩) own.length c11 := hrest 11 (apart_of (by kernel_rfl))
                      have r14 : aq.eval (.tmp 14) = .int .i64 (i : Int) := hrest 14 (apart_of (by kernel_rfl))
                      have hc : ∀ v, aq.eval (.const v) = v := fun _ => rfl
                      have hfn : ∀ f, aq.eval (.func f) = .func (.func f) #[] #[] := fun _ => rfl
                      clear hrest
                      rcases iq with _ | _ | _ | _ | _ | _ | _ | _ | _ | _ | _ | _ | _ | _ | _ | _ | _ | _ | _ | _ | _ | _ | _ | _ | _ | _ | _ | _ | _ | _ | _ | _ | _ | _ | _ | _ | _ | _ | _ | _ | _ | _ | _ | _ | _ | _ | _ | _ | _ | _ | _ | _ | _ | _ | _ | _ | _ | _ | _ | _ | _ | _ | _ | _ | iq
                      · injection ho with ho
                        subst ho
                        clear hdep hgd
                        refine ⟨fun _ => .inl ?_, fun hw => (by simp [Region.wanted] at hw)⟩
                        clear hI
                        generalize aq.eval = ρ at *
                        simp [go_sem, r5]
                      · injection ho with ho
                        subst ho
                        clear hdep hgd
                        refine ⟨fun _ => .inl ?_, fun hw => (by simp [Region.wanted] at hw)⟩
                        clear hI
                        generalize aq.eval = ρ at *
                        simp [go_sem, r13]
                      · injection ho with ho
                        subst ho
                        have d0 : aq.eval (.tmp 95) = .slice (some ⟨br, offr, none⟩) rows.length cr := hdep ⟨0, .data⟩ (by simp) rfl _ _ rfl rfl
                        have d1 : aq.eval (.tmp 96) = .int .i64 (i : Int) := hdep ⟨1, .data⟩ (by simp) rfl _ _ rfl rfl
                        clear hdep hgd
                        refine ⟨fun _ => .inl ?_, fun hw => (by simp [Region.wanted] at hw)⟩
                        clear hI
                        generalize aq.eval = ρ at *
                        simp [go_sem, d0, d1, hir]
                      · injection ho with ho
                        subst ho
                        have d2 : aq.eval (.tmp 97) = .pointer (some ⟨br, offr + i, none⟩) := hdep ⟨2, .data⟩ (by simp) rfl _ _ rfl rfl
                        clear hdep hgd
                        have x0 := (hI.cell (p := ⟨br, offr + i, none⟩) hbr).trans er
                        refine ⟨fun _ => .inl ?_, fun hw => (by simp [Region.wanted] at hw)⟩
                        clear hI
                        generalize aq.eval = ρ at *
                        simp [go_sem, d2, x0]
                      · injection ho with ho
                        subst ho
                        have d3 : aq.eval (.tmp 98) = .slice (some ⟨bq, offq, none⟩) ls.length ci := hdep ⟨3, .data⟩ (by simp) rfl _ _ rfl rfl
                        clear hdep hgd
                        refine ⟨fun _ => .inl ?_, fun hw => (by simp [Region.wanted] at hw)⟩
                        clear hI
                        generalize aq.eval = ρ at *
                        simp [go_sem, d3]
                      · injection ho with ho
                        subst ho
                        clear hdep hgd
                        refine ⟨fun _ => .inl ?_, fun hw => (by simp [Region.wanted] at hw)⟩
                        clear hI
                        generalize aq.eval = ρ at *
                        simp [go_sem, r2]
                      · injection ho with ho
                        subst ho
                        have d5 : aq.eval (.tmp 100) = .pointer (some ⟨w.heap.size, 1, none⟩) := hdep ⟨5, .data⟩ (by simp) rfl _ _ rfl rfl
                        clear hdep hgd
                        have x0 := (hI.cell (p := ⟨w.heap.size, 1, none⟩) hz).trans q1
                        refine ⟨fun _ => .inl ?_, fun hw => (by simp [Region.wanted] at hw)⟩
                        clear hI
                        generalize aq.eval = ρ at *
                        simp [go_sem, d5, x0]
                      · injection ho with ho
                        subst ho
                        have d6 : aq.eval (.tmp 101) = .slice A ls.length c := hdep ⟨6, .data⟩ (by simp) rfl _ _ rfl rfl
                        clear hdep hgd
                        refine ⟨fun _ => .inl ?_, fun hw => (by simp [Region.wanted] at hw)⟩
                        clear hI
                        generalize aq.eval = ρ at *
                        simp [go_sem, d6]
                      · injection ho with ho
                        subst ho
                        have d4 : aq.eval (.tmp 99) = .int .i64 (ls.length : Int) := hdep ⟨4, .data⟩ (by simp) rfl _ _ rfl rfl
                        have d7 : aq.eval (.tmp 102) = .int .i64 (ls.length : Int) := hdep ⟨7, .data⟩ (by simp) rfl _ _ rfl rfl
                        clear hdep hgd
                        refine ⟨fun _ => .inl ?_, fun hw => (by simp [Region.wanted] at hw)⟩
                        clear hI
                        generalize aq.eval = ρ at *
                        simp [go_sem, d4, d7]
                      · injection ho with ho
                        subst ho
                        have d8 : aq.eval (.tmp 103) = .bool false := hdep ⟨8, .data⟩ (by simp) rfl _ _ rfl rfl
                        clear hdep hgd
                        refine ⟨fun _ => .inl ?_, fun hw => (by simp [Region.wanted] at hw)⟩
                        clear hI
                        generalize aq.eval = ρ at *
                        simp [go_sem, d8]
                      · injection ho with ho
                        subst ho
                        have h8 : aq.tmps.getD 104 undef = .bool false := hdep ⟨9, .guard⟩ (by simp) rfl _ _ rfl rfl
                        have hwd := hgd 9 false rfl _ _ rfl rfl false h8
                        clear hdep hgd
                        refine ⟨fun _ => .inl ?_, fun hw => (by rw [hwd] at hw; cases hw)⟩
                        clear h8 hwd
                        clear hI
                        generalize aq.eval = ρ at *
                        simp [go_sem, r11]
                      · injection ho with ho
                        subst ho
                        have h8 : aq.tmps.getD 104 undef = .bool false := hdep ⟨9, .guard⟩ (by simp) rfl _ _ rfl rfl
                        have hwd := hgd 9 false rfl _ _ rfl rfl false h8
                        clear hdep hgd
                        refine ⟨fun _ => .inl ?_, fun hw => (by rw [hwd] at hw; cases hw)⟩
                        clear h8 hwd
                        clear hI
                        generalize aq.eval = ρ at *
                        simp [go_sem, r14]
                      · injection ho with ho
                        subst ho
                        have d10 : aq.eval (.tmp 105) = .slice (some ⟨bo, offo, none⟩) own.length c11 := hdep ⟨10, .data⟩ (by simp) rfl _ _ rfl rfl
                        have d11 : aq.eval (.tmp 106) = .int .i64 (i : Int) := hdep ⟨11, .data⟩ (by simp) rfl _ _ rfl rfl
                        have h8 : aq.tmps.getD 104 undef = .bool false := hdep ⟨9, .guard⟩ (by simp) rfl _ _ rfl rfl
                        have hwd := hgd 9 false rfl _ _ rfl rfl false h8
                        clear hdep hgd
                        refine ⟨fun _ => .inl ?_, fun hw => (by rw [hwd] at hw; cases hw)⟩
                        clear h8 hwd
                        clear hI
                        generalize aq.eval = ρ at *
                        simp [go_sem, d10, d11, hko]
                      · injection ho with ho
                        subst ho
                        have d12 : aq.eval (.tmp 107) = .pointer (some ⟨bo, offo + i, none⟩) := hdep ⟨12, .data⟩ (by simp) rfl _ _ rfl rfl
                        have h8 : aq.tmps.getD 104 undef = .bool false := hdep ⟨9, .guard⟩ (by simp) rfl _ _ rfl rfl
                        have hwd := hgd 9 false rfl _ _ rfl rfl false h8
                        clear hdep hgd
                        have x0 := (hI.cell (p := ⟨bo, offo + i, none⟩) hbo).trans eo
                        refine ⟨fun _ => .inl ?_, fun hw => (by rw [hwd] at hw; cases hw)⟩
                        clear h8 hwd
                        clear hI
                        generalize aq.eval = ρ at *
                        simp [go_sem, d12, x0]
                      · injection ho with ho
                        subst ho
                        have d13 : aq.eval (.tmp 108) = .int .i64 (x : Int) := hdep ⟨13, .data⟩ (by simp) rfl _ _ rfl rfl
                        have h8 : aq.tmps.getD 104 undef = .bool false := hdep ⟨9, .guard⟩ (by simp) rfl _ _ rfl rfl
                        have hwd := hgd 9 false rfl _ _ rfl rfl false h8
                        clear hdep hgd
                        refine ⟨fun _ => .inl ?_, fun hw => (by rw [hwd] at hw; cases hw)⟩
                        clear h8 hwd
                        clear hI
                        generalize aq.eval = ρ at *
                        simp [go_sem, d13, hc, i1]
                      · injection ho with ho
                        subst ho
                        have d9 : aq.eval (.tmp 104) = .bool false := hdep ⟨9, .data⟩ (by simp) rfl _ _ rfl rfl
                        have d14 : aq.eval (.tmp 109) = .bool false := hdep ⟨14, .data⟩ (by simp) rfl _ _ rfl rfl
                        clear hdep hgd
                        refine ⟨fun _ => .inl ?_, fun hw => (by simp [Region.wanted] at hw)⟩
                        clear hI
                        generalize aq.eval = ρ at *
                        simp [go_sem, d9, d14]
                      · injection ho with ho
                        subst ho
                        have d15 : aq.eval (.tmp 110) = .bool false := hdep ⟨15, .data⟩ (by simp) rfl _ _ rfl rfl
                        clear hdep hgd
                        refine ⟨fun _ => .inl ?_, fun hw => (by simp [Region.wanted] at hw)⟩
                        clear hI
                        generalize aq.eval = ρ at *
                        simp [go_sem, d15]
                      · injection ho with ho
                        subst ho
                        have h8 : aq.tmps.getD 111 undef = .bool false := hdep ⟨16, .guard⟩ (by simp) rfl _ _ rfl rfl
                        have hwd := hgd 16 false rfl _ _ rfl rfl false h8
                        clear hdep hgd
                        refine ⟨fun _ => .inl ?_, fun hw => (by rw [hwd] at hw; cases hw)⟩
                        clear h8 hwd
                        clear hI
                        generalize aq.eval = ρ at *
                        simp [go_sem, r11]
                      · injection ho with ho
                        subst ho
                        have h8 : aq.tmps.getD 111 undef = .bool false := hdep ⟨16, .guard⟩ (by simp) rfl _ _ rfl rfl
                        have hwd := hgd 16 false rfl _ _ rfl rfl false h8
                        clear hdep hgd
                        refine ⟨fun _ => .inl ?_, fun hw => (by rw [hwd] at hw; cases hw)⟩
                        clear h8 hwd
                        clear hI
                        generalize aq.eval = ρ at *
                        simp [go_sem, r14]
                      · injection ho with ho
                        subst ho
                        have d17 : aq.eval (.tmp 112) = .slice (some ⟨bo, offo, none⟩) own.length c11 := hdep ⟨17, .data⟩ (by simp) rfl _ _ rfl rfl
                        have d18 : aq.eval (.tmp 113) = .int .i64 (i : Int) := hdep ⟨18, .data⟩ (by simp) rfl _ _ rfl rfl
                        have h8 : aq.tmps.getD 111 undef = .bool false := hdep ⟨16, .guard⟩ (by simp) rfl _ _ rfl rfl
                        have hwd := hgd 16 false rfl _ _ rfl rfl false h8
                        clear hdep hgd
                        refine ⟨fun _ => .inl ?_, fun hw => (by rw [hwd] at hw; cases hw)⟩
                        clear h8 hwd
                        clear hI
                        generalize aq.eval = ρ at *
                        simp [go_sem, d17, d18, hko]
                      · injection ho with ho
                        subst ho
                        have d19 : aq.eval (.tmp 114) = .pointer (some ⟨bo, offo + i, none⟩) := hdep ⟨19, .data⟩ (by simp) rfl _ _ rfl rfl
                        have h8 : aq.tmps.getD 111 undef = .bool false := hdep ⟨16, .guard⟩ (by simp) rfl _ _ rfl rfl
                        have hwd := hgd 16 false rfl _ _ rfl rfl false h8
                        clear hdep hgd
                        have x0 := (hI.cell (p := ⟨bo, offo + i, none⟩) hbo).trans eo
                        refine ⟨fun _ => .inl ?_, fun hw => (by rw [hwd] at hw; cases hw)⟩
                        clear h8 hwd
                        clear hI
                        generalize aq.eval = ρ at *
                        simp [go_sem, d19, x0]
                      · injection ho with ho
                        subst ho
                        have h8 : aq.tmps.getD 111 undef = .bool false := hdep ⟨16, .guard⟩ (by simp) rfl _ _ rfl rfl
                        have hwd := hgd 16 false rfl _ _ rfl rfl false h8
                        clear hdep hgd
                        refine ⟨fun _ => .inl ?_, fun hw => (by rw [hwd] at hw; cases hw)⟩
                        clear h8 hwd
                        clear hI
                        generalize aq.eval = ρ at *
                        simp [go_sem, r5]
                      · injection ho with ho
                        subst ho
                        have h8 : aq.tmps.getD 111 undef = .bool false := hdep ⟨16, .guard⟩ (by simp) rfl _ _ rfl rfl
                        have hwd := hgd 16 false rfl _ _ rfl rfl false h8
                        clear hdep hgd
                        refine ⟨fun _ => .inl ?_, fun hw => (by rw [hwd] at hw; cases hw)⟩
                        clear h8 hwd
                        clear hI
                        generalize aq.eval = ρ at *
                        simp [go_sem, r13]
                      · injection ho with ho
                        subst ho
                        have d21 : aq.eval (.tmp 116) = .slice (some ⟨br, offr, none⟩) rows.length cr := hdep ⟨21, .data⟩ (by simp) rfl _ _ rfl rfl
                        have d22 : aq.eval (.tmp 117) = .int .i64 (i : Int) := hdep ⟨22, .data⟩ (by simp) rfl _ _ rfl rfl
                        have h8 : aq.tmps.getD 111 undef = .bool false := hdep ⟨16, .guard⟩ (by simp) rfl _ _ rfl rfl
                        have hwd := hgd 16 false rfl _ _ rfl rfl false h8
                        clear hdep hgd
                        refine ⟨fun _ => .inl ?_, fun hw => (by rw [hwd] at hw; cases hw)⟩
                        clear h8 hwd
                        clear hI
                        generalize aq.eval = ρ at *
                        simp [go_sem, d21, d22, hir]
                      · injection ho with ho
                        subst ho
                        have d23 : aq.eval (.tmp 118) = .pointer (some ⟨br, offr + i, none⟩) := hdep ⟨23, .data⟩ (by simp) rfl _ _ rfl rfl
                        have h8 : aq.tmps.getD 111 undef = .bool false := hdep ⟨16, .guard⟩ (by simp) rfl _ _ rfl rfl
                        have hwd := hgd 16 false rfl _ _ rfl rfl false h8
                        clear hdep hgd
                        have x0 := (hI.cell (p := ⟨br, offr + i, none⟩) hbr).trans er
                        refine ⟨fun _ => .inl ?_, fun hw => (by rw [hwd] at hw; cases hw)⟩
                        clear h8 hwd
                        clear hI
                        generalize aq.eval = ρ at *
                        simp [go_sem, d23, x0]
                      · injection ho with ho
                        subst ho
                        have d24 : aq.eval (.tmp 119) = .slice (some ⟨bq, offq, none⟩) ls.length ci := hdep ⟨24, .data⟩ (by simp) rfl _ _ rfl rfl
                        have h8 : aq.tmps.getD 111 undef = .bool false := hdep ⟨16, .guard⟩ (by simp) rfl _ _ rfl rfl
                        have hwd := hgd 16 false rfl _ _ rfl rfl false h8
                        clear hdep hgd
                        refine ⟨fun _ => .inl ?_, fun hw => (by rw [hwd] at hw; cases hw)⟩
                        clear h8 hwd
                        clear hI
                        generalize aq.eval = ρ at *
                        simp [go_sem, d24]
                      · injection ho with ho
                        subst ho
                        have d20 : aq.eval (.tmp 115) = .int .i64 (x : Int) := hdep ⟨20, .data⟩ (by simp) rfl _ _ rfl rfl
                        have d25 : aq.eval (.tmp 120) = .int .i64 (ls.length : Int) := hdep ⟨25, .data⟩ (by simp) rfl _ _ rfl rfl
                        have h8 : aq.tmps.getD 111 undef = .bool false := hdep ⟨16, .guard⟩ (by simp) rfl _ _ rfl rfl
                        have hwd := hgd 16 false rfl _ _ rfl rfl false h8
                        clear hdep hgd
                        refine ⟨fun _ => .inl ?_, fun hw => (by rw [hwd] at hw; cases hw)⟩
                        clear h8 hwd
                        clear hI
                        generalize aq.eval = ρ at *
                        simp [go_sem, d20, d25, hxl]
                      · injection ho with ho
                        subst ho
                        have d16 : aq.eval (.tmp 111) = .bool false := hdep ⟨16, .data⟩ (by simp) rfl _ _ rfl rfl
                        have d26 : aq.eval (.tmp 121) = .bool false := hdep ⟨26, .data⟩ (by simp) rfl _ _ rfl rfl
                        clear hdep hgd
                        refine ⟨fun _ => .inl ?_, fun hw => (by simp [Region.wanted] at hw)⟩
                        clear hI
                        generalize aq.eval = ρ at *
                        simp [go_sem, d16, d26]
                      · injection ho with ho
                        subst ho
                        have d27 : aq.eval (.tmp 122) = .bool false := hdep ⟨27, .data⟩ (by simp) rfl _ _ rfl rfl
                        clear hdep hgd
                        refine ⟨fun _ => .inl ?_, fun hw => (by simp [Region.wanted] at hw)⟩
                        clear hI
                        generalize aq.eval = ρ at *
                        simp [go_sem, d27]
                      · injection ho with ho
                        subst ho
                        have h8 : aq.tmps.getD 123 undef = .bool false := hdep ⟨28, .guard⟩ (by simp) rfl _ _ rfl rfl
                        have hwd := hgd 28 false rfl _ _ rfl rfl false h8
                        clear hdep hgd
                        refine ⟨fun _ => .inl ?_, fun hw => (by rw [hwd] at hw; cases hw)⟩
                        clear h8 hwd
                        clear hI
                        generalize aq.eval = ρ at *
                        simp [go_sem, r13]
                      · injection ho with ho
                        subst ho
                        have h8 : aq.tmps.getD 123 undef = .bool false := hdep ⟨28, .guard⟩ (by simp) rfl _ _ rfl rfl
                        have hwd := hgd 28 false rfl _ _ rfl rfl false h8
                        clear hdep hgd
                        refine ⟨fun _ => .inl ?_, fun hw => (by rw [hwd] at hw; cases hw)⟩
                        clear h8 hwd
                        clear hI
                        generalize aq.eval = ρ at *
                        simp [go_sem, r14]
                      · injection ho with ho
                        subst ho
                        have d29 : aq.eval (.tmp 124) = .int .i64 (i : Int) := hdep ⟨29, .data⟩ (by simp) rfl _ _ rfl rfl
                        have d30 : aq.eval (.tmp 125) = .int .i64 (i : Int) := hdep ⟨30, .data⟩ (by simp) rfl _ _ rfl rfl
                        have h8 : aq.tmps.getD 123 undef = .bool false := hdep ⟨28, .guard⟩ (by simp) rfl _ _ rfl rfl
                        have hwd := hgd 28 false rfl _ _ rfl rfl false h8
                        clear hdep hgd
                        refine ⟨fun _ => .inl ?_, fun hw => (by rw [hwd] at hw; cases hw)⟩
                        clear h8 hwd
                        clear hI
                        generalize aq.eval = ρ at *
                        simp [go_sem, d29, d30]
                      · injection ho with ho
                        subst ho
                        have d31 : aq.eval (.tmp 126) = .bool true := hdep ⟨31, .data⟩ (by simp) rfl _ _ rfl rfl
                        have h8 : aq.tmps.getD 123 undef = .bool false := hdep ⟨28, .guard⟩ (by simp) rfl _ _ rfl rfl
                        have hwd := hgd 28 false rfl _ _ rfl rfl false h8
                        clear hdep hgd
                        refine ⟨fun _ => .inl ?_, fun hw => (by rw [hwd] at hw; cases hw)⟩
                        clear h8 hwd
                        clear hI
                        generalize aq.eval = ρ at *
                        simp [go_sem, d31]
                      · injection ho with ho
                        subst ho
                        have h8 : aq.tmps.getD 127 undef = .bool true := hdep ⟨32, .guard⟩ (by simp) rfl _ _ rfl rfl
                        have hwd := hgd 32 true rfl _ _ rfl rfl true h8
                        clear hdep hgd
                        refine ⟨fun _ => .inl ?_, fun hw => (by rw [hwd] at hw; cases hw)⟩
                        clear h8 hwd
                        clear hI
                        generalize aq.eval = ρ at *
                        simp [go_sem, r5]
                      · injection ho with ho
                        subst ho
                        have h8 : aq.tmps.getD 127 undef = .bool true := hdep ⟨32, .guard⟩ (by simp) rfl _ _ rfl rfl
                        have hwd := hgd 32 true rfl _ _ rfl rfl true h8
                        clear hdep hgd
                        refine ⟨fun _ => .inl ?_, fun hw => (by rw [hwd] at hw; cases hw)⟩
                        clear h8 hwd
                        clear hI
                        generalize aq.eval = ρ at *
                        simp [go_sem, r13]
                      · injection ho with ho
                        subst ho
                        have d33 : aq.eval (.tmp 128) = .slice (some ⟨br, offr, none⟩) rows.length cr := hdep ⟨33, .data⟩ (by simp) rfl _ _ rfl rfl
                        have d34 : aq.eval (.tmp 129) = .int .i64 (i : Int) := hdep ⟨34, .data⟩ (by simp) rfl _ _ rfl rfl
                        have h8 : aq.tmps.getD 127 undef = .bool true := hdep ⟨32, .guard⟩ (by simp) rfl _ _ rfl rfl
                        have hwd := hgd 32 true rfl _ _ rfl rfl true h8
                        clear hdep hgd
                        refine ⟨fun _ => .inl ?_, fun hw => (by rw [hwd] at hw; cases hw)⟩
                        clear h8 hwd
                        clear hI
                        generalize aq.eval = ρ at *
                        simp [go_sem, d33, d34, hir]
                      · injection ho with ho
                        subst ho
                        have d35 : aq.eval (.tmp 130) = .pointer (some ⟨br, offr + i, none⟩) := hdep ⟨35, .data⟩ (by simp) rfl _ _ rfl rfl
                        have h8 : aq.tmps.getD 127 undef = .bool true := hdep ⟨32, .guard⟩ (by simp) rfl _ _ rfl rfl
                        have hwd := hgd 32 true rfl _ _ rfl rfl true h8
                        clear hdep hgd
                        have x0 := (hI.cell (p := ⟨br, offr + i, none⟩) hbr).trans er
                        refine ⟨fun _ => .inl ?_, fun hw => (by rw [hwd] at hw; cases hw)⟩
                        clear h8 hwd
                        clear hI
                        generalize aq.eval = ρ at *
                        simp [go_sem, d35, x0]
                      · injection ho with ho
                        subst ho
                        have h8 : aq.tmps.getD 127 undef = .bool true := hdep ⟨32, .guard⟩ (by simp) rfl _ _ rfl rfl
                        have hwd := hgd 32 true rfl _ _ rfl rfl true h8
                        clear hdep hgd
                        refine ⟨fun _ => .inl ?_, fun hw => (by rw [hwd] at hw; cases hw)⟩
                        clear h8 hwd
                        clear hI
                        generalize aq.eval = ρ at *
                        simp [go_sem, r11]
                      · injection ho with ho
                        subst ho
                        have h8 : aq.tmps.getD 127 undef = .bool true := hdep ⟨32, .guard⟩ (by simp) rfl _ _ rfl rfl
                        have hwd := hgd 32 true rfl _ _ rfl rfl true h8
                        clear hdep hgd
                        refine ⟨fun _ => .inl ?_, fun hw => (by rw [hwd] at hw; cases hw)⟩
                        clear h8 hwd
                        clear hI
                        generalize aq.eval = ρ at *
                        simp [go_sem, r14]
                      · injection ho with ho
                        subst ho
                        have d37 : aq.eval (.tmp 132) = .slice (some ⟨bo, offo, none⟩) own.length c11 := hdep ⟨37, .data⟩ (by simp) rfl _ _ rfl rfl
                        have d38 : aq.eval (.tmp 133) = .int .i64 (i : Int) := hdep ⟨38, .data⟩ (by simp) rfl _ _ rfl rfl
                        have h8 : aq.tmps.getD 127 undef = .bool true := hdep ⟨32, .guard⟩ (by simp) rfl _ _ rfl rfl
                        have hwd := hgd 32 true rfl _ _ rfl rfl true h8
                        clear hdep hgd
                        refine ⟨fun _ => .inl ?_, fun hw => (by rw [hwd] at hw; cases hw)⟩
                        clear h8 hwd
                        clear hI
                        generalize aq.eval = ρ at *
                        simp [go_sem, d37, d38, hko]
                      · injection ho with ho
                        subst ho
                        have d39 : aq.eval (.tmp 134) = .pointer (some ⟨bo, offo + i, none⟩) := hdep ⟨39, .data⟩ (by simp) rfl _ _ rfl rfl
                        have h8 : aq.tmps.getD 127 undef = .bool true := hdep ⟨32, .guard⟩ (by simp) rfl _ _ rfl rfl
                        have hwd := hgd 32 true rfl _ _ rfl rfl true h8
                        clear hdep hgd
                        have x0 := (hI.cell (p := ⟨bo, offo + i, none⟩) hbo).trans eo
                        refine ⟨fun _ => .inl ?_, fun hw => (by rw [hwd] at hw; cases hw)⟩
                        clear h8 hwd
                        clear hI
                        generalize aq.eval = ρ at *
                        simp [go_sem, d39, x0]
                      · injection ho with ho
                        subst ho
                        have d36 : aq.eval (.tmp 131) = .slice (some ⟨bq, offq, none⟩) ls.length ci := hdep ⟨36, .data⟩ (by simp) rfl _ _ rfl rfl
                        have d40 : aq.eval (.tmp 135) = .int .i64 (x : Int) := hdep ⟨40, .data⟩ (by simp) rfl _ _ rfl rfl
                        have h8 : aq.tmps.getD 127 undef = .bool true := hdep ⟨32, .guard⟩ (by simp) rfl _ _ rfl rfl
                        have hwd := hgd 32 true rfl _ _ rfl rfl true h8
                        clear hdep hgd
                        refine ⟨fun _ => .inl ?_, fun hw => (by rw [hwd] at hw; cases hw)⟩
                        clear h8 hwd
                        clear hI
                        generalize aq.eval = ρ at *
                        simp [go_sem, d36, d40, hxl]
                      · injection ho with ho
                        subst ho
                        have d41 : aq.eval (.tmp 136) = .pointer (some ⟨bq, offq + x, none⟩) := hdep ⟨41, .data⟩ (by simp) rfl _ _ rfl rfl
                        have h8 : aq.tmps.getD 127 undef = .bool true := hdep ⟨32, .guard⟩ (by simp) rfl _ _ rfl rfl
                        have hwd := hgd 32 true rfl _ _ rfl rfl true h8
                        clear hdep hgd
                        have x0 := (hI.cell (p := ⟨bq, offq + x, none⟩) hbq).trans ex
                        refine ⟨fun _ => .inl ?_, fun hw => (by rw [hwd] at hw; cases hw)⟩
                        clear h8 hwd
                        clear hI
                        generalize aq.eval = ρ at *
                        simp [go_sem, d41, x0]
                      · injection ho with ho
                        subst ho
                        have d42 : aq.eval (.tmp 137) = .int .i64 1 := hdep ⟨42, .data⟩ (by simp) rfl _ _ rfl rfl
                        have h8 : aq.tmps.getD 127 undef = .bool true := hdep ⟨32, .guard⟩ (by simp) rfl _ _ rfl rfl
                        have hwd := hgd 32 true rfl _ _ rfl rfl true h8
                        clear hdep hgd
                        refine ⟨fun _ => .inl ?_, fun hw => (by rw [hwd] at hw; cases hw)⟩
                        clear h8 hwd
                        clear hI
                        generalize aq.eval = ρ at *
                        simp [go_sem, d42, hc]
                      · injection ho with ho
                        subst ho
                        have d32 : aq.eval (.tmp 127) = .bool true := hdep ⟨32, .data⟩ (by simp) rfl _ _ rfl rfl
                        have d43 : aq.eval (.tmp 138) = .bool false := hdep ⟨43, .data⟩ (by simp) rfl _ _ rfl rfl
                        have h8 : aq.tmps.getD 123 undef = .bool false := hdep ⟨28, .guard⟩ (by simp) rfl _ _ rfl rfl
                        have hwd := hgd 28 false rfl _ _ rfl rfl false h8
                        clear hdep hgd
                        refine ⟨fun _ => .inl ?_, fun hw => (by rw [hwd] at hw; cases hw)⟩
                        clear h8 hwd
                        clear hI
                        generalize aq.eval = ρ at *
                        simp [go_sem, d32, d43]
                      · injection ho with ho
                        subst ho
                        have d28 : aq.eval (.tmp 123) = .bool false := hdep ⟨28, .data⟩ (by simp) rfl _ _ rfl rfl
                        have d44 : aq.eval (.tmp 139) = .bool false := hdep ⟨44, .data⟩ (by simp) rfl _ _ rfl rfl
                        clear hdep hgd
                        refine ⟨fun _ => .inl ?_, fun hw => (by simp [Region.wanted] at hw)⟩
                        clear hI
                        generalize aq.eval = ρ at *
                        simp [go_sem, d28, d44]
                      · injection ho with ho
                        subst ho
                        have d45 : aq.eval (.tmp 140) = .bool false := hdep ⟨45, .data⟩ (by simp) rfl _ _ rfl rfl
                        clear hdep hgd
                        refine ⟨fun _ => .inl ?_, fun hw => (by simp [Region.wanted] at hw)⟩
                        clear hI
                        generalize aq.eval = ρ at *
                        simp [go_sem, d45]
                      · injection ho with ho
                        subst ho
                        have h8 : aq.tmps.getD 141 undef = .bool false := hdep ⟨46, .guard⟩ (by simp) rfl _ _ rfl rfl
                        have hwd := hgd 46 false rfl _ _ rfl rfl false h8
                        clear hdep hgd
                        refine ⟨fun _ => .inl ?_, fun hw => (by rw [hwd] at hw; cases hw)⟩
                        clear h8 hwd
                        clear hI
                        generalize aq.eval = ρ at *
                        simp [go_sem, r13]
                      · injection ho with ho
                        subst ho
                        have h8 : aq.tmps.getD 141 undef = .bool false := hdep ⟨46, .guard⟩ (by simp) rfl _ _ rfl rfl
                        have hwd := hgd 46 false rfl _ _ rfl rfl false h8
                        clear hdep hgd
                        refine ⟨fun _ => .inl ?_, fun hw => (by rw [hwd] at hw; cases hw)⟩
                        clear h8 hwd
                        clear hI
                        generalize aq.eval = ρ at *
                        simp [go_sem, r14]
                      · injection ho with ho
                        subst ho
                        have d47 : aq.eval (.tmp 142) = .int .i64 (i : Int) := hdep ⟨47, .data⟩ (by simp) rfl _ _ rfl rfl
                        have d48 : aq.eval (.tmp 143) = .int .i64 (i : Int) := hdep ⟨48, .data⟩ (by simp) rfl _ _ rfl rfl
                        have h8 : aq.tmps.getD 141 undef = .bool false := hdep ⟨46, .guard⟩ (by simp) rfl _ _ rfl rfl
                        have hwd := hgd 46 false rfl _ _ rfl rfl false h8
                        clear hdep hgd
                        refine ⟨fun _ => .inl ?_, fun hw => (by rw [hwd] at hw; cases hw)⟩
                        clear h8 hwd
                        clear hI
                        generalize aq.eval = ρ at *
                        simp [go_sem, d47, d48]
                      · injection ho with ho
                        subst ho
                        have d49 : aq.eval (.tmp 144) = .bool false := hdep ⟨49, .data⟩ (by simp) rfl _ _ rfl rfl
                        have h8 : aq.tmps.getD 141 undef = .bool false := hdep ⟨46, .guard⟩ (by simp) rfl _ _ rfl rfl
                        have hwd := hgd 46 false rfl _ _ rfl rfl false h8
                        clear hdep hgd
                        refine ⟨fun _ => .inl ?_, fun hw => (by rw [hwd] at hw; cases hw)⟩
                        clear h8 hwd
                        clear hI
                        generalize aq.eval = ρ at *
                        simp [go_sem, d49]
                      · injection ho with ho
                        subst ho
                        have h8 : aq.tmps.getD 145 undef = .bool false := hdep ⟨50, .guard⟩ (by simp) rfl _ _ rfl rfl
                        have hwd := hgd 50 true rfl _ _ rfl rfl false h8
                        exact ⟨fun hw => (by rw [hwd] at hw; cases hw), fun _ => rfl⟩
                      · injection ho with ho
                        subst ho
                        have h8 : aq.tmps.getD 145 undef = .bool false := hdep ⟨50, .guard⟩ (by simp) rfl _ _ rfl rfl
                        have hwd := hgd 50 true rfl _ _ rfl rfl false h8
                        exact ⟨fun hw => (by rw [hwd] at hw; cases hw), fun _ => rfl⟩
                      · injection ho with ho
                        subst ho
                        have h8 : aq.tmps.getD 145 undef = .bool false := hdep ⟨50, .guard⟩ (by simp) rfl _ _ rfl rfl
                        have hwd := hgd 50 true rfl _ _ rfl rfl false h8
                        exact ⟨fun hw => (by rw [hwd] at hw; cases hw), fun _ => rfl⟩
                      · injection ho with ho
                        subst ho
                        have h8 : aq.tmps.getD 145 undef = .bool false := hdep ⟨50, .guard⟩ (by simp) rfl _ _ rfl rfl
                        have hwd := hgd 50 true rfl _ _ rfl rfl false h8
                        exact ⟨fun hw => (by rw [hwd] at hw; cases hw), fun _ => rfl⟩
                      · injection ho with ho
                        subst ho
                        have h8 : aq.tmps.getD 145 undef = .bool false := hdep ⟨50, .guard⟩ (by simp) rfl _ _ rfl rfl
                        have hwd := hgd 50 true rfl _ _ rfl rfl false h8
                        exact ⟨fun hw => (by rw [hwd] at hw; cases hw), fun _ => rfl⟩
                      · injection ho with ho
                        subst ho
                        have h8 : aq.tmps.getD 145 undef = .bool false := hdep ⟨50, .guard⟩ (by simp) rfl _ _ rfl rfl
                        have hwd := hgd 50 true rfl _ _ rfl rfl false h8
                        exact ⟨fun hw => (by rw [hwd] at hw; cases hw), fun _ => rfl⟩
                      · injection ho with ho
                        subst ho
                        have h8 : aq.tmps.getD 145 undef = .bool false := hdep ⟨50, .guard⟩ (by simp) rfl _ _ rfl rfl
                        have hwd := hgd 50 true rfl _ _ rfl rfl false h8
                        exact ⟨fun hw => (by rw [hwd] at hw; cases hw), fun _ => rfl⟩
                      · injection ho with ho
                        subst ho
                        have h8 : aq.tmps.getD 145 undef = .bool false := hdep ⟨50, .guard⟩ (by simp) rfl _ _ rfl rfl
                        have hwd := hgd 50 true rfl _ _ rfl rfl false h8
                        exact ⟨fun hw => (by rw [hwd] at hw; cases hw), fun _ => rfl⟩
                      · injection ho with ho
                        subst ho
                        have h8 : aq.tmps.getD 145 undef = .bool false := hdep ⟨50, .guard⟩ (by simp) rfl _ _ rfl rfl
                        have hwd := hgd 50 true rfl _ _ rfl rfl false h8
                        exact ⟨fun hw => (by rw [hwd] at hw; cases hw), fun _ => rfl⟩
                      · injection ho with ho
                        subst ho
                        have h8 : aq.tmps.getD 145 undef = .bool false := hdep ⟨50, .guard⟩ (by simp) rfl _ _ rfl rfl
                        have hwd := hgd 50 true rfl _ _ rfl rfl false h8
                        exact ⟨fun hw => (by rw [hwd] at hw; cases hw), fun _ => rfl⟩
                      · injection ho with ho
                        subst ho
                        have h8 : aq.tmps.getD 145 undef = .bool false := hdep ⟨50, .guard⟩ (by simp) rfl _ _ rfl rfl
                        have hwd := hgd 50 true rfl _ _ rfl rfl false h8
                        exact ⟨fun hw => (by rw [hwd] at hw; cases hw), fun _ => rfl⟩
                      · injection ho with ho
                        subst ho
                        have d50 : aq.eval (.tmp 145) = .bool false := hdep ⟨50, .data⟩ (by simp) rfl _ _ rfl rfl
                        have h8 : aq.tmps.getD 141 undef = .bool false := hdep ⟨46, .guard⟩ (by simp) rfl _ _ rfl rfl
                        have hwd := hgd 46 false rfl _ _ rfl rfl false h8
                        clear hdep hgd
                        refine ⟨fun _ => .inl ?_, fun hw => (by rw [hwd] at hw; cases hw)⟩
                        clear h8 hwd
                        clear hI
                        generalize aq.eval = ρ at *
                        simp [go_sem, d50, hc]
                      · injection ho with ho
                        subst ho
                        have d46 : aq.eval (.tmp 141) = .bool false := hdep ⟨46, .data⟩ (by simp) rfl _ _ rfl rfl
                        have d62 : aq.eval (.tmp 157) = .bool false := hdep ⟨62, .data⟩ (by simp) rfl _ _ rfl rfl
                        clear hdep hgd
                        refine ⟨fun _ => .inl ?_, fun hw => (by simp [Region.wanted] at hw)⟩
                        clear hI
                        generalize aq.eval = ρ at *
                        simp [go_sem, d46, d62]
                      · simp at ho
                    intro wx hb
                    simp only [putAll, Act.put, List.setIfInBounds_toArray, List.set_cons_zero, List.set_cons_succ, Nat.reduceAdd]
                    go_wp2_with fail
                    go_roundg g2
                    case measure => omega
                    case rel => exact ⟨i + 1, by have := HG2.out; omega, by go_num, HBZ.out.trans (hb.mono HBZ.out.size)⟩
                  · rw [if_neg hik] at ex
                    have hik2 : ¬ (i : Int) = (k : Int) := by omega
                    go_wp2_with fail
                    refine region_calls (w0 := wz) (fun jq => match jq with | 0 => .slice (some ⟨br, offr, none⟩) rows.length cr | 1 => .int .i64 (i : Int) | 2 => .pointer (some ⟨br, offr + i, none⟩) | 3 => .slice (some ⟨bq, offq, none⟩) ls.length ci | 4 => .int .i64 (ls.length : Int) | 5 => .pointer (some ⟨w.heap.size, 1, none⟩) | 6 => .slice A ls.length c | 7 => .int .i64 (ls.length : Int) | 8 => .bool false | 9 => .bool false | 10 => .slice (some ⟨bo, offo, none⟩) own.length c11 | 11 => .int .i64 (k : Int) | 12 => .pointer (some ⟨bo, offo + k, none⟩) | 13 => .int .i64 (x : Int) | 14 => .bool false | 15 => .bool false | 16 => .bool false | 17 => .slice (some ⟨bo, offo, none⟩) own.length c11 | 18 => .int .i64 (k : Int) | 19 => .pointer (some ⟨bo, offo + k, none⟩) | 20 => .int .i64 (x : Int) | 21 => .slice (some ⟨br, offr, none⟩) rows.length cr | 22 => .int .i64 (i : Int) | 23 => .pointer (some ⟨br, offr + i, none⟩) | 24 => .slice (some ⟨bq, offq, none⟩) ls.length ci | 25 => .int .i64 (ls.length : Int) | 26 => .bool false | 27 => .bool false | 28 => .bool false | 29 => .int .i64 (i : Int) | 30 => .int .i64 (k : Int) | 31 => .bool false | 32 => .bool false | 33 => undef | 34 => undef | 35 => undef | 36 => undef | 37 => undef | 38 => undef | 39 => undef | 40 => undef | 41 => undef | 42 => undef | 43 => undef | 44 => .bool false | 45 => .bool false | 46 => .bool false | 47 => .int .i64 (i : Int) | 48 => .int .i64 (k : Int) | 49 => .bool true | 50 => .bool true | 51 => .slice (some ⟨br, offr, none⟩) rows.length cr | 52 => .int .i64 (i : Int) | 53 => .pointer (some ⟨br, offr + i, none⟩) | 54 => .slice (some ⟨bq, offq, none⟩) ls.length ci | 55 => .slice (some ⟨bo, offo, none⟩) own.length c11 | 56 => .int .i64 (k : Int) | 57 => .pointer (some ⟨bo, offo + k, none⟩) | 58 => .int .i64 (x : Int) | 59 => .pointer (some ⟨bq, offq + x, none⟩) | 60 => .int .i64 0 | 61 => .bool false | 62 => .bool false | 63 => .bool false | _ => undef) (by kernel_rfl) (by kernel_rfl) ?_ ?_
                    · intro iq oq ho aq W hI hdep hrest hgd
                      have r5 : aq.eval (.tmp 5) = .slice (some ⟨br, offr, none⟩) rows.length cr := hrest 5 (apart_of (by kernel_rfl))
                      have r13 : aq.eval (.tmp 13) = .int .i64 (i : Int) := hrest 13 (apart_of (by kernel_rfl))
                      have r2 : aq.eval (.tmp 2) = .pointer (some ⟨w.heap.size, 0, none⟩) := hrest 2 (apart_of (by kernel_rfl))
                      have r11 : aq.eval (.tmp 11) = .slice (some ⟨bo, offo, none⟩) own.length c11 := hrest 11 (apart_of (by kernel_rfl))
                      have r14 : aq.eval (.tmp 14) = .int .i64 (k : Int) := hrest 14 (apart_of (by kernel_rfl))
                      have hc : ∀ v, aq.eval (.const v) = v := fun _ => rfl
                      have hfn : ∀ f, aq.eval (.func f) = .func (.func f) #[] #[] := fun _ => rfl
                      clear hrest
                      rcases iq with _ | _ | _ | _ | _ | _ | _ | _ | _ | _ | _ | _ | _ | _ | _ | _ | _ | _ | _ | _ | _ | _ | _ | _ | _ | _ | _ | _ | _ | _ | _ | _ | _ | _ | _ | _ | _ | _ | _ | _ | _ | _ | _ | _ | _ | _ | _ | _ | _ | _ | _ | _ | _ | _ | _ | _ | _ | _ | _ | _ | _ | _ | _ | _ | iq
                      · injection ho with ho
                        subst ho
                        clear hdep hgd
                        refine ⟨fun _ => .inl ?_, fun hw => (by simp [Region.wanted] at hw)⟩
                        clear hI
                        generalize aq.eval = ρ at *
                        simp [go_sem, r5]
                      · injection ho with ho
                        subst ho
                        clear hdep hgd
                        refine ⟨fun _ => .inl ?_, fun hw => (by simp [Region.wanted] at hw)⟩
                        clear hI
                        generalize aq.eval = ρ at *
                        simp [go_sem, r13]
                      · injection ho with ho
                        subst ho
                        have d0 : aq.eval (.tmp 95) = .slice (some ⟨br, offr, none⟩) rows.length cr := hdep ⟨0, .data⟩ (by simp) rfl _ _ rfl rfl
                        have d1 : aq.eval (.tmp 96) = .int .i64 (i : Int) := hdep ⟨1, .data⟩ (by simp) rfl _ _ rfl rfl
                        clear hdep hgd
                        refine ⟨fun _ => .inl ?_, fun hw => (by simp [Region.wanted] at hw)⟩
                        clear hI
                        generalize aq.eval = ρ at *
                        simp [go_sem, d0, d1, hir]
                      · injection ho with ho
                        subst ho
                        have d2 : aq.eval (.tmp 97) = .pointer (some ⟨br, offr + i, none⟩) := hdep ⟨2, .data⟩ (by simp) rfl _ _ rfl rfl
                        clear hdep hgd
                        have x0 := (hI.cell (p := ⟨br, offr + i, none⟩) hbr).trans er
                        refine ⟨fun _ => .inl ?_, fun hw => (by simp [Region.wanted] at hw)⟩
                        clear hI
                        generalize aq.eval = ρ at *
                        simp [go_sem, d2, x0]
                      · injection ho with ho
                        subst ho
                        have d3 : aq.eval (.tmp 98) = .slice (some ⟨bq, offq, none⟩) ls.length ci := hdep ⟨3, .data⟩ (by simp) rfl _ _ rfl rfl
                        clear hdep hgd
                        refine ⟨fun _ => .inl ?_, fun hw => (by simp [Region.wanted] at hw)⟩
                        clear hI
                        generalize aq.eval = ρ at *
                        simp [go_sem, d3]
                      · injection ho with ho
                        subst ho
                        clear hdep hgd
                        refine ⟨fun _ => .inl ?_, fun hw => (by simp [Region.wanted] at hw)⟩
                        clear hI
                        generalize aq.eval = ρ at *
                        simp [go_sem, r2]
                      · injection ho with ho
                        subst ho
                        have d5 : aq.eval (.tmp 100) = .pointer (some ⟨w.heap.size, 1, none⟩) := hdep ⟨5, .data⟩ (by simp) rfl _ _ rfl rfl
                        clear hdep hgd
                        have x0 := (hI.cell (p := ⟨w.heap.size, 1, none⟩) hz).trans q1
                        refine ⟨fun _ => .inl ?_, fun hw => (by simp [Region.wanted] at hw)⟩
                        clear hI
                        generalize aq.eval = ρ at *
                        simp [go_sem, d5, x0]
                      · injection ho with ho
                        subst ho
                        have d6 : aq.eval (.tmp 101) = .slice A ls.length c := hdep ⟨6, .data⟩ (by simp) rfl _ _ rfl rfl
                        clear hdep hgd
                        refine ⟨fun _ => .inl ?_, fun hw => (by simp [Region.wanted] at hw)⟩
                        clear hI
                        generalize aq.eval = ρ at *
                        simp [go_sem, d6]
                      · injection ho with ho
                        subst ho
                        have d4 : aq.eval (.tmp 99) = .int .i64 (ls.length : Int) := hdep ⟨4, .data⟩ (by simp) rfl _ _ rfl rfl
                        have d7 : aq.eval (.tmp 102) = .int .i64 (ls.length : Int) := hdep ⟨7, .data⟩ (by simp) rfl _ _ rfl rfl
                        clear hdep hgd
                        refine ⟨fun _ => .inl ?_, fun hw => (by simp [Region.wanted] at hw)⟩
                        clear hI
                        generalize aq.eval = ρ at *
                        simp [go_sem, d4, d7]
                      · injection ho with ho
                        subst ho
                        have d8 : aq.eval (.tmp 103) = .bool false := hdep ⟨8, .data⟩ (by simp) rfl _ _ rfl rfl
                        clear hdep hgd
                        refine ⟨fun _ => .inl ?_, fun hw => (by simp [Region.wanted] at hw)⟩
                        clear hI
                        generalize aq.eval = ρ at *
                        simp [go_sem, d8]
                      · injection ho with ho
                        subst ho
                        have h8 : aq.tmps.getD 104 undef = .bool false := hdep ⟨9, .guard⟩ (by simp) rfl _ _ rfl rfl
                        have hwd := hgd 9 false rfl _ _ rfl rfl false h8
                        clear hdep hgd
                        refine ⟨fun _ => .inl ?_, fun hw => (by rw [hwd] at hw; cases hw)⟩
                        clear h8 hwd
                        clear hI
                        generalize aq.eval = ρ at *
                        simp [go_sem, r11]
                      · injection ho with ho
                        subst ho
                        have h8 : aq.tmps.getD 104 undef = .bool false := hdep ⟨9, .guard⟩ (by simp) rfl _ _ rfl rfl
                        have hwd := hgd 9 false rfl _ _ rfl rfl false h8
                        clear hdep hgd
                        refine ⟨fun _ => .inl ?_, fun hw => (by rw [hwd] at hw; cases hw)⟩
                        clear h8 hwd
                        clear hI
                        generalize aq.eval = ρ at *
                        simp [go_sem, r14]
                      · injection ho with ho
                        subst ho
                        have d10 : aq.eval (.tmp 105) = .slice (some ⟨bo, offo, none⟩) own.length c11 := hdep ⟨10, .data⟩ (by simp) rfl _ _ rfl rfl
                        have d11 : aq.eval (.tmp 106) = .int .i64 (k : Int) := hdep ⟨11, .data⟩ (by simp) rfl _ _ rfl rfl
                        have h8 : aq.tmps.getD 104 undef = .bool false := hdep ⟨9, .guard⟩ (by simp) rfl _ _ rfl rfl
                        have hwd := hgd 9 false rfl _ _ rfl rfl false h8
                        clear hdep hgd
                        refine ⟨fun _ => .inl ?_, fun hw => (by rw [hwd] at hw; cases hw)⟩
                        clear h8 hwd
                        clear hI
                        generalize aq.eval = ρ at *
                        simp [go_sem, d10, d11, hko]
                      · injection ho with ho
                        subst ho
                        have d12 : aq.eval (.tmp 107) = .pointer (some ⟨bo, offo + k, none⟩) := hdep ⟨12, .data⟩ (by simp) rfl _ _ rfl rfl
                        have h8 : aq.tmps.getD 104 undef = .bool false := hdep ⟨9, .guard⟩ (by simp) rfl _ _ rfl rfl
                        have hwd := hgd 9 false rfl _ _ rfl rfl false h8
                        clear hdep hgd
                        have x0 := (hI.cell (p := ⟨bo, offo + k, none⟩) hbo).trans eo
                        refine ⟨fun _ => .inl ?_, fun hw => (by rw [hwd] at hw; cases hw)⟩
                        clear h8 hwd
                        clear hI
                        generalize aq.eval = ρ at *
                        simp [go_sem, d12, x0]
                      · injection ho with ho
                        subst ho
                        have d13 : aq.eval (.tmp 108) = .int .i64 (x : Int) := hdep ⟨13, .data⟩ (by simp) rfl _ _ rfl rfl
                        have h8 : aq.tmps.getD 104 undef = .bool false := hdep ⟨9, .guard⟩ (by simp) rfl _ _ rfl rfl
                        have hwd := hgd 9 false rfl _ _ rfl rfl false h8
                        clear hdep hgd
                        refine ⟨fun _ => .inl ?_, fun hw => (by rw [hwd] at hw; cases hw)⟩
                        clear h8 hwd
                        clear hI
                        generalize aq.eval = ρ at *
                        simp [go_sem, d13, hc, i1]
                      · injection ho with ho
                        subst ho
                        have d9 : aq.eval (.tmp 104) = .bool false := hdep ⟨9, .data⟩ (by simp) rfl _ _ rfl rfl
                        have d14 : aq.eval (.tmp 109) = .bool false := hdep ⟨14, .data⟩ (by simp) rfl _ _ rfl rfl
                        clear hdep hgd
                        refine ⟨fun _ => .inl ?_, fun hw => (by simp [Region.wanted] at hw)⟩
                        clear hI
                        generalize aq.eval = ρ at *
                        simp [go_sem, d9, d14]
                      · injection ho with ho
                        subst ho
                        have d15 : aq.eval (.tmp 110) = .bool false := hdep ⟨15, .data⟩ (by simp) rfl _ _ rfl rfl
                        clear hdep hgd
                        refine ⟨fun _ => .inl ?_, fun hw => (by simp [Region.wanted] at hw)⟩
                        clear hI
                        generalize aq.eval = ρ at *
                        simp [go_sem, d15]
                      · injection ho with ho
                        subst ho
                        have h8 : aq.tmps.getD 111 undef = .bool false := hdep ⟨16, .guard⟩ (by simp) rfl _ _ rfl rfl
                        have hwd := hgd 16 false rfl _ _ rfl rfl false h8
                        clear hdep hgd
                        refine ⟨fun _ => .inl ?_, fun hw => (by rw [hwd] at hw; cases hw)⟩
                        clear h8 hwd
                        clear hI
                        generalize aq.eval = ρ at *
                        simp [go_sem, r11]
                      · injection ho with ho
                        subst ho
                        have h8 : aq.tmps.getD 111 undef = .bool false := hdep ⟨16, .guard⟩ (by simp) rfl _ _ rfl rfl
                        have hwd := hgd 16 false rfl _ _ rfl rfl false h8
                        clear hdep hgd
                        refine ⟨fun _ => .inl ?_, fun hw => (by rw [hwd] at hw; cases hw)⟩
                        clear h8 hwd
                        clear hI
                        generalize aq.eval = ρ at *
                        simp [go_sem, r14]
                      · injection ho with ho
                        subst ho
                        have d17 : aq.eval (.tmp 112) = .slice (some ⟨bo, offo, none⟩) own.length c11 := hdep ⟨17, .data⟩ (by simp) rfl _ _ rfl rfl
                        have d18 : aq.eval (.tmp 113) = .int .i64 (k : Int) := hdep ⟨18, .data⟩ (by simp) rfl _ _ rfl rfl
                        have h8 : aq.tmps.getD 111 undef = .bool false := hdep ⟨16, .guard⟩ (by simp) rfl _ _ rfl rfl
                        have hwd := hgd 16 false rfl _ _ rfl rfl false h8
                        clear hdep hgd
                        refine ⟨fun _ => .inl ?_, fun hw => (by rw [hwd] at hw; cases hw)⟩
                        clear h8 hwd
                        clear hI
                        generalize aq.eval = ρ at *
                        simp [go_sem, d17, d18, hko]
                      · injection ho with ho
                        subst ho
                        have d19 : aq.eval (.tmp 114) = .pointer (some ⟨bo, offo + k, none⟩) := hdep ⟨19, .data⟩ (by simp) rfl _ _ rfl rfl
                        have h8 : aq.tmps.getD 111 undef = .bool false := hdep ⟨16, .guard⟩ (by simp) rfl _ _ rfl rfl
                        have hwd := hgd 16 false rfl _ _ rfl rfl false h8
                        clear hdep hgd
                        have x0 := (hI.cell (p := ⟨bo, offo + k, none⟩) hbo).trans eo
                        refine ⟨fun _ => .inl ?_, fun hw => (by rw [hwd] at hw; cases hw)⟩
                        clear h8 hwd
                        clear hI
                        generalize aq.eval = ρ at *
                        simp [go_sem, d19, x0]
                      · injection ho with ho
                        subst ho
                        have h8 : aq.tmps.getD 111 undef = .bool false := hdep ⟨16, .guard⟩ (by simp) rfl _ _ rfl rfl
                        have hwd := hgd 16 false rfl _ _ rfl rfl false h8
                        clear hdep hgd
                        refine ⟨fun _ => .inl ?_, fun hw => (by rw [hwd] at hw; cases hw)⟩
                        clear h8 hwd
                        clear hI
                        generalize aq.eval = ρ at *
                        simp [go_sem, r5]
                      · injection ho with ho
                        subst ho
                        have h8 : aq.tmps.getD 111 undef = .bool false := hdep ⟨16, .guard⟩ (by simp) rfl _ _ rfl rfl
                        have hwd := hgd 16 false rfl _ _ rfl rfl false h8
                        clear hdep hgd
                        refine ⟨fun _ => .inl ?_, fun hw => (by rw [hwd] at hw; cases hw)⟩
                        clear h8 hwd
                        clear hI
                        generalize aq.eval = ρ at *
                        simp [go_sem, r13]
                      · injection ho with ho
                        subst ho
                        have d21 : aq.eval (.tmp 116) = .slice (some ⟨br, offr, none⟩) rows.length cr := hdep ⟨21, .data⟩ (by simp) rfl _ _ rfl rfl
                        have d22 : aq.eval (.tmp 117) = .int .i64 (i : Int) := hdep ⟨22, .data⟩ (by simp) rfl _ _ rfl rfl
                        have h8 : aq.tmps.getD 111 undef = .bool false := hdep ⟨16, .guard⟩ (by simp) rfl _ _ rfl rfl
                        have hwd := hgd 16 false rfl _ _ rfl rfl false h8
                        clear hdep hgd
                        refine ⟨fun _ => .inl ?_, fun hw => (by rw [hwd] at hw; cases hw)⟩
                        clear h8 hwd
                        clear hI
                        generalize aq.eval = ρ at *
                        simp [go_sem, d21, d22, hir]
                      · injection ho with ho
                        subst ho
                        have d23 : aq.eval (.tmp 118) = .pointer (some ⟨br, offr + i, none⟩) := hdep ⟨23, .data⟩ (by simp) rfl _ _ rfl rfl
                        have h8 : aq.tmps.getD 111 undef = .bool false := hdep ⟨16, .guard⟩ (by simp) rfl _ _ rfl rfl
                        have hwd := hgd 16 false rfl _ _ rfl rfl false h8
                        clear hdep hgd
                        have x0 := (hI.cell (p := ⟨br, offr + i, none⟩) hbr).trans er
                        refine ⟨fun _ => .inl ?_, fun hw => (by rw [hwd] at hw; cases hw)⟩
                        clear h8 hwd
                        clear hI
                        generalize aq.eval = ρ at *
                        simp [go_sem, d23, x0]
                      · injection ho with ho
                        subst ho
                        have d24 : aq.eval (.tmp 119) = .slice (some ⟨bq, offq, none⟩) ls.length ci := hdep ⟨24, .data⟩ (by simp) rfl _ _ rfl rfl
                        have h8 : aq.tmps.getD 111 undef = .bool false := hdep ⟨16, .guard⟩ (by simp) rfl _ _ rfl rfl
                        have hwd := hgd 16 false rfl _ _ rfl rfl false h8
                        clear hdep hgd
                        refine ⟨fun _ => .inl ?_, fun hw => (by rw [hwd] at hw; cases hw)⟩
                        clear h8 hwd
                        clear hI
                        generalize aq.eval = ρ at *
                        simp [go_sem, d24]
                      · injection ho with ho
                        subst ho
                        have d20 : aq.eval (.tmp 115) = .int .i64 (x : Int) := hdep ⟨20, .data⟩ (by simp) rfl _ _ rfl rfl
                        have d25 : aq.eval (.tmp 120) = .int .i64 (ls.length : Int) := hdep ⟨25, .data⟩ (by simp) rfl _ _ rfl rfl
                        have h8 : aq.tmps.getD 111 undef = .bool false := hdep ⟨16, .guard⟩ (by simp) rfl _ _ rfl rfl
                        have hwd := hgd 16 false rfl _ _ rfl rfl false h8
                        clear hdep hgd
                        refine ⟨fun _ => .inl ?_, fun hw => (by rw [hwd] at hw; cases hw)⟩
                        clear h8 hwd
                        clear hI
                        generalize aq.eval = ρ at *
                        simp [go_sem, d20, d25, hxl]
                      · injection ho with ho
                        subst ho
                        have d16 : aq.eval (.tmp 111) = .bool false := hdep ⟨16, .data⟩ (by simp) rfl _ _ rfl rfl
                        have d26 : aq.eval (.tmp 121) = .bool false := hdep ⟨26, .data⟩ (by simp) rfl _ _ rfl rfl
                        clear hdep hgd
                        refine ⟨fun _ => .inl ?_, fun hw => (by simp [Region.wanted] at hw)⟩
                        clear hI
                        generalize aq.eval = ρ at *
                        simp [go_sem, d16, d26]
                      · injection ho with ho
                        subst ho
                        have d27 : aq.eval (.tmp 122) = .bool false := hdep ⟨27, .data⟩ (by simp) rfl _ _ rfl rfl
                        clear hdep hgd
                        refine ⟨fun _ => .inl ?_, fun hw => (by simp [Region.wanted] at hw)⟩
                        clear hI
                        generalize aq.eval = ρ at *
                        simp [go_sem, d27]
                      · injection ho with ho
                        subst ho
                        have h8 : aq.tmps.getD 123 undef = .bool false := hdep ⟨28, .guard⟩ (by simp) rfl _ _ rfl rfl
                        have hwd := hgd 28 false rfl _ _ rfl rfl false h8
                        clear hdep hgd
                        refine ⟨fun _ => .inl ?_, fun hw => (by rw [hwd] at hw; cases hw)⟩
                        clear h8 hwd
                        clear hI
                        generalize aq.eval = ρ at *
                        simp [go_sem, r13]
                      · injection ho with ho
                        subst ho
                        have h8 : aq.tmps.getD 123 undef = .bool false := hdep ⟨28, .guard⟩ (by simp) rfl _ _ rfl rfl
                        have hwd := hgd 28 false rfl _ _ rfl rfl false h8
                        clear hdep hgd
                        refine ⟨fun _ => .inl ?_, fun hw => (by rw [hwd] at hw; cases hw)⟩
                        clear h8 hwd
                        clear hI
                        generalize aq.eval = ρ at *
                        simp [go_sem, r14]
                      · injection ho with ho
                        subst ho
                        have d29 : aq.eval (.tmp 124) = .int .i64 (i : Int) := hdep ⟨29, .data⟩ (by simp) rfl _ _ rfl rfl
                        have d30 : aq.eval (.tmp 125) = .int .i64 (k : Int) := hdep ⟨30, .data⟩ (by simp) rfl _ _ rfl rfl
                        have h8 : aq.tmps.getD 123 undef = .bool false := hdep ⟨28, .guard⟩ (by simp) rfl _ _ rfl rfl
                        have hwd := hgd 28 false rfl _ _ rfl rfl false h8
                        clear hdep hgd
                        refine ⟨fun _ => .inl ?_, fun hw => (by rw [hwd] at hw; cases hw)⟩
                        clear h8 hwd
                        clear hI
                        generalize aq.eval = ρ at *
                        simp [go_sem, d29, d30, hik2]
                      · injection ho with ho
                        subst ho
                        have d31 : aq.eval (.tmp 126) = .bool false := hdep ⟨31, .data⟩ (by simp) rfl _ _ rfl rfl
                        have h8 : aq.tmps.getD 123 undef = .bool false := hdep ⟨28, .guard⟩ (by simp) rfl _ _ rfl rfl
                        have hwd := hgd 28 false rfl _ _ rfl rfl false h8
                        clear hdep hgd
                        refine ⟨fun _ => .inl ?_, fun hw => (by rw [hwd] at hw; cases hw)⟩
                        clear h8 hwd
                        clear hI
                        generalize aq.eval = ρ at *
                        simp [go_sem, d31]
                      · injection ho with ho
                        subst ho
                        have h8 : aq.tmps.getD 127 undef = .bool false := hdep ⟨32, .guard⟩ (by simp) rfl _ _ rfl rfl
                        have hwd := hgd 32 true rfl _ _ rfl rfl false h8
                        exact ⟨fun hw => (by rw [hwd] at hw; cases hw), fun _ => rfl⟩
                      · injection ho with ho
                        subst ho
                        have h8 : aq.tmps.getD 127 undef = .bool false := hdep ⟨32, .guard⟩ (by simp) rfl _ _ rfl rfl
                        have hwd := hgd 32 true rfl _ _ rfl rfl false h8
                        exact ⟨fun hw => (by rw [hwd] at hw; cases hw), fun _ => rfl⟩
                      · injection ho with ho
                        subst ho
                        have h8 : aq.tmps.getD 127 undef = .bool false := hdep ⟨32, .guard⟩ (by simp) rfl _ _ rfl rfl
                        have hwd := hgd 32 true rfl _ _ rfl rfl false h8
                        exact ⟨fun hw => (by rw [hwd] at hw; cases hw), fun _ => rfl⟩
                      · injection ho with ho
                        subst ho
                        have h8 : aq.tmps.getD 127 undef = .bool false := hdep ⟨32, .guard⟩ (by simp) rfl _ _ rfl rfl
                        have hwd := hgd 32 true rfl _ _ rfl rfl false h8
                        exact ⟨fun hw => (by rw [hwd] at hw; cases hw), fun _ => rfl⟩
                      · injection ho with ho
                        subst ho
                        have h8 : aq.tmps.getD 127 undef = .bool false := hdep ⟨32, .guard⟩ (by simp) rfl _ _ rfl rfl
                        have hwd := hgd 32 true rfl _ _ rfl rfl false h8
                        exact ⟨fun hw => (by rw [hwd] at hw; cases hw), fun _ => rfl⟩
                      · injection ho with ho
                        subst ho
                        have h8 : aq.tmps.getD 127 undef = .bool false := hdep ⟨32, .guard⟩ (by simp) rfl _ _ rfl rfl
                        have hwd := hgd 32 true rfl _ _ rfl rfl false h8
                        exact ⟨fun hw => (by rw [hwd] at hw; cases hw), fun _ => rfl⟩
                      · injection ho with ho
                        subst ho
                        have h8 : aq.tmps.getD 127 undef = .bool false := hdep ⟨32, .guard⟩ (by simp) rfl _ _ rfl rfl
                        have hwd := hgd 32 true rfl _ _ rfl rfl false h8
                        exact ⟨fun hw => (by rw [hwd] at hw; cases hw), fun _ => rfl⟩
                      · injection ho with ho
                        subst ho
                        have h8 : aq.tmps.getD 127 undef = .bool false := hdep ⟨32, .guard⟩ (by simp) rfl _ _ rfl rfl
                        have hwd := hgd 32 true rfl _ _ rfl rfl false h8
                        exact ⟨fun hw => (by rw [hwd] at hw; cases hw), fun _ => rfl⟩
                      · injection ho with ho
                        subst ho
                        have h8 : aq.tmps.getD 127 undef = .bool false := hdep ⟨32, .guard⟩ (by simp) rfl _ _ rfl rfl
                        have hwd := hgd 32 true rfl _ _ rfl rfl false h8
                        exact ⟨fun hw => (by rw [hwd] at hw; cases hw), fun _ => rfl⟩
                      · injection ho with ho
                        subst ho
                        have h8 : aq.tmps.getD 127 undef = .bool false := hdep ⟨32, .guard⟩ (by simp) rfl _ _ rfl rfl
                        have hwd := hgd 32 true rfl _ _ rfl rfl false h8
                        exact ⟨fun hw => (by rw [hwd] at hw; cases hw), fun _ => rfl⟩
                      · injection ho with ho
                        subst ho
                        have h8 : aq.tmps.getD 127 undef = .bool false := hdep ⟨32, .guard⟩ (by simp) rfl _ _ rfl rfl
                        have hwd := hgd 32 true rfl _ _ rfl rfl false h8
                        exact ⟨fun hw => (by rw [hwd] at hw; cases hw), fun _ => rfl⟩
                      · injection ho with ho
                        subst ho
                        have d32 : aq.eval (.tmp 127) = .bool false := hdep ⟨32, .data⟩ (by simp) rfl _ _ rfl rfl
                        have h8 : aq.tmps.getD 123 undef = .bool false := hdep ⟨28, .guard⟩ (by simp) rfl _ _ rfl rfl
                        have hwd := hgd 28 false rfl _ _ rfl rfl false h8
                        clear hdep hgd
                        refine ⟨fun _ => .inl ?_, fun hw => (by rw [hwd] at hw; cases hw)⟩
                        clear h8 hwd
                        clear hI
                        generalize aq.eval = ρ at *
                        simp [go_sem, d32, hc]
                      · injection ho with ho
                        subst ho
                        have d28 : aq.eval (.tmp 123) = .bool false := hdep ⟨28, .data⟩ (by simp) rfl _ _ rfl rfl
                        have d44 : aq.eval (.tmp 139) = .bool false := hdep ⟨44, .data⟩ (by simp) rfl _ _ rfl rfl
                        clear hdep hgd
                        refine ⟨fun _ => .inl ?_, fun hw => (by simp [Region.wanted] at hw)⟩
                        clear hI
                        generalize aq.eval = ρ at *
                        simp [go_sem, d28, d44]
                      · injection ho with ho
                        subst ho
                        have d45 : aq.eval (.tmp 140) = .bool false := hdep ⟨45, .data⟩ (by simp) rfl _ _ rfl rfl
                        clear hdep hgd
                        refine ⟨fun _ => .inl ?_, fun hw => (by simp [Region.wanted] at hw)⟩
                        clear hI
                        generalize aq.eval = ρ at *
                        simp [go_sem, d45]
                      · injection ho with ho
                        subst ho
                        have h8 : aq.tmps.getD 141 undef = .bool false := hdep ⟨46, .guard⟩ (by simp) rfl _ _ rfl rfl
                        have hwd := hgd 46 false rfl _ _ rfl rfl false h8
                        clear hdep hgd
                        refine ⟨fun _ => .inl ?_, fun hw => (by rw [hwd] at hw; cases hw)⟩
                        clear h8 hwd
                        clear hI
                        generalize aq.eval = ρ at *
                        simp [go_sem, r13]
                      · injection ho with ho
                        subst ho
                        have h8 : aq.tmps.getD 141 undef = .bool false := hdep ⟨46, .guard⟩ (by simp) rfl _ _ rfl rfl
                        have hwd := hgd 46 false rfl _ _ rfl rfl false h8
                        clear hdep hgd
                        refine ⟨fun _ => .inl ?_, fun hw => (by rw [hwd] at hw; cases hw)⟩
                        clear h8 hwd
                        clear hI
                        generalize aq.eval = ρ at *
                        simp [go_sem, r14]
                      · injection ho with ho
                        subst ho
                        have d47 : aq.eval (.tmp 142) = .int .i64 (i : Int) := hdep ⟨47, .data⟩ (by simp) rfl _ _ rfl rfl
                        have d48 : aq.eval (.tmp 143) = .int .i64 (k : Int) := hdep ⟨48, .data⟩ (by simp) rfl _ _ rfl rfl
                        have h8 : aq.tmps.getD 141 undef = .bool false := hdep ⟨46, .guard⟩ (by simp) rfl _ _ rfl rfl
                        have hwd := hgd 46 false rfl _ _ rfl rfl false h8
                        clear hdep hgd
                        refine ⟨fun _ => .inl ?_, fun hw => (by rw [hwd] at hw; cases hw)⟩
                        clear h8 hwd
                        clear hI
                        generalize aq.eval = ρ at *
                        simp [go_sem, d47, d48, hik2]
                      · injection ho with ho
                        subst ho
                        have d49 : aq.eval (.tmp 144) = .bool true := hdep ⟨49, .data⟩ (by simp) rfl _ _ rfl rfl
                        have h8 : aq.tmps.getD 141 undef = .bool false := hdep ⟨46, .guard⟩ (by simp) rfl _ _ rfl rfl
                        have hwd := hgd 46 false rfl _ _ rfl rfl false h8
                        clear hdep hgd
                        refine ⟨fun _ => .inl ?_, fun hw => (by rw [hwd] at hw; cases hw)⟩
                        clear h8 hwd
                        clear hI
                        generalize aq.eval = ρ at *
                        simp [go_sem, d49]
                      · injection ho with ho
                        subst ho
                        have h8 : aq.tmps.getD 145 undef = .bool true := hdep ⟨50, .guard⟩ (by simp) rfl _ _ rfl rfl
                        have hwd := hgd 50 true rfl _ _ rfl rfl true h8
                        clear hdep hgd
                        refine ⟨fun _ => .inl ?_, fun hw => (by rw [hwd] at hw; cases hw)⟩
                        clear h8 hwd
                        clear hI
                        generalize aq.eval = ρ at *
                        simp [go_sem, r5]
                      · injection ho with ho
                        subst ho
                        have h8 : aq.tmps.getD 145 undef = .bool true := hdep ⟨50, .guard⟩ (by simp) rfl _ _ rfl rfl
                        have hwd := hgd 50 true rfl _ _ rfl rfl true h8
                        clear hdep hgd
                        refine ⟨fun _ => .inl ?_, fun hw => (by rw [hwd] at hw; cases hw)⟩
                        clear h8 hwd
                        clear hI
                        generalize aq.eval = ρ at *
                        simp [go_sem, r13]
                      · injection ho with ho
                        subst ho
                        have d51 : aq.eval (.tmp 146) = .slice (some ⟨br, offr, none⟩) rows.length cr := hdep ⟨51, .data⟩ (by simp) rfl _ _ rfl rfl
                        have d52 : aq.eval (.tmp 147) = .int .i64 (i : Int) := hdep ⟨52, .data⟩ (by simp) rfl _ _ rfl rfl
                        have h8 : aq.tmps.getD 145 undef = .bool true := hdep ⟨50, .guard⟩ (by simp) rfl _ _ rfl rfl
                        have hwd := hgd 50 true rfl _ _ rfl rfl true h8
                        clear hdep hgd
                        refine ⟨fun _ => .inl ?_, fun hw => (by rw [hwd] at hw; cases hw)⟩
                        clear h8 hwd
                        clear hI
                        generalize aq.eval = ρ at *
                        simp [go_sem, d51, d52, hir]
                      · injection ho with ho
                        subst ho
                        have d53 : aq.eval (.tmp 148) = .pointer (some ⟨br, offr + i, none⟩) := hdep ⟨53, .data⟩ (by simp) rfl _ _ rfl rfl
                        have h8 : aq.tmps.getD 145 undef = .bool true := hdep ⟨50, .guard⟩ (by simp) rfl _ _ rfl rfl
                        have hwd := hgd 50 true rfl _ _ rfl rfl true h8
                        clear hdep hgd
                        have x0 := (hI.cell (p := ⟨br, offr + i, none⟩) hbr).trans er
                        refine ⟨fun _ => .inl ?_, fun hw => (by rw [hwd] at hw; cases hw)⟩
                        clear h8 hwd
                        clear hI
                        generalize aq.eval = ρ at *
                        simp [go_sem, d53, x0]
                      · injection ho with ho
                        subst ho
                        have h8 : aq.tmps.getD 145 undef = .bool true := hdep ⟨50, .guard⟩ (by simp) rfl _ _ rfl rfl
                        have hwd := hgd 50 true rfl _ _ rfl rfl true h8
                        clear hdep hgd
                        refine ⟨fun _ => .inl ?_, fun hw => (by rw [hwd] at hw; cases hw)⟩
                        clear h8 hwd
                        clear hI
                        generalize aq.eval = ρ at *
                        simp [go_sem, r11]
                      · injection ho with ho
                        subst ho
                        have h8 : aq.tmps.getD 145 undef = .bool true := hdep ⟨50, .guard⟩ (by simp) rfl _ _ rfl rfl
                        have hwd := hgd 50 true rfl _ _ rfl rfl true h8
                        clear hdep hgd
                        refine ⟨fun _ => .inl ?_, fun hw => (by rw [hwd] at hw; cases hw)⟩
                        clear h8 hwd
                        clear hI
                        generalize aq.eval = ρ at *
                        simp [go_sem, r14]
                      · injection ho with ho
                        subst ho
                        have d55 : aq.eval (.tmp 150) = .slice (some ⟨bo, offo, none⟩) own.length c11 := hdep ⟨55, .data⟩ (by simp) rfl _ _ rfl rfl
                        have d56 : aq.eval (.tmp 151) = .int .i64 (k : Int) := hdep ⟨56, .data⟩ (by simp) rfl _ _ rfl rfl
                        have h8 : aq.tmps.getD 145 undef = .bool true := hdep ⟨50, .guard⟩ (by simp) rfl _ _ rfl rfl
                        have hwd := hgd 50 true rfl _ _ rfl rfl true h8
                        clear hdep hgd
                        refine ⟨fun _ => .inl ?_, fun hw => (by rw [hwd] at hw; cases hw)⟩
                        clear h8 hwd
                        clear hI
                        generalize aq.eval = ρ at *
                        simp [go_sem, d55, d56, hko]
                      · injection ho with ho
                        subst ho
                        have d57 : aq.eval (.tmp 152) = .pointer (some ⟨bo, offo + k, none⟩) := hdep ⟨57, .data⟩ (by simp) rfl _ _ rfl rfl
                        have h8 : aq.tmps.getD 145 undef = .bool true := hdep ⟨50, .guard⟩ (by simp) rfl _ _ rfl rfl
                        have hwd := hgd 50 true rfl _ _ rfl rfl true h8
                        clear hdep hgd
                        have x0 := (hI.cell (p := ⟨bo, offo + k, none⟩) hbo).trans eo
                        refine ⟨fun _ => .inl ?_, fun hw => (by rw [hwd] at hw; cases hw)⟩
                        clear h8 hwd
                        clear hI
                        generalize aq.eval = ρ at *
                        simp [go_sem, d57, x0]
                      · injection ho with ho
                        subst ho
                        have d54 : aq.eval (.tmp 149) = .slice (some ⟨bq, offq, none⟩) ls.length ci := hdep ⟨54, .data⟩ (by simp) rfl _ _ rfl rfl
                        have d58 : aq.eval (.tmp 153) = .int .i64 (x : Int) := hdep ⟨58, .data⟩ (by simp) rfl _ _ rfl rfl
                        have h8 : aq.tmps.getD 145 undef = .bool true := hdep ⟨50, .guard⟩ (by simp) rfl _ _ rfl rfl
                        have hwd := hgd 50 true rfl _ _ rfl rfl true h8
                        clear hdep hgd
                        refine ⟨fun _ => .inl ?_, fun hw => (by rw [hwd] at hw; cases hw)⟩
                        clear h8 hwd
                        clear hI
                        generalize aq.eval = ρ at *
                        simp [go_sem, d54, d58, hxl]
                      · injection ho with ho
                        subst ho
                        have d59 : aq.eval (.tmp 154) = .pointer (some ⟨bq, offq + x, none⟩) := hdep ⟨59, .data⟩ (by simp) rfl _ _ rfl rfl
                        have h8 : aq.tmps.getD 145 undef = .bool true := hdep ⟨50, .guard⟩ (by simp) rfl _ _ rfl rfl
                        have hwd := hgd 50 true rfl _ _ rfl rfl true h8
                        clear hdep hgd
                        have x0 := (hI.cell (p := ⟨bq, offq + x, none⟩) hbq).trans ex
                        refine ⟨fun _ => .inl ?_, fun hw => (by rw [hwd] at hw; cases hw)⟩
                        clear h8 hwd
                        clear hI
                        generalize aq.eval = ρ at *
                        simp [go_sem, d59, x0]
                      · injection ho with ho
                        subst ho
                        have d60 : aq.eval (.tmp 155) = .int .i64 0 := hdep ⟨60, .data⟩ (by simp) rfl _ _ rfl rfl
                        have h8 : aq.tmps.getD 145 undef = .bool true := hdep ⟨50, .guard⟩ (by simp) rfl _ _ rfl rfl
                        have hwd := hgd 50 true rfl _ _ rfl rfl true h8
                        clear hdep hgd
                        refine ⟨fun _ => .inl ?_, fun hw => (by rw [hwd] at hw; cases hw)⟩
                        clear h8 hwd
                        clear hI
                        generalize aq.eval = ρ at *
                        simp [go_sem, d60, hc]
                      · injection ho with ho
                        subst ho
                        have d50 : aq.eval (.tmp 145) = .bool true := hdep ⟨50, .data⟩ (by simp) rfl _ _ rfl rfl
                        have d61 : aq.eval (.tmp 156) = .bool false := hdep ⟨61, .data⟩ (by simp) rfl _ _ rfl rfl
                        have h8 : aq.tmps.getD 141 undef = .bool false := hdep ⟨46, .guard⟩ (by simp) rfl _ _ rfl rfl
                        have hwd := hgd 46 false rfl _ _ rfl rfl false h8
                        clear hdep hgd
                        refine ⟨fun _ => .inl ?_, fun hw => (by rw [hwd] at hw; cases hw)⟩
                        clear h8 hwd
                        clear hI
                        generalize aq.eval = ρ at *
                        simp [go_sem, d50, d61]
                      · injection ho with ho
                        subst ho
                        have d46 : aq.eval (.tmp 141) = .bool false := hdep ⟨46, .data⟩ (by simp) rfl _ _ rfl rfl
                        have d62 : aq.eval (.tmp 157) = .bool false := hdep ⟨62, .data⟩ (by simp) rfl _ _ rfl rfl
                        clear hdep hgd
                        refine ⟨fun _ => .inl ?_, fun hw => (by simp [Region.wanted] at hw)⟩
                        clear hI
                        generalize aq.eval = ρ at *
                        simp [go_sem, d46, d62]
                      · simp at ho
                    intro wx hb
                    simp only [putAll, Act.put, List.setIfInBounds_toArray, List.set_cons_zero, List.set_cons_succ, Nat.reduceAdd]
                    go_wp2_with fail
                    go_roundg g2
                    case measure => omega
                    case rel => exact ⟨k + 1, by have := HG2.out; omega, by go_num, HBZ.out.trans (hb.mono HBZ.out.size)⟩
        | succ g =>
          have hk : k < sv.length := by omega
          have HG := Lib.hid hkg
          clear hkg
          obtain ⟨bi, offi, rfl, hbi, hci⟩ := HIi.out (by omega)
          have ei := (HBX.out.cell (p := ⟨bi, offi + k, none⟩) hbi).trans (hci k hk)
          have HTK := Lib.hid (own_take sv tl k hk)
          have hfl : ((sv.take k).filter (fun x => !hasB tl x)).length ≤ 1000000 := by
            have h := List.length_filter_le (fun x => !hasB tl x) (sv.take k)
            rw [List.length_take] at h
            omega
          have kh := has16_any At ct tl (sv.getD k 0) wr wr.heap.size (HIt.out.upto HBX.out) (by omega)
          generalize (sv.take k).filter (fun x => !hasB tl x) = fl at *
          generalize sv.getD k 0 = y at *
          clear hci
          cases hh : hasB tl y with
          | true =>
            rw [hh] at kh
            have HST := Lib.hid (HTK.out.trans (by rw [if_pos hh]))
            have HROW := Lib.hid hrow
            have KH := Lib.hid kh
            clear HTK hrow kh hh
            go_wp2_with fail
            refine KH.out.mono ?_
            rintro e w' ⟨rfl, rfl⟩
            go_wp2_with fail
            go_roundg g
            case measure => omega
            case rel => exact ⟨k + 1, by have := HG.out; omega, by go_num, by rw [HST.out]; exact HROW.out, HBX.out⟩
          | false =>
            rw [hh] at kh
            have HST := Lib.hid (HTK.out.trans (by rw [if_neg (by rw [hh]; simp)]))
            have KH := Lib.hid kh
            clear HTK kh hh
            go_wp2_with fail
            refine KH.out.mono ?_
            rintro e w' ⟨rfl, rfl⟩
            go_wp2_with (at_builtin; refine wpList_append_own _ rfl _ _ 25 rfl w7.heap.size 3 i0 (.int .i64 0) 1 8 Try.underlying25 hi0 hz0 hz1 hz2 rfl (by decide) _ _ _ rfl (hrow.alloc _) ⟨wr.heap.size, 0, none⟩ 1 1 [.int .i64 y] rfl rfl (cell_one_new _ _ _) (by simp [Value.oneCell']) (by unfold maxLen; omega) (by omega) (by simp; omega) ?_; intro v' w9 hown' hgrow _)
            have hb2 := below_append hrow hsx hgrow
            have HOWN := Lib.hid hown'
            clear hgrow hrow hown'
            go_wp2_with fail
            go_roundg g
            case measure => omega
            case rel => exact ⟨k + 1, by have := HG.out; omega, by go_num, by rw [HST.out]; simpa using HOWN.out, HBX.out.trans hb2⟩
    · have b1 : (outsE nb ls out != 0) = true := by rw [bne_iff_ne]; exact he
      generalize outsE nb ls out = er at *
      have KO := Lib.hid ko
      clear ko he
      have HB0 := Lib.hid (Below.refl w.heap.size w)
      go_enter Try.func10, Try.ntmps10
      go_wp2_with fail
      have hb := below_alloc2 w (.cells #[.int .i64 nb, .slice A ls.length c] 24) (.cells #[.slice O out.length co] 25)
      have q0 : ((w.alloc (.cells #[.int .i64 nb, .slice A ls.length c] 24)).alloc (.cells #[.slice O out.length co] 25)).cell? ⟨w.heap.size, 0, none⟩ = some (.int .i64 nb) := by simp
      have q1 : ((w.alloc (.cells #[.int .i64 nb, .slice A ls.length c] 24)).alloc (.cells #[.slice O out.length co] 25)).cell? ⟨w.heap.size, 1, none⟩ = some (.slice A ls.length c) := by simp
      have hz : w.heap.size < ((w.alloc (.cells #[.int .i64 nb, .slice A ls.length c] 24)).alloc (.cells #[.slice O out.length co] 25)).heap.size := by simp; omega
      have HB1 := Lib.hid (HB0.out.trans (hb.mono HB0.out.size))
      clear HB0
      replace HL := Lib.hid (HL.out.upto hb)
      replace HO := Lib.hid (HO.out.upto hb)
      clear hb
      refine (KL.out (w.alloc (.cells #[.int .i64 nb, .slice A ls.length c] 24)) _ (by simp)).mono ?_
      rintro e w2 ⟨rfl, hb⟩
      rw [← World.size_alloc (w.alloc (.cells #[.int .i64 nb, .slice A ls.length c] 24)) (.cells #[.slice O out.length co] 25)] at hb
      have HB2 := Lib.hid (HB1.out.trans (hb.mono HB1.out.size))
      clear HB1
      replace HL := Lib.hid (HL.out.upto hb)
      replace HO := Lib.hid (HO.out.upto hb)
      replace q0 := (hb.cell (p := ⟨w.heap.size, 0, none⟩) hz).trans q0
      replace q1 := (hb.cell (p := ⟨w.heap.size, 1, none⟩) hz).trans q1
      replace hz : w.heap.size < w2.heap.size := Nat.lt_of_lt_of_le hz hb.size
      clear hb
      go_wp2_with fail
      refine (awake16_any _).mono ?_
      rintro e w3 ⟨rfl, hb⟩
      have HB3 := Lib.hid (HB2.out.trans (hb.mono HB2.out.size))
      clear HB2
      replace HL := Lib.hid (HL.out.upto hb)
      replace HO := Lib.hid (HO.out.upto hb)
      replace q0 := (hb.cell (p := ⟨w.heap.size, 0, none⟩) hz).trans q0
      replace q1 := (hb.cell (p := ⟨w.heap.size, 1, none⟩) hz).trans q1
      replace hz : w.heap.size < w3.heap.size := Nat.lt_of_lt_of_le hz hb.size
      clear hb
      go_wp2_with fail
      refine (KO.out _ HL.out HO.out).mono ?_
      rintro e w4 ⟨rfl, hb⟩
      have HB4 := Lib.hid (HB3.out.trans (hb.mono HB3.out.size))
      clear HB3
      replace HL := Lib.hid (HL.out.upto hb)
      replace HO := Lib.hid (HO.out.upto hb)
      replace q0 := (hb.cell (p := ⟨w.heap.size, 0, none⟩) hz).trans q0
      replace q1 := (hb.cell (p := ⟨w.heap.size, 1, none⟩) hz).trans q1
      replace hz : w.heap.size < w4.heap.size := Nat.lt_of_lt_of_le hz hb.size
      clear hb
      go_wp2_with fail
      refine (awake16_any _).mono ?_
      rintro e w5 ⟨rfl, hb⟩
      have HB5 := Lib.hid (HB4.out.trans (hb.mono HB4.out.size))
      clear HB4
      replace HL := Lib.hid (HL.out.upto hb)
      replace HO := Lib.hid (HO.out.upto hb)
      replace q0 := (hb.cell (p := ⟨w.heap.size, 0, none⟩) hz).trans q0
      replace q1 := (hb.cell (p := ⟨w.heap.size, 1, none⟩) hz).trans q1
      replace hz : w.heap.size < w5.heap.size := Nat.lt_of_lt_of_le hz hb.size
      clear hb
      go_wp2_with fail
      go_ret
      exact ⟨rfl, HB5.out⟩
end Go.Proofs.Ytmojjfdamdgegaa
