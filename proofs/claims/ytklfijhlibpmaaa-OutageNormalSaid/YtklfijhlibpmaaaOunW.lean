/- OutageUnion: the walk. -/
import Derived.Test.YtklfijhlibpmaaaOgL
namespace Go.Proofs.Ytklfijhlibpmaaa
open Go.RowKit
set_option linter.unusedVariables false
set_option maxRecDepth 100000

theorem row_append {w : World} {base : Nat} {v : Value} {l m k : List Og} (e : k = l ++ m) (h : w.ownsRow base 27 4 v (l.length + m.length) (ogCells l ++ ogCells m)) : w.ownsRow base 27 4 v k.length (ogCells k) := by
  rw [e, ogCells_append, List.length_append]; exact h
set_option maxHeartbeats 16000000 in
theorem oun_walk (A0 : Option Addr) (c0 : Nat) (l : List Og) (A1 : Option Addr) (c1 : Nat) (m : List Og) (h : Int) (W : World) (hcap : l.length ≤ c0) (hl : OgsR W W.heap.size A0 l) (hbd : OgBs l) (hcap1 : m.length ≤ c1) (hl1 : OgsR W W.heap.size A1 m) (hbd1 : OgBs m) (hlo : -9223372036854775808 ≤ h) (hhi : h ≤ 9223372036854775807) :
    Calls Try.prog 5 #[.slice A0 l.length c0, .slice A1 m.length c1, .int .i64 h] W fun e w' => e = .returned (.bool true) ∧ Below W.heap.size W w' := by
  have HL := Lib.hid hl
  have HM := Lib.hid hl1
  clear hl hbd hlo hhi hcap hl1 hbd1 hcap1
  have HB0 := Lib.hid (Below.refl W.heap.size W)
  obtain ⟨i0, hi, hz0, hz1, hz2⟩ := info_parts info_og
  by_cases h100 : 100 < l.length
  · have b2 : decide ((100 : Int) < l.length) = true := by simp; omega
    go_enter Try.func5, Try.ntmps5
    go_wp2_with (go_at_call 8; refine (awake_any _).mono ?_; rintro e w1 ⟨rfl, hb⟩)
    go_ret
    exact ⟨rfl, hb⟩
  have b2 : decide ((100 : Int) < l.length) = false := by simp; omega
  by_cases h101 : 100 < m.length
  · have b3 : decide ((100 : Int) < m.length) = true := by simp; omega
    go_enter Try.func5, Try.ntmps5
    go_wp2_with (go_at_call 8; refine (awake_any _).mono ?_; rintro e w1 ⟨rfl, hb⟩)
    go_ret
    exact ⟨rfl, hb⟩
  have b3 : decide ((100 : Int) < m.length) = false := by simp; omega
  obtain ⟨lm, elm⟩ : ∃ x, x = l ++ m := ⟨_, rfl⟩
  obtain ⟨ml, eml⟩ : ∃ x, x = m ++ l := ⟨_, rfl⟩
  have nlm : lm.length ≤ 200 := by rw [elm]; simp; omega
  have nml : ml.length ≤ 200 := by rw [eml]; simp; omega
  have ELM := Lib.hid elm
  have EML := Lib.hid eml
  clear elm eml
  go_enter Try.func5, Try.ntmps5
  go_wp2_with fail
  refine (awake_any _).mono ?_
  rintro e w1 ⟨rfl, hb⟩
  replace HL := Lib.hid (HL.out.upto hb)
  replace HM := Lib.hid (HM.out.upto hb)
  have HB1 := Lib.hid (HB0.out.trans (hb.mono HB0.out.size))
  clear hb HB0
  go_wp2_with fail
  refine (own_any A0 c0 l w1 HL.out (by omega)).mono ?_
  rintro e w2 ⟨v1, rfl, hown1, hb⟩
  have HO1 := Lib.hid hown1
  have HW12 := Lib.hid hb
  clear hb hown1
  go_wp2_with (at_builtin; refine wpList_append_any _ rfl (.tmp 31) (.tmp 32) _ rfl w1.heap.size 27 i0 _ 4 32 Try.underlying22 hi hz0 hz1 hz2 rfl (by omega) v1 l.length (ogCells l) rfl HO1.out A1 m.length c1 (ogCells m) rfl (HM.out.upto HW12.out).toSrc (one_ogs _) (by simp only [maxLen]; omega) (by omega) HW12.out.size ?_; intro v2 w3 hown2 hg2 _; have HO2 := Lib.hid (row_append ELM.out hown2); have HW13 := Lib.hid (below_of_row HW12.out HO1.out (Nat.le_refl _) hg2 HW12.out.size); clear hown2 hg2)
  have hl3 : OgsR w3 w3.heap.size A0 l := HL.out.upto HW13.out
  have hm3 : OgsR w3 w3.heap.size A1 m := HM.out.upto HW13.out
  obtain ⟨Alm, clm, rfl, hlm⟩ := ownsRow_ogs HO2.out
  have HLM := Lib.hid hlm
  replace HL := Lib.hid hl3
  replace HM := Lib.hid hm3
  have HB3 := Lib.hid (HB1.out.trans (HW13.out.mono HB1.out.size))
  clear hl3 hm3 hlm HO2 HO1 HW12 HW13 HB1
  refine (own_any A1 c1 m w3 HM.out (by omega)).mono ?_
  rintro e w4 ⟨v3, rfl, hown3, hb⟩
  have HL4 := Lib.hid (HL.out.upto hb)
  have HO3 := Lib.hid hown3
  have HW34 := Lib.hid hb
  clear hb hown3
  go_wp2_with (at_builtin; refine wpList_append_any _ rfl (.tmp 35) (.tmp 36) _ rfl w3.heap.size 27 i0 _ 4 32 Try.underlying22 hi hz0 hz1 hz2 rfl (by omega) v3 m.length (ogCells m) rfl HO3.out A0 l.length c0 (ogCells l) rfl HL4.out.toSrc (one_ogs _) (by simp only [maxLen]; omega) (by omega) HW34.out.size ?_; intro v4 w5 hown4 hg4 _; have HO4 := Lib.hid (row_append EML.out hown4); have HW35 := Lib.hid (below_of_row HW34.out HO3.out (Nat.le_refl _) hg4 HW34.out.size); clear hown4 hg4)
  obtain ⟨Aml, cml, rfl, hml⟩ := ownsRow_ogs HO4.out
  have HML := Lib.hid hml
  replace HL := Lib.hid (HL.out.upto HW35.out)
  replace HM := Lib.hid (HM.out.upto HW35.out)
  replace HLM := Lib.hid (HLM.out.upto HW35.out)
  have HB5 := Lib.hid (HB3.out.trans (HW35.out.mono HB3.out.size))
  clear hml HO4 HO3 HL4 HW34 HW35 HB3
  go_loopg [6, 9, 10, 11, 12, 13, 14, 15, 16] 3 (fun g s6 i s10 s11 s12 s13 s14 s15 s16 wr => ∃ kk : Nat, kk + g = 3 ∧ i = .int .i64 kk ∧ Below w5.heap.size w5 wr)
  case atStart => exact ⟨0, by omega, rfl, Below.refl _ _⟩
  case round =>
    obtain ⟨kk, hkg, rfl, hb⟩ := hrel
    have HBO := Lib.hid hb
    clear hb
    cases gk with
    | zero =>
      obtain rfl : kk = 3 := by omega
      clear hkg
      go_wp2_with fail
      go_ret
      exact ⟨rfl, HB5.out.trans (HBO.out.mono HB5.out.size)⟩
    | succ g =>
      have hk3 : kk < 3 := by omega
      have hk3' : decide ((kk : Int) < 3) = true := by simp; omega
      have HG := Lib.hid hkg
      clear hkg
      have e1 : affL (kindsOf (kk : Int)) ml h = affL (kindsOf (kk : Int)) lm h := affL_same (ogSame_of_mem fun x => by rw [EML.out, ELM.out]; simp [or_comm]) _ _
      have hap := fun x => affL_append (kindsOf (kk : Int)) l m h x
      rw [← ELM.out] at hap
      have HXU := Lib.hid (fun x => (hap x).1)
      have HAX := Lib.hid (fun x hx => (hap x).2 (.inl hx))
      have HBX2 := Lib.hid (fun x hx => (hap x).2 (.inr hx))
      clear hap
      have S1 := Lib.hid (fun w hl => set_any (kk : Int) A0 c0 l h w hl (by omega))
      have S2 := Lib.hid (fun w hl => set_any (kk : Int) A1 c1 m h w hl (by omega))
      have S3 := Lib.hid (fun w hl => set_any (kk : Int) Alm clm lm h w hl (by omega))
      have S4 := Lib.hid (fun w hl => set_any (kk : Int) Aml cml ml h w hl (by omega))
      rw [e1] at S4
      have q1 := affL_length (kindsOf (kk : Int)) l h
      have q2 := affL_length (kindsOf (kk : Int)) m h
      have q3 := affL_length (kindsOf (kk : Int)) lm h
      clear e1
      generalize affL (kindsOf (kk : Int)) l h = la at *
      generalize affL (kindsOf (kk : Int)) m h = lb at *
      generalize affL (kindsOf (kk : Int)) lm h = lx at *
      go_wp2_with fail
      refine (S1.out _ (HL.out.upto HBO.out)).mono ?_
      rintro e wa ⟨v, rfl, hown, hb⟩
      obtain ⟨Aa, ca, rfl, hI⟩ := ownsRow_ints hown
      have HA := Lib.hid hI
      have HBa := Lib.hid hb
      clear hb hown hI
      go_wp2_with fail
      refine (S2.out _ (HM.out.upto (HBO.out.trans (HBa.out.mono HBO.out.size)))).mono ?_
      rintro e wb ⟨v, rfl, hown, hb⟩
      obtain ⟨Ab, cb, rfl, hI⟩ := ownsRow_ints hown
      have HBb := Lib.hid hI
      replace HA := Lib.hid (HA.out.upto hb)
      replace HBa := Lib.hid (HBa.out.trans (hb.mono HBa.out.size))
      clear hb hown hI
      go_wp2_with fail
      refine (S3.out _ (HLM.out.upto (HBO.out.trans (HBa.out.mono HBO.out.size)))).mono ?_
      rintro e wc ⟨v, rfl, hown, hb⟩
      obtain ⟨Ax, cx, rfl, hI⟩ := ownsRow_ints hown
      have HX := Lib.hid hI
      replace HA := Lib.hid (HA.out.upto hb)
      replace HBb := Lib.hid (HBb.out.upto hb)
      replace HBa := Lib.hid (HBa.out.trans (hb.mono HBa.out.size))
      clear hb hown hI
      go_wp2_with fail
      refine (S4.out _ (HML.out.upto (HBO.out.trans (HBa.out.mono HBO.out.size)))).mono ?_
      rintro e wd ⟨v, rfl, hown, hb⟩
      obtain ⟨Ay, cy, rfl, hI⟩ := ownsRow_ints hown
      have HY := Lib.hid hI
      replace HA := Lib.hid (HA.out.upto hb)
      replace HBb := Lib.hid (HBb.out.upto hb)
      replace HX := Lib.hid (HX.out.upto hb)
      replace HBa := Lib.hid (HBa.out.trans (hb.mono HBa.out.size))
      clear hb hown hI
      go_wp2_with fail
      refine (ints_same Ax Ay cx cy lx wd HX.out HY.out (by omega)).mono ?_
      rintro e w7 ⟨rfl, hb⟩
      replace HA := Lib.hid (HA.out.upto hb)
      replace HBb := Lib.hid (HBb.out.upto hb)
      replace HX := Lib.hid (HX.out.upto hb)
      have HBX := Lib.hid (HBa.out.trans (hb.mono HBa.out.size))
      have HBQ := Lib.hid (Below.refl w7.heap.size w7)
      clear hb HY HBa S1 S2 S3 S4
      go_wp2_with fail
      go_loopg [6, 14] lx.length (fun g s6 i wr => ∃ k : Nat, k + g = lx.length ∧ i = .int .i64 k ∧ Below w7.heap.size w7 wr)
      case atStart => exact ⟨0, by omega, rfl, HBQ.out⟩
      case round =>
        clear HBQ
        obtain ⟨k, hkg, rfl, hb⟩ := hrel
        have HBQ := Lib.hid hb
        clear hb
        cases gk with
        | zero =>
          obtain rfl : k = lx.length := by omega
          clear hkg
          go_wp2_with fail
          go_loopg [6, 15] la.length (fun g s6 i wr => ∃ k : Nat, k + g = la.length ∧ i = .int .i64 k ∧ Below w7.heap.size w7 wr)
          case atStart => exact ⟨0, by omega, rfl, HBQ.out⟩
          case round =>
            clear HBQ
            obtain ⟨k, hkg, rfl, hb⟩ := hrel
            have HBQ := Lib.hid hb
            clear hb
            cases gk with
            | zero =>
              obtain rfl : k = la.length := by omega
              clear hkg
              go_wp2_with fail
              go_loopg [6, 16] lb.length (fun g s6 i wr => ∃ k : Nat, k + g = lb.length ∧ i = .int .i64 k ∧ Below w7.heap.size w7 wr)
              case atStart => exact ⟨0, by omega, rfl, HBQ.out⟩
              case round =>
                clear HBQ
                obtain ⟨k, hkg, rfl, hb⟩ := hrel
                have HBQ := Lib.hid hb
                clear hb
                cases gk with
                | zero =>
                  obtain rfl : k = lb.length := by omega
                  clear hkg
                  go_wp2_with fail
                  go_roundg g
                  case measure => omega
                  case rel => exact ⟨kk + 1, by have := HG.out; omega, by go_num, HBO.out.trans ((HBX.out.trans (HBQ.out.mono HBX.out.size)).mono HBO.out.size)⟩
                | succ g4 =>
                  have hk : k < lb.length := by omega
                  have HG2 := Lib.hid hkg
                  clear hkg
                  have hA1 := HBb.out.upto HBQ.out
                  obtain ⟨ba, offa, hAe, hba, hca⟩ := hA1 (by omega)
                  subst hAe
                  have f0 := hca k hk
                  have hmem : lb.getD k 0 ∈ lb := by rw [getD_eq lb k 0 hk]; exact List.getElem_mem hk
                  clear hca hA1
                  generalize lb.getD k 0 = x at *
                  have HC := Lib.hid (lawhas_any Ax cx lx x wr (HX.out.upto HBQ.out) (by omega))
                  rw [(hasB_iff lx x).2 (HBX2.out x hmem)] at HC
                  go_wp2_with (go_at_call 15; refine HC.out.mono ?_; rintro e w8 ⟨rfl, hb⟩; have HB8 := Lib.hid (HBQ.out.trans (hb.mono HBQ.out.size)); clear hb)
                  go_roundg g4
                  case measure => omega
                  case rel => exact ⟨k + 1, by have := HG2.out; omega, by go_num, HB8.out⟩
            | succ g3 =>
              have hk : k < la.length := by omega
              have HG2 := Lib.hid hkg
              clear hkg
              have hA1 := HA.out.upto HBQ.out
              obtain ⟨ba, offa, hAe, hba, hca⟩ := hA1 (by omega)
              subst hAe
              have f0 := hca k hk
              have hmem : la.getD k 0 ∈ la := by rw [getD_eq la k 0 hk]; exact List.getElem_mem hk
              clear hca hA1
              generalize la.getD k 0 = x at *
              have HC := Lib.hid (lawhas_any Ax cx lx x wr (HX.out.upto HBQ.out) (by omega))
              rw [(hasB_iff lx x).2 (HAX.out x hmem)] at HC
              go_wp2_with (go_at_call 15; refine HC.out.mono ?_; rintro e w8 ⟨rfl, hb⟩; have HB8 := Lib.hid (HBQ.out.trans (hb.mono HBQ.out.size)); clear hb)
              go_roundg g3
              case measure => omega
              case rel => exact ⟨k + 1, by have := HG2.out; omega, by go_num, HB8.out⟩
        | succ g2 =>
          have hk : k < lx.length := by omega
          have HG2 := Lib.hid hkg
          clear hkg
          have hA1 := HX.out.upto HBQ.out
          obtain ⟨ba, offa, hAe, hba, hca⟩ := hA1 (by omega)
          subst hAe
          have f0 := hca k hk
          have hmem : lx.getD k 0 ∈ lx := by rw [getD_eq lx k 0 hk]; exact List.getElem_mem hk
          clear hca hA1
          generalize lx.getD k 0 = x at *
          have HC := Lib.hid (lawhas_any Aa ca la x wr (HA.out.upto HBQ.out) (by omega))
          by_cases hin : x ∈ la
          · rw [(hasB_iff la x).2 hin] at HC
            clear hin
            go_wp2_with (go_at_call 15; refine HC.out.mono ?_; rintro e w8 ⟨rfl, hb⟩; have HB8 := Lib.hid (HBQ.out.trans (hb.mono HBQ.out.size)); clear hb)
            go_roundg g2
            case measure => omega
            case rel => exact ⟨k + 1, by have := HG2.out; omega, by go_num, HB8.out⟩
          · have hf : hasB la x = false := by rw [Bool.eq_false_iff]; exact fun hh => hin ((hasB_iff la x).1 hh)
            rw [hf] at HC
            have hinb : hasB lb x = true := (hasB_iff lb x).2 ((HXU.out x hmem).resolve_left hin)
            clear hf hin
            go_wp2_with fail
            refine HC.out.mono ?_
            rintro e w8 ⟨rfl, hb⟩
            have HB8 := Lib.hid (HBQ.out.trans (hb.mono HBQ.out.size))
            have f1 := (hb.cell (p := ⟨ba, offa + k, none⟩) hba).trans f0
            clear hb
            have HC2 := Lib.hid (lawhas_any Ab cb lb x w8 (HBb.out.upto HB8.out) (by omega))
            rw [hinb] at HC2
            go_wp2_with (go_at_call 15; refine HC2.out.mono ?_; rintro e w9 ⟨rfl, hb⟩; have HB9 := Lib.hid (HB8.out.trans (hb.mono HB8.out.size)); clear hb)
            go_roundg g2
            case measure => omega
            case rel => exact ⟨k + 1, by have := HG2.out; omega, by go_num, HB9.out⟩
end Go.Proofs.Ytklfijhlibpmaaa
