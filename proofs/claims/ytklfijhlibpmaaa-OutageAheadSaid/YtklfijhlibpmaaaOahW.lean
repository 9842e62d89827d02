/- OutageAhead: the walk. -/
import Derived.Test.YtklfijhlibpmaaaOgL
namespace Go.Proofs.Ytklfijhlibpmaaa
open Go.RowKit
set_option linter.unusedVariables false
set_option maxRecDepth 100000

set_option maxHeartbeats 8000000 in
theorem oah_walk (A0 : Option Addr) (c0 : Nat) (l : List Og) (h : Int) (W : World) (hcap : l.length ≤ c0) (hl : OgsR W W.heap.size A0 l) (hbd : OgBs l) (hlo : -9223372036854775808 ≤ h) (hhi : h ≤ 9223372036854775807) :
    Calls Try.prog 4 #[.slice A0 l.length c0, .int .i64 h] W fun e w' => e = .returned (.bool true) ∧ Below W.heap.size W w' := by
  have HL := Lib.hid hl
  clear hl hbd hlo hhi hcap
  have HB0 := Lib.hid (Below.refl W.heap.size W)
  by_cases h100 : 100 < l.length
  · have b2 : decide ((100 : Int) < l.length) = true := by simp; omega
    go_enter Try.func4, Try.ntmps4
    go_wp2_with (go_at_call 8; refine (awake_any _).mono ?_; rintro e w1 ⟨rfl, hb⟩)
    go_ret
    exact ⟨rfl, hb⟩
  have b2 : decide ((100 : Int) < l.length) = false := by simp; omega
  have ha := affL_length [1] l h
  have hn := affL_length [1, 2] l h
  have HSA := Lib.hid (affL_sorted [1] l h)
  have HSB := Lib.hid (affL_sorted [1, 2] l h)
  have HAB := Lib.hid (fun x => affL_mono (ks := [1]) (ks' := [1, 2]) (by simp) l h x)
  have K1 := Lib.hid (fun w1 hl => ahead_any A0 c0 l h w1 hl (by omega))
  have K2 := Lib.hid (fun w1 hl => now_any A0 c0 l h w1 hl (by omega))
  generalize affL [1] l h = a at *
  generalize affL [1, 2] l h = b at *
  go_enter Try.func4, Try.ntmps4
  go_wp2_with fail
  refine (awake_any _).mono ?_
  rintro e w1 ⟨rfl, hb⟩
  replace HL := Lib.hid (HL.out.upto hb)
  have HB1 := Lib.hid (HB0.out.trans (hb.mono HB0.out.size))
  clear hb HB0
  go_wp2_with fail
  refine (K1.out _ HL.out).mono ?_
  rintro e w2 ⟨v, rfl, hown, hb⟩
  obtain ⟨Aa, ca, rfl, hI⟩ := ownsRow_ints hown
  have HA := Lib.hid hI
  replace HL := Lib.hid (HL.out.upto hb)
  have HB2 := Lib.hid (HB1.out.trans (hb.mono HB1.out.size))
  clear hb HB1 hown hI
  go_wp2_with fail
  refine (K2.out _ HL.out).mono ?_
  rintro e w3 ⟨v, rfl, hown, hb⟩
  obtain ⟨Ab, cb, rfl, hI⟩ := ownsRow_ints hown
  have HB := Lib.hid hI
  replace HA := Lib.hid (HA.out.upto hb)
  have HB3 := Lib.hid (HB2.out.trans (hb.mono HB2.out.size))
  clear hb HB2 hown hI K1 K2 HL
  go_wp2_with fail
  go_loopg [4, 7] a.length (fun g s4 i wr => ∃ k : Nat, k + g = a.length ∧ i = .int .i64 k ∧ Below w3.heap.size w3 wr)
  case atStart => exact ⟨0, by omega, rfl, Below.refl _ _⟩
  case round =>
    obtain ⟨k, hkg, rfl, hb⟩ := hrel
    have HBW := Lib.hid hb
    clear hb
    cases gk with
    | zero =>
      obtain rfl : k = a.length := by omega
      clear hkg
      go_wp2_with fail
      refine (rises_ok Aa ca a wr (HA.out.upto HBW.out) (by omega) HSA.out).mono ?_
      rintro e w5 ⟨rfl, hb⟩
      have HB5 := Lib.hid (HBW.out.trans (hb.mono HBW.out.size))
      clear hb
      go_wp2_with fail
      refine (rises_ok Ab cb b w5 (HB.out.upto HB5.out) (by omega) HSB.out).mono ?_
      rintro e w6 ⟨rfl, hb⟩
      have HB6 := Lib.hid (HB5.out.trans (hb.mono HB5.out.size))
      clear hb
      go_wp2_with fail
      go_ret
      exact ⟨rfl, HB3.out.trans (HB6.out.mono HB3.out.size)⟩
    | succ g =>
      have hk : k < a.length := by omega
      have HG := Lib.hid hkg
      clear hkg
      have hA1 := HA.out.upto HBW.out
      obtain ⟨ba, offa, rfl, hba, hca⟩ := hA1 (by omega)
      have f0 := hca k hk
      have HC := Lib.hid (lawhas_any Ab cb b (a.getD k 0) wr (HB.out.upto HBW.out) (by omega))
      have hh : hasB b (a.getD k 0) = true := (hasB_iff _ _).2 (HAB.out _ (by rw [getD_eq a k 0 hk]; exact List.getElem_mem hk))
      rw [hh] at HC
      clear hca hA1 hh
      generalize a.getD k 0 = x at *
      go_wp2_with (go_at_call 15; refine HC.out.mono ?_; rintro e w5 ⟨rfl, hb⟩; have HB5 := Lib.hid (HBW.out.trans (hb.mono HBW.out.size)); clear hb)
      go_roundg g
      case measure => omega
      case rel => exact ⟨k + 1, by have := HG.out; omega, by go_num, HB5.out⟩
end Go.Proofs.Ytklfijhlibpmaaa
