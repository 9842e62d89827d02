/- The text IslA. -/
import Derived.Test.YtmojjfdamdgegaaMg8
import Derived.Test.YtmojjfdamdgegaaMg1
/- The contract of the closure 'find' of island.Of. -/
namespace Go.Proofs.Ytmojjfdamdgegaa
open Go.RowKit
set_option linter.unusedVariables false

set_option maxHeartbeats 1000000 in
theorem find_any (Bp g : Nat) (p : List Nat) (b c : Nat) (w : World) (hb : b < p.length) (hl : p.length ≤ 1000000) (hp : Par p) (hc : w.cell? ⟨Bp, 0, none⟩ = some (.slice (some ⟨g, 0, none⟩) p.length c)) (hr : RowN 3 w g p) :
    Calls Try.prog 44 #[.int .i64 (b : Int), .pointer (some ⟨Bp, 0, none⟩)] w fun e w' => e = .returned (.int .i64 ((findN p b : Nat) : Int)) ∧ w = w' := by
  have HP := Lib.hid hp
  have HR := Lib.hid hr
  clear hp hr
  go_enter Try.func44, Try.ntmps44
  go_wp2
  go_step3
  go_wp2
  go_step3
  go_wp2
  go_outline
  go_loopg [0] b (fun g x wr => ∃ k : Nat, k ≤ g ∧ k < p.length ∧ x = .int .i64 (k : Int) ∧ findN p k = findN p b ∧ w = wr)
  case atStart => exact ⟨b, Nat.le_refl _, hb, rfl, rfl, rfl⟩
  case round =>
    obtain ⟨k, hkg, hk, rfl, hf, rfl⟩ := hrel
    have HF := Lib.hid hf
    clear hf
    have hcell := HR.out.cell hk
    have hpk := HP.out k
    by_cases h : p.getD k 0 < k
    · have hs := findN_step h
      have HS := Lib.hid hs
      clear hs
      have hne : (((p.getD k 0 : Nat) : Int) == (k : Int)) = false := by rw [beq_eq_false_iff_ne]; omega
      generalize p.getD k 0 = x at *
      go_wp2
      go_roundg x
      case measure => omega
      case rel => exact ⟨x, Nat.le_refl _, by omega, rfl, by rw [← HS.out]; exact HF.out, rfl⟩
    · have hs := findN_root h
      have HS := Lib.hid hs
      clear hs
      have hne : (((p.getD k 0 : Nat) : Int) == (k : Int)) = true := by rw [beq_iff_eq]; omega
      generalize p.getD k 0 = x at *
      go_wp2
      rw [Exit.noGoto_ret]
      go_ret
      exact ⟨ret_int (by rw [← HF.out, HS.out]), rfl⟩
end Go.Proofs.Ytmojjfdamdgegaa
