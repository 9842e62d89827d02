/- Texts in one: LxL, TrlP. -/
import Derived.Test.YtkfhpefmmhljmaaGreatDoorQ47
set_option linter.unusedVariables false
set_option linter.unusedSimpArgs false
set_option maxHeartbeats 16000000
/- LxL -/
namespace Go.Proofs.YtkfhpefmmhljmaaGreatDoor
theorem next_8 {s : Bytes} {i : Int} (h : (nextT s i).1 = 8) : s.length ≤ 65536 ∧ 0 ≤ i ∧ i ≤ s.length ∧ endF isSep s i.toNat = s.length := by
 unfold nextT at h;by_cases h1 : 65536 < s.length
 ·rw [if_pos h1] at h; exact absurd h (by decide)
 rw [if_neg h1] at h;by_cases h2 : i < 0 ∨ (s.length : Int) < i
 ·rw [if_pos h2] at h; exact absurd h (by decide)
 rw [if_neg h2] at h;by_cases h3 : endF isSep s i.toNat = s.length
 ·exact ⟨by omega, by omega, by omega, h3⟩
 exfalso;rw [if_neg h3] at h;generalize endF isSep s i.toNat = q at *;have hp := pz_err (runAt s q);split at h
 ·exact absurd h (show ¬ (0 : Int) = 8 by decide)
 split at h
 ·exact absurd h (show ¬ (0 : Int) = 8 by decide)
 split at h
 ·exact absurd h (show ¬ (0 : Int) = 8 by decide)
 split at h
 ·exact absurd h (show ¬ (3 : Int) = 8 by decide)
 split at h
 ·exact absurd h (show ¬ (-1 : Int) = 8 by decide)
 split at h
 ·have h1 : (pz (runAt s q)).1 = 8 := h;omega
 ·exact absurd h (show ¬ (0 : Int) = 8 by decide)
theorem next_not8 {s : Bytes} {i : Int} (h : endF isSep s i.toNat ≠ s.length) : (nextT s i).1 ≠ 8 := fun h8 => h (next_8 h8).2.2.2
theorem next_tail {s : Bytes} {j : Int} (h : (nextT s j).1 = 8) (c : UInt8) (hc : isSep c = false) : (nextT (s ++ [32, c]) j).1 ≠ 8 := by
 obtain ⟨h1, h2, h3, h4⟩ := next_8 h;apply next_not8;unfold endF at h4 ⊢;have hd : j.toNat ≤ s.length := by omega
 rw [List.drop_append_of_le_length hd, List.takeWhile_append, if_pos (by rw [List.length_drop]; omega)];have : ([32, c] : Bytes).takeWhile isSep = [32] := by simp [List.takeWhile, hc, show isSep 32 = true from rfl]
 rw [List.length_append, this, List.length_append, List.length_drop];simp;omega
theorem parse_of {s : Bytes} (h : (parseP s).1 = 0) : (caseP s 0).1 = 0 ∧ parseP s = (0, (caseP s 0).2.1) ∧ (nextT s (caseP s 0).2.2).1 = 8 := by
 unfold parseP at h ⊢;by_cases h1 : (caseP s 0).1 ≠ 0
 ·rw [if_pos h1] at h; exact absurd h h1
 rw [if_neg h1] at h ⊢;by_cases h2 : (nextT s (caseP s 0).2.2).1 ≠ 8
 ·rw [if_pos h2] at h; exact absurd h (by decide)
 rw [if_neg h2] at h ⊢;exact ⟨Decidable.not_not.1 h1, rfl, Decidable.not_not.1 h2⟩
theorem parse_tail {s : Bytes} (h : (parseP s).1 = 0) (c : UInt8) (hc : isSep c = false) (hl : s.length ≤ 65000) : parseP (s ++ [32, c]) = (6, cs0) := by
 obtain ⟨h1, _, h3⟩ := parse_of h;have e := caseP_ext [32, c] (by rw [List.length_append]; simp; omega) h1;unfold parseP;rw [e, if_neg (fun h => h rfl), if_pos (next_tail h3 c hc)]
theorem case_tail {s : Bytes} (h : (parseP s).1 = 0) (r : Bytes) (hl : (s ++ r).length ≤ 65536) : caseP (s ++ r) 0 = (0, (parseP s).2, (caseP s 0).2.2) ∧ caseP s 0 = (0, (parseP s).2, (caseP s 0).2.2) ∧ 0 ≤ (caseP s 0).2.2 ∧ (caseP s 0).2.2 ≤ s.length := by
 obtain ⟨h1, h2, h3⟩ := parse_of h;have e := caseP_ext r hl h1;rw [h2];exact ⟨e, Prod.ext h1 rfl, caseP_le s 0 h1⟩
theorem parse_day {s : Bytes} (h : (parseP s).1 = 0) : dayE (parseP s).2 = 0 := by
 obtain ⟨h1, h2, _⟩ := parse_of h;rw [h2];exact (case_read h1).2
end Go.Proofs.YtkfhpefmmhljmaaGreatDoor
