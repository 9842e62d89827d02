/- The text CtS. -/
import Derived.Test.YtkfhpefmmhljmaaGreatDoorQ15
set_option linter.unusedVariables false
set_option linter.unusedSimpArgs false
/- CtS -/
namespace Go.Proofs.YtkfhpefmmhljmaaGreatDoor
open Go.RowKit
set_option linter.unusedVariables false
theorem bstr_extract (l : Bytes) (i j : Nat) : (bstr l).extract i j = bstr ((l.drop i).take (j - i)) := by
 apply ByteArray.ext;rw [ByteArray.data_extract];simp [bstr, List.extract_eq_take_drop]
theorem bstr_append (a b : Bytes) : bstr a ++ bstr b = bstr (a ++ b) := by
 apply ByteArray.ext;simp [bstr]
theorem str_from (l : Bytes) (i : Nat) (hi : i ≤ l.length) (w : World) : (Instr.sliceAt 9 (.string (bstr l)) (some (.int .i64 (i : Int))) none none).run Tryz.prog w = .ok (.string (bstr (l.drop i))) w := by
 rw [run_sliceAt_string w _ _ _ _ _ Tryz.underlying9, run_slice_string_l w _ _ Tryz.underlying9 .i64 _ (by omega) (by rw [bstr_size]; omega), bstr_extract, bstr_size];have : (l.drop i).take (l.length - i) = l.drop i := List.take_of_length_le (by simp);simp [this]
theorem str_mid (l : Bytes) (i j : Nat) (hi : i ≤ j) (hj : j ≤ l.length) (w : World) : (Instr.sliceAt 9 (.string (bstr l)) (some (.int .i64 (i : Int))) (some (.int .i64 (j : Int))) none).run Tryz.prog w = .ok (.string (bstr ((l.drop i).take (j - i)))) w := by
 rw [run_sliceAt_string w _ _ _ _ _ Tryz.underlying9, run_slice_string w _ _ .i64 .i64 _ _ Tryz.underlying9 (by omega) (by omega) (by rw [bstr_size]; omega), bstr_extract];simp
theorem isDig_range {x : UInt8} (h : isDig x = true) : 48 ≤ x.toNat ∧ x.toNat ≤ 57 := by
 unfold isDig at h;simpa using h
end Go.Proofs.YtkfhpefmmhljmaaGreatDoor
