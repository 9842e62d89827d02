/- Texts in one: CtH, CtS. -/
import Derived.Test.YtkfhpefmmhljmaaGreatDoorF18
set_option linter.unusedVariables false
set_option linter.unusedSimpArgs false
set_option maxHeartbeats 16000000
set_option maxRecDepth 100000
namespace Go.Proofs.YtkfhpefmmhljmaaGreatDoor
open Go.RowKit
theorem oA {l : List Int} (hw : Words l) (ht : trimL l = l) (hn : 2 < l.length) : 18446744073709551616 ≤ wv l := by
 revert ht hn hw
 refine xQ (P := fun l => Words l → trimL l = l → 2 < l.length → 18446744073709551616 ≤ wv l) (fun _ _ h => by simp at h) (fun l x _ hw ht hn => ?_) l;have hx : x ≠ 0 := by
  intro h;subst h;rw [zS] at ht;have h1 := jP l;rw [ht] at h1;simp at h1;omega
 have h0 := hw x (by simp);have h2 : 0 ≤ wv l := yZ (fun y hy => hw y (by simp [hy]));rw [uA, bK];obtain ⟨k, hk⟩ : ∃ k, l.length = k + 2 := ⟨l.length - 2, by simp at hn; omega⟩;rw [hk, Int.pow_succ, Int.pow_succ];have h3 : 0 < (4294967296 : Int) ^ k := Int.pow_pos (by decide);have h4 : 1 * 18446744073709551616 ≤ ((4294967296 : Int) ^ k * x) * 18446744073709551616 := Int.mul_le_mul_of_nonneg_right (by
  have := Int.mul_pos h3 (show 0 < x by omega);omega) (by decide)
 have h5 : (4294967296 : Int) ^ k * 4294967296 * 4294967296 * x = ((4294967296 : Int) ^ k * x) * 18446744073709551616 := by
  rw [Int.mul_assoc, Int.mul_assoc, Int.mul_assoc]
  congr 1
  omega
 rw [h5];omega
theorem rI {l : List Int} (hw : Words l) (hn : l.length ≤ 2) : wv l < 18446744073709551616 := by
 match l, hn with
 | [], _ => decide
 | [x], _ => rw [bK]; have := hw x (by simp); omega
 | [x, y], _ => rw [lY]; have h1 := hw x (by simp); have h2 := hw y (by simp); omega
def i64V (n : Int) : Value := .tuple #[.int .i64 (if i64In n then n else 0), .bool (i64In n)]
theorem fT {n : Int} (h : -9223372036854775808 ≤ n ∧ n ≤ 9223372036854775807) : i64V n = .tuple #[.int .i64 n, .bool true] := by
 have : i64In n = true := by simp [i64In]; exact h
 unfold i64V;rw [this]; rfl
theorem yX {n : Int} (h : ¬ (-9223372036854775808 ≤ n ∧ n ≤ 9223372036854775807)) : i64V n = .tuple #[.int .i64 0, .bool false] := by
 have : i64In n = false := by simp [i64In]; omega
 unfold i64V;rw [this]; rfl
theorem dI {a b : Value} (h : a = b) : Ending.returned a = .returned b := by rw [h]
theorem uW (v : Value) (n : Int) (w : World) (h : NumR w w v n) : Calls Tryz.prog 202 #[v] w fun e w' => e = .returned (i64V n) ∧ Below w w w' := by
 obtain ⟨neg, A, ws, c, rfl, hc, hl, hr, hw, ht, h0, hn⟩ := h;have hb0 : Below w w (w.alloc (.cells #[.bool neg, .slice A ws.length c] 83)) := βA _;have K := vP A c ws _ (hr.upto hb0) hl hc;rw [ht] at K;have HK := η K;have HR := η hr;clear K hr;by_cases h2 : ws.length ≤ 2
 ·have hlo := rI hw h2;have hnn := yZ hw;have KL := η fun W h => lD A c ws W h h2 hw
  have e0 : decide ((2 : Int) < (ws.length : Int)) = false := κf (by omega);subst hn;generalize hm : wv ws = m at *;clear hm ht h0 hw;go_enter Tryz.func202, Tryz.ntmps202;go_wp2_with fail;refine HK.out.mono ?_;rintro e w1 ⟨rfl, hb1⟩;have q0 : w1.cell? ⟨w, 0, none⟩ = some (.bool neg) := (hb1.cell (by simp)).trans (by simp);have HB := η (hb0.trans (hb1.mono (by simp)));clear hb1 hb0 HK;go_wp2_with fail;refine (KL.out _ (HR.out.upto HB.out)).mono ?_;rintro e w2 ⟨rfl, hb2⟩;have q2 : w2.cell? ⟨w, 0, none⟩ = some (.bool neg) := (hb2.cell (World.block_lt_of_cell? w1 _ q0)).trans q0;have HB2 := βT HB hb2;clear hb2 HB KL q0;cases neg with
  | true =>
   by_cases hm : 9223372036854775808 < m
   ·have e1 : decide ((9223372036854775808 : Int) < m) = true := κt hm;have E : Hid (i64V (sgnI true m) = .tuple #[.int .i64 0, .bool false]) := yX (by simp [sgnI]; omega);go_wp2_with fail;go_ret2;exact ⟨dI E.out.symm, HB2.out⟩
   ·have e1 : decide ((9223372036854775808 : Int) < m) = false := κf hm;have e2 : IntKind.i64.wrap (IntKind.u64.wrap (-m)) = -m := by
     by_cases h : m = 0
     ·subst h; rfl
     ·rw [show IntKind.u64.wrap (-m) = 18446744073709551616 - m from by show (-m) % 18446744073709551616 = _; omega];by_cases h' : m = 9223372036854775808
      ·subst h'; rfl
      ·rw [IntKind.wrap_i64]; omega
    have E : Hid (i64V (sgnI true m) = .tuple #[.int .i64 (-m), .bool true]) := fT (by simp [sgnI]; omega);go_wp2_with fail;go_ret2;exact ⟨dI E.out.symm, HB2.out⟩
  | false =>
   by_cases hm : 9223372036854775808 ≤ m
   ·have e1 : decide ((9223372036854775808 : Int) ≤ m) = true := κt hm;have E : Hid (i64V (sgnI false m) = .tuple #[.int .i64 0, .bool false]) := yX (by simp [sgnI]; omega);go_wp2_with fail;go_ret2;exact ⟨dI E.out.symm, HB2.out⟩
   ·have e1 : decide ((9223372036854775808 : Int) ≤ m) = false := κf hm;have e2 : IntKind.i64.wrap m = m := IntWalk.i64_in _ (by omega);have E : Hid (i64V (sgnI false m) = .tuple #[.int .i64 m, .bool true]) := fT (by simp [sgnI]; omega);go_wp2_with fail;go_ret2;exact ⟨dI E.out.symm, HB2.out⟩
 ·have hbig := oA hw ht (by omega);have e0 : decide ((2 : Int) < (ws.length : Int)) = true := κt (by omega);have E : Hid (i64V n = .tuple #[.int .i64 0, .bool false]) := yX (by rw [hn]; cases neg <;> simp [sgnI] <;> omega);clear hn ht h0 hw h2 hbig;go_enter Tryz.func202, Tryz.ntmps202;go_wp2_with fail;refine HK.out.mono ?_;rintro e w1 ⟨rfl, hb1⟩;have HB := η (hb0.trans (hb1.mono (by simp)));clear hb1 hb0 HK;go_wp2_with fail;go_ret2;exact ⟨dI E.out.symm, HB.out⟩
def sgn (n : Int) : Int := if n = 0 then 0 else if n < 0 then -1 else 1
theorem rQ (v : Value) (n : Int) (w : World) (h : NumR w w v n) : Calls Tryz.prog 163 #[v] w fun e w' => e = .returned (.int .i64 (sgn n)) ∧ Below w w w' := by
 obtain ⟨neg, A, ws, c, rfl, hc, hl, hr, hw, ht, h0, hn⟩ := h;have hb0 : Below w w (w.alloc (.cells #[.bool neg, .slice A ws.length c] 83)) := βA _;have K := vP A c ws _ (hr.upto hb0) hl hc;rw [ht] at K;have HK := η K;clear K hr;by_cases hz : ws = []
 ·have e0 : ((ws.length : Int) == 0) = true := by rw [hz]; rfl
  have E : Hid (sgn n = 0) := by show _ = _; rw [hn, hz, show wv [] = 0 from rfl, uL]; rfl
  clear hn ht h0 hw hz;go_enter Tryz.func163, Tryz.ntmps163;go_wp2_with fail;refine HK.out.mono ?_;rintro e w1 ⟨rfl, hb1⟩;have HB := η (hb0.trans (hb1.mono (by simp)));clear hb1 hb0 HK;go_wp2_with fail;go_ret;exact ⟨zC E.out.symm, HB.out⟩
 ·have hp := lZ hw ht hz;have hlen : 0 < ws.length := List.length_pos_iff.2 hz;have e0 : ((ws.length : Int) == 0) = false := βf (by omega);have E : Hid (sgn n = if neg then -1 else 1) := by
   show _ = _
   rw [hn];cases neg
   ·simp [sgnI, sgn]; omega
   ·simp [sgnI, sgn]; omega
  clear hn ht h0 hw hz hp;cases neg with
  | true =>
   go_enter Tryz.func163, Tryz.ntmps163;go_wp2_with fail;refine HK.out.mono ?_;rintro e w1 ⟨rfl, hb1⟩;have q0 : w1.cell? ⟨w, 0, none⟩ = some (.bool true) := (hb1.cell (by simp)).trans (by simp);have HB := η (hb0.trans (hb1.mono (by simp)));clear hb1 hb0 HK;go_wp2_with fail;go_ret;exact ⟨zC E.out.symm, HB.out⟩
  | false =>
   go_enter Tryz.func163, Tryz.ntmps163;go_wp2_with fail;refine HK.out.mono ?_;rintro e w1 ⟨rfl, hb1⟩;have q0 : w1.cell? ⟨w, 0, none⟩ = some (.bool false) := (hb1.cell (by simp)).trans (by simp);have HB := η (hb0.trans (hb1.mono (by simp)));clear hb1 hb0 HK;go_wp2_with fail;go_ret;exact ⟨zC E.out.symm, HB.out⟩
theorem vK (l : Bytes) (i j : Nat) : (bstr l).extract i j = bstr ((l.drop i).take (j - i)) := by
 apply ByteArray.ext;rw [ByteArray.data_extract];simp [bstr, List.extract_eq_take_drop]
theorem mU (a b : Bytes) : bstr a ++ bstr b = bstr (a ++ b) := by
 apply ByteArray.ext;simp [bstr]
theorem rL (l : Bytes) (i : Nat) (hi : i ≤ l.length) (w : World) : (Instr.sliceAt 9 (.string (bstr l)) (some (.int .i64 (i : Int))) none none).run Tryz.prog w = .ok (.string (bstr (l.drop i))) w := by
 rw [run_sliceAt_string w _ _ _ _ _ Tryz.underlying9, run_slice_string_l w _ _ Tryz.underlying9 .i64 _ (by omega) (by rw [zQ]; omega), vK, zQ];have : (l.drop i).take (l.length - i) = l.drop i := κy (by simp);simp [this]
theorem tZ (l : Bytes) (i j : Nat) (hi : i ≤ j) (hj : j ≤ l.length) (w : World) : (Instr.sliceAt 9 (.string (bstr l)) (some (.int .i64 (i : Int))) (some (.int .i64 (j : Int))) none).run Tryz.prog w = .ok (.string (bstr ((l.drop i).take (j - i)))) w := by
 rw [run_sliceAt_string w _ _ _ _ _ Tryz.underlying9, run_slice_string w _ _ .i64 .i64 _ _ Tryz.underlying9 (by omega) (by omega) (by rw [zQ]; omega), vK];simp
theorem mH {x : UInt8} (h : isDig x = true) : 48 ≤ x.toNat ∧ x.toNat ≤ 57 := by
 unfold isDig at h;simpa using h
end Go.Proofs.YtkfhpefmmhljmaaGreatDoor
