/- Texts in one: CtH, CtS, Shf, CtI. -/
import Derived.Shelf.Strings.Builder1
import Derived.Shelf.Strings.Builder2
import Derived.Shelf.Strings.OnBuilder
import Derived.Shelf.Small.Bits
import Derived.Shelf.Small.Wraps
import Derived.Shelf.Strings.BuilderF
import Derived.Shelf.Strings.BuilderK
import Derived.Shelf.Utf8.RuneCount
import Derived.Shelf.Strings.Builder2Cap
import Derived.Shelf.Strconv.Itoa0
import Derived.Shelf.Strconv.Itoa1
import Derived.Shelf.LaysM
import Derived.Shelf.Strconv.Itoa2
import Derived.Shelf.Strconv.Itoa3
import Derived.Shelf.Strconv.Itoa4
import Derived.Shelf.Strings.Search1
import Derived.Shelf.Strings.Search2
import Derived.Shelf.Strings.Search3
import Derived.Shelf.Strings.Count
import Derived.Shelf.Strings.Shaped
import Derived.Shelf.Strings.Prefix
import Derived.Shelf.Strings.Split
import Derived.Shelf.Strings.Replace
import Derived.Shelf.Strings.SplitShaped
import Derived.Shelf.Unicode.Decode
import Derived.Shelf.Strings.RuneCount
import Derived.Shelf.Bits.Mul64
import Derived.Shelf.Strings.Repeat
import Derived.Shelf.Unicode.DecodeSlow
import Derived.Shelf.Unicode.DecodeAny
import Derived.Shelf.Strings.BuilderCap
import Derived.Test.YtkfhpefmmhljmaaGreatDoorQ11
import Derived.Test.YtkfhpefmmhljmaaGreatDoorQ2
import Derived.Test.YtkfhpefmmhljmaaGreatDoorProg
set_option linter.unusedVariables false
set_option linter.unusedSimpArgs false
set_option maxHeartbeats 16000000
set_option maxRecDepth 100000
/- CtH -/
namespace Go.Proofs.YtkfhpefmmhljmaaGreatDoor
open Go.RowKit
theorem wv_big {l : List Int} (hw : Words l) (ht : trimL l = l) (hn : 2 < l.length) : 18446744073709551616 ≤ wv l := by
 revert ht hn hw
 refine snoc_ind (P := fun l => Words l → trimL l = l → 2 < l.length → 18446744073709551616 ≤ wv l) (fun _ _ h => by simp at h) (fun l x _ hw ht hn => ?_) l;have hx : x ≠ 0 := by
  intro h;subst h;rw [trimL_snoc_zero] at ht;have h1 := trimL_length l;rw [ht] at h1;simp at h1;omega
 have h0 := hw x (by simp);have h2 : 0 ≤ wv l := wv_nonneg (fun y hy => hw y (by simp [hy]));rw [wv_append, wv_one];obtain ⟨k, hk⟩ : ∃ k, l.length = k + 2 := ⟨l.length - 2, by simp at hn; omega⟩;rw [hk, Int.pow_succ, Int.pow_succ];have h3 : 0 < (4294967296 : Int) ^ k := Int.pow_pos (by decide);have h4 : 1 * 18446744073709551616 ≤ ((4294967296 : Int) ^ k * x) * 18446744073709551616 := Int.mul_le_mul_of_nonneg_right (by
  have := Int.mul_pos h3 (show 0 < x by omega);omega) (by decide)
 have h5 : (4294967296 : Int) ^ k * 4294967296 * 4294967296 * x = ((4294967296 : Int) ^ k * x) * 18446744073709551616 := by
  rw [Int.mul_assoc, Int.mul_assoc, Int.mul_assoc]
  congr 1
  omega
 rw [h5];omega
theorem wv_small {l : List Int} (hw : Words l) (hn : l.length ≤ 2) : wv l < 18446744073709551616 := by
 match l, hn with
 | [], _ => decide
 | [x], _ => rw [wv_one]; have := hw x (by simp); omega
 | [x, y], _ => rw [wv_two]; have h1 := hw x (by simp); have h2 := hw y (by simp); omega
def i64V (n : Int) : Value := .tuple #[.int .i64 (if i64In n then n else 0), .bool (i64In n)]
theorem i64V_in {n : Int} (h : -9223372036854775808 ≤ n ∧ n ≤ 9223372036854775807) : i64V n = .tuple #[.int .i64 n, .bool true] := by
 have : i64In n = true := by simp [i64In]; exact h
 unfold i64V;rw [this]; rfl
theorem i64V_out {n : Int} (h : ¬ (-9223372036854775808 ≤ n ∧ n ≤ 9223372036854775807)) : i64V n = .tuple #[.int .i64 0, .bool false] := by
 have : i64In n = false := by simp [i64In]; omega
 unfold i64V;rw [this]; rfl
theorem ret_eq {a b : Value} (h : a = b) : Ending.returned a = .returned b := by rw [h]
theorem int64_any (v : Value) (n : Int) (w : World) (h : NumR w w.heap.size v n) : Calls Tryz.prog 202 #[v] w fun e w' => e = .returned (i64V n) ∧ Below w.heap.size w w' := by
 obtain ⟨neg, A, ws, c, rfl, hc, hl, hr, hw, ht, h0, hn⟩ := h;have hb0 : Below w.heap.size w (w.alloc (.cells #[.bool neg, .slice A ws.length c] 83)) := βA _;have K := trim_any A c ws _ (hr.upto hb0) hl hc;rw [ht] at K;have HK := η K;have HR := η hr;clear K hr;by_cases h2 : ws.length ≤ 2
 ·have hlo := wv_small hw h2;have hnn := wv_nonneg hw;have KL := η fun W h => low_any A c ws W h h2 hw
  have e0 : decide ((2 : Int) < (ws.length : Int)) = false := decide_eq_false (by omega);subst hn;generalize hm : wv ws = m at *;clear hm ht h0 hw;go_enter Tryz.func202, Tryz.ntmps202;go_wp2_with fail;refine HK.out.mono ?_;rintro e w1 ⟨rfl, hb1⟩;have q0 : w1.cell? ⟨w.heap.size, 0, none⟩ = some (.bool neg) := (hb1.cell (by simp)).trans (by simp);have HB := η (hb0.trans (hb1.mono (by simp)));clear hb1 hb0 HK;go_wp2_with fail;refine (KL.out _ (HR.out.upto HB.out)).mono ?_;rintro e w2 ⟨rfl, hb2⟩;have q2 : w2.cell? ⟨w.heap.size, 0, none⟩ = some (.bool neg) := (hb2.cell (World.block_lt_of_cell? w1 _ q0)).trans q0;have HB2 := βT HB hb2;clear hb2 HB KL q0;cases neg with
  | true =>
   by_cases hm : 9223372036854775808 < m
   ·have e1 : decide ((9223372036854775808 : Int) < m) = true := decide_eq_true hm;have E : Hid (i64V (sgnI true m) = .tuple #[.int .i64 0, .bool false]) := i64V_out (by simp [sgnI]; omega);go_wp2_with fail;go_ret2;exact ⟨ret_eq E.out.symm, HB2.out⟩
   ·have e1 : decide ((9223372036854775808 : Int) < m) = false := decide_eq_false hm;have e2 : IntKind.i64.wrap (IntKind.u64.wrap (-m)) = -m := by
     by_cases h : m = 0
     ·subst h; rfl
     ·rw [show IntKind.u64.wrap (-m) = 18446744073709551616 - m from by show (-m) % 18446744073709551616 = _; omega];by_cases h' : m = 9223372036854775808
      ·subst h'; rfl
      ·rw [IntKind.wrap_i64]; omega
    have E : Hid (i64V (sgnI true m) = .tuple #[.int .i64 (-m), .bool true]) := i64V_in (by simp [sgnI]; omega);go_wp2_with fail;go_ret2;exact ⟨ret_eq E.out.symm, HB2.out⟩
  | false =>
   by_cases hm : 9223372036854775808 ≤ m
   ·have e1 : decide ((9223372036854775808 : Int) ≤ m) = true := decide_eq_true hm;have E : Hid (i64V (sgnI false m) = .tuple #[.int .i64 0, .bool false]) := i64V_out (by simp [sgnI]; omega);go_wp2_with fail;go_ret2;exact ⟨ret_eq E.out.symm, HB2.out⟩
   ·have e1 : decide ((9223372036854775808 : Int) ≤ m) = false := decide_eq_false hm;have e2 : IntKind.i64.wrap m = m := IntWalk.i64_in _ (by omega);have E : Hid (i64V (sgnI false m) = .tuple #[.int .i64 m, .bool true]) := i64V_in (by simp [sgnI]; omega);go_wp2_with fail;go_ret2;exact ⟨ret_eq E.out.symm, HB2.out⟩
 ·have hbig := wv_big hw ht (by omega);have e0 : decide ((2 : Int) < (ws.length : Int)) = true := decide_eq_true (by omega);have E : Hid (i64V n = .tuple #[.int .i64 0, .bool false]) := i64V_out (by rw [hn]; cases neg <;> simp [sgnI] <;> omega);clear hn ht h0 hw h2 hbig;go_enter Tryz.func202, Tryz.ntmps202;go_wp2_with fail;refine HK.out.mono ?_;rintro e w1 ⟨rfl, hb1⟩;have HB := η (hb0.trans (hb1.mono (by simp)));clear hb1 hb0 HK;go_wp2_with fail;go_ret2;exact ⟨ret_eq E.out.symm, HB.out⟩
def sgn (n : Int) : Int := if n = 0 then 0 else if n < 0 then -1 else 1
theorem sign_any (v : Value) (n : Int) (w : World) (h : NumR w w.heap.size v n) : Calls Tryz.prog 163 #[v] w fun e w' => e = .returned (.int .i64 (sgn n)) ∧ Below w.heap.size w w' := by
 obtain ⟨neg, A, ws, c, rfl, hc, hl, hr, hw, ht, h0, hn⟩ := h;have hb0 : Below w.heap.size w (w.alloc (.cells #[.bool neg, .slice A ws.length c] 83)) := βA _;have K := trim_any A c ws _ (hr.upto hb0) hl hc;rw [ht] at K;have HK := η K;clear K hr;by_cases hz : ws = []
 ·have e0 : ((ws.length : Int) == 0) = true := by rw [hz]; rfl
  have E : Hid (sgn n = 0) := by show _ = _; rw [hn, hz, show wv [] = 0 from rfl, sgnI_zero]; rfl
  clear hn ht h0 hw hz;go_enter Tryz.func163, Tryz.ntmps163;go_wp2_with fail;refine HK.out.mono ?_;rintro e w1 ⟨rfl, hb1⟩;have HB := η (hb0.trans (hb1.mono (by simp)));clear hb1 hb0 HK;go_wp2_with fail;go_ret;exact ⟨ret_int E.out.symm, HB.out⟩
 ·have hp := wv_pos hw ht hz;have hlen : 0 < ws.length := List.length_pos_iff.2 hz;have e0 : ((ws.length : Int) == 0) = false := βf (by omega);have E : Hid (sgn n = if neg then -1 else 1) := by
   show _ = _
   rw [hn];cases neg
   ·simp [sgnI, sgn]; omega
   ·simp [sgnI, sgn]; omega
  clear hn ht h0 hw hz hp;cases neg with
  | true =>
   go_enter Tryz.func163, Tryz.ntmps163;go_wp2_with fail;refine HK.out.mono ?_;rintro e w1 ⟨rfl, hb1⟩;have q0 : w1.cell? ⟨w.heap.size, 0, none⟩ = some (.bool true) := (hb1.cell (by simp)).trans (by simp);have HB := η (hb0.trans (hb1.mono (by simp)));clear hb1 hb0 HK;go_wp2_with fail;go_ret;exact ⟨ret_int E.out.symm, HB.out⟩
  | false =>
   go_enter Tryz.func163, Tryz.ntmps163;go_wp2_with fail;refine HK.out.mono ?_;rintro e w1 ⟨rfl, hb1⟩;have q0 : w1.cell? ⟨w.heap.size, 0, none⟩ = some (.bool false) := (hb1.cell (by simp)).trans (by simp);have HB := η (hb0.trans (hb1.mono (by simp)));clear hb1 hb0 HK;go_wp2_with fail;go_ret;exact ⟨ret_int E.out.symm, HB.out⟩
theorem bstr_extract (l : Bytes) (i j : Nat) : (bstr l).extract i j = bstr ((l.drop i).take (j - i)) := by
 apply ByteArray.ext;rw [ByteArray.data_extract];simp [bstr, List.extract_eq_take_drop]
theorem bstr_append (a b : Bytes) : bstr a ++ bstr b = bstr (a ++ b) := by
 apply ByteArray.ext;simp [bstr]
theorem str_from (l : Bytes) (i : Nat) (hi : i ≤ l.length) (w : World) : (Instr.sliceAt 9 (.string (bstr l)) (some (.int .i64 (i : Int))) none none).run Tryz.prog w = .ok (.string (bstr (l.drop i))) w := by
 rw [run_sliceAt_string w _ _ _ _ _ Tryz.underlying9, run_slice_string_l w _ _ Tryz.underlying9 .i64 _ (by omega) (by rw [bstr_size]; omega), bstr_extract, bstr_size];have : (l.drop i).take (l.length - i) = l.drop i := List.take_of_length_le (by simp);simp [this]
theorem str_to (l : Bytes) (i : Nat) (hi : i ≤ l.length) (w : World) : (Instr.sliceAt 9 (.string (bstr l)) none (some (.int .i64 (i : Int))) none).run Tryz.prog w = .ok (.string (bstr (l.take i))) w := by
 rw [run_sliceAt_string w _ _ _ _ _ Tryz.underlying9, run_slice_string_h w _ _ Tryz.underlying9 .i64 _ (by omega) (by rw [bstr_size]; omega), bstr_extract];simp
theorem str_mid (l : Bytes) (i j : Nat) (hi : i ≤ j) (hj : j ≤ l.length) (w : World) : (Instr.sliceAt 9 (.string (bstr l)) (some (.int .i64 (i : Int))) (some (.int .i64 (j : Int))) none).run Tryz.prog w = .ok (.string (bstr ((l.drop i).take (j - i)))) w := by
 rw [run_sliceAt_string w _ _ _ _ _ Tryz.underlying9, run_slice_string w _ _ .i64 .i64 _ _ Tryz.underlying9 (by omega) (by omega) (by rw [bstr_size]; omega), bstr_extract];simp
theorem isDig_range {x : UInt8} (h : isDig x = true) : 48 ≤ x.toNat ∧ x.toNat ≤ 57 := by
 unfold isDig at h;simpa using h
end Go.Proofs.YtkfhpefmmhljmaaGreatDoor
/- Shf -/
namespace Go.Proofs
open Go.Shelf
def Tryz.lays170_ren : Go.Shelf.Ren := ⟨fun | 170 => 61 | n => n, fun | 70 => 112 | 3 => 3 | 0 => 0 | 72 => 115 | 37 => 113 | 5 => 5 | n => n, fun | n => n⟩
theorem Tryz.lays170 : Go.Proofs.Lays.n170 Tryz.prog Tryz.lays170_ren := {
 mixed := by kernel_rfl
 f170 := Tryz.func61.trans (congrArg some (by kernel_rfl))
 t0 := Tryz.underlying0
 a0 := Tryz.isAgg0
 z0 := Tryz.sizeOf0
 v0 := Tryz.zeroValue0
 t3 := Tryz.underlying3
 a3 := Tryz.isAgg3
 z3 := Tryz.sizeOf3
 v3 := Tryz.zeroValue3
 t37 := Tryz.underlying113
 a37 := Tryz.isAgg113
 z37 := Tryz.sizeOf113
 v37 := Tryz.zeroValue113
 t70 := Tryz.underlying112
 a70 := Tryz.isAgg112
 z70 := Tryz.sizeOf112
 v70 := Tryz.zeroValue112
 t72 := Tryz.underlying115
 a72 := Tryz.isAgg115
 z72 := Tryz.sizeOf115
 v72 := Tryz.zeroValue115 }
open Go.RowKit in
theorem Tryz.Builder_Len (B b : Nat) (bs : List Value) (w : World) (h : Lib.IsBuilder 115 5 B b bs w) :
  Calls Tryz.prog 61 #[.pointer (some ⟨b, 0, none⟩)] w fun e w' => e = .returned (.int .i64 bs.length) ∧ w' = w := Any.Builder_Len Tryz.lays170 B b bs w h
def Tryz.lays169_ren : Go.Shelf.Ren := ⟨fun | 169 => 62 | n => n, fun | 70 => 112 | 9 => 9 | 0 => 0 | 72 => 115 | 37 => 113 | 127 => 198 | 3 => 3 | 5 => 5 | n => n, fun | n => n⟩
theorem Tryz.lays169 : Go.Proofs.Lays.n169 Tryz.prog Tryz.lays169_ren := {
 mixed := by kernel_rfl
 f169 := Tryz.func62.trans (congrArg some (by kernel_rfl))
 t0 := Tryz.underlying0
 a0 := Tryz.isAgg0
 z0 := Tryz.sizeOf0
 v0 := Tryz.zeroValue0
 t3 := Tryz.underlying3
 a3 := Tryz.isAgg3
 z3 := Tryz.sizeOf3
 v3 := Tryz.zeroValue3
 t9 := Tryz.underlying9
 a9 := Tryz.isAgg9
 z9 := Tryz.sizeOf9
 v9 := Tryz.zeroValue9
 t37 := Tryz.underlying113
 a37 := Tryz.isAgg113
 z37 := Tryz.sizeOf113
 v37 := Tryz.zeroValue113
 t70 := Tryz.underlying112
 a70 := Tryz.isAgg112
 z70 := Tryz.sizeOf112
 v70 := Tryz.zeroValue112
 t72 := Tryz.underlying115
 a72 := Tryz.isAgg115
 z72 := Tryz.sizeOf115
 v72 := Tryz.zeroValue115
 t127 := Tryz.underlying198
 a127 := Tryz.isAgg198
 z127 := Tryz.sizeOf198
 v127 := Tryz.zeroValue198 }
theorem Tryz.Builder_Extra_169 : Builder.Extra Tryz.prog Tryz.lays169_ren := {
 sizeBuilder := by kernel_rfl
 liesBuilder := by kernel_rfl
 t5 := Tryz.underlying5
 a5 := Tryz.isAgg5
 z5 := Tryz.sizeOf5
 v5 := Tryz.zeroValue5
 infoByte := by kernel_rfl
 cellsByte := by kernel_rfl
 sizeByte := by kernel_rfl
 neB5 := by decide }
open Go.RowKit in
theorem Tryz.Builder_String_any (B b : Nat) (l : List UInt8) (w : World) (h : Lib.IsBuilder 115 5 B b (Lib.byteCells l) w) (hBw : B ≤ w.heap.size) :
  Calls Tryz.prog 62 #[.pointer (some ⟨b, 0, none⟩)] w fun e w' => e = .returned (.string ⟨l.toArray⟩) ∧ Below B w w' := Any.Builder_String_any Tryz.lays169 Tryz.Builder_Extra_169 B b l w h hBw
def Tryz.lays156_ren : Go.Shelf.Ren := ⟨fun | 156 => 29 | 165 => 59 | 166 => 60 | 169 => 62 | 240 => 125 | 241 => 126 | 276 => 169 | 277 => 170 | n => n, fun | 31 => 71 | 9 => 9 | 3 => 3 | 4 => 4 | 0 => 0 | 20 => 20 | 72 => 115 | 76 => 119 | 70 => 112 | 37 => 113 | 75 => 118 | 127 => 198 | 164 => 236 | 5 => 5 | 80 => 122 | n => n, fun | n => n⟩
theorem Tryz.lays156 : Go.Proofs.Lays.n156 Tryz.prog Tryz.lays156_ren := {
 mixed := by kernel_rfl
 f156 := Tryz.func29.trans (congrArg some (by kernel_rfl))
 f165 := Tryz.func59.trans (congrArg some (by kernel_rfl))
 f166 := Tryz.func60.trans (congrArg some (by kernel_rfl))
 f169 := Tryz.func62.trans (congrArg some (by kernel_rfl))
 f240 := Tryz.func125.trans (congrArg some (by kernel_rfl))
 f241 := Tryz.func126.trans (congrArg some (by kernel_rfl))
 f276 := Tryz.func169.trans (congrArg some (by kernel_rfl))
 f277 := Tryz.func170.trans (congrArg some (by kernel_rfl))
 t0 := Tryz.underlying0
 a0 := Tryz.isAgg0
 z0 := Tryz.sizeOf0
 v0 := Tryz.zeroValue0
 t3 := Tryz.underlying3
 a3 := Tryz.isAgg3
 z3 := Tryz.sizeOf3
 v3 := Tryz.zeroValue3
 t4 := Tryz.underlying4
 a4 := Tryz.isAgg4
 z4 := Tryz.sizeOf4
 v4 := Tryz.zeroValue4
 t9 := Tryz.underlying9
 a9 := Tryz.isAgg9
 z9 := Tryz.sizeOf9
 v9 := Tryz.zeroValue9
 t20 := Tryz.underlying20
 a20 := Tryz.isAgg20
 z20 := Tryz.sizeOf20
 v20 := Tryz.zeroValue20
 t31 := Tryz.underlying71
 a31 := Tryz.isAgg71
 z31 := Tryz.sizeOf71
 v31 := Tryz.zeroValue71
 t37 := Tryz.underlying113
 a37 := Tryz.isAgg113
 z37 := Tryz.sizeOf113
 v37 := Tryz.zeroValue113
 t70 := Tryz.underlying112
 a70 := Tryz.isAgg112
 z70 := Tryz.sizeOf112
 v70 := Tryz.zeroValue112
 t72 := Tryz.underlying115
 a72 := Tryz.isAgg115
 z72 := Tryz.sizeOf115
 v72 := Tryz.zeroValue115
 t75 := Tryz.underlying118
 a75 := Tryz.isAgg118
 z75 := Tryz.sizeOf118
 v75 := Tryz.zeroValue118
 t76 := Tryz.underlying119
 a76 := Tryz.isAgg119
 z76 := Tryz.sizeOf119
 v76 := Tryz.zeroValue119
 t127 := Tryz.underlying198
 a127 := Tryz.isAgg198
 z127 := Tryz.sizeOf198
 v127 := Tryz.zeroValue198
 t164 := Tryz.underlying236
 a164 := Tryz.isAgg236
 z164 := Tryz.sizeOf236
 v164 := Tryz.zeroValue236 }
theorem Tryz.Builder_Extra_156 : Builder.Extra Tryz.prog Tryz.lays156_ren := {
 sizeBuilder := by kernel_rfl
 liesBuilder := by kernel_rfl
 t5 := Tryz.underlying5
 a5 := Tryz.isAgg5
 z5 := Tryz.sizeOf5
 v5 := Tryz.zeroValue5
 infoByte := by kernel_rfl
 cellsByte := by kernel_rfl
 sizeByte := by kernel_rfl
 neB5 := by decide }
open Go.RowKit in
theorem Tryz.strings_Join (bk o c : Nat) (xs : List ByteArray) (sep : ByteArray) (w : World) (hcells : ∀ (j : Nat) x, xs[j]? = some x → w.cell? ⟨bk, o + j, none⟩ = some (.string x)) (hbk : bk < w.heap.size) (hN : xs.length ≤ 140737488355328) (hcap : xs.length ≤ c) (hlen : (Lib.join (xs.map (·.data.toList)) sep.data.toList).length ≤ 140737488355328) :
  Calls Tryz.prog 29 #[.slice (some ⟨bk, o, none⟩) xs.length c, .string sep] w fun e w' => e = .returned (.string ⟨(Lib.join (xs.map (·.data.toList)) sep.data.toList).toArray⟩) ∧ Below w.heap.size w w' := Any.strings_Join Tryz.lays156 Tryz.Builder_Extra_156 bk o c xs sep w hcells hbk hN hcap hlen
def Tryz.lays133_ren : Go.Shelf.Ren := ⟨fun | 133 => 236 | 128 => 241 | n => n, fun | 51 => 192 | 3 => 3 | 4 => 4 | 46 => 108 | 5 => 5 | 9 => 9 | n => n, fun | n => n⟩
theorem Tryz.lays133 : Go.Proofs.Lays.n133 Tryz.prog Tryz.lays133_ren := {
 mixed := by kernel_rfl
 f128 := Tryz.func241.trans (congrArg some (by kernel_rfl))
 f133 := Tryz.func236.trans (congrArg some (by kernel_rfl))
 t3 := Tryz.underlying3
 a3 := Tryz.isAgg3
 z3 := Tryz.sizeOf3
 v3 := Tryz.zeroValue3
 t4 := Tryz.underlying4
 a4 := Tryz.isAgg4
 z4 := Tryz.sizeOf4
 v4 := Tryz.zeroValue4
 t5 := Tryz.underlying5
 a5 := Tryz.isAgg5
 z5 := Tryz.sizeOf5
 v5 := Tryz.zeroValue5
 t9 := Tryz.underlying9
 a9 := Tryz.isAgg9
 z9 := Tryz.sizeOf9
 v9 := Tryz.zeroValue9
 t46 := Tryz.underlying108
 a46 := Tryz.isAgg108
 z46 := Tryz.sizeOf108
 v46 := Tryz.zeroValue108
 t51 := Tryz.underlying192
 a51 := Tryz.isAgg192
 z51 := Tryz.sizeOf192
 v51 := Tryz.zeroValue192 }
theorem Tryz.bits_LeadingZeros32 (x : Int) (w : World) (h0 : 0 ≤ x) (h1 : x ≤ 4294967295) :
  Calls Tryz.prog 236 #[.int .u32 x] w fun e w' => e = .returned (.int .i64 (32 - (Lib.bitLen x.toNat : Int))) ∧ w' = w := Any.bits_LeadingZeros32 Tryz.lays133 x w h0 h1
def Tryz.lays103_ren : Go.Shelf.Ren := ⟨fun | 103 => 194 | 210 => 221 | 206 => 124 | n => n, fun | 9 => 9 | 4 => 4 | 24 => 255 | 3 => 3 | n => n, fun | n => n⟩
theorem Tryz.lays103 : Go.Proofs.Lays.n103 Tryz.prog Tryz.lays103_ren := {
 mixed := by kernel_rfl
 f103 := Tryz.func194.trans (congrArg some (by kernel_rfl))
 f206 := Tryz.func124.trans (congrArg some (by kernel_rfl))
 f210 := Tryz.func221.trans (congrArg some (by kernel_rfl))
 t3 := Tryz.underlying3
 a3 := Tryz.isAgg3
 z3 := Tryz.sizeOf3
 v3 := Tryz.zeroValue3
 t4 := Tryz.underlying4
 a4 := Tryz.isAgg4
 z4 := Tryz.sizeOf4
 v4 := Tryz.zeroValue4
 t9 := Tryz.underlying9
 a9 := Tryz.isAgg9
 z9 := Tryz.sizeOf9
 v9 := Tryz.zeroValue9
 t24 := Tryz.underlying255
 a24 := Tryz.isAgg255
 z24 := Tryz.sizeOf255
 v24 := Tryz.zeroValue255 }
open Go.RowKit in
theorem Tryz.strings_CutPrefix (s p : ByteArray) (w : World) :
  Calls Tryz.prog 194 #[.string s, .string p] w fun e w' => e = .returned (.tuple #[.string ⟨(Lib.trimPrefix s.data.toList p.data.toList).toArray⟩, .bool (Lib.hasPrefix s.data.toList p.data.toList)]) ∧ w' = w := Any.strings_CutPrefix Tryz.lays103 s p w
def Tryz.laysM171_ren : Go.Shelf.Ren := ⟨fun | 171 => 72 | 243 => 134 | 246 => 133 | 283 => 178 | 284 => 179 | 285 => 180 | 286 => 181 | 129 => 216 | 317 => 215 | 318 => 217 | 319 => 218 | 320 => 219 | 337 => 230 | 338 => 231 | n => n, fun | 3 => 3 | 9 => 9 | 2 => 2 | 4 => 4 | 171 => 242 | 0 => 0 | 53 => 195 | 37 => 113 | 5 => 5 | 173 => 245 | 212 => 281 | 51 => 192 | 20 => 20 | 213 => 282 | 46 => 108 | 232 => 296 | 233 => 297 | n => n, fun | 17 => 3 | 18 => 4 | 19 => 5 | n => n⟩
theorem Tryz.laysM171 : Go.Proofs.LaysM.n171 Tryz.prog Tryz.laysM171_ren := {
 mixed := by kernel_rfl
 f129 := Tryz.func216.trans (congrArg some (by kernel_rfl))
 f171 := Tryz.func72.trans (congrArg some (by kernel_rfl))
 f243 := Tryz.func134.trans (congrArg some (by kernel_rfl))
 f246 := Tryz.func133.trans (congrArg some (by kernel_rfl))
 f283 := Tryz.func178.trans (congrArg some (by kernel_rfl))
 f284 := Tryz.func179.trans (congrArg some (by kernel_rfl))
 f285 := Tryz.func180.trans (congrArg some (by kernel_rfl))
 f286 := Tryz.func181.trans (congrArg some (by kernel_rfl))
 f317 := Tryz.func215.trans (congrArg some (by kernel_rfl))
 f318 := Tryz.func217.trans (congrArg some (by kernel_rfl))
 f319 := Tryz.func218.trans (congrArg some (by kernel_rfl))
 f320 := Tryz.func219.trans (congrArg some (by kernel_rfl))
 f337 := Tryz.func230.trans (congrArg some (by kernel_rfl))
 f338 := Tryz.func231.trans (congrArg some (by kernel_rfl))
 t0 := Tryz.underlying0
 a0 := Tryz.isAgg0
 z0 := Tryz.sizeOf0
 v0 := Tryz.zeroValue0
 t2 := Tryz.underlying2
 a2 := Tryz.isAgg2
 z2 := Tryz.sizeOf2
 v2 := Tryz.zeroValue2
 t3 := Tryz.underlying3
 a3 := Tryz.isAgg3
 z3 := Tryz.sizeOf3
 v3 := Tryz.zeroValue3
 t4 := Tryz.underlying4
 a4 := Tryz.isAgg4
 z4 := Tryz.sizeOf4
 v4 := Tryz.zeroValue4
 t5 := Tryz.underlying5
 a5 := Tryz.isAgg5
 z5 := Tryz.sizeOf5
 v5 := Tryz.zeroValue5
 t9 := Tryz.underlying9
 a9 := Tryz.isAgg9
 z9 := Tryz.sizeOf9
 v9 := Tryz.zeroValue9
 t20 := Tryz.underlying20
 a20 := Tryz.isAgg20
 z20 := Tryz.sizeOf20
 v20 := Tryz.zeroValue20
 t37 := Tryz.underlying113
 a37 := Tryz.isAgg113
 z37 := Tryz.sizeOf113
 v37 := Tryz.zeroValue113
 t46 := Tryz.underlying108
 a46 := Tryz.isAgg108
 z46 := Tryz.sizeOf108
 v46 := Tryz.zeroValue108
 t51 := Tryz.underlying192
 a51 := Tryz.isAgg192
 z51 := Tryz.sizeOf192
 v51 := Tryz.zeroValue192
 t53 := Tryz.underlying195
 a53 := Tryz.isAgg195
 z53 := Tryz.sizeOf195
 v53 := Tryz.zeroValue195
 t171 := Tryz.underlying242
 a171 := Tryz.isAgg242
 z171 := Tryz.sizeOf242
 v171 := Tryz.zeroValue242
 t173 := Tryz.underlying245
 a173 := Tryz.isAgg245
 z173 := Tryz.sizeOf245
 v173 := Tryz.zeroValue245
 t212 := Tryz.underlying281
 a212 := Tryz.isAgg281
 z212 := Tryz.sizeOf281
 v212 := Tryz.zeroValue281
 t213 := Tryz.underlying282
 a213 := Tryz.isAgg282
 z213 := Tryz.sizeOf282
 t232 := Tryz.underlying296
 a232 := Tryz.isAgg296
 z232 := Tryz.sizeOf296
 v232 := Tryz.zeroValue296
 t233 := Tryz.underlying297
 a233 := Tryz.isAgg297
 z233 := Tryz.sizeOf297
 v233 := Tryz.zeroValue297
 g17 := by kernel_rfl
 g18 := by kernel_rfl
 g19 := by kernel_rfl
 i0 := by kernel_rfl
 i2 := by kernel_rfl
 i3 := by kernel_rfl
 i4 := by kernel_rfl
 i5 := by kernel_rfl
 i9 := by kernel_rfl
 i20 := by kernel_rfl
 i37 := by kernel_rfl
 i46 := by kernel_rfl
 i51 := by kernel_rfl
 i53 := by kernel_rfl
 i171 := by kernel_rfl
 i173 := by kernel_rfl
 i212 := by kernel_rfl
 i232 := by kernel_rfl
 i233 := by kernel_rfl
 m17 := by kernel_rfl
 m18 := by kernel_rfl
 m19 := by kernel_rfl }
open Go.RowKit Go.Sort Go.Lib in
theorem Tryz.strconv_Itoa (n : Int) (h0 : -9223372036854775808 ≤ n) (h1 : n ≤ 9223372036854775807) (w : World) (htab : Lib.TabIs Tryz.prog w "internal/strconv.uint64pow10" .u64 Lib.pow10Tab) :
  Calls Tryz.prog 72 #[.int .i64 n] w fun e w' => e = .returned (.string ⟨(Lib.itoa n).toArray⟩) ∧ ∃ k os, w' = grow (w.drewN k) os := Any.strconv_Itoa Tryz.laysM171 n h0 h1 w htab
def Tryz.laysM173_ren : Go.Shelf.Ren := ⟨fun | 173 => 70 | 246 => 133 | 283 => 178 | 284 => 179 | 285 => 180 | 286 => 181 | 129 => 216 | 317 => 215 | 318 => 217 | 319 => 218 | 320 => 219 | 337 => 230 | 338 => 231 | n => n, fun | 2 => 2 | 3 => 3 | 9 => 9 | 4 => 4 | 171 => 242 | 0 => 0 | 53 => 195 | 37 => 113 | 5 => 5 | 173 => 245 | 212 => 281 | 51 => 192 | 20 => 20 | 213 => 282 | 46 => 108 | 232 => 296 | 233 => 297 | n => n, fun | 17 => 3 | 18 => 4 | 19 => 5 | n => n⟩
theorem Tryz.laysM173 : Go.Proofs.LaysM.n173 Tryz.prog Tryz.laysM173_ren := {
 mixed := by kernel_rfl
 f129 := Tryz.func216.trans (congrArg some (by kernel_rfl))
 f173 := Tryz.func70.trans (congrArg some (by kernel_rfl))
 f246 := Tryz.func133.trans (congrArg some (by kernel_rfl))
 f283 := Tryz.func178.trans (congrArg some (by kernel_rfl))
 f284 := Tryz.func179.trans (congrArg some (by kernel_rfl))
 f285 := Tryz.func180.trans (congrArg some (by kernel_rfl))
 f286 := Tryz.func181.trans (congrArg some (by kernel_rfl))
 f317 := Tryz.func215.trans (congrArg some (by kernel_rfl))
 f318 := Tryz.func217.trans (congrArg some (by kernel_rfl))
 f319 := Tryz.func218.trans (congrArg some (by kernel_rfl))
 f320 := Tryz.func219.trans (congrArg some (by kernel_rfl))
 f337 := Tryz.func230.trans (congrArg some (by kernel_rfl))
 f338 := Tryz.func231.trans (congrArg some (by kernel_rfl))
 t0 := Tryz.underlying0
 a0 := Tryz.isAgg0
 z0 := Tryz.sizeOf0
 v0 := Tryz.zeroValue0
 t2 := Tryz.underlying2
 a2 := Tryz.isAgg2
 z2 := Tryz.sizeOf2
 v2 := Tryz.zeroValue2
 t3 := Tryz.underlying3
 a3 := Tryz.isAgg3
 z3 := Tryz.sizeOf3
 v3 := Tryz.zeroValue3
 t4 := Tryz.underlying4
 a4 := Tryz.isAgg4
 z4 := Tryz.sizeOf4
 v4 := Tryz.zeroValue4
 t5 := Tryz.underlying5
 a5 := Tryz.isAgg5
 z5 := Tryz.sizeOf5
 v5 := Tryz.zeroValue5
 t9 := Tryz.underlying9
 a9 := Tryz.isAgg9
 z9 := Tryz.sizeOf9
 v9 := Tryz.zeroValue9
 t20 := Tryz.underlying20
 a20 := Tryz.isAgg20
 z20 := Tryz.sizeOf20
 v20 := Tryz.zeroValue20
 t37 := Tryz.underlying113
 a37 := Tryz.isAgg113
 z37 := Tryz.sizeOf113
 v37 := Tryz.zeroValue113
 t46 := Tryz.underlying108
 a46 := Tryz.isAgg108
 z46 := Tryz.sizeOf108
 v46 := Tryz.zeroValue108
 t51 := Tryz.underlying192
 a51 := Tryz.isAgg192
 z51 := Tryz.sizeOf192
 v51 := Tryz.zeroValue192
 t53 := Tryz.underlying195
 a53 := Tryz.isAgg195
 z53 := Tryz.sizeOf195
 v53 := Tryz.zeroValue195
 t171 := Tryz.underlying242
 a171 := Tryz.isAgg242
 z171 := Tryz.sizeOf242
 v171 := Tryz.zeroValue242
 t173 := Tryz.underlying245
 a173 := Tryz.isAgg245
 z173 := Tryz.sizeOf245
 v173 := Tryz.zeroValue245
 t212 := Tryz.underlying281
 a212 := Tryz.isAgg281
 z212 := Tryz.sizeOf281
 v212 := Tryz.zeroValue281
 t213 := Tryz.underlying282
 a213 := Tryz.isAgg282
 z213 := Tryz.sizeOf282
 t232 := Tryz.underlying296
 a232 := Tryz.isAgg296
 z232 := Tryz.sizeOf296
 v232 := Tryz.zeroValue296
 t233 := Tryz.underlying297
 a233 := Tryz.isAgg297
 z233 := Tryz.sizeOf297
 v233 := Tryz.zeroValue297
 g17 := by kernel_rfl
 g18 := by kernel_rfl
 g19 := by kernel_rfl
 i0 := by kernel_rfl
 i2 := by kernel_rfl
 i3 := by kernel_rfl
 i4 := by kernel_rfl
 i5 := by kernel_rfl
 i9 := by kernel_rfl
 i20 := by kernel_rfl
 i37 := by kernel_rfl
 i46 := by kernel_rfl
 i51 := by kernel_rfl
 i53 := by kernel_rfl
 i171 := by kernel_rfl
 i173 := by kernel_rfl
 i212 := by kernel_rfl
 i232 := by kernel_rfl
 i233 := by kernel_rfl
 m17 := by kernel_rfl
 m18 := by kernel_rfl
 m19 := by kernel_rfl }
open Go.RowKit Go.Sort Go.Lib in
theorem Tryz.strconv_FormatInt_10 (n : Int) (h0 : -9223372036854775808 ≤ n) (h1 : n ≤ 9223372036854775807) (w : World) (htab : Lib.TabIs Tryz.prog w "internal/strconv.uint64pow10" .u64 Lib.pow10Tab) :
  Calls Tryz.prog 70 #[.int .i64 n, .int .i64 10] w fun e w' => e = .returned (.string ⟨(Lib.itoa n).toArray⟩) ∧ ∃ k os, w' = grow (w.drewN k) os := Any.strconv_FormatInt_10 Tryz.laysM173 n h0 h1 w htab
end Go.Proofs
/- CtI -/
namespace Go.Proofs.YtkfhpefmmhljmaaGreatDoor
open Go.RowKit
theorem cut_pre (r : Bytes) : Lib.hasPrefix (bstr r).data.toList [45] = isNeg r ∧ Lib.trimPrefix (bstr r).data.toList [45] = magn r := by
 have e : (bstr r).data.toList = r := rfl;rw [e];unfold Lib.trimPrefix Lib.hasPrefix magn isNeg;cases r with
 | nil => exact ⟨rfl, rfl⟩
 | cons a l =>
  by_cases h : a = 45
  ·subst h; simp
  ·have h' : (45 : UInt8) ≠ a := fun e => h e.symm
   have h2 : ((45 : UInt8) == a) = (a == 45) := by rw [βf h, βf h']
   simp [h, List.isPrefixOf];exact ⟨h2, h'⟩
theorem magn_le (r : Bytes) : (magn r).length ≤ r.length := by
 unfold magn;split
 ·simp
 ·exact νr _
theorem own_wrd {w : World} {base : Nat} {A : Option Addr} {c : Nat} {ws : List Int} (h : w.ownsRow base 192 1 (.slice A ws.length c) ws.length (ws.map wV)) : WrdR w w.heap.size A ws := fun hn => by
 obtain ⟨g, cap, hv, hb, hg⟩ := h.form hn;injection hv with hA
 subst hA;refine ⟨g, 0, rfl, hg, fun i hi => ?_⟩;rw [Nat.zero_add, h.cellAt i (by omega)];simp [hi, wV]
theorem dval_cons_lt (l : Bytes) (h : ∀ x ∈ l, isDig x = true) : dval l < 10 ^ l.length := by
 refine snoc_ind (P := fun l => (∀ x ∈ l, isDig x = true) → dval l < 10 ^ l.length) (fun _ => by decide) (fun l d ih h => ?_) l h;have h1 := ih fun x hx => h x (by simp [hx])
 have h2 := h d (by simp);unfold isDig at h2;simp only [Bool.and_eq_true, decide_eq_true_eq] at h2;rw [dval_snoc, List.length_append, List.length_singleton, Nat.pow_succ];omega
def NumEE (w : World) (r : Int × Int) (e : Ending) (w' : World) : Prop := ∃ v, e = .returned (.tuple #[v, .int .i64 r.1]) ∧ NumR w' w'.heap.size v r.2 ∧ Below w.heap.size w w'
theorem NumEE.zero {w : World} {er : Int} {r : Int × Int} (h : r = (er, 0)) {W : World} (hb : Below w.heap.size w W) : NumEE w r (.returned (.tuple #[.agg #[.bool false, .slice none 0 0], .int .i64 er])) W :=
 ⟨_, by rw [h], by rw [h]; exact NumR.zero _ _, hb⟩
theorem parse_any (r : Bytes) (w : World) (hl : r.length ≤ 1000000) : Calls Tryz.prog 162 #[.string (bstr r)] w (NumEE w (pz r)) := by
 have hcp := cut_pre r;have hle := magn_le r;have K1 := fun W => Tryz.strings_CutPrefix (bstr r) ⟨#[45]⟩ W
 rw [show (⟨#[45]⟩ : ByteArray).data.toList = [45] from rfl, hcp.1, hcp.2] at K1;have K2 := η fun W => isdec_any (magn r) W (by omega)
 have HB0 := η ((Below.refl w.heap.size w).alloc (νr _) (.cells #[.bool false, .slice none 0 0] 83));have hsz := bstr_size (magn r)
 change ∀ W, Calls _ _ _ W fun e w' => e = .returned (.tuple #[.string (bstr (magn r)), .bool (isNeg r)]) ∧ w' = W at K1
 have HK1 := η K1;clear K1;by_cases hlong : 1000 < (magn r).length
 ·have E : Hid (pz r = (5, 0)) := by show _ = _; unfold pz; rw [if_pos hlong]
  have e0 : decide ((1000 : Int) < ((magn r).length : Int)) = true := decide_eq_true (by omega);clear hlong K2 hcp hle;generalize magn r = m at *;generalize isNeg r = ng at *;generalize bstr r = s at *;generalize bstr m = sm at *;go_enter Tryz.func162, Tryz.ntmps162;go_wp2_with fail;refine (HK1.out _).mono ?_;rintro e w1 ⟨rfl, rfl⟩;go_wp2_with fail;exact bodyPost_ret (v := .tuple #[.agg #[.bool false, .slice none 0 0], .int .i64 5]) (by simp [results, Tryz.results162, go_sem]) rfl (NumEE.zero E.out HB0.out)
 ·have e0 : decide ((1000 : Int) < ((magn r).length : Int)) = false := decide_eq_false (by omega);cases hd : isDec (magn r) with
  | false =>
   have E : Hid (pz r = (3, 0)) := by show _ = _; unfold pz; rw [if_neg hlong, hd]; rfl
   rw [hd] at K2;clear hlong hcp hle hd;generalize magn r = m at *;generalize isNeg r = ng at *;generalize bstr r = s at *;generalize bstr m = sm at *;go_enter Tryz.func162, Tryz.ntmps162;go_wp2_with fail;refine (HK1.out _).mono ?_;rintro e w1 ⟨rfl, rfl⟩;go_wp2_with fail;refine (K2.out _).mono ?_;rintro e w2 ⟨rfl, hb2⟩;have q0 : w2.cell? ⟨w.heap.size, 0, none⟩ = some (.bool false) := (hb2.cell (by simp)).trans (by simp);have q1 : w2.cell? ⟨w.heap.size, 1, none⟩ = some (.slice none 0 0) := (hb2.cell (by simp)).trans (by simp);have s0 : w2.frozen? ⟨w.heap.size, 0, none⟩ = false := (hb2.frozen (by simp)).trans (by simp);have s1 : w2.frozen? ⟨w.heap.size, 1, none⟩ = false := (hb2.frozen (by simp)).trans (by simp);have HB2 := η (HB0.out.trans (hb2.mono (by simp)));clear hb2 HB0 K2 HK1;go_wp2_with fail;exact bodyPost_ret (v := .tuple #[.agg #[.bool false, .slice none 0 0], .int .i64 3]) (by simp [results, Tryz.results162, go_sem, q0, q1]) rfl (NumEE.zero E.out ((HB2.out.setCell (p := ⟨w.heap.size, 0, none⟩) (νr _) _).setCell (p := ⟨w.heap.size, 1, none⟩) (νr _) _))
  | true =>
   rw [hd] at K2;have hall : ∀ x ∈ magn r, isDig x = true := by
    unfold isDec at hd;simp only [Bool.and_eq_true] at hd;exact List.all_eq_true.1 hd.2
   have HALL := η hall;clear hall;have h48 : ((bstr (magn r)).toList == [48]) = (magn r == [48]) := by rw [bstr_toList]
   by_cases hz : isNeg r = true ∧ (magn r == [48]) = true
   ·have E : Hid (pz r = (3, 0)) := by show _ = _; unfold pz; rw [if_neg hlong, hd, hz.1, hz.2]; rfl
    rw [hz.2] at h48;rw [hz.1] at HK1;clear hlong hcp hle hd hz HALL;generalize magn r = m at *;generalize bstr r = s at *;generalize bstr m = sm at *;go_enter Tryz.func162, Tryz.ntmps162;go_wp2_with fail;refine (HK1.out _).mono ?_;rintro e w1 ⟨rfl, rfl⟩;go_wp2_with fail;refine (K2.out _).mono ?_;rintro e w2 ⟨rfl, hb2⟩;have q0 : w2.cell? ⟨w.heap.size, 0, none⟩ = some (.bool false) := (hb2.cell (by simp)).trans (by simp);have q1 : w2.cell? ⟨w.heap.size, 1, none⟩ = some (.slice none 0 0) := (hb2.cell (by simp)).trans (by simp);have s0 : w2.frozen? ⟨w.heap.size, 0, none⟩ = false := (hb2.frozen (by simp)).trans (by simp);have s1 : w2.frozen? ⟨w.heap.size, 1, none⟩ = false := (hb2.frozen (by simp)).trans (by simp);have HB2 := η (HB0.out.trans (hb2.mono (by simp)));clear hb2 HB0 K2 HK1;go_wp2_with fail;exact bodyPost_ret (v := .tuple #[.agg #[.bool false, .slice none 0 0], .int .i64 3]) (by simp [results, Tryz.results162, go_sem, q0, q1]) rfl (NumEE.zero E.out ((HB2.out.setCell (p := ⟨w.heap.size, 0, none⟩) (νr _) _).setCell (p := ⟨w.heap.size, 1, none⟩) (νr _) _))
   ·have hg : isNeg r = false ∨ (isNeg r = true ∧ (magn r == [48]) = false) := by
     cases h1 : isNeg r
     ·exact .inl rfl
     ·cases h2 : (magn r == [48])
      ·exact .inr ⟨rfl, rfl⟩
      ·exact absurd ⟨h1, h2⟩ hz
    have E : Hid (pz r = (0, sgnI (isNeg r) (dval (magn r) : Int))) := by
     show _ = _
     unfold pz;rw [if_neg hlong, hd];rcases hg with h | ⟨h1, h2⟩
     ·rw [h]; rfl
     ·rw [h1, h2]; rfl
    have hlen : (magn r).length ≤ 1000 := by omega
    clear hlong hcp hle hd hz;generalize hm : magn r = m at *;clear hm;generalize hn : isNeg r = ng at *;clear hn;generalize bstr r = s at *;have HM : ∀ (w2 : World), w2.cell? ⟨w.heap.size, 0, none⟩ = some (.bool false) → w2.cell? ⟨w.heap.size, 1, none⟩ = some (.slice none 0 0) → w2.frozen? ⟨w.heap.size, 0, none⟩ = false → w2.frozen? ⟨w.heap.size, 1, none⟩ = false → Below w.heap.size w w2 → True := fun _ _ _ _ _ _ => trivial
    clear HM;rcases hg with rfl | ⟨rfl, h2⟩
    case' inr => rw [h2] at h48; clear h2; obtain ⟨NG, hNG⟩ : ∃ b, b = true := ⟨_, rfl⟩
    case' inl => clear h48; obtain ⟨NG, hNG⟩ : ∃ b, b = false := ⟨_, rfl⟩
    all_goals
     go_enter Tryz.func162, Tryz.ntmps162;go_wp2_with fail;refine (HK1.out _).mono ?_;rintro e w1 ⟨rfl, rfl⟩;go_wp2_with fail;refine (K2.out _).mono ?_;rintro e w2 ⟨rfl, hb2⟩;have q0 : w2.cell? ⟨w.heap.size, 0, none⟩ = some (.bool false) := (hb2.cell (by simp)).trans (by simp);have q1 : w2.cell? ⟨w.heap.size, 1, none⟩ = some (.slice none 0 0) := (hb2.cell (by simp)).trans (by simp);have s0 : w2.frozen? ⟨w.heap.size, 0, none⟩ = false := (hb2.frozen (by simp)).trans (by simp);have s1 : w2.frozen? ⟨w.heap.size, 1, none⟩ = false := (hb2.frozen (by simp)).trans (by simp);have HB2 := η (HB0.out.trans (hb2.mono (by simp)));have hlt : w.heap.size + 1 ≤ w2.heap.size := World.block_lt_of_cell? w2 ⟨w.heap.size, 0, none⟩ q0;clear hb2 HB0 K2 HK1;go_wp2_with fail;clear e0 hsz
     try clear h48
     go_loopg [4, 6] m.length (fun g s4 s6 wr => ∃ (done rest : Bytes) (v : Value) (ws : List Int), m = done ++ rest ∧ rest.length ≤ g ∧ s4 = .string (bstr rest) ∧ s6 = v ∧
      wr.ownsRow (w.heap.size + 1) 192 1 v ws.length (ws.map wV) ∧ Words ws ∧ wv ws = (dval done : Int) ∧ ws.length ≤ done.length ∧ Below (w.heap.size + 1) w2 wr)
     case atStart => exact ⟨[], m, .slice none 0 0, [], rfl, νr _, rfl, rfl, World.ownsRow_nil _ _ _ _, (fun x h => by cases h), rfl, νr _, Below.refl _ _⟩
     case round =>
      obtain ⟨done, rest, v, ws, hm, hrg, rfl, rfl, hrow, hws, hwv, hwl, hbw⟩ := hrel;have HWS := η hws;have HBW := η hbw;have HROW := η hrow;have HWV := η hwv;have HM := η hm;clear hws hwv hm;have HML : Hid (m.length = done.length + rest.length) := by show _ = _; rw [HM.out, List.length_append]
      by_cases hr : rest.length = 0
      ·have e1 : decide ((0 : Int) < (rest.length : Int)) = false := decide_eq_false (by omega);obtain rfl : rest = [] := List.eq_nil_of_length_eq_zero hr;have HE2 : Hid (pz r = (0, sgnI NG (wv ws))) := by show _ = _; rw [hNG, E.out, HWV.out, HM.out, List.append_nil]
       obtain ⟨A, c, rfl, hac⟩ := ownsRow_slice hrow;subst hNG;have KB := η (fun ng => build_any ng A c ws wr (own_wrd hrow) (by have := HML.out; omega) hac HWS.out);have r0 : wr.cell? ⟨w.heap.size, 0, none⟩ = some (.bool false) := (hbw.cell (by show w.heap.size < _; omega)).trans q0;have r1 : wr.cell? ⟨w.heap.size, 1, none⟩ = some (.slice none 0 0) := (hbw.cell (by show w.heap.size < _; omega)).trans q1;have t0 : wr.frozen? ⟨w.heap.size, 0, none⟩ = false := (hbw.frozen (by show w.heap.size < _; omega)).trans s0;have t1 : wr.frozen? ⟨w.heap.size, 1, none⟩ = false := (hbw.frozen (by show w.heap.size < _; omega)).trans s1;have hlt2 := World.block_lt_of_cell? wr ⟨w.heap.size, 0, none⟩ r0;clear hrow HROW hbw q0 q1 s0 s1 HALL;go_wp2_with fail;refine (KB.out _).mono ?_;rintro e w4 ⟨vz, rfl, hvz, hb4⟩;have u0 : w4.cell? ⟨w.heap.size, 0, none⟩ = some (.bool false) := (hb4.cell hlt2).trans r0;have u1 : w4.cell? ⟨w.heap.size, 1, none⟩ = some (.slice none 0 0) := (hb4.cell hlt2).trans r1;have v0 : w4.frozen? ⟨w.heap.size, 0, none⟩ = false := (hb4.frozen hlt2).trans t0;have v1 : w4.frozen? ⟨w.heap.size, 1, none⟩ = false := (hb4.frozen hlt2).trans t1;have HV := η hvz;obtain ⟨neg, A4, ws4, c4, rfl, hr4⟩ := hvz;have HB4 := η ((HB2.out.trans (HBW.out.mono (Nat.le_succ _))).trans (hb4.mono (by omega)));clear hr4 hb4 r0 r1 t0 t1 hlt2 KB;have HF := η ((HB4.out.setCell (p := ⟨w.heap.size, 0, none⟩) (νr _) (.bool neg)).setCell (p := ⟨w.heap.size, 1, none⟩) (νr _) (.slice A4 ws4.length c4));have HN := η ((HV.out.set u0 (by simp) (.bool neg)).set (p := ⟨w.heap.size, 1, none⟩) (by rw [World.cell?_setCell_other _ _ _ _ (by simp)]; exact u1) (by simp) (.slice A4 ws4.length c4));clear HV HB4;go_wp2_with fail;refine bodyPost_ret (v := .tuple #[.agg #[.bool neg, .slice A4 ws4.length c4], .int .i64 0]) (by simp [results, Tryz.results162, go_sem, u0, u1]) rfl ⟨_, by rw [HE2.out], ?_, HF.out⟩;rw [HE2.out, size_set, size_set];exact HN.out
      ·have e1 : decide ((0 : Int) < (rest.length : Int)) = true := decide_eq_true (by omega);have hsz := bstr_size rest;obtain ⟨n, hmin, hn9, hnr, hn0⟩ : ∃ n : Nat, min (9 : Int) (rest.length : Int) = (n : Int) ∧ n ≤ 9 ∧ n ≤ rest.length ∧ 0 < n := ⟨min 9 rest.length, by omega, by omega, by omega, by omega⟩;have hsl := str_from rest n hnr;have hdg : ∀ k, k < rest.length → 48 ≤ (rest.getD k 0).toNat ∧ (rest.getD k 0).toNat ≤ 57 := fun k hk => isDig_range (HALL.out _ (by rw [HM.out, getD_eq rest k 0 hk]; exact List.mem_append_right _ (List.getElem_mem hk)))
       have HDG := η hdg;have hval : ∀ k, k ≤ n → dval (rest.take k) < 10 ^ k := fun k hk => by
        have := dval_cons_lt (rest.take k) (fun x hx => HALL.out x (by rw [HM.out]; exact List.mem_append_right _ (List.mem_of_mem_take hx)));rwa [List.length_take, Nat.min_eq_left (by omega)] at this
       have HVAL := η hval;have hp9 : ∀ k, k ≤ n → (10 : Nat) ^ k ≤ 1000000000 := fun k hk => Nat.pow_le_pow_right (n := 10) (by decide) (show k ≤ 9 by omega)
       have HP := η hp9;clear hrow hbw q0 q1 s0 s1 hdg hval hp9;go_wp2_with fail;obtain ⟨wo, rfl⟩ : ∃ wo : World, wo = wr := ⟨_, rfl⟩;obtain ⟨gg, rfl⟩ : ∃ gg : Nat, gg = gk := ⟨_, rfl⟩;go_loopg [8, 9, 38] n (fun g s8 s9 s38 wx => ∃ k : Nat, k + g = n ∧ s38 = .int .i64 (k : Int) ∧ s8 = .int .u64 ((dval (rest.take k) : Nat) : Int) ∧ s9 = .int .u64 ((10 ^ k : Nat) : Int) ∧ wx = wo)
       case atStart => exact ⟨0, by omega, rfl, rfl, rfl, rfl⟩
       case round =>
        obtain ⟨k, hkg, rfl, rfl, rfl, rfl⟩ := hrel;cases gk with
        | zero =>
         obtain rfl : k = n := by omega
         clear hkg;have hv9 := HVAL.out k (νr _);have hp := HP.out k (νr _);have KS := η (scale_any (w.heap.size + 1) u6 ws ((10 ^ k : Nat) : Int) ((dval (rest.take k) : Nat) : Int) wr HROW.out (Nat.le_trans hlt HBW.out.size) HWS.out ⟨Int.natCast_nonneg _, by omega⟩ ⟨Int.natCast_nonneg _, by omega⟩ (by have := HML.out; omega));have HSP := η (scL_spec ((10 ^ k : Nat) : Int) (Int.natCast_nonneg _) (by omega) ws ((dval (rest.take k) : Nat) : Int) HWS.out (Int.natCast_nonneg _) (by omega));generalize hpp : ((10 ^ k : Nat) : Int) = pp at *;generalize hvv : ((dval (rest.take k) : Nat) : Int) = vv at *;have HPP := η hpp;have HVV := η hvv;clear hpp hvv hv9 hp;go_wp2_with fail;refine KS.out.mono ?_;rintro e w3 ⟨v', rfl, hrow3, hb3⟩;have HR3 := η hrow3;clear hrow3 KS;go_wp2_with fail;go_roundg (gg - 1)
         case measure => omega
         case rel =>
          refine ⟨done ++ rest.take k, rest.drop k, v', scL pp vv ws, by rw [List.append_assoc, List.take_append_drop]; exact HM.out, by rw [List.length_drop]; omega, rfl, rfl, by rw [scL_length]; exact HR3.out, HSP.out.1, ?_, ?_, HBW.out.trans (hb3.mono (νr _))⟩
          ·rw [HSP.out.2, HWV.out, ← HPP.out, ← HVV.out, dval_append, List.length_take, Nat.min_eq_left hnr];simp
          ·rw [scL_length, List.length_append, List.length_take, Nat.min_eq_left hnr];omega
        | succ g =>
         have hk : k < n := by omega
         have hkr : k < rest.length := by omega
         have hix := bstr_index rest k hkr;have hdg := HDG.out k hkr;have hv9 := HVAL.out k (by omega);have hp := HP.out k (by omega);have HS : Hid (dval (rest.take (k + 1)) = dval (rest.take k) * 10 + ((rest.getD k 0).toNat - 48)) := by
          show _ = _
          rw [List.take_succ_eq_append_getElem hkr, dval_snoc, getD_eq rest k 0 hkr]
         have HG := η hkg;clear hkg;generalize hd : (rest.getD k 0).toNat = d at *;clear hd;have p1 : IntKind.u8.wrap ((d : Int) - 48) = (d : Int) - 48 := by show ((d : Int) - 48) % 256 = _; omega
         have p2 : IntKind.u64.wrap ((d : Int) - 48) = (d : Int) - 48 := IntWalk.u64_in _ (by omega);have p3 : IntKind.u64.wrap (((dval (rest.take k) : Nat) : Int) * 10) = ((dval (rest.take k) : Nat) : Int) * 10 := IntWalk.u64_in _ (by omega);have p4 : IntKind.u64.wrap (((dval (rest.take k) : Nat) : Int) * 10 + ((d : Int) - 48)) = ((dval (rest.take (k + 1)) : Nat) : Int) := by rw [IntWalk.u64_in _ (by omega), HS.out]; omega
         have p5 : IntKind.u64.wrap (((10 ^ k : Nat) : Int) * 10) = ((10 ^ (k + 1) : Nat) : Int) := by rw [IntWalk.u64_in _ (by omega), Nat.pow_succ]; omega
         clear hv9 hp;generalize ((dval (rest.take k) : Nat) : Int) = vk at *;generalize hvk1 : ((dval (rest.take (k + 1)) : Nat) : Int) = vk1 at *;have HVK := η hvk1;clear hvk1;generalize ((10 ^ k : Nat) : Int) = pk at *;generalize hpk1 : ((10 ^ (k + 1) : Nat) : Int) = pk1 at *;have HPK := η hpk1;clear hpk1;go_wp2_with fail;go_roundg g
         case measure => omega
         case rel => exact ⟨k + 1, by have := HG.out; omega, by go_num, by rw [HVK.out], by rw [HPK.out], rfl⟩
end Go.Proofs.YtkfhpefmmhljmaaGreatDoor
