/- Texts in one: CtA, CtB. -/
import Derived.Deep.QuietTactic
import Derived.BigQuiet
import Derived.BigGuardPart
import Derived.LoopTactic
import Derived.Deep.LoopGhost
import Derived.WalkMore
import Derived.Outline
import Derived.Deep.DeepCutAuto
import Derived.Test.YtkfhpefmmhljmaaGreatDoorQ8
import Derived.Test.YtkfhpefmmhljmaaGreatDoorQ1
import Derived.Test.YtkfhpefmmhljmaaGreatDoorQ10
import Derived.Test.YtkfhpefmmhljmaaGreatDoorProg
import Derived.Test.YtkfhpefmmhljmaaGreatDoorQ11
set_option linter.unusedVariables false
set_option linter.unusedSimpArgs false
set_option maxRecDepth 100000
/- CtA -/
namespace Go.Proofs.YtkfhpefmmhljmaaGreatDoor
open Go.RowKit
set_option maxRecDepth 100000
theorem store_func {P : Program} (w : World) (a : Addr) (f : Fn) (fs cs : Array Value) (m : Mode) : (store a (.func f fs cs) m).run P w = stored P w a (.func f fs cs) m := run_store P w a _ m rfl
attribute [local go_sem] store_func
theorem field_has (f : FuncId) (w : World) : (Instr.field 154 (.agg #[.func (.func f) #[] #[]]) 0).run Tryz.prog w = .ok (.func (.func f) #[] #[]) w := by kernel_rfl
def bstr (l : Bytes) : ByteArray := ⟨l.toArray⟩
theorem bstr_size (l : Bytes) : (bstr l).size = l.length := by simp [bstr, ByteArray.size]
theorem bstr_index (l : Bytes) (i : Nat) (h : i < l.length) (w : World) : (Instr.index 9 (.string (bstr l)) (.int .i64 (i : Int))).run Tryz.prog w = .ok (.int .u8 ((l.getD i 0).toNat : Int)) w := by
 rw [run_index_string w _ _ _ _ Tryz.underlying9];have h2 : (0 : Int) ≤ (i : Int) ∧ (i : Int) < ((bstr l).size : Int) := by rw [bstr_size]; omega
 rw [dif_pos h2];have e : (bstr l)[((i : Int)).toNat]'(by omega) = l.getD i 0 := by
  have h3 : ((i : Int)).toNat = i := by omega
  simp only [h3];rw [getD_eq l i 0 h];rfl
 rw [e]
theorem u8_eq (x y : UInt8) : ((x.toNat : Int) == (y.toNat : Int)) = (x == y) := by
 by_cases h : x = y
 ·subst h; simp
 ·have : (x.toNat : Int) ≠ (y.toNat : Int) := fun e => h (UInt8.toNat_inj.1 (by omega))
  rw [beq_eq_false_iff_ne.2 this, beq_eq_false_iff_ne.2 h]
set_option maxHeartbeats 1000000 in
theorem sep1 (x : UInt8) (w : World) : Calls Tryz.prog 157 #[.int .u8 (x.toNat : Int)] w fun e w' => e = .returned (.bool (isSep x)) ∧ w' = w := by
 have e1 : ((x.toNat : Int) == 32) = (x == 32) := u8_eq x 32;have e2 : ((x.toNat : Int) == 10) = (x == 10) := u8_eq x 10;unfold isSep;cases h1 : (x == 32) with
 | true =>
  rw [h1] at e1;clear h1 e2;generalize (x.toNat : Int) = c at *;go_enter Tryz.func157, Tryz.ntmps157;go_wp2_with fail;go_ret;exact ⟨rfl, rfl⟩
 | false =>
  rw [h1] at e1;clear h1;cases h2 : (x == 10) with
  | true =>
   rw [h2] at e2;clear h2;generalize (x.toNat : Int) = c at *;go_enter Tryz.func157, Tryz.ntmps157;go_wp2_with fail;go_ret;exact ⟨rfl, rfl⟩
  | false =>
   rw [h2] at e2;clear h2;generalize (x.toNat : Int) = c at *;go_enter Tryz.func157, Tryz.ntmps157;go_wp2_with fail;go_ret;exact ⟨rfl, rfl⟩
set_option maxHeartbeats 1000000 in
theorem low1 (x : UInt8) (w : World) : Calls Tryz.prog 159 #[.int .u8 (x.toNat : Int)] w fun e w' => e = .returned (.bool (isLow x)) ∧ w' = w := by
 unfold isLow;cases h1 : decide (97 ≤ x.toNat) with
 | true =>
  have e1 : decide ((97 : Int) ≤ (x.toNat : Int)) = true := by rw [decide_eq_true_eq] at h1 ⊢; omega
  clear h1;cases h2 : decide (x.toNat ≤ 122) with
  | true =>
   have e2 : decide ((x.toNat : Int) ≤ 122) = true := by rw [decide_eq_true_eq] at h2 ⊢; omega
   clear h2;generalize (x.toNat : Int) = c at *;go_enter Tryz.func159, Tryz.ntmps159;go_wp2_with fail;go_ret;exact ⟨rfl, rfl⟩
  | false =>
   have e2 : decide ((x.toNat : Int) ≤ 122) = false := by rw [decide_eq_false_iff_not] at h2 ⊢; omega
   clear h2;generalize (x.toNat : Int) = c at *;go_enter Tryz.func159, Tryz.ntmps159;go_wp2_with fail;go_ret;exact ⟨rfl, rfl⟩
 | false =>
  have e1 : decide ((97 : Int) ≤ (x.toNat : Int)) = false := by rw [decide_eq_false_iff_not] at h1 ⊢; omega
  clear h1;generalize (x.toNat : Int) = c at *;go_enter Tryz.func159, Tryz.ntmps159;go_wp2_with fail;go_ret;exact ⟨rfl, rfl⟩
set_option maxHeartbeats 1000000 in
theorem num1 (x : UInt8) (w : World) : Calls Tryz.prog 160 #[.int .u8 (x.toNat : Int)] w fun e w' => e = .returned (.bool (isNum x)) ∧ w' = w := by
 have e3 : ((x.toNat : Int) == 45) = (x == 45) := u8_eq x 45;have e4 : ((x.toNat : Int) == 47) = (x == 47) := u8_eq x 47;unfold isNum isDig;cases h1 : decide (48 ≤ x.toNat) with
 | true =>
  have e1 : decide ((48 : Int) ≤ (x.toNat : Int)) = true := by rw [decide_eq_true_eq] at h1 ⊢; omega
  clear h1;cases h2 : decide (x.toNat ≤ 57) with
  | true =>
   have e2 : decide ((x.toNat : Int) ≤ 57) = true := by rw [decide_eq_true_eq] at h2 ⊢; omega
   clear h2 e3 e4;generalize (x.toNat : Int) = c at *;go_enter Tryz.func160, Tryz.ntmps160;go_wp2_with fail;go_ret;exact ⟨rfl, rfl⟩
  | false =>
   have e2 : decide ((x.toNat : Int) ≤ 57) = false := by rw [decide_eq_false_iff_not] at h2 ⊢; omega
   clear h2;cases h3 : (x == 45) with
   | true =>
    rw [h3] at e3;clear h3 e4;generalize (x.toNat : Int) = c at *;go_enter Tryz.func160, Tryz.ntmps160;go_wp2_with fail;go_ret;exact ⟨rfl, rfl⟩
   | false =>
    rw [h3] at e3;clear h3;cases h4 : (x == 47) with
    | true =>
     rw [h4] at e4;clear h4;generalize (x.toNat : Int) = c at *;go_enter Tryz.func160, Tryz.ntmps160;go_wp2_with fail;go_ret;exact ⟨rfl, rfl⟩
    | false =>
     rw [h4] at e4;clear h4;generalize (x.toNat : Int) = c at *;go_enter Tryz.func160, Tryz.ntmps160;go_wp2_with fail;go_ret;exact ⟨rfl, rfl⟩
 | false =>
  have e1 : decide ((48 : Int) ≤ (x.toNat : Int)) = false := by rw [decide_eq_false_iff_not] at h1 ⊢; omega
  clear h1;cases h3 : (x == 45) with
  | true =>
   rw [h3] at e3;clear h3 e4;generalize (x.toNat : Int) = c at *;go_enter Tryz.func160, Tryz.ntmps160;go_wp2_with fail;go_ret;exact ⟨rfl, rfl⟩
  | false =>
   rw [h3] at e3;clear h3;cases h4 : (x == 47) with
   | true =>
    rw [h4] at e4;clear h4;generalize (x.toNat : Int) = c at *;go_enter Tryz.func160, Tryz.ntmps160;go_wp2_with fail;go_ret;exact ⟨rfl, rfl⟩
   | false =>
    rw [h4] at e4;clear h4;generalize (x.toNat : Int) = c at *;go_enter Tryz.func160, Tryz.ntmps160;go_wp2_with fail;go_ret;exact ⟨rfl, rfl⟩
def sepV : Value := .agg #[.func (.func 157) #[] #[]]
set_option maxHeartbeats 1000000 in
theorem sep_mk (w : World) : Calls Tryz.prog 91 #[] w fun e w' => e = .returned sepV ∧ Below w.heap.size w w' := by
 go_enter Tryz.func91, Tryz.ntmps91;go_wp2_with fail;refine bodyPost_ret (v := sepV) (by simp [results, Tryz.results91, go_sem, sepV]) rfl ⟨rfl, (Below.refl _ _).alloc (Nat.le_refl _) _⟩
def lowV : Value := .agg #[.func (.func 159) #[] #[]]
set_option maxHeartbeats 1000000 in
theorem low_mk (w : World) : Calls Tryz.prog 94 #[] w fun e w' => e = .returned lowV ∧ Below w.heap.size w w' := by
 go_enter Tryz.func94, Tryz.ntmps94;go_wp2_with fail;refine bodyPost_ret (v := lowV) (by simp [results, Tryz.results94, go_sem, lowV]) rfl ⟨rfl, (Below.refl _ _).alloc (Nat.le_refl _) _⟩
def numV : Value := .agg #[.func (.func 160) #[] #[]]
set_option maxHeartbeats 1000000 in
theorem num_mk (w : World) : Calls Tryz.prog 96 #[] w fun e w' => e = .returned numV ∧ Below w.heap.size w w' := by
 go_enter Tryz.func96, Tryz.ntmps96;go_wp2_with fail;refine bodyPost_ret (v := numV) (by simp [results, Tryz.results96, go_sem, numV]) rfl ⟨rfl, (Below.refl _ _).alloc (Nat.le_refl _) _⟩
def runV : Value := .agg #[.func (.func 158) #[] #[]]
set_option maxHeartbeats 1000000 in
theorem run_mk (w : World) : Calls Tryz.prog 93 #[] w fun e w' => e = .returned runV ∧ Below w.heap.size w w' := by
 go_enter Tryz.func93, Tryz.ntmps93;go_wp2_with fail;refine bodyPost_ret (v := runV) (by simp [results, Tryz.results93, go_sem, runV]) rfl ⟨rfl, (Below.refl _ _).alloc (Nat.le_refl _) _⟩
set_option maxHeartbeats 2000000 in
theorem run1 (x : UInt8) (w : World) : Calls Tryz.prog 158 #[.int .u8 (x.toNat : Int)] w fun e w' => e = .returned (.bool (isRun x)) ∧ Below w.heap.size w w' := by
 have K1 := Lib.hid (low_mk w);have K2 := Lib.hid (fun w => low1 x w);have K3 := Lib.hid (fun w => num_mk w);have K4 := Lib.hid (fun w => num1 x w);have hfl := field_has;unfold isRun;unfold lowV at K1;unfold numV at K3;cases hl : isLow x with
 | true =>
  rw [hl] at K2;clear hl;generalize (x.toNat : Int) = c at *;go_enter Tryz.func158, Tryz.ntmps158;go_wp2_with fail;refine K1.out.mono ?_;rintro e w1 ⟨rfl, hb⟩;have HB := Lib.hid hb;clear hb;go_wp2_with fail;refine (K2.out _).mono ?_;rintro e w2 ⟨rfl, rfl⟩;go_wp2_with fail;go_ret;exact ⟨rfl, HB.out⟩
 | false =>
  rw [hl] at K2;clear hl;cases hn : isNum x with
  | true =>
   rw [hn] at K4;clear hn;generalize (x.toNat : Int) = c at *;go_enter Tryz.func158, Tryz.ntmps158;go_wp2_with fail;refine K1.out.mono ?_;rintro e w1 ⟨rfl, hb⟩;have HB := Lib.hid hb;clear hb;go_wp2_with fail;refine (K2.out _).mono ?_;rintro e w2 ⟨rfl, rfl⟩;go_wp2_with fail;refine (K3.out _).mono ?_;rintro e w3 ⟨rfl, hb⟩;have HB3 := Lib.hid (HB.out.trans (hb.mono HB.out.size));clear hb;go_wp2_with fail;refine (K4.out _).mono ?_;rintro e w4 ⟨rfl, rfl⟩;go_wp2_with fail;go_ret;exact ⟨rfl, HB3.out⟩
  | false =>
   rw [hn] at K4;clear hn;generalize (x.toNat : Int) = c at *;go_enter Tryz.func158, Tryz.ntmps158;go_wp2_with fail;refine K1.out.mono ?_;rintro e w1 ⟨rfl, hb⟩;have HB := Lib.hid hb;clear hb;go_wp2_with fail;refine (K2.out _).mono ?_;rintro e w2 ⟨rfl, rfl⟩;go_wp2_with fail;refine (K3.out _).mono ?_;rintro e w3 ⟨rfl, hb⟩;have HB3 := Lib.hid (HB.out.trans (hb.mono HB.out.size));clear hb;go_wp2_with fail;refine (K4.out _).mono ?_;rintro e w4 ⟨rfl, rfl⟩;go_wp2_with fail;go_ret;exact ⟨rfl, HB3.out⟩
end Go.Proofs.YtkfhpefmmhljmaaGreatDoor
/- CtB -/
namespace Go.Proofs.YtkfhpefmmhljmaaGreatDoor
open Go.RowKit
set_option maxRecDepth 100000
theorem endF_all (p : UInt8 → Bool) (l : Bytes) : decide (endF p l 0 = l.length) = l.all p := by
 unfold endF;rw [Nat.zero_add, List.drop_zero]
 induction l with
 | nil => rfl
 | cons a l ih =>
  rw [List.takeWhile_cons, List.all_cons];cases h : p a with
  | true => simpa using ih
  | false => simp
set_option maxHeartbeats 4000000 in
theorem sep_end (l : Bytes) (i : Nat) (w : World) (hi : i ≤ l.length) (hl : l.length ≤ 1000000) : Calls Tryz.prog 92 #[sepV, .string (bstr l), .int .i64 (i : Int)] w fun e w' => e = .returned (.int .i64 (endF isSep l i : Int)) ∧ Below w.heap.size w w' := by
 have hsz := bstr_size l;unfold sepV;have HB0 := Lib.hid ((Below.refl w.heap.size w).alloc (Nat.le_refl _) (.cells #[.func (.func 157) #[] #[]] 154));go_enter Tryz.func92, Tryz.ntmps92;go_wp2;go_step3;go_wp2;go_step3;go_wp2;go_loopg [2, 11] l.length (fun g s2 s11 wr => ∃ k : Nat, k ≤ l.length ∧ l.length ≤ k + g ∧ s2 = .int .i64 (k : Int) ∧ endF isSep l i = endF isSep l k ∧ wr.cell? ⟨w.heap.size, 0, none⟩ = some (.func (.func 157) #[] #[]) ∧ w.heap.size < wr.heap.size ∧ Below w.heap.size w wr)
 case atStart => exact ⟨i, hi, by omega, rfl, rfl, by simp, by simp, HB0.out⟩
 case round =>
  clear HB0;obtain ⟨k, hkl, hkg, rfl, hd, c0, hbw, hb⟩ := hrel;have HD := Lib.hid hd;have HB := Lib.hid hb;clear hd hb;by_cases hlt : k < l.length
  ·cases hp : isSep (l.getD k 0) with
   | true =>
    have hcall : ∀ W, Calls Tryz.prog 157 #[.int .u8 ((l.getD k 0).toNat : Int)] W fun e w' => e = .returned (.bool (isSep (l.getD k 0))) ∧ Below W.heap.size W w' := fun W => (sep1 (l.getD k 0) W).mono fun e w' ⟨he, hw⟩ => ⟨he, by rw [hw]; exact Below.refl _ _⟩
    rw [hp] at hcall;have hix := bstr_index l k hlt;have HE := Lib.hid (HD.out.trans (endF_yes hlt hp));clear hp;generalize ((l.getD k 0).toNat : Int) = c at *;generalize bstr l = s at *;go_wp2_with fail;refine region_T (w0 := wr) [(1, .string s), (2, .int .i64 (k : Int)), (3, .pointer (some ⟨w.heap.size, 0, none⟩)), (12, .pointer (some ⟨w.heap.size, 0, none⟩)), (13, .func (.func 157) #[] #[]), (14, .string s), (15, .int .i64 (k : Int)), (16, .int .u8 c), (17, .bool true), (11, .bool true)] [] [1, 2, 3] (by kernel_rfl) (by kernel_rfl) rfl ?_ ?_
    ·intro T hT W hI;simp only [HoldsT, and_true] at hT;have c0' : W.cell? ⟨w.heap.size, 0, none⟩ = _ := (hI.cell (p := ⟨w.heap.size, 0, none⟩) hbw).trans c0
     repeat' first | exact AllO.nil | apply AllO.cons
     all_goals try ((first | refine opT_r (runT_v ?_) | refine opT_r (runT_n ?_) | refine opT_g (by rfl) (by rfl) (by rfl) (by simp only [hT]) (runT_v ?_)); simp [go_sem, EvT, hT, c0', hix, valT]; done)
     ·refine opT_r (runT_c 157 #[.int .u8 c] (by simp [go_sem, EvT, hT, c0', hix]) ?_);simp only [valT, hT];exact hcall W
    intro T hT wx hb;simp only [HoldsT, and_true] at hT;simp (decide := true) only [putT, valT, hT, Act.put, List.setIfInBounds_toArray, List.set_cons_zero, List.set_cons_succ, Nat.reduceAdd, if_true, if_false];clear hT;have HB2 := Lib.hid (HB.out.trans (hb.mono HB.out.size));have c1 := (hb.cell (p := ⟨w.heap.size, 0, none⟩) hbw).trans c0;have hbw2 : w.heap.size < wx.heap.size := Nat.lt_of_lt_of_le hbw hb.size;clear hb hcall;obtain ⟨g2, rfl⟩ : ∃ g2, gk = g2 + 1 := ⟨gk - 1, by omega⟩;go_wp2_with fail;go_roundg g2
    case measure => omega
    case rel => exact ⟨k + 1, by omega, by omega, by go_num, HE.out, c1, hbw2, HB2.out⟩
   | false =>
    have hcall : ∀ W, Calls Tryz.prog 157 #[.int .u8 ((l.getD k 0).toNat : Int)] W fun e w' => e = .returned (.bool (isSep (l.getD k 0))) ∧ Below W.heap.size W w' := fun W => (sep1 (l.getD k 0) W).mono fun e w' ⟨he, hw⟩ => ⟨he, by rw [hw]; exact Below.refl _ _⟩
    rw [hp] at hcall;have hix := bstr_index l k hlt;have HE := Lib.hid (HD.out.trans (endF_no hlt hp));clear hp;generalize ((l.getD k 0).toNat : Int) = c at *;generalize bstr l = s at *;go_wp2_with fail;refine region_T (w0 := wr) [(1, .string s), (2, .int .i64 (k : Int)), (3, .pointer (some ⟨w.heap.size, 0, none⟩)), (12, .pointer (some ⟨w.heap.size, 0, none⟩)), (13, .func (.func 157) #[] #[]), (14, .string s), (15, .int .i64 (k : Int)), (16, .int .u8 c), (17, .bool false), (11, .bool false)] [] [1, 2, 3] (by kernel_rfl) (by kernel_rfl) rfl ?_ ?_
    ·intro T hT W hI;simp only [HoldsT, and_true] at hT;have c0' : W.cell? ⟨w.heap.size, 0, none⟩ = _ := (hI.cell (p := ⟨w.heap.size, 0, none⟩) hbw).trans c0
     repeat' first | exact AllO.nil | apply AllO.cons
     all_goals try ((first | refine opT_r (runT_v ?_) | refine opT_r (runT_n ?_) | refine opT_g (by rfl) (by rfl) (by rfl) (by simp only [hT]) (runT_v ?_)); simp [go_sem, EvT, hT, c0', hix, valT]; done)
     ·refine opT_r (runT_c 157 #[.int .u8 c] (by simp [go_sem, EvT, hT, c0', hix]) ?_);simp only [valT, hT];exact hcall W
    intro T hT wx hb;simp only [HoldsT, and_true] at hT;simp (decide := true) only [putT, valT, hT, Act.put, List.setIfInBounds_toArray, List.set_cons_zero, List.set_cons_succ, Nat.reduceAdd, if_true, if_false];clear hT;have HB2 := Lib.hid (HB.out.trans (hb.mono HB.out.size));have c1 := (hb.cell (p := ⟨w.heap.size, 0, none⟩) hbw).trans c0;have hbw2 : w.heap.size < wx.heap.size := Nat.lt_of_lt_of_le hbw hb.size;clear hb hcall;go_wp2_with fail
    try rw [Exit.noGoto_ret]
    go_ret;exact ⟨ret_int (by rw [HE.out]), HB2.out⟩
  ·have hk : k = l.length := by omega
   have HE := Lib.hid (HD.out.trans (endF_stop (by omega)));have hdl : decide ((k : Int) < (l.length : Int)) = false := by simp; omega
   clear hk;go_wp2_with fail
   try rw [Exit.noGoto_ret]
   go_ret;exact ⟨ret_int (by rw [HE.out]), HB.out⟩
set_option maxHeartbeats 4000000 in
theorem low_end (l : Bytes) (i : Nat) (w : World) (hi : i ≤ l.length) (hl : l.length ≤ 1000000) : Calls Tryz.prog 92 #[lowV, .string (bstr l), .int .i64 (i : Int)] w fun e w' => e = .returned (.int .i64 (endF isLow l i : Int)) ∧ Below w.heap.size w w' := by
 have hsz := bstr_size l;unfold lowV;have HB0 := Lib.hid ((Below.refl w.heap.size w).alloc (Nat.le_refl _) (.cells #[.func (.func 159) #[] #[]] 154));go_enter Tryz.func92, Tryz.ntmps92;go_wp2;go_step3;go_wp2;go_step3;go_wp2;go_loopg [2, 11] l.length (fun g s2 s11 wr => ∃ k : Nat, k ≤ l.length ∧ l.length ≤ k + g ∧ s2 = .int .i64 (k : Int) ∧ endF isLow l i = endF isLow l k ∧ wr.cell? ⟨w.heap.size, 0, none⟩ = some (.func (.func 159) #[] #[]) ∧ w.heap.size < wr.heap.size ∧ Below w.heap.size w wr)
 case atStart => exact ⟨i, hi, by omega, rfl, rfl, by simp, by simp, HB0.out⟩
 case round =>
  clear HB0;obtain ⟨k, hkl, hkg, rfl, hd, c0, hbw, hb⟩ := hrel;have HD := Lib.hid hd;have HB := Lib.hid hb;clear hd hb;by_cases hlt : k < l.length
  ·cases hp : isLow (l.getD k 0) with
   | true =>
    have hcall : ∀ W, Calls Tryz.prog 159 #[.int .u8 ((l.getD k 0).toNat : Int)] W fun e w' => e = .returned (.bool (isLow (l.getD k 0))) ∧ Below W.heap.size W w' := fun W => (low1 (l.getD k 0) W).mono fun e w' ⟨he, hw⟩ => ⟨he, by rw [hw]; exact Below.refl _ _⟩
    rw [hp] at hcall;have hix := bstr_index l k hlt;have HE := Lib.hid (HD.out.trans (endF_yes hlt hp));clear hp;generalize ((l.getD k 0).toNat : Int) = c at *;generalize bstr l = s at *;go_wp2_with fail;refine region_T (w0 := wr) [(1, .string s), (2, .int .i64 (k : Int)), (3, .pointer (some ⟨w.heap.size, 0, none⟩)), (12, .pointer (some ⟨w.heap.size, 0, none⟩)), (13, .func (.func 159) #[] #[]), (14, .string s), (15, .int .i64 (k : Int)), (16, .int .u8 c), (17, .bool true), (11, .bool true)] [] [1, 2, 3] (by kernel_rfl) (by kernel_rfl) rfl ?_ ?_
    ·intro T hT W hI;simp only [HoldsT, and_true] at hT;have c0' : W.cell? ⟨w.heap.size, 0, none⟩ = _ := (hI.cell (p := ⟨w.heap.size, 0, none⟩) hbw).trans c0
     repeat' first | exact AllO.nil | apply AllO.cons
     all_goals try ((first | refine opT_r (runT_v ?_) | refine opT_r (runT_n ?_) | refine opT_g (by rfl) (by rfl) (by rfl) (by simp only [hT]) (runT_v ?_)); simp [go_sem, EvT, hT, c0', hix, valT]; done)
     ·refine opT_r (runT_c 159 #[.int .u8 c] (by simp [go_sem, EvT, hT, c0', hix]) ?_);simp only [valT, hT];exact hcall W
    intro T hT wx hb;simp only [HoldsT, and_true] at hT;simp (decide := true) only [putT, valT, hT, Act.put, List.setIfInBounds_toArray, List.set_cons_zero, List.set_cons_succ, Nat.reduceAdd, if_true, if_false];clear hT;have HB2 := Lib.hid (HB.out.trans (hb.mono HB.out.size));have c1 := (hb.cell (p := ⟨w.heap.size, 0, none⟩) hbw).trans c0;have hbw2 : w.heap.size < wx.heap.size := Nat.lt_of_lt_of_le hbw hb.size;clear hb hcall;obtain ⟨g2, rfl⟩ : ∃ g2, gk = g2 + 1 := ⟨gk - 1, by omega⟩;go_wp2_with fail;go_roundg g2
    case measure => omega
    case rel => exact ⟨k + 1, by omega, by omega, by go_num, HE.out, c1, hbw2, HB2.out⟩
   | false =>
    have hcall : ∀ W, Calls Tryz.prog 159 #[.int .u8 ((l.getD k 0).toNat : Int)] W fun e w' => e = .returned (.bool (isLow (l.getD k 0))) ∧ Below W.heap.size W w' := fun W => (low1 (l.getD k 0) W).mono fun e w' ⟨he, hw⟩ => ⟨he, by rw [hw]; exact Below.refl _ _⟩
    rw [hp] at hcall;have hix := bstr_index l k hlt;have HE := Lib.hid (HD.out.trans (endF_no hlt hp));clear hp;generalize ((l.getD k 0).toNat : Int) = c at *;generalize bstr l = s at *;go_wp2_with fail;refine region_T (w0 := wr) [(1, .string s), (2, .int .i64 (k : Int)), (3, .pointer (some ⟨w.heap.size, 0, none⟩)), (12, .pointer (some ⟨w.heap.size, 0, none⟩)), (13, .func (.func 159) #[] #[]), (14, .string s), (15, .int .i64 (k : Int)), (16, .int .u8 c), (17, .bool false), (11, .bool false)] [] [1, 2, 3] (by kernel_rfl) (by kernel_rfl) rfl ?_ ?_
    ·intro T hT W hI;simp only [HoldsT, and_true] at hT;have c0' : W.cell? ⟨w.heap.size, 0, none⟩ = _ := (hI.cell (p := ⟨w.heap.size, 0, none⟩) hbw).trans c0
     repeat' first | exact AllO.nil | apply AllO.cons
     all_goals try ((first | refine opT_r (runT_v ?_) | refine opT_r (runT_n ?_) | refine opT_g (by rfl) (by rfl) (by rfl) (by simp only [hT]) (runT_v ?_)); simp [go_sem, EvT, hT, c0', hix, valT]; done)
     ·refine opT_r (runT_c 159 #[.int .u8 c] (by simp [go_sem, EvT, hT, c0', hix]) ?_);simp only [valT, hT];exact hcall W
    intro T hT wx hb;simp only [HoldsT, and_true] at hT;simp (decide := true) only [putT, valT, hT, Act.put, List.setIfInBounds_toArray, List.set_cons_zero, List.set_cons_succ, Nat.reduceAdd, if_true, if_false];clear hT;have HB2 := Lib.hid (HB.out.trans (hb.mono HB.out.size));have c1 := (hb.cell (p := ⟨w.heap.size, 0, none⟩) hbw).trans c0;have hbw2 : w.heap.size < wx.heap.size := Nat.lt_of_lt_of_le hbw hb.size;clear hb hcall;go_wp2_with fail
    try rw [Exit.noGoto_ret]
    go_ret;exact ⟨ret_int (by rw [HE.out]), HB2.out⟩
  ·have hk : k = l.length := by omega
   have HE := Lib.hid (HD.out.trans (endF_stop (by omega)));have hdl : decide ((k : Int) < (l.length : Int)) = false := by simp; omega
   clear hk;go_wp2_with fail
   try rw [Exit.noGoto_ret]
   go_ret;exact ⟨ret_int (by rw [HE.out]), HB.out⟩
set_option maxHeartbeats 4000000 in
theorem num_end (l : Bytes) (i : Nat) (w : World) (hi : i ≤ l.length) (hl : l.length ≤ 1000000) : Calls Tryz.prog 92 #[numV, .string (bstr l), .int .i64 (i : Int)] w fun e w' => e = .returned (.int .i64 (endF isNum l i : Int)) ∧ Below w.heap.size w w' := by
 have hsz := bstr_size l;unfold numV;have HB0 := Lib.hid ((Below.refl w.heap.size w).alloc (Nat.le_refl _) (.cells #[.func (.func 160) #[] #[]] 154));go_enter Tryz.func92, Tryz.ntmps92;go_wp2;go_step3;go_wp2;go_step3;go_wp2;go_loopg [2, 11] l.length (fun g s2 s11 wr => ∃ k : Nat, k ≤ l.length ∧ l.length ≤ k + g ∧ s2 = .int .i64 (k : Int) ∧ endF isNum l i = endF isNum l k ∧ wr.cell? ⟨w.heap.size, 0, none⟩ = some (.func (.func 160) #[] #[]) ∧ w.heap.size < wr.heap.size ∧ Below w.heap.size w wr)
 case atStart => exact ⟨i, hi, by omega, rfl, rfl, by simp, by simp, HB0.out⟩
 case round =>
  clear HB0;obtain ⟨k, hkl, hkg, rfl, hd, c0, hbw, hb⟩ := hrel;have HD := Lib.hid hd;have HB := Lib.hid hb;clear hd hb;by_cases hlt : k < l.length
  ·cases hp : isNum (l.getD k 0) with
   | true =>
    have hcall : ∀ W, Calls Tryz.prog 160 #[.int .u8 ((l.getD k 0).toNat : Int)] W fun e w' => e = .returned (.bool (isNum (l.getD k 0))) ∧ Below W.heap.size W w' := fun W => (num1 (l.getD k 0) W).mono fun e w' ⟨he, hw⟩ => ⟨he, by rw [hw]; exact Below.refl _ _⟩
    rw [hp] at hcall;have hix := bstr_index l k hlt;have HE := Lib.hid (HD.out.trans (endF_yes hlt hp));clear hp;generalize ((l.getD k 0).toNat : Int) = c at *;generalize bstr l = s at *;go_wp2_with fail;refine region_T (w0 := wr) [(1, .string s), (2, .int .i64 (k : Int)), (3, .pointer (some ⟨w.heap.size, 0, none⟩)), (12, .pointer (some ⟨w.heap.size, 0, none⟩)), (13, .func (.func 160) #[] #[]), (14, .string s), (15, .int .i64 (k : Int)), (16, .int .u8 c), (17, .bool true), (11, .bool true)] [] [1, 2, 3] (by kernel_rfl) (by kernel_rfl) rfl ?_ ?_
    ·intro T hT W hI;simp only [HoldsT, and_true] at hT;have c0' : W.cell? ⟨w.heap.size, 0, none⟩ = _ := (hI.cell (p := ⟨w.heap.size, 0, none⟩) hbw).trans c0
     repeat' first | exact AllO.nil | apply AllO.cons
     all_goals try ((first | refine opT_r (runT_v ?_) | refine opT_r (runT_n ?_) | refine opT_g (by rfl) (by rfl) (by rfl) (by simp only [hT]) (runT_v ?_)); simp [go_sem, EvT, hT, c0', hix, valT]; done)
     ·refine opT_r (runT_c 160 #[.int .u8 c] (by simp [go_sem, EvT, hT, c0', hix]) ?_);simp only [valT, hT];exact hcall W
    intro T hT wx hb;simp only [HoldsT, and_true] at hT;simp (decide := true) only [putT, valT, hT, Act.put, List.setIfInBounds_toArray, List.set_cons_zero, List.set_cons_succ, Nat.reduceAdd, if_true, if_false];clear hT;have HB2 := Lib.hid (HB.out.trans (hb.mono HB.out.size));have c1 := (hb.cell (p := ⟨w.heap.size, 0, none⟩) hbw).trans c0;have hbw2 : w.heap.size < wx.heap.size := Nat.lt_of_lt_of_le hbw hb.size;clear hb hcall;obtain ⟨g2, rfl⟩ : ∃ g2, gk = g2 + 1 := ⟨gk - 1, by omega⟩;go_wp2_with fail;go_roundg g2
    case measure => omega
    case rel => exact ⟨k + 1, by omega, by omega, by go_num, HE.out, c1, hbw2, HB2.out⟩
   | false =>
    have hcall : ∀ W, Calls Tryz.prog 160 #[.int .u8 ((l.getD k 0).toNat : Int)] W fun e w' => e = .returned (.bool (isNum (l.getD k 0))) ∧ Below W.heap.size W w' := fun W => (num1 (l.getD k 0) W).mono fun e w' ⟨he, hw⟩ => ⟨he, by rw [hw]; exact Below.refl _ _⟩
    rw [hp] at hcall;have hix := bstr_index l k hlt;have HE := Lib.hid (HD.out.trans (endF_no hlt hp));clear hp;generalize ((l.getD k 0).toNat : Int) = c at *;generalize bstr l = s at *;go_wp2_with fail;refine region_T (w0 := wr) [(1, .string s), (2, .int .i64 (k : Int)), (3, .pointer (some ⟨w.heap.size, 0, none⟩)), (12, .pointer (some ⟨w.heap.size, 0, none⟩)), (13, .func (.func 160) #[] #[]), (14, .string s), (15, .int .i64 (k : Int)), (16, .int .u8 c), (17, .bool false), (11, .bool false)] [] [1, 2, 3] (by kernel_rfl) (by kernel_rfl) rfl ?_ ?_
    ·intro T hT W hI;simp only [HoldsT, and_true] at hT;have c0' : W.cell? ⟨w.heap.size, 0, none⟩ = _ := (hI.cell (p := ⟨w.heap.size, 0, none⟩) hbw).trans c0
     repeat' first | exact AllO.nil | apply AllO.cons
     all_goals try ((first | refine opT_r (runT_v ?_) | refine opT_r (runT_n ?_) | refine opT_g (by rfl) (by rfl) (by rfl) (by simp only [hT]) (runT_v ?_)); simp [go_sem, EvT, hT, c0', hix, valT]; done)
     ·refine opT_r (runT_c 160 #[.int .u8 c] (by simp [go_sem, EvT, hT, c0', hix]) ?_);simp only [valT, hT];exact hcall W
    intro T hT wx hb;simp only [HoldsT, and_true] at hT;simp (decide := true) only [putT, valT, hT, Act.put, List.setIfInBounds_toArray, List.set_cons_zero, List.set_cons_succ, Nat.reduceAdd, if_true, if_false];clear hT;have HB2 := Lib.hid (HB.out.trans (hb.mono HB.out.size));have c1 := (hb.cell (p := ⟨w.heap.size, 0, none⟩) hbw).trans c0;have hbw2 : w.heap.size < wx.heap.size := Nat.lt_of_lt_of_le hbw hb.size;clear hb hcall;go_wp2_with fail
    try rw [Exit.noGoto_ret]
    go_ret;exact ⟨ret_int (by rw [HE.out]), HB2.out⟩
  ·have hk : k = l.length := by omega
   have HE := Lib.hid (HD.out.trans (endF_stop (by omega)));have hdl : decide ((k : Int) < (l.length : Int)) = false := by simp; omega
   clear hk;go_wp2_with fail
   try rw [Exit.noGoto_ret]
   go_ret;exact ⟨ret_int (by rw [HE.out]), HB.out⟩
set_option maxHeartbeats 4000000 in
theorem run_end (l : Bytes) (i : Nat) (w : World) (hi : i ≤ l.length) (hl : l.length ≤ 1000000) : Calls Tryz.prog 92 #[runV, .string (bstr l), .int .i64 (i : Int)] w fun e w' => e = .returned (.int .i64 (endF isRun l i : Int)) ∧ Below w.heap.size w w' := by
 have hsz := bstr_size l;unfold runV;have HB0 := Lib.hid ((Below.refl w.heap.size w).alloc (Nat.le_refl _) (.cells #[.func (.func 158) #[] #[]] 154));go_enter Tryz.func92, Tryz.ntmps92;go_wp2;go_step3;go_wp2;go_step3;go_wp2;go_loopg [2, 11] l.length (fun g s2 s11 wr => ∃ k : Nat, k ≤ l.length ∧ l.length ≤ k + g ∧ s2 = .int .i64 (k : Int) ∧ endF isRun l i = endF isRun l k ∧ wr.cell? ⟨w.heap.size, 0, none⟩ = some (.func (.func 158) #[] #[]) ∧ w.heap.size < wr.heap.size ∧ Below w.heap.size w wr)
 case atStart => exact ⟨i, hi, by omega, rfl, rfl, by simp, by simp, HB0.out⟩
 case round =>
  clear HB0;obtain ⟨k, hkl, hkg, rfl, hd, c0, hbw, hb⟩ := hrel;have HD := Lib.hid hd;have HB := Lib.hid hb;clear hd hb;by_cases hlt : k < l.length
  ·cases hp : isRun (l.getD k 0) with
   | true =>
    have hcall : ∀ W, Calls Tryz.prog 158 #[.int .u8 ((l.getD k 0).toNat : Int)] W fun e w' => e = .returned (.bool (isRun (l.getD k 0))) ∧ Below W.heap.size W w' := fun W => run1 (l.getD k 0) W
    rw [hp] at hcall;have hix := bstr_index l k hlt;have HE := Lib.hid (HD.out.trans (endF_yes hlt hp));clear hp;generalize ((l.getD k 0).toNat : Int) = c at *;generalize bstr l = s at *;go_wp2_with fail;refine region_T (w0 := wr) [(1, .string s), (2, .int .i64 (k : Int)), (3, .pointer (some ⟨w.heap.size, 0, none⟩)), (12, .pointer (some ⟨w.heap.size, 0, none⟩)), (13, .func (.func 158) #[] #[]), (14, .string s), (15, .int .i64 (k : Int)), (16, .int .u8 c), (17, .bool true), (11, .bool true)] [] [1, 2, 3] (by kernel_rfl) (by kernel_rfl) rfl ?_ ?_
    ·intro T hT W hI;simp only [HoldsT, and_true] at hT;have c0' : W.cell? ⟨w.heap.size, 0, none⟩ = _ := (hI.cell (p := ⟨w.heap.size, 0, none⟩) hbw).trans c0
     repeat' first | exact AllO.nil | apply AllO.cons
     all_goals try ((first | refine opT_r (runT_v ?_) | refine opT_r (runT_n ?_) | refine opT_g (by rfl) (by rfl) (by rfl) (by simp only [hT]) (runT_v ?_)); simp [go_sem, EvT, hT, c0', hix, valT]; done)
     ·refine opT_r (runT_c 158 #[.int .u8 c] (by simp [go_sem, EvT, hT, c0', hix]) ?_);simp only [valT, hT];exact hcall W
    intro T hT wx hb;simp only [HoldsT, and_true] at hT;simp (decide := true) only [putT, valT, hT, Act.put, List.setIfInBounds_toArray, List.set_cons_zero, List.set_cons_succ, Nat.reduceAdd, if_true, if_false];clear hT;have HB2 := Lib.hid (HB.out.trans (hb.mono HB.out.size));have c1 := (hb.cell (p := ⟨w.heap.size, 0, none⟩) hbw).trans c0;have hbw2 : w.heap.size < wx.heap.size := Nat.lt_of_lt_of_le hbw hb.size;clear hb hcall;obtain ⟨g2, rfl⟩ : ∃ g2, gk = g2 + 1 := ⟨gk - 1, by omega⟩;go_wp2_with fail;go_roundg g2
    case measure => omega
    case rel => exact ⟨k + 1, by omega, by omega, by go_num, HE.out, c1, hbw2, HB2.out⟩
   | false =>
    have hcall : ∀ W, Calls Tryz.prog 158 #[.int .u8 ((l.getD k 0).toNat : Int)] W fun e w' => e = .returned (.bool (isRun (l.getD k 0))) ∧ Below W.heap.size W w' := fun W => run1 (l.getD k 0) W
    rw [hp] at hcall;have hix := bstr_index l k hlt;have HE := Lib.hid (HD.out.trans (endF_no hlt hp));clear hp;generalize ((l.getD k 0).toNat : Int) = c at *;generalize bstr l = s at *;go_wp2_with fail;refine region_T (w0 := wr) [(1, .string s), (2, .int .i64 (k : Int)), (3, .pointer (some ⟨w.heap.size, 0, none⟩)), (12, .pointer (some ⟨w.heap.size, 0, none⟩)), (13, .func (.func 158) #[] #[]), (14, .string s), (15, .int .i64 (k : Int)), (16, .int .u8 c), (17, .bool false), (11, .bool false)] [] [1, 2, 3] (by kernel_rfl) (by kernel_rfl) rfl ?_ ?_
    ·intro T hT W hI;simp only [HoldsT, and_true] at hT;have c0' : W.cell? ⟨w.heap.size, 0, none⟩ = _ := (hI.cell (p := ⟨w.heap.size, 0, none⟩) hbw).trans c0
     repeat' first | exact AllO.nil | apply AllO.cons
     all_goals try ((first | refine opT_r (runT_v ?_) | refine opT_r (runT_n ?_) | refine opT_g (by rfl) (by rfl) (by rfl) (by simp only [hT]) (runT_v ?_)); simp [go_sem, EvT, hT, c0', hix, valT]; done)
     ·refine opT_r (runT_c 158 #[.int .u8 c] (by simp [go_sem, EvT, hT, c0', hix]) ?_);simp only [valT, hT];exact hcall W
    intro T hT wx hb;simp only [HoldsT, and_true] at hT;simp (decide := true) only [putT, valT, hT, Act.put, List.setIfInBounds_toArray, List.set_cons_zero, List.set_cons_succ, Nat.reduceAdd, if_true, if_false];clear hT;have HB2 := Lib.hid (HB.out.trans (hb.mono HB.out.size));have c1 := (hb.cell (p := ⟨w.heap.size, 0, none⟩) hbw).trans c0;have hbw2 : w.heap.size < wx.heap.size := Nat.lt_of_lt_of_le hbw hb.size;clear hb hcall;go_wp2_with fail
    try rw [Exit.noGoto_ret]
    go_ret;exact ⟨ret_int (by rw [HE.out]), HB2.out⟩
  ·have hk : k = l.length := by omega
   have HE := Lib.hid (HD.out.trans (endF_stop (by omega)));have hdl : decide ((k : Int) < (l.length : Int)) = false := by simp; omega
   clear hk;go_wp2_with fail
   try rw [Exit.noGoto_ret]
   go_ret;exact ⟨ret_int (by rw [HE.out]), HB.out⟩
end Go.Proofs.YtkfhpefmmhljmaaGreatDoor
