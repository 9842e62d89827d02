/- Texts in one: CtT, CtA. -/
import Derived.BigQuiet
import Derived.BigGuardPart
import Derived.Test.YtkfhpefmmhljmaaGreatDoorF3
import Derived.Test.YtkfhpefmmhljmaaGreatDoorF4
set_option linter.unusedVariables false
set_option linter.unusedSimpArgs false
set_option maxHeartbeats 16000000
set_option maxRecDepth 100000
namespace Go.Proofs.YtkfhpefmmhljmaaGreatDoor
abbrev Bytes := List UInt8
def isSep (c : UInt8) : Bool := c == 32 || c == 10
def isLow (c : UInt8) : Bool := decide (97 ≤ c.toNat) && decide (c.toNat ≤ 122)
def isNum (c : UInt8) : Bool := isDig c || c == 45 || c == 47
def isRun (c : UInt8) : Bool := isLow c || isNum c
def endF (p : UInt8 → Bool) (s : Bytes) (i : Nat) : Nat := i + ((s.drop i).takeWhile p).length
theorem kY {p : UInt8 → Bool} {s : Bytes} {i : Nat} (h : s.length ≤ i) : endF p s i = i := by
 unfold endF; rw [List.drop_eq_nil_of_le h]; rfl
theorem fX {p : UInt8 → Bool} {s : Bytes} {i : Nat} (h : i < s.length) (hp : p (s.getD i 0) = false) : endF p s i = i := by
 have hg : s.getD i 0 = s[i] := by simp [h]
 unfold endF;rw [List.drop_eq_getElem_cons h, List.takeWhile_cons, ← hg, hp];rfl
theorem yY {p : UInt8 → Bool} {s : Bytes} {i : Nat} (h : i < s.length) (hp : p (s.getD i 0) = true) : endF p s i = endF p s (i + 1) := by
 have hg : s.getD i 0 = s[i] := by simp [h]
 unfold endF;rw [List.drop_eq_getElem_cons h, List.takeWhile_cons, ← hg, hp];simp;omega
theorem yJ (p : UInt8 → Bool) (s : Bytes) (i : Nat) (h : i ≤ s.length) : i ≤ endF p s i ∧ endF p s i ≤ s.length := by
 unfold endF;have h1 : ((s.drop i).takeWhile p).length ≤ (s.drop i).length := (List.takeWhile_sublist p).length_le;rw [List.length_drop] at h1;omega
inductive Tk where
 | op
 | cl
 | wd (t : Bytes)
 | nm (n : Int)
def qI : Tk → Int
 | .op => 1
 | .cl => 2
 | .wd _ => 3
 | .nm _ => 4
def isNeg (r : Bytes) : Bool := r.head? == some 45
def magn (r : Bytes) : Bytes := if isNeg r then r.drop 1 else r
def pz (r : Bytes) : Int × Int :=
 if 1000 < (magn r).length then (5, 0)
 else if !isDec (magn r) || (isNeg r && magn r == [48]) then (3, 0)
 else (0, if isNeg r then -(dval (magn r) : Int) else dval (magn r))
def runAt (s : Bytes) (p : Nat) : Bytes := (s.drop p).take (endF isRun s p - p)
def allB (p : UInt8 → Bool) (r : Bytes) : Bool := !r.isEmpty && r.all p
def nextT (s : Bytes) (i : Int) : Int × Tk × Int :=
 if 65536 < s.length then (5, .op, 0)
 else if i < 0 ∨ (s.length : Int) < i then (1, .op, 0)
 else
  if endF isSep s i.toNat = s.length then (8, .op, 0)
  else if s.getD (endF isSep s i.toNat) 0 = 40 then (0, .op, (endF isSep s i.toNat : Int) + 1)
  else if s.getD (endF isSep s i.toNat) 0 = 41 then (0, .cl, (endF isSep s i.toNat : Int) + 1)
  else if allB isLow (runAt s (endF isSep s i.toNat)) then (0, .wd (runAt s (endF isSep s i.toNat)), (endF isRun s (endF isSep s i.toNat) : Int))
  else if !allB isNum (runAt s (endF isSep s i.toNat)) then (3, .op, 0)
  else if (runAt s (endF isSep s i.toNat)).any (· == 47) then (-1, .op, 0)
  else if (pz (runAt s (endF isSep s i.toNat))).1 ≠ 0 then ((pz (runAt s (endF isSep s i.toNat))).1, .op, 0)
  else (0, .nm (pz (runAt s (endF isSep s i.toNat))).2, (endF isRun s (endF isSep s i.toNat) : Int))
def expT (s : Bytes) (i : Int) (k : Int) : Int × Tk × Int :=
 if (nextT s i).1 = 8 then (4, .op, 0)
 else if (nextT s i).1 ≠ 0 then ((nextT s i).1, .op, 0)
 else if qI (nextT s i).2.1 ≠ k then (3, .op, 0)
 else nextT s i
def qY : Tk → Bytes
 | .wd t => t
 | _ => []
def tkNum : Tk → Int
 | .nm n => n
 | _ => 0
def expW (s : Bytes) (i : Int) (w : Bytes) : Int × Int :=
 if (expT s i 3).1 ≠ 0 then ((expT s i 3).1, 0) else if qY (expT s i 3).2.1 ≠ w then (3, 0) else (0, (expT s i 3).2.2)
def i64In (n : Int) : Bool := decide (-9223372036854775808 ≤ n) && decide (n ≤ 9223372036854775807)
def expI (s : Bytes) (i : Int) : Int × Int × Int :=
 if (expT s i 4).1 ≠ 0 then ((expT s i 4).1, 0, 0) else if !i64In (tkNum (expT s i 4).2.1) then (1, 0, 0) else (0, tkNum (expT s i 4).2.1, (expT s i 4).2.2)
def peekT (s : Bytes) (i : Int) (k : Int) : Bool := decide ((nextT s i).1 = 0) && decide (qI (nextT s i).2.1 = k)
structure Rd where
 i : Int
 e : Int
def rMove (r : Rd) (e nx : Int) : Rd := if e = 0 then ⟨nx, 0⟩ else ⟨r.i, e⟩
def rTok (s : Bytes) (k : Int) (r : Rd) : Rd := if r.e ≠ 0 then r else rMove r (expT s r.i k).1 (expT s r.i k).2.2
def rWord (s : Bytes) (w : Bytes) (r : Rd) : Rd := if r.e ≠ 0 then r else rMove r (expW s r.i w).1 (expW s r.i w).2
def rInt (s : Bytes) (r : Rd) : Int × Rd := if r.e ≠ 0 then (0, r) else ((expI s r.i).2.1, rMove r (expI s r.i).1 (expI s r.i).2.2)
end Go.Proofs.YtkfhpefmmhljmaaGreatDoor
namespace Go.Proofs.YtkfhpefmmhljmaaGreatDoor
open Go.RowKit
theorem gK {P : Program} (w : World) (a : Addr) (f : Fn) (fs cs : Array Value) (m : Mode) : (store a (.func f fs cs) m).run P w = stored P w a (.func f fs cs) m := run_store P w a _ m rfl
attribute [local go_sem] gK
theorem eT (f : FuncId) (w : World) : (Instr.field 154 (.agg #[.func (.func f) #[] #[]]) 0).run Tryz.prog w = .ok (.func (.func f) #[] #[]) w := by kernel_rfl
def bstr (l : Bytes) : ByteArray := ⟨l.toArray⟩
theorem zQ (l : Bytes) : (bstr l).size = l.length := by simp [bstr, ByteArray.size]
theorem qA (l : Bytes) (i : Nat) (h : i < l.length) (w : World) : (Instr.index 9 (.string (bstr l)) (.int .i64 (i : Int))).run Tryz.prog w = .ok (.int .u8 ((l.getD i 0).toNat : Int)) w := by
 rw [run_index_string w _ _ _ _ Tryz.underlying9];have h2 : (0 : Int) ≤ (i : Int) ∧ (i : Int) < ((bstr l).size : Int) := by rw [zQ]; omega
 rw [dif_pos h2];have e : (bstr l)[((i : Int)).toNat]'(by omega) = l.getD i 0 := by
  have h3 : ((i : Int)).toNat = i := by omega
  simp only [h3];rw [zM l i 0 h];rfl
 rw [e]
theorem u8_eq (x y : UInt8) : ((x.toNat : Int) == (y.toNat : Int)) = (x == y) := by
 by_cases h : x = y
 ·subst h; simp
 ·have : (x.toNat : Int) ≠ (y.toNat : Int) := fun e => h (UInt8.toNat_inj.1 (by omega))
  rw [βf this, βf h]
theorem sep1 (x : UInt8) (w : World) : Calls Tryz.prog 157 #[.int .u8 (x.toNat : Int)] w fun e w' => e = .returned (.bool (isSep x)) ∧ w' = w := by
 have e1 : ((x.toNat : Int) == 32) = (x == 32) := u8_eq x 32;have e2 : ((x.toNat : Int) == 10) = (x == 10) := u8_eq x 10;unfold isSep;cases h1 : (x == 32) with
 | true =>
  rw [h1] at e1;clear h1 e2;generalize (x.toNat : Int) = c at *;go_enter Tryz.func157, Tryz.ntmps157;go_wp2_with fail;go_ret;exact ⟨rfl, rfl⟩
 | false =>
  rw [h1] at e1;clear h1;cases h2 : (x == 10) with
  | true =>
   rw [h2] at e2;clear h2;generalize (x.toNat : Int) = c at *;go_enter Tryz.func157, Tryz.ntmps157;go_wp2_with fail;go_ret;exact ⟨rfl, rfl⟩
  | false =>
   rw [h2] at e2;clear h2;generalize (x.toNat : Int) = c at *;go_enter Tryz.func157, Tryz.ntmps157;go_wp2_with fail;go_ret;exact ⟨rfl, rfl⟩
theorem low1 (x : UInt8) (w : World) : Calls Tryz.prog 159 #[.int .u8 (x.toNat : Int)] w fun e w' => e = .returned (.bool (isLow x)) ∧ w' = w := by
 unfold isLow;cases h1 : decide (97 ≤ x.toNat) with
 | true =>
  have e1 : decide ((97 : Int) ≤ (x.toNat : Int)) = true := by rw [κe] at h1 ⊢; omega
  clear h1;cases h2 : decide (x.toNat ≤ 122) with
  | true =>
   have e2 : decide ((x.toNat : Int) ≤ 122) = true := by rw [κe] at h2 ⊢; omega
   clear h2;generalize (x.toNat : Int) = c at *;go_enter Tryz.func159, Tryz.ntmps159;go_wp2_with fail;go_ret;exact ⟨rfl, rfl⟩
  | false =>
   have e2 : decide ((x.toNat : Int) ≤ 122) = false := by rw [decide_eq_false_iff_not] at h2 ⊢; omega
   clear h2;generalize (x.toNat : Int) = c at *;go_enter Tryz.func159, Tryz.ntmps159;go_wp2_with fail;go_ret;exact ⟨rfl, rfl⟩
 | false =>
  have e1 : decide ((97 : Int) ≤ (x.toNat : Int)) = false := by rw [decide_eq_false_iff_not] at h1 ⊢; omega
  clear h1;generalize (x.toNat : Int) = c at *;go_enter Tryz.func159, Tryz.ntmps159;go_wp2_with fail;go_ret;exact ⟨rfl, rfl⟩
theorem num1 (x : UInt8) (w : World) : Calls Tryz.prog 160 #[.int .u8 (x.toNat : Int)] w fun e w' => e = .returned (.bool (isNum x)) ∧ w' = w := by
 have e3 : ((x.toNat : Int) == 45) = (x == 45) := u8_eq x 45;have e4 : ((x.toNat : Int) == 47) = (x == 47) := u8_eq x 47;unfold isNum isDig;cases h1 : decide (48 ≤ x.toNat) with
 | true =>
  have e1 : decide ((48 : Int) ≤ (x.toNat : Int)) = true := by rw [κe] at h1 ⊢; omega
  clear h1;cases h2 : decide (x.toNat ≤ 57) with
  | true =>
   have e2 : decide ((x.toNat : Int) ≤ 57) = true := by rw [κe] at h2 ⊢; omega
   clear h2 e3 e4;generalize (x.toNat : Int) = c at *;go_enter Tryz.func160, Tryz.ntmps160;go_wp2_with fail;go_ret;exact ⟨rfl, rfl⟩
  | false =>
   have e2 : decide ((x.toNat : Int) ≤ 57) = false := by rw [decide_eq_false_iff_not] at h2 ⊢; omega
   clear h2;cases h3 : (x == 45) with
   | true =>
    rw [h3] at e3;clear h3 e4;generalize (x.toNat : Int) = c at *;go_enter Tryz.func160, Tryz.ntmps160;go_wp2_with fail;go_ret;exact ⟨rfl, rfl⟩
   | false =>
    rw [h3] at e3;clear h3;cases h4 : (x == 47) with
    | true =>
     rw [h4] at e4;clear h4;generalize (x.toNat : Int) = c at *;go_enter Tryz.func160, Tryz.ntmps160;go_wp2_with fail;go_ret;exact ⟨rfl, rfl⟩
    | false =>
     rw [h4] at e4;clear h4;generalize (x.toNat : Int) = c at *;go_enter Tryz.func160, Tryz.ntmps160;go_wp2_with fail;go_ret;exact ⟨rfl, rfl⟩
 | false =>
  have e1 : decide ((48 : Int) ≤ (x.toNat : Int)) = false := by rw [decide_eq_false_iff_not] at h1 ⊢; omega
  clear h1;cases h3 : (x == 45) with
  | true =>
   rw [h3] at e3;clear h3 e4;generalize (x.toNat : Int) = c at *;go_enter Tryz.func160, Tryz.ntmps160;go_wp2_with fail;go_ret;exact ⟨rfl, rfl⟩
  | false =>
   rw [h3] at e3;clear h3;cases h4 : (x == 47) with
   | true =>
    rw [h4] at e4;clear h4;generalize (x.toNat : Int) = c at *;go_enter Tryz.func160, Tryz.ntmps160;go_wp2_with fail;go_ret;exact ⟨rfl, rfl⟩
   | false =>
    rw [h4] at e4;clear h4;generalize (x.toNat : Int) = c at *;go_enter Tryz.func160, Tryz.ntmps160;go_wp2_with fail;go_ret;exact ⟨rfl, rfl⟩
def sepV : Value := .agg #[.func (.func 157) #[] #[]]
theorem oF (w : World) : Calls Tryz.prog 91 #[] w fun e w' => e = .returned sepV ∧ Below w w w' := by
 go_enter Tryz.func91, Tryz.ntmps91;go_wp2_with fail;refine κr (v := sepV) (by simp [results, Tryz.results91, go_sem, sepV]) rfl ⟨rfl, βA _⟩
def lowV : Value := .agg #[.func (.func 159) #[] #[]]
theorem dU (w : World) : Calls Tryz.prog 94 #[] w fun e w' => e = .returned lowV ∧ Below w w w' := by
 go_enter Tryz.func94, Tryz.ntmps94;go_wp2_with fail;refine κr (v := lowV) (by simp [results, Tryz.results94, go_sem, lowV]) rfl ⟨rfl, βA _⟩
def numV : Value := .agg #[.func (.func 160) #[] #[]]
theorem tU (w : World) : Calls Tryz.prog 96 #[] w fun e w' => e = .returned numV ∧ Below w w w' := by
 go_enter Tryz.func96, Tryz.ntmps96;go_wp2_with fail;refine κr (v := numV) (by simp [results, Tryz.results96, go_sem, numV]) rfl ⟨rfl, βA _⟩
def runV : Value := .agg #[.func (.func 158) #[] #[]]
theorem oH (w : World) : Calls Tryz.prog 93 #[] w fun e w' => e = .returned runV ∧ Below w w w' := by
 go_enter Tryz.func93, Tryz.ntmps93;go_wp2_with fail;refine κr (v := runV) (by simp [results, Tryz.results93, go_sem, runV]) rfl ⟨rfl, βA _⟩
theorem run1 (x : UInt8) (w : World) : Calls Tryz.prog 158 #[.int .u8 (x.toNat : Int)] w fun e w' => e = .returned (.bool (isRun x)) ∧ Below w w w' := by
 have K1 := η (dU w);have K2 := η (fun w => low1 x w);have K3 := η (fun w => tU w);have K4 := η (fun w => num1 x w);have hfl := eT;unfold isRun;unfold lowV at K1;unfold numV at K3;cases hl : isLow x with
 | true =>
  rw [hl] at K2;clear hl;generalize (x.toNat : Int) = c at *;go_enter Tryz.func158, Tryz.ntmps158;go_wp2_with fail;refine K1.out.mono ?_;rintro e w1 ⟨rfl, hb⟩;have HB := η hb;clear hb;go_wp2_with fail;refine (K2.out _).mono ?_;rintro e w2 ⟨rfl, rfl⟩;go_wp2_with fail;go_ret;exact ⟨rfl, HB.out⟩
 | false =>
  rw [hl] at K2;clear hl;cases hn : isNum x with
  | true =>
   rw [hn] at K4;clear hn;generalize (x.toNat : Int) = c at *;go_enter Tryz.func158, Tryz.ntmps158;go_wp2_with fail;refine K1.out.mono ?_;rintro e w1 ⟨rfl, hb⟩;have HB := η hb;clear hb;go_wp2_with fail;refine (K2.out _).mono ?_;rintro e w2 ⟨rfl, rfl⟩;go_wp2_with fail;refine (K3.out _).mono ?_;rintro e w3 ⟨rfl, hb⟩;have HB3 := βT HB hb;clear hb;go_wp2_with fail;refine (K4.out _).mono ?_;rintro e w4 ⟨rfl, rfl⟩;go_wp2_with fail;go_ret;exact ⟨rfl, HB3.out⟩
  | false =>
   rw [hn] at K4;clear hn;generalize (x.toNat : Int) = c at *;go_enter Tryz.func158, Tryz.ntmps158;go_wp2_with fail;refine K1.out.mono ?_;rintro e w1 ⟨rfl, hb⟩;have HB := η hb;clear hb;go_wp2_with fail;refine (K2.out _).mono ?_;rintro e w2 ⟨rfl, rfl⟩;go_wp2_with fail;refine (K3.out _).mono ?_;rintro e w3 ⟨rfl, hb⟩;have HB3 := βT HB hb;clear hb;go_wp2_with fail;refine (K4.out _).mono ?_;rintro e w4 ⟨rfl, rfl⟩;go_wp2_with fail;go_ret;exact ⟨rfl, HB3.out⟩
end Go.Proofs.YtkfhpefmmhljmaaGreatDoor
