/- Texts in one: CtC, CtD. -/
import Derived.OwnWalk
import Derived.Test.YtkfhpefmmhljmaaGreatDoorQ12
set_option linter.unusedVariables false
set_option linter.unusedSimpArgs false
set_option maxRecDepth 100000
/- CtC -/
namespace Go.Proofs.YtkfhpefmmhljmaaGreatDoor
open Go.RowKit
set_option maxRecDepth 100000
theorem bstr_toList (l : Bytes) : (bstr l).toList = l := (ByteArray.toList_eq _).trans rfl
theorem bstr_empty (l : Bytes) : (bstr l).toList.isEmpty = l.isEmpty := by rw [bstr_toList]
set_option maxHeartbeats 2000000 in
theorem low_all (l : Bytes) (w : World) (hl : l.length ≤ 1000000) : Calls Tryz.prog 95 #[lowV, .string (bstr l)] w fun e w' => e = .returned (.bool (allB isLow l)) ∧ Below w.heap.size w w' := by
 have K := Lib.hid (low_end l 0 (w.alloc (.cells #[.func (.func 159) #[] #[]] 154)) (Nat.zero_le _) hl);have HB := Lib.hid ((Below.refl w.heap.size w).alloc (Nat.le_refl _) (.cells #[.func (.func 159) #[] #[]] 154));have hn := bstr_empty l;have hsz := bstr_size l;have hall := endF_all isLow l;unfold lowV at *;unfold allB;generalize bstr l = s at *;cases he : l.isEmpty with
 | true =>
  rw [he] at hn;clear K he hall;go_enter Tryz.func95, Tryz.ntmps95;go_wp2_with fail;go_ret;exact ⟨rfl, HB.out⟩
 | false =>
  rw [he] at hn;clear he;rw [← hall];clear hall;generalize endF isLow l 0 = n at *;generalize l.length = m at *;go_enter Tryz.func95, Tryz.ntmps95;go_wp2_with fail;refine K.out.mono ?_;rintro e w2 ⟨rfl, hb⟩;have HB2 := Lib.hid (HB.out.trans (hb.mono HB.out.size));clear hb K;by_cases hnm : n = m
  ·subst hnm;have t1 : ((n : Int) == (n : Int)) = true := by simp
   go_wp2_with fail;go_ret;exact ⟨ret_bool (by simp), HB2.out⟩
  ·have t1 : ((n : Int) == (m : Int)) = false := by rw [beq_eq_false_iff_ne]; omega
   have T := Lib.hid hnm;clear hnm;go_wp2_with fail;go_ret;exact ⟨ret_bool (by simp [T.out]), HB2.out⟩
set_option maxHeartbeats 2000000 in
theorem num_all (l : Bytes) (w : World) (hl : l.length ≤ 1000000) : Calls Tryz.prog 95 #[numV, .string (bstr l)] w fun e w' => e = .returned (.bool (allB isNum l)) ∧ Below w.heap.size w w' := by
 have K := Lib.hid (num_end l 0 (w.alloc (.cells #[.func (.func 160) #[] #[]] 154)) (Nat.zero_le _) hl);have HB := Lib.hid ((Below.refl w.heap.size w).alloc (Nat.le_refl _) (.cells #[.func (.func 160) #[] #[]] 154));have hn := bstr_empty l;have hsz := bstr_size l;have hall := endF_all isNum l;unfold numV at *;unfold allB;generalize bstr l = s at *;cases he : l.isEmpty with
 | true =>
  rw [he] at hn;clear K he hall;go_enter Tryz.func95, Tryz.ntmps95;go_wp2_with fail;go_ret;exact ⟨rfl, HB.out⟩
 | false =>
  rw [he] at hn;clear he;rw [← hall];clear hall;generalize endF isNum l 0 = n at *;generalize l.length = m at *;go_enter Tryz.func95, Tryz.ntmps95;go_wp2_with fail;refine K.out.mono ?_;rintro e w2 ⟨rfl, hb⟩;have HB2 := Lib.hid (HB.out.trans (hb.mono HB.out.size));clear hb K;by_cases hnm : n = m
  ·subst hnm;have t1 : ((n : Int) == (n : Int)) = true := by simp
   go_wp2_with fail;go_ret;exact ⟨ret_bool (by simp), HB2.out⟩
  ·have t1 : ((n : Int) == (m : Int)) = false := by rw [beq_eq_false_iff_ne]; omega
   have T := Lib.hid hnm;clear hnm;go_wp2_with fail;go_ret;exact ⟨ret_bool (by simp [T.out]), HB2.out⟩
end Go.Proofs.YtkfhpefmmhljmaaGreatDoor
/- CtD -/
namespace Go.Proofs.YtkfhpefmmhljmaaGreatDoor
open Go.RowKit
set_option maxHeartbeats 2000000 in
theorem cut_none (l : Bytes) (w : World) (hn : ∀ k, k < l.length → l.getD k 0 ≠ 47) (hl : l.length ≤ 1000000) : Calls Tryz.prog 161 #[.string (bstr l)] w fun e w' => e = .returned (.tuple #[.string (bstr l), .string (bstr []), .bool false]) ∧ Below w.heap.size w w' := by
 have hsz := bstr_size l;have HN := Lib.hid hn;clear hn;go_enter Tryz.func161, Tryz.ntmps161;go_wp2;go_step3;go_wp2;go_step3;go_wp2;go_loopg [2, 3, 4, 5, 9] l.length (fun g s2 s3 s4 s5 s9 wr => ∃ k : Nat, k + g = l.length ∧ s2 = .string (bstr l) ∧ s3 = .string (bstr []) ∧ s4 = .bool false ∧ s9 = .int .i64 (k : Int) ∧ Below w.heap.size w wr)
 case atStart => exact ⟨0, by omega, rfl, rfl, rfl, rfl, Below.refl _ _⟩
 case round =>
  obtain ⟨k, hkg, rfl, rfl, rfl, rfl, hb⟩ := hrel;have HB := Lib.hid hb;clear hb;cases gk with
  | zero =>
   obtain rfl : k = l.length := by omega
   clear hkg;go_wp2_with fail
   try rw [Exit.noGoto_ret]
   go_ret3;exact ⟨rfl, HB.out⟩
  | succ g =>
   have hk : k < l.length := by omega
   have HG := Lib.hid hkg;clear hkg;have hix := bstr_index l k hk;have hne : (((l.getD k 0).toNat : Int) == 47) = false := (u8_eq _ 47).trans (beq_eq_false_iff_ne.2 (HN.out k hk));generalize ((l.getD k 0).toNat : Int) = c at *;generalize bstr l = s at *;go_wp2_with fail;go_roundg g
   case measure => omega
   case rel => exact ⟨k + 1, by have := HG.out; omega, rfl, rfl, rfl, by go_num, HB.out⟩
theorem isDec_bad {l : Bytes} {k : Nat} (hk : k < l.length) (h : isDig (l.getD k 0) = false) : isDec l = false := by
 have : l.all isDig = false := by
  rw [List.all_eq_false];exact ⟨l.getD k 0, by rw [getD_eq l k 0 hk]; exact List.getElem_mem hk, by rw [h]; exact Bool.false_ne_true⟩
 unfold isDec;rw [this];simp
theorem isDec_good {l : Bytes} (h0 : l.isEmpty = false) (h1 : (l.head? != some 48 || l.length == 1) = true) (h : ∀ k, k < l.length → isDig (l.getD k 0) = true) : isDec l = true := by
 have : l.all isDig = true := by
  rw [List.all_eq_true];intro x hx;obtain ⟨k, hk, rfl⟩ := List.mem_iff_getElem.1 hx;have := h k hk;rwa [getD_eq l k 0 hk] at this
 unfold isDec;rw [this, h0, h1];rfl
set_option maxHeartbeats 4000000 in
theorem isdec_any (l : Bytes) (w : World) (hl : l.length ≤ 1000000) : Calls Tryz.prog 195 #[.string (bstr l)] w fun e w' => e = .returned (.bool (isDec l)) ∧ Below w.heap.size w w' := by
 have hsz := bstr_size l;have hn := bstr_empty l;have HB0 := Lib.hid (Below.refl w.heap.size w);cases he : l.isEmpty with
 | true =>
  rw [he] at hn;have e : isDec l = false := by unfold isDec; rw [he]; rfl
  rw [e];clear e he;generalize bstr l = s at *;go_enter Tryz.func195, Tryz.ntmps195;go_wp2_with fail;go_ret;exact ⟨rfl, HB0.out⟩
 | false =>
  rw [he] at hn;have hp : 0 < l.length := by cases l with | nil => cases he | cons a b => simp
  have hix0 : ∀ w, (Instr.index 9 (.string (bstr l)) (.int .i64 0)).run Tryz.prog w = .ok (.int .u8 ((l.getD 0 0).toNat : Int)) w := bstr_index l 0 hp;have h0 : (((l.getD 0 0).toNat : Int) == 48) = (l.getD 0 0 == 48) := u8_eq (l.getD 0 0) 48;have hd0 : l.head? = some (l.getD 0 0) := by cases l with | nil => cases he | cons a b => rfl
  have HE := Lib.hid he;have HD := Lib.hid hd0;clear he hd0;by_cases hz : (l.getD 0 0 == 48) = true ∧ 1 < l.length
  ·rw [hz.1] at h0;have e : isDec l = false := by
    unfold isDec;rw [HD.out, beq_iff_eq.1 hz.1];have : (l.length == 1) = false := by rw [beq_eq_false_iff_ne]; omega
    rw [this];simp
   have h1 : decide ((1 : Int) < (l.length : Int)) = true := decide_eq_true (by omega);rw [e];clear e HE HD hz;generalize (((l.getD 0 0).toNat : Nat) : Int) = c at *;generalize bstr l = s at *;go_enter Tryz.func195, Tryz.ntmps195;go_wp2_with fail;go_ret;exact ⟨rfl, HB0.out⟩
  ·have hg : (l.head? != some 48 || l.length == 1) = true := by
    rw [HD.out];by_cases h2 : (l.getD 0 0 == 48) = true
    ·have : l.length = 1 := by have : ¬ 1 < l.length := fun h => hz ⟨h2, h⟩; omega
     simp [this]
    ·have : l.getD 0 0 ≠ 48 := fun h => h2 (beq_iff_eq.2 h)
     generalize l.getD 0 0 = z at *;simp [this]
   have HG0 := Lib.hid hg;have hb2 : ((((l.getD 0 0).toNat : Nat) : Int) == 48) = false ∨ decide ((1 : Int) < (l.length : Int)) = false := by
    by_cases h2 : (l.getD 0 0 == 48) = true
    ·right;have : ¬ 1 < l.length := fun h => hz ⟨h2, h⟩
     exact decide_eq_false (by omega)
    ·left;rw [show ((((l.getD 0 0).toNat : Nat) : Int) == 48) = (l.getD 0 0 == 48) from h0];simpa using h2
   clear hg hz h0;generalize (((l.getD 0 0).toNat : Nat) : Int) = c at *;cases hq : (c == 48) with
   | true =>
    have h1 : decide ((1 : Int) < (l.length : Int)) = false := by rcases hb2 with h | h; (rw [hq] at h; cases h); exact h
    clear hb2;go_enter Tryz.func195, Tryz.ntmps195;go_wp2_with fail;go_loopg [3, 18] l.length (fun g s3 s18 wr => ∃ k : Nat, k + g = l.length ∧ s18 = .int .i64 (k : Int) ∧ (∀ j, j < k → isDig (l.getD j 0) = true) ∧ Below w.heap.size w wr)
    case atStart => exact ⟨0, by omega, rfl, fun j hj => absurd hj (by omega), HB0.out⟩
    case round =>
     clear hix0 hn hq h1 HB0 hp;obtain ⟨k, hkg, rfl, hall, hb⟩ := hrel;have HA := Lib.hid hall;have HB := Lib.hid hb;clear hb hall;cases gk with
     | zero =>
      obtain rfl : k = l.length := by omega
      clear hkg;have E := Lib.hid (isDec_good HE.out HG0.out HA.out);clear HE HG0 HA HD;generalize bstr l = s at *;go_wp2_with fail;go_ret;exact ⟨ret_bool E.out.symm, HB.out⟩
     | succ g =>
      have hk : k < l.length := by omega
      have HG := Lib.hid hkg;clear hkg;have hix := bstr_index l k hk;cases hd : isDig (l.getD k 0) with
      | false =>
       have E := Lib.hid (isDec_bad hk hd);have hd' : (l.getD k 0).toNat < 48 ∨ (¬ (l.getD k 0).toNat < 48 ∧ 57 < (l.getD k 0).toNat) := by
        unfold isDig at hd;simp only [Bool.and_eq_false_iff, decide_eq_false_iff_not] at hd;omega
       clear hd HE HG0 HA HD;generalize (l.getD k 0).toNat = d at *;generalize bstr l = s at *;rcases hd' with hd | ⟨hd1, hd2⟩
       ·have e1 : decide ((d : Int) < 48) = true := decide_eq_true (by omega);go_wp2_with fail;go_ret;exact ⟨ret_bool E.out.symm, HB.out⟩
       ·have e1 : decide ((d : Int) < 48) = false := decide_eq_false (by omega);have e2 : decide ((57 : Int) < (d : Int)) = true := decide_eq_true (by omega);go_wp2_with fail;go_ret;exact ⟨ret_bool E.out.symm, HB.out⟩
      | true =>
       have hd' : 48 ≤ (l.getD k 0).toNat ∧ (l.getD k 0).toNat ≤ 57 := by
        unfold isDig at hd;simp only [Bool.and_eq_true, decide_eq_true_eq] at hd;exact hd
       have hA2 : ∀ j, j < k + 1 → isDig (l.getD j 0) = true := (fun j hj => by
        by_cases h : j < k
        ·exact HA.out j h
        ·obtain rfl : j = k := by omega
         exact hd)
       have HA2 := Lib.hid hA2;clear hd HA hA2;have e1 : decide (((l.getD k 0).toNat : Int) < 48) = false := decide_eq_false (by omega);have e2 : decide ((57 : Int) < ((l.getD k 0).toNat : Int)) = false := decide_eq_false (by omega);clear hd';generalize ((l.getD k 0).toNat : Int) = d at *;generalize bstr l = s at *;go_wp2_with fail;go_roundg g
       case measure => omega
       case rel => exact ⟨k + 1, by have := HG.out; omega, by go_num, HA2.out, HB.out⟩
   | false =>
    clear hb2;go_enter Tryz.func195, Tryz.ntmps195;go_wp2_with fail;go_loopg [3, 18] l.length (fun g s3 s18 wr => ∃ k : Nat, k + g = l.length ∧ s18 = .int .i64 (k : Int) ∧ (∀ j, j < k → isDig (l.getD j 0) = true) ∧ Below w.heap.size w wr)
    case atStart => exact ⟨0, by omega, rfl, fun j hj => absurd hj (by omega), HB0.out⟩
    case round =>
     clear hix0 hn hq HB0 hp;obtain ⟨k, hkg, rfl, hall, hb⟩ := hrel;have HA := Lib.hid hall;have HB := Lib.hid hb;clear hb hall;cases gk with
     | zero =>
      obtain rfl : k = l.length := by omega
      clear hkg;have E := Lib.hid (isDec_good HE.out HG0.out HA.out);clear HE HG0 HA HD;generalize bstr l = s at *;go_wp2_with fail;go_ret;exact ⟨ret_bool E.out.symm, HB.out⟩
     | succ g =>
      have hk : k < l.length := by omega
      have HG := Lib.hid hkg;clear hkg;have hix := bstr_index l k hk;cases hd : isDig (l.getD k 0) with
      | false =>
       have E := Lib.hid (isDec_bad hk hd);have hd' : (l.getD k 0).toNat < 48 ∨ (¬ (l.getD k 0).toNat < 48 ∧ 57 < (l.getD k 0).toNat) := by
        unfold isDig at hd;simp only [Bool.and_eq_false_iff, decide_eq_false_iff_not] at hd;omega
       clear hd HE HG0 HA HD;generalize (l.getD k 0).toNat = d at *;generalize bstr l = s at *;rcases hd' with hd | ⟨hd1, hd2⟩
       ·have e1 : decide ((d : Int) < 48) = true := decide_eq_true (by omega);go_wp2_with fail;go_ret;exact ⟨ret_bool E.out.symm, HB.out⟩
       ·have e1 : decide ((d : Int) < 48) = false := decide_eq_false (by omega);have e2 : decide ((57 : Int) < (d : Int)) = true := decide_eq_true (by omega);go_wp2_with fail;go_ret;exact ⟨ret_bool E.out.symm, HB.out⟩
      | true =>
       have hd' : 48 ≤ (l.getD k 0).toNat ∧ (l.getD k 0).toNat ≤ 57 := by
        unfold isDig at hd;simp only [Bool.and_eq_true, decide_eq_true_eq] at hd;exact hd
       have hA2 : ∀ j, j < k + 1 → isDig (l.getD j 0) = true := (fun j hj => by
        by_cases h : j < k
        ·exact HA.out j h
        ·obtain rfl : j = k := by omega
         exact hd)
       have HA2 := Lib.hid hA2;clear hd HA hA2;have e1 : decide (((l.getD k 0).toNat : Int) < 48) = false := decide_eq_false (by omega);have e2 : decide ((57 : Int) < ((l.getD k 0).toNat : Int)) = false := decide_eq_false (by omega);clear hd';generalize ((l.getD k 0).toNat : Int) = d at *;generalize bstr l = s at *;go_wp2_with fail;go_roundg g
       case measure => omega
       case rel => exact ⟨k + 1, by have := HG.out; omega, by go_num, HA2.out, HB.out⟩
end Go.Proofs.YtkfhpefmmhljmaaGreatDoor
