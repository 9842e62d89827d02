/- Texts in one: CtB, CtC. -/
import Derived.Test.YtkfhpefmmhljmaaGreatDoorF10
import Derived.Test.YtkfhpefmmhljmaaGreatDoorF8
set_option linter.unusedVariables false
set_option linter.unusedSimpArgs false
set_option maxHeartbeats 16000000
set_option maxRecDepth 100000
namespace Go.Proofs.YtkfhpefmmhljmaaGreatDoor
open Go.RowKit
theorem nP (p : UInt8 → Bool) (l : Bytes) : decide (endF p l 0 = l.length) = l.all p := by
 unfold endF;rw [Nat.zero_add, List.drop_zero]
 induction l with
 | nil => rfl
 | cons a l ih =>
  rw [List.takeWhile_cons, List.all_cons];cases h : p a with
  | true => simpa using ih
  | false => simp
theorem iJ (l : Bytes) (i : Nat) (w : World) (hi : i ≤ l.length) (hl : l.length ≤ 1000000) : Calls Tryz.prog 92 #[sepV, .string (bstr l), .int .i64 (i : Int)] w fun e w' => e = .returned (.int .i64 (endF isSep l i : Int)) ∧ Below w w w' := by
 have hsz := zQ l;unfold sepV;have HB0 := η ((Below.refl w w).alloc (νr _) (.cells #[.func (.func 157) #[] #[]] 154));go_enter Tryz.func92, Tryz.ntmps92;go_wp2;go_step3;go_wp2;go_step3;go_wp2;go_loopg [2, 11] l.length (fun g s2 s11 wr => ∃ k : Nat, k ≤ l.length ∧ l.length ≤ k + g ∧ s2 = .int .i64 (k : Int) ∧ endF isSep l i = endF isSep l k ∧ wr.cell? ⟨w, 0, none⟩ = some (.func (.func 157) #[] #[]) ∧ w < wr.heap.size ∧ Below w w wr)
 case atStart => exact ⟨i, hi, by omega, rfl, rfl, by simp, by simp, HB0.out⟩
 case round =>
  clear HB0;obtain ⟨k, hkl, hkg, rfl, hd, c0, hbw, hb⟩ := hrel;have HD := η hd;have HB := η hb;clear hd hb;by_cases hlt : k < l.length
  ·cases hp : isSep (l.getD k 0) with
   | true =>
    have hcall : ∀ W, Calls Tryz.prog 157 #[.int .u8 ((l.getD k 0).toNat : Int)] W fun e w' => e = .returned (.bool (isSep (l.getD k 0))) ∧ Below W W w' := fun W => (sep1 (l.getD k 0) W).mono fun e w' ⟨he, hw⟩ => ⟨he, by rw [hw]; exact Below.refl _ _⟩
    rw [hp] at hcall;have hix := qA l k hlt;have HE := η (HD.out.trans (yY hlt hp));clear hp;generalize ((l.getD k 0).toNat : Int) = c at *;generalize bstr l = s at *;go_wp2_with fail;refine zE (w0 := wr) [(1, .string s), (2, .int .i64 (k : Int)), (3, .pointer (some ⟨w, 0, none⟩)), (12, .pointer (some ⟨w, 0, none⟩)), (13, .func (.func 157) #[] #[]), (14, .string s), (15, .int .i64 (k : Int)), (16, .int .u8 c), (17, .bool true), (11, .bool true)] [] [1, 2, 3] ?_ ?_
    ·intro T hT W hI;simp only [zA, and_true] at hT;have c0' : W.cell? ⟨w, 0, none⟩ = _ := (hI.cell (p := ⟨w, 0, none⟩) hbw).trans c0
     repeat' first | exact AllO.nil | apply AllO.cons
     all_goals try ((first | refine oV ?_ | refine oN ?_ | refine oG (t := by simp only [hT]) (h := ?_)); simp [go_sem, EvT, hT, c0', hix, valT]; done)
     ·refine opT_r (zO 157 #[.int .u8 c] (by simp [go_sem, EvT, hT, c0', hix]) ?_);simp only [valT, hT];exact hcall W
    intro wx hb;simp (decide := true) only [putT, valT, look, Act.put, σi, σo, σs, Nat.reduceAdd, if_true, if_false];have HB2 := βT HB hb;have c1 := (hb.cell (p := ⟨w, 0, none⟩) hbw).trans c0;have hbw2 : w < wx.heap.size := νl hbw hb.size;clear hb hcall;obtain ⟨g2, rfl⟩ : ∃ g2, gk = g2 + 1 := ⟨gk - 1, by omega⟩;go_wp2_with fail;go_roundg g2
    case measure => omega
    case rel => exact ⟨k + 1, by omega, by omega, by go_num, HE.out, c1, hbw2, HB2.out⟩
   | false =>
    have hcall : ∀ W, Calls Tryz.prog 157 #[.int .u8 ((l.getD k 0).toNat : Int)] W fun e w' => e = .returned (.bool (isSep (l.getD k 0))) ∧ Below W W w' := fun W => (sep1 (l.getD k 0) W).mono fun e w' ⟨he, hw⟩ => ⟨he, by rw [hw]; exact Below.refl _ _⟩
    rw [hp] at hcall;have hix := qA l k hlt;have HE := η (HD.out.trans (fX hlt hp));clear hp;generalize ((l.getD k 0).toNat : Int) = c at *;generalize bstr l = s at *;go_wp2_with fail;refine zE (w0 := wr) [(1, .string s), (2, .int .i64 (k : Int)), (3, .pointer (some ⟨w, 0, none⟩)), (12, .pointer (some ⟨w, 0, none⟩)), (13, .func (.func 157) #[] #[]), (14, .string s), (15, .int .i64 (k : Int)), (16, .int .u8 c), (17, .bool false), (11, .bool false)] [] [1, 2, 3] ?_ ?_
    ·intro T hT W hI;simp only [zA, and_true] at hT;have c0' : W.cell? ⟨w, 0, none⟩ = _ := (hI.cell (p := ⟨w, 0, none⟩) hbw).trans c0
     repeat' first | exact AllO.nil | apply AllO.cons
     all_goals try ((first | refine oV ?_ | refine oN ?_ | refine oG (t := by simp only [hT]) (h := ?_)); simp [go_sem, EvT, hT, c0', hix, valT]; done)
     ·refine opT_r (zO 157 #[.int .u8 c] (by simp [go_sem, EvT, hT, c0', hix]) ?_);simp only [valT, hT];exact hcall W
    intro wx hb;simp (decide := true) only [putT, valT, look, Act.put, σi, σo, σs, Nat.reduceAdd, if_true, if_false];have HB2 := βT HB hb;have c1 := (hb.cell (p := ⟨w, 0, none⟩) hbw).trans c0;have hbw2 : w < wx.heap.size := νl hbw hb.size;clear hb hcall;go_wp2_with fail
    try rw [κx]
    go_ret;exact ⟨zC (by rw [HE.out]), HB2.out⟩
  ·have hk : k = l.length := by omega
   have HE := η (HD.out.trans (kY (by omega)));have hdl : decide ((k : Int) < (l.length : Int)) = false := by simp; omega
   clear hk;go_wp2_with fail
   try rw [κx]
   go_ret;exact ⟨zC (by rw [HE.out]), HB.out⟩
theorem lC (l : Bytes) (i : Nat) (w : World) (hi : i ≤ l.length) (hl : l.length ≤ 1000000) : Calls Tryz.prog 92 #[lowV, .string (bstr l), .int .i64 (i : Int)] w fun e w' => e = .returned (.int .i64 (endF isLow l i : Int)) ∧ Below w w w' := by
 have hsz := zQ l;unfold lowV;have HB0 := η ((Below.refl w w).alloc (νr _) (.cells #[.func (.func 159) #[] #[]] 154));go_enter Tryz.func92, Tryz.ntmps92;go_wp2;go_step3;go_wp2;go_step3;go_wp2;go_loopg [2, 11] l.length (fun g s2 s11 wr => ∃ k : Nat, k ≤ l.length ∧ l.length ≤ k + g ∧ s2 = .int .i64 (k : Int) ∧ endF isLow l i = endF isLow l k ∧ wr.cell? ⟨w, 0, none⟩ = some (.func (.func 159) #[] #[]) ∧ w < wr.heap.size ∧ Below w w wr)
 case atStart => exact ⟨i, hi, by omega, rfl, rfl, by simp, by simp, HB0.out⟩
 case round =>
  clear HB0;obtain ⟨k, hkl, hkg, rfl, hd, c0, hbw, hb⟩ := hrel;have HD := η hd;have HB := η hb;clear hd hb;by_cases hlt : k < l.length
  ·cases hp : isLow (l.getD k 0) with
   | true =>
    have hcall : ∀ W, Calls Tryz.prog 159 #[.int .u8 ((l.getD k 0).toNat : Int)] W fun e w' => e = .returned (.bool (isLow (l.getD k 0))) ∧ Below W W w' := fun W => (low1 (l.getD k 0) W).mono fun e w' ⟨he, hw⟩ => ⟨he, by rw [hw]; exact Below.refl _ _⟩
    rw [hp] at hcall;have hix := qA l k hlt;have HE := η (HD.out.trans (yY hlt hp));clear hp;generalize ((l.getD k 0).toNat : Int) = c at *;generalize bstr l = s at *;go_wp2_with fail;refine zE (w0 := wr) [(1, .string s), (2, .int .i64 (k : Int)), (3, .pointer (some ⟨w, 0, none⟩)), (12, .pointer (some ⟨w, 0, none⟩)), (13, .func (.func 159) #[] #[]), (14, .string s), (15, .int .i64 (k : Int)), (16, .int .u8 c), (17, .bool true), (11, .bool true)] [] [1, 2, 3] ?_ ?_
    ·intro T hT W hI;simp only [zA, and_true] at hT;have c0' : W.cell? ⟨w, 0, none⟩ = _ := (hI.cell (p := ⟨w, 0, none⟩) hbw).trans c0
     repeat' first | exact AllO.nil | apply AllO.cons
     all_goals try ((first | refine oV ?_ | refine oN ?_ | refine oG (t := by simp only [hT]) (h := ?_)); simp [go_sem, EvT, hT, c0', hix, valT]; done)
     ·refine opT_r (zO 159 #[.int .u8 c] (by simp [go_sem, EvT, hT, c0', hix]) ?_);simp only [valT, hT];exact hcall W
    intro wx hb;simp (decide := true) only [putT, valT, look, Act.put, σi, σo, σs, Nat.reduceAdd, if_true, if_false];have HB2 := βT HB hb;have c1 := (hb.cell (p := ⟨w, 0, none⟩) hbw).trans c0;have hbw2 : w < wx.heap.size := νl hbw hb.size;clear hb hcall;obtain ⟨g2, rfl⟩ : ∃ g2, gk = g2 + 1 := ⟨gk - 1, by omega⟩;go_wp2_with fail;go_roundg g2
    case measure => omega
    case rel => exact ⟨k + 1, by omega, by omega, by go_num, HE.out, c1, hbw2, HB2.out⟩
   | false =>
    have hcall : ∀ W, Calls Tryz.prog 159 #[.int .u8 ((l.getD k 0).toNat : Int)] W fun e w' => e = .returned (.bool (isLow (l.getD k 0))) ∧ Below W W w' := fun W => (low1 (l.getD k 0) W).mono fun e w' ⟨he, hw⟩ => ⟨he, by rw [hw]; exact Below.refl _ _⟩
    rw [hp] at hcall;have hix := qA l k hlt;have HE := η (HD.out.trans (fX hlt hp));clear hp;generalize ((l.getD k 0).toNat : Int) = c at *;generalize bstr l = s at *;go_wp2_with fail;refine zE (w0 := wr) [(1, .string s), (2, .int .i64 (k : Int)), (3, .pointer (some ⟨w, 0, none⟩)), (12, .pointer (some ⟨w, 0, none⟩)), (13, .func (.func 159) #[] #[]), (14, .string s), (15, .int .i64 (k : Int)), (16, .int .u8 c), (17, .bool false), (11, .bool false)] [] [1, 2, 3] ?_ ?_
    ·intro T hT W hI;simp only [zA, and_true] at hT;have c0' : W.cell? ⟨w, 0, none⟩ = _ := (hI.cell (p := ⟨w, 0, none⟩) hbw).trans c0
     repeat' first | exact AllO.nil | apply AllO.cons
     all_goals try ((first | refine oV ?_ | refine oN ?_ | refine oG (t := by simp only [hT]) (h := ?_)); simp [go_sem, EvT, hT, c0', hix, valT]; done)
     ·refine opT_r (zO 159 #[.int .u8 c] (by simp [go_sem, EvT, hT, c0', hix]) ?_);simp only [valT, hT];exact hcall W
    intro wx hb;simp (decide := true) only [putT, valT, look, Act.put, σi, σo, σs, Nat.reduceAdd, if_true, if_false];have HB2 := βT HB hb;have c1 := (hb.cell (p := ⟨w, 0, none⟩) hbw).trans c0;have hbw2 : w < wx.heap.size := νl hbw hb.size;clear hb hcall;go_wp2_with fail
    try rw [κx]
    go_ret;exact ⟨zC (by rw [HE.out]), HB2.out⟩
  ·have hk : k = l.length := by omega
   have HE := η (HD.out.trans (kY (by omega)));have hdl : decide ((k : Int) < (l.length : Int)) = false := by simp; omega
   clear hk;go_wp2_with fail
   try rw [κx]
   go_ret;exact ⟨zC (by rw [HE.out]), HB.out⟩
theorem iV (l : Bytes) (i : Nat) (w : World) (hi : i ≤ l.length) (hl : l.length ≤ 1000000) : Calls Tryz.prog 92 #[numV, .string (bstr l), .int .i64 (i : Int)] w fun e w' => e = .returned (.int .i64 (endF isNum l i : Int)) ∧ Below w w w' := by
 have hsz := zQ l;unfold numV;have HB0 := η ((Below.refl w w).alloc (νr _) (.cells #[.func (.func 160) #[] #[]] 154));go_enter Tryz.func92, Tryz.ntmps92;go_wp2;go_step3;go_wp2;go_step3;go_wp2;go_loopg [2, 11] l.length (fun g s2 s11 wr => ∃ k : Nat, k ≤ l.length ∧ l.length ≤ k + g ∧ s2 = .int .i64 (k : Int) ∧ endF isNum l i = endF isNum l k ∧ wr.cell? ⟨w, 0, none⟩ = some (.func (.func 160) #[] #[]) ∧ w < wr.heap.size ∧ Below w w wr)
 case atStart => exact ⟨i, hi, by omega, rfl, rfl, by simp, by simp, HB0.out⟩
 case round =>
  clear HB0;obtain ⟨k, hkl, hkg, rfl, hd, c0, hbw, hb⟩ := hrel;have HD := η hd;have HB := η hb;clear hd hb;by_cases hlt : k < l.length
  ·cases hp : isNum (l.getD k 0) with
   | true =>
    have hcall : ∀ W, Calls Tryz.prog 160 #[.int .u8 ((l.getD k 0).toNat : Int)] W fun e w' => e = .returned (.bool (isNum (l.getD k 0))) ∧ Below W W w' := fun W => (num1 (l.getD k 0) W).mono fun e w' ⟨he, hw⟩ => ⟨he, by rw [hw]; exact Below.refl _ _⟩
    rw [hp] at hcall;have hix := qA l k hlt;have HE := η (HD.out.trans (yY hlt hp));clear hp;generalize ((l.getD k 0).toNat : Int) = c at *;generalize bstr l = s at *;go_wp2_with fail;refine zE (w0 := wr) [(1, .string s), (2, .int .i64 (k : Int)), (3, .pointer (some ⟨w, 0, none⟩)), (12, .pointer (some ⟨w, 0, none⟩)), (13, .func (.func 160) #[] #[]), (14, .string s), (15, .int .i64 (k : Int)), (16, .int .u8 c), (17, .bool true), (11, .bool true)] [] [1, 2, 3] ?_ ?_
    ·intro T hT W hI;simp only [zA, and_true] at hT;have c0' : W.cell? ⟨w, 0, none⟩ = _ := (hI.cell (p := ⟨w, 0, none⟩) hbw).trans c0
     repeat' first | exact AllO.nil | apply AllO.cons
     all_goals try ((first | refine oV ?_ | refine oN ?_ | refine oG (t := by simp only [hT]) (h := ?_)); simp [go_sem, EvT, hT, c0', hix, valT]; done)
     ·refine opT_r (zO 160 #[.int .u8 c] (by simp [go_sem, EvT, hT, c0', hix]) ?_);simp only [valT, hT];exact hcall W
    intro wx hb;simp (decide := true) only [putT, valT, look, Act.put, σi, σo, σs, Nat.reduceAdd, if_true, if_false];have HB2 := βT HB hb;have c1 := (hb.cell (p := ⟨w, 0, none⟩) hbw).trans c0;have hbw2 : w < wx.heap.size := νl hbw hb.size;clear hb hcall;obtain ⟨g2, rfl⟩ : ∃ g2, gk = g2 + 1 := ⟨gk - 1, by omega⟩;go_wp2_with fail;go_roundg g2
    case measure => omega
    case rel => exact ⟨k + 1, by omega, by omega, by go_num, HE.out, c1, hbw2, HB2.out⟩
   | false =>
    have hcall : ∀ W, Calls Tryz.prog 160 #[.int .u8 ((l.getD k 0).toNat : Int)] W fun e w' => e = .returned (.bool (isNum (l.getD k 0))) ∧ Below W W w' := fun W => (num1 (l.getD k 0) W).mono fun e w' ⟨he, hw⟩ => ⟨he, by rw [hw]; exact Below.refl _ _⟩
    rw [hp] at hcall;have hix := qA l k hlt;have HE := η (HD.out.trans (fX hlt hp));clear hp;generalize ((l.getD k 0).toNat : Int) = c at *;generalize bstr l = s at *;go_wp2_with fail;refine zE (w0 := wr) [(1, .string s), (2, .int .i64 (k : Int)), (3, .pointer (some ⟨w, 0, none⟩)), (12, .pointer (some ⟨w, 0, none⟩)), (13, .func (.func 160) #[] #[]), (14, .string s), (15, .int .i64 (k : Int)), (16, .int .u8 c), (17, .bool false), (11, .bool false)] [] [1, 2, 3] ?_ ?_
    ·intro T hT W hI;simp only [zA, and_true] at hT;have c0' : W.cell? ⟨w, 0, none⟩ = _ := (hI.cell (p := ⟨w, 0, none⟩) hbw).trans c0
     repeat' first | exact AllO.nil | apply AllO.cons
     all_goals try ((first | refine oV ?_ | refine oN ?_ | refine oG (t := by simp only [hT]) (h := ?_)); simp [go_sem, EvT, hT, c0', hix, valT]; done)
     ·refine opT_r (zO 160 #[.int .u8 c] (by simp [go_sem, EvT, hT, c0', hix]) ?_);simp only [valT, hT];exact hcall W
    intro wx hb;simp (decide := true) only [putT, valT, look, Act.put, σi, σo, σs, Nat.reduceAdd, if_true, if_false];have HB2 := βT HB hb;have c1 := (hb.cell (p := ⟨w, 0, none⟩) hbw).trans c0;have hbw2 : w < wx.heap.size := νl hbw hb.size;clear hb hcall;go_wp2_with fail
    try rw [κx]
    go_ret;exact ⟨zC (by rw [HE.out]), HB2.out⟩
  ·have hk : k = l.length := by omega
   have HE := η (HD.out.trans (kY (by omega)));have hdl : decide ((k : Int) < (l.length : Int)) = false := by simp; omega
   clear hk;go_wp2_with fail
   try rw [κx]
   go_ret;exact ⟨zC (by rw [HE.out]), HB.out⟩
theorem iK (l : Bytes) (i : Nat) (w : World) (hi : i ≤ l.length) (hl : l.length ≤ 1000000) : Calls Tryz.prog 92 #[runV, .string (bstr l), .int .i64 (i : Int)] w fun e w' => e = .returned (.int .i64 (endF isRun l i : Int)) ∧ Below w w w' := by
 have hsz := zQ l;unfold runV;have HB0 := η ((Below.refl w w).alloc (νr _) (.cells #[.func (.func 158) #[] #[]] 154));go_enter Tryz.func92, Tryz.ntmps92;go_wp2;go_step3;go_wp2;go_step3;go_wp2;go_loopg [2, 11] l.length (fun g s2 s11 wr => ∃ k : Nat, k ≤ l.length ∧ l.length ≤ k + g ∧ s2 = .int .i64 (k : Int) ∧ endF isRun l i = endF isRun l k ∧ wr.cell? ⟨w, 0, none⟩ = some (.func (.func 158) #[] #[]) ∧ w < wr.heap.size ∧ Below w w wr)
 case atStart => exact ⟨i, hi, by omega, rfl, rfl, by simp, by simp, HB0.out⟩
 case round =>
  clear HB0;obtain ⟨k, hkl, hkg, rfl, hd, c0, hbw, hb⟩ := hrel;have HD := η hd;have HB := η hb;clear hd hb;by_cases hlt : k < l.length
  ·cases hp : isRun (l.getD k 0) with
   | true =>
    have hcall : ∀ W, Calls Tryz.prog 158 #[.int .u8 ((l.getD k 0).toNat : Int)] W fun e w' => e = .returned (.bool (isRun (l.getD k 0))) ∧ Below W W w' := fun W => run1 (l.getD k 0) W
    rw [hp] at hcall;have hix := qA l k hlt;have HE := η (HD.out.trans (yY hlt hp));clear hp;generalize ((l.getD k 0).toNat : Int) = c at *;generalize bstr l = s at *;go_wp2_with fail;refine zE (w0 := wr) [(1, .string s), (2, .int .i64 (k : Int)), (3, .pointer (some ⟨w, 0, none⟩)), (12, .pointer (some ⟨w, 0, none⟩)), (13, .func (.func 158) #[] #[]), (14, .string s), (15, .int .i64 (k : Int)), (16, .int .u8 c), (17, .bool true), (11, .bool true)] [] [1, 2, 3] ?_ ?_
    ·intro T hT W hI;simp only [zA, and_true] at hT;have c0' : W.cell? ⟨w, 0, none⟩ = _ := (hI.cell (p := ⟨w, 0, none⟩) hbw).trans c0
     repeat' first | exact AllO.nil | apply AllO.cons
     all_goals try ((first | refine oV ?_ | refine oN ?_ | refine oG (t := by simp only [hT]) (h := ?_)); simp [go_sem, EvT, hT, c0', hix, valT]; done)
     ·refine opT_r (zO 158 #[.int .u8 c] (by simp [go_sem, EvT, hT, c0', hix]) ?_);simp only [valT, hT];exact hcall W
    intro wx hb;simp (decide := true) only [putT, valT, look, Act.put, σi, σo, σs, Nat.reduceAdd, if_true, if_false];have HB2 := βT HB hb;have c1 := (hb.cell (p := ⟨w, 0, none⟩) hbw).trans c0;have hbw2 : w < wx.heap.size := νl hbw hb.size;clear hb hcall;obtain ⟨g2, rfl⟩ : ∃ g2, gk = g2 + 1 := ⟨gk - 1, by omega⟩;go_wp2_with fail;go_roundg g2
    case measure => omega
    case rel => exact ⟨k + 1, by omega, by omega, by go_num, HE.out, c1, hbw2, HB2.out⟩
   | false =>
    have hcall : ∀ W, Calls Tryz.prog 158 #[.int .u8 ((l.getD k 0).toNat : Int)] W fun e w' => e = .returned (.bool (isRun (l.getD k 0))) ∧ Below W W w' := fun W => run1 (l.getD k 0) W
    rw [hp] at hcall;have hix := qA l k hlt;have HE := η (HD.out.trans (fX hlt hp));clear hp;generalize ((l.getD k 0).toNat : Int) = c at *;generalize bstr l = s at *;go_wp2_with fail;refine zE (w0 := wr) [(1, .string s), (2, .int .i64 (k : Int)), (3, .pointer (some ⟨w, 0, none⟩)), (12, .pointer (some ⟨w, 0, none⟩)), (13, .func (.func 158) #[] #[]), (14, .string s), (15, .int .i64 (k : Int)), (16, .int .u8 c), (17, .bool false), (11, .bool false)] [] [1, 2, 3] ?_ ?_
    ·intro T hT W hI;simp only [zA, and_true] at hT;have c0' : W.cell? ⟨w, 0, none⟩ = _ := (hI.cell (p := ⟨w, 0, none⟩) hbw).trans c0
     repeat' first | exact AllO.nil | apply AllO.cons
     all_goals try ((first | refine oV ?_ | refine oN ?_ | refine oG (t := by simp only [hT]) (h := ?_)); simp [go_sem, EvT, hT, c0', hix, valT]; done)
     ·refine opT_r (zO 158 #[.int .u8 c] (by simp [go_sem, EvT, hT, c0', hix]) ?_);simp only [valT, hT];exact hcall W
    intro wx hb;simp (decide := true) only [putT, valT, look, Act.put, σi, σo, σs, Nat.reduceAdd, if_true, if_false];have HB2 := βT HB hb;have c1 := (hb.cell (p := ⟨w, 0, none⟩) hbw).trans c0;have hbw2 : w < wx.heap.size := νl hbw hb.size;clear hb hcall;go_wp2_with fail
    try rw [κx]
    go_ret;exact ⟨zC (by rw [HE.out]), HB2.out⟩
  ·have hk : k = l.length := by omega
   have HE := η (HD.out.trans (kY (by omega)));have hdl : decide ((k : Int) < (l.length : Int)) = false := by simp; omega
   clear hk;go_wp2_with fail
   try rw [κx]
   go_ret;exact ⟨zC (by rw [HE.out]), HB.out⟩
theorem qB (l : Bytes) : (bstr l).toList = l := (ByteArray.toList_eq _).trans rfl
theorem yK (l : Bytes) : (bstr l).toList.isEmpty = l.isEmpty := by rw [qB]
theorem fP (l : Bytes) (w : World) (hl : l.length ≤ 1000000) : Calls Tryz.prog 95 #[lowV, .string (bstr l)] w fun e w' => e = .returned (.bool (allB isLow l)) ∧ Below w w w' := by
 have K := η (lC l 0 (w.alloc (.cells #[.func (.func 159) #[] #[]] 154)) (Nat.zero_le _) hl);have HB := η ((Below.refl w w).alloc (νr _) (.cells #[.func (.func 159) #[] #[]] 154));have hn := yK l;have hsz := zQ l;have hall := nP isLow l;unfold lowV at *;unfold allB;generalize bstr l = s at *;cases he : l.isEmpty with
 | true =>
  rw [he] at hn;clear K he hall;go_enter Tryz.func95, Tryz.ntmps95;go_wp2_with fail;go_ret;exact ⟨rfl, HB.out⟩
 | false =>
  rw [he] at hn;clear he;rw [← hall];clear hall;generalize endF isLow l 0 = n at *;generalize l.length = m at *;go_enter Tryz.func95, Tryz.ntmps95;go_wp2_with fail;refine K.out.mono ?_;rintro e w2 ⟨rfl, hb⟩;have HB2 := βT HB hb;clear hb K;by_cases hnm : n = m
  ·subst hnm;have t1 : ((n : Int) == (n : Int)) = true := by simp
   go_wp2_with fail;go_ret;exact ⟨zU (by simp), HB2.out⟩
  ·have t1 : ((n : Int) == (m : Int)) = false := by rw [beq_eq_false_iff_ne]; omega
   have T := η hnm;clear hnm;go_wp2_with fail;go_ret;exact ⟨zU (by simp [T.out]), HB2.out⟩
theorem iW (l : Bytes) (w : World) (hl : l.length ≤ 1000000) : Calls Tryz.prog 95 #[numV, .string (bstr l)] w fun e w' => e = .returned (.bool (allB isNum l)) ∧ Below w w w' := by
 have K := η (iV l 0 (w.alloc (.cells #[.func (.func 160) #[] #[]] 154)) (Nat.zero_le _) hl);have HB := η ((Below.refl w w).alloc (νr _) (.cells #[.func (.func 160) #[] #[]] 154));have hn := yK l;have hsz := zQ l;have hall := nP isNum l;unfold numV at *;unfold allB;generalize bstr l = s at *;cases he : l.isEmpty with
 | true =>
  rw [he] at hn;clear K he hall;go_enter Tryz.func95, Tryz.ntmps95;go_wp2_with fail;go_ret;exact ⟨rfl, HB.out⟩
 | false =>
  rw [he] at hn;clear he;rw [← hall];clear hall;generalize endF isNum l 0 = n at *;generalize l.length = m at *;go_enter Tryz.func95, Tryz.ntmps95;go_wp2_with fail;refine K.out.mono ?_;rintro e w2 ⟨rfl, hb⟩;have HB2 := βT HB hb;clear hb K;by_cases hnm : n = m
  ·subst hnm;have t1 : ((n : Int) == (n : Int)) = true := by simp
   go_wp2_with fail;go_ret;exact ⟨zU (by simp), HB2.out⟩
  ·have t1 : ((n : Int) == (m : Int)) = false := by rw [beq_eq_false_iff_ne]; omega
   have T := η hnm;clear hnm;go_wp2_with fail;go_ret;exact ⟨zU (by simp [T.out]), HB2.out⟩
end Go.Proofs.YtkfhpefmmhljmaaGreatDoor
