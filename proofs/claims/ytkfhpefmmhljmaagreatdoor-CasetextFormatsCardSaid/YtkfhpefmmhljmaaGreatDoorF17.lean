/- Texts in one: CtD, CtE. -/
import Derived.Test.YtkfhpefmmhljmaaGreatDoorF16
set_option linter.unusedVariables false
set_option linter.unusedSimpArgs false
set_option maxHeartbeats 16000000
set_option maxRecDepth 100000
namespace Go.Proofs.YtkfhpefmmhljmaaGreatDoor
open Go.RowKit
theorem tC (l : Bytes) (w : World) (hn : ∀ k, k < l.length → l.getD k 0 ≠ 47) (hl : l.length ≤ 1000000) : Calls Tryz.prog 161 #[.string (bstr l)] w fun e w' => e = .returned (.tuple #[.string (bstr l), .string (bstr []), .bool false]) ∧ Below w w w' := by
 have hsz := zQ l;have HN := η hn;clear hn;go_enter Tryz.func161, Tryz.ntmps161;go_wp2;go_step3;go_wp2;go_step3;go_wp2;go_loopg [2, 3, 4, 5, 9] l.length (fun g s2 s3 s4 s5 s9 wr => ∃ k : Nat, k + g = l.length ∧ s2 = .string (bstr l) ∧ s3 = .string (bstr []) ∧ s4 = .bool false ∧ s9 = .int .i64 (k : Int) ∧ Below w w wr)
 case atStart => exact ⟨0, by omega, rfl, rfl, rfl, rfl, Below.refl _ _⟩
 case round =>
  obtain ⟨k, hkg, rfl, rfl, rfl, rfl, hb⟩ := hrel;have HB := η hb;clear hb;cases gk with
  | zero =>
   obtain rfl : k = l.length := by omega
   clear hkg;go_wp2_with fail
   try rw [κx]
   go_ret3;exact ⟨rfl, HB.out⟩
  | succ g =>
   have hk : k < l.length := by omega
   have HG := η hkg;clear hkg;have hix := qA l k hk;have hne : (((l.getD k 0).toNat : Int) == 47) = false := (u8_eq _ 47).trans (βf (HN.out k hk));generalize ((l.getD k 0).toNat : Int) = c at *;generalize bstr l = s at *;go_wp2_with fail;go_roundg g
   case measure => omega
   case rel => exact ⟨k + 1, by have := HG.out; omega, rfl, rfl, rfl, by go_num, HB.out⟩
theorem pA {l : Bytes} {k : Nat} (hk : k < l.length) (h : isDig (l.getD k 0) = false) : isDec l = false := by
 have : l.all isDig = false := by
  rw [List.all_eq_false];exact ⟨l.getD k 0, by rw [zM l k 0 hk]; exact List.getElem_mem hk, by rw [h]; exact Bool.false_ne_true⟩
 unfold isDec;rw [this];simp
theorem gX {l : Bytes} (h0 : l.isEmpty = false) (h1 : (l.head? != some 48 || l.length == 1) = true) (h : ∀ k, k < l.length → isDig (l.getD k 0) = true) : isDec l = true := by
 have : l.all isDig = true := by
  rw [List.all_eq_true];intro x hx;obtain ⟨k, hk, rfl⟩ := List.mem_iff_getElem.1 hx;have := h k hk;rwa [zM l k 0 hk] at this
 unfold isDec;rw [this, h0, h1];rfl
theorem eJ (l : Bytes) (w : World) (hl : l.length ≤ 1000000) : Calls Tryz.prog 195 #[.string (bstr l)] w fun e w' => e = .returned (.bool (isDec l)) ∧ Below w w w' := by
 have hsz := zQ l;have hn := yK l;have HB0 := η (Below.refl w w);cases he : l.isEmpty with
 | true =>
  rw [he] at hn;have e : isDec l = false := by unfold isDec; rw [he]; rfl
  rw [e];clear e he;generalize bstr l = s at *;go_enter Tryz.func195, Tryz.ntmps195;go_wp2_with fail;go_ret;exact ⟨rfl, HB0.out⟩
 | false =>
  rw [he] at hn;have hp : 0 < l.length := by cases l with | nil => cases he | cons a b => simp
  have hix0 : ∀ w, (Instr.index 9 (.string (bstr l)) (.int .i64 0)).run Tryz.prog w = .ok (.int .u8 ((l.getD 0 0).toNat : Int)) w := qA l 0 hp;have h0 : (((l.getD 0 0).toNat : Int) == 48) = (l.getD 0 0 == 48) := u8_eq (l.getD 0 0) 48;have hd0 : l.head? = some (l.getD 0 0) := by cases l with | nil => cases he | cons a b => rfl
  have HE := η he;have HD := η hd0;clear he hd0;by_cases hz : (l.getD 0 0 == 48) = true ∧ 1 < l.length
  ·rw [hz.1] at h0;have e : isDec l = false := by
    unfold isDec;rw [HD.out, beq_iff_eq.1 hz.1];have : (l.length == 1) = false := by rw [beq_eq_false_iff_ne]; omega
    rw [this];simp
   have h1 : decide ((1 : Int) < (l.length : Int)) = true := κt (by omega);rw [e];clear e HE HD hz;generalize (((l.getD 0 0).toNat : Nat) : Int) = c at *;generalize bstr l = s at *;go_enter Tryz.func195, Tryz.ntmps195;go_wp2_with fail;go_ret;exact ⟨rfl, HB0.out⟩
  ·have hg : (l.head? != some 48 || l.length == 1) = true := by
    rw [HD.out];by_cases h2 : (l.getD 0 0 == 48) = true
    ·have : l.length = 1 := by have : ¬ 1 < l.length := fun h => hz ⟨h2, h⟩; omega
     simp [this]
    ·have : l.getD 0 0 ≠ 48 := fun h => h2 (beq_iff_eq.2 h)
     generalize l.getD 0 0 = z at *;simp [this]
   have HG0 := η hg;have hb2 : ((((l.getD 0 0).toNat : Nat) : Int) == 48) = false ∨ decide ((1 : Int) < (l.length : Int)) = false := by
    by_cases h2 : (l.getD 0 0 == 48) = true
    ·right;have : ¬ 1 < l.length := fun h => hz ⟨h2, h⟩
     exact κf (by omega)
    ·left;rw [show ((((l.getD 0 0).toNat : Nat) : Int) == 48) = (l.getD 0 0 == 48) from h0];simpa using h2
   clear hg hz h0;generalize (((l.getD 0 0).toNat : Nat) : Int) = c at *;cases hq : (c == 48) with
   | true =>
    have h1 : decide ((1 : Int) < (l.length : Int)) = false := by rcases hb2 with h | h; (rw [hq] at h; cases h); exact h
    clear hb2;go_enter Tryz.func195, Tryz.ntmps195;go_wp2_with fail;go_loopg [3, 18] l.length (fun g s3 s18 wr => ∃ k : Nat, k + g = l.length ∧ s18 = .int .i64 (k : Int) ∧ (∀ j, j < k → isDig (l.getD j 0) = true) ∧ Below w w wr)
    case atStart => exact ⟨0, by omega, rfl, fun j hj => absurd hj (by omega), HB0.out⟩
    case round =>
     clear hix0 hn hq h1 HB0 hp;obtain ⟨k, hkg, rfl, hall, hb⟩ := hrel;have HA := η hall;have HB := η hb;clear hb hall;cases gk with
     | zero =>
      obtain rfl : k = l.length := by omega
      clear hkg;have E := η (gX HE.out HG0.out HA.out);clear HE HG0 HA HD;generalize bstr l = s at *;go_wp2_with fail;go_ret;exact ⟨zU E.out.symm, HB.out⟩
     | succ g =>
      have hk : k < l.length := by omega
      have HG := η hkg;clear hkg;have hix := qA l k hk;cases hd : isDig (l.getD k 0) with
      | false =>
       have E := η (pA hk hd);have hd' : (l.getD k 0).toNat < 48 ∨ (¬ (l.getD k 0).toNat < 48 ∧ 57 < (l.getD k 0).toNat) := by
        unfold isDig at hd;simp only [Bool.and_eq_false_iff, decide_eq_false_iff_not] at hd;omega
       clear hd HE HG0 HA HD;generalize (l.getD k 0).toNat = d at *;generalize bstr l = s at *;rcases hd' with hd | ⟨hd1, hd2⟩
       ·have e1 : decide ((d : Int) < 48) = true := κt (by omega);go_wp2_with fail;go_ret;exact ⟨zU E.out.symm, HB.out⟩
       ·have e1 : decide ((d : Int) < 48) = false := κf (by omega);have e2 : decide ((57 : Int) < (d : Int)) = true := κt (by omega);go_wp2_with fail;go_ret;exact ⟨zU E.out.symm, HB.out⟩
      | true =>
       have hd' : 48 ≤ (l.getD k 0).toNat ∧ (l.getD k 0).toNat ≤ 57 := by
        unfold isDig at hd;simp only [κb, κe] at hd;exact hd
       have hA2 : ∀ j, j < k + 1 → isDig (l.getD j 0) = true := (fun j hj => by
        by_cases h : j < k
        ·exact HA.out j h
        ·obtain rfl : j = k := by omega
         exact hd)
       have HA2 := η hA2;clear hd HA hA2;have e1 : decide (((l.getD k 0).toNat : Int) < 48) = false := κf (by omega);have e2 : decide ((57 : Int) < ((l.getD k 0).toNat : Int)) = false := κf (by omega);clear hd';generalize ((l.getD k 0).toNat : Int) = d at *;generalize bstr l = s at *;go_wp2_with fail;go_roundg g
       case measure => omega
       case rel => exact ⟨k + 1, by have := HG.out; omega, by go_num, HA2.out, HB.out⟩
   | false =>
    clear hb2;go_enter Tryz.func195, Tryz.ntmps195;go_wp2_with fail;go_loopg [3, 18] l.length (fun g s3 s18 wr => ∃ k : Nat, k + g = l.length ∧ s18 = .int .i64 (k : Int) ∧ (∀ j, j < k → isDig (l.getD j 0) = true) ∧ Below w w wr)
    case atStart => exact ⟨0, by omega, rfl, fun j hj => absurd hj (by omega), HB0.out⟩
    case round =>
     clear hix0 hn hq HB0 hp;obtain ⟨k, hkg, rfl, hall, hb⟩ := hrel;have HA := η hall;have HB := η hb;clear hb hall;cases gk with
     | zero =>
      obtain rfl : k = l.length := by omega
      clear hkg;have E := η (gX HE.out HG0.out HA.out);clear HE HG0 HA HD;generalize bstr l = s at *;go_wp2_with fail;go_ret;exact ⟨zU E.out.symm, HB.out⟩
     | succ g =>
      have hk : k < l.length := by omega
      have HG := η hkg;clear hkg;have hix := qA l k hk;cases hd : isDig (l.getD k 0) with
      | false =>
       have E := η (pA hk hd);have hd' : (l.getD k 0).toNat < 48 ∨ (¬ (l.getD k 0).toNat < 48 ∧ 57 < (l.getD k 0).toNat) := by
        unfold isDig at hd;simp only [Bool.and_eq_false_iff, decide_eq_false_iff_not] at hd;omega
       clear hd HE HG0 HA HD;generalize (l.getD k 0).toNat = d at *;generalize bstr l = s at *;rcases hd' with hd | ⟨hd1, hd2⟩
       ·have e1 : decide ((d : Int) < 48) = true := κt (by omega);go_wp2_with fail;go_ret;exact ⟨zU E.out.symm, HB.out⟩
       ·have e1 : decide ((d : Int) < 48) = false := κf (by omega);have e2 : decide ((57 : Int) < (d : Int)) = true := κt (by omega);go_wp2_with fail;go_ret;exact ⟨zU E.out.symm, HB.out⟩
      | true =>
       have hd' : 48 ≤ (l.getD k 0).toNat ∧ (l.getD k 0).toNat ≤ 57 := by
        unfold isDig at hd;simp only [κb, κe] at hd;exact hd
       have hA2 : ∀ j, j < k + 1 → isDig (l.getD j 0) = true := (fun j hj => by
        by_cases h : j < k
        ·exact HA.out j h
        ·obtain rfl : j = k := by omega
         exact hd)
       have HA2 := η hA2;clear hd HA hA2;have e1 : decide (((l.getD k 0).toNat : Int) < 48) = false := κf (by omega);have e2 : decide ((57 : Int) < ((l.getD k 0).toNat : Int)) = false := κf (by omega);clear hd';generalize ((l.getD k 0).toNat : Int) = d at *;generalize bstr l = s at *;go_wp2_with fail;go_roundg g
       case measure => omega
       case rel => exact ⟨k + 1, by have := HG.out; omega, by go_num, HA2.out, HB.out⟩
def WrdR (w : World) (B : Nat) (A : Option Addr) (xs : List Int) : Prop :=
 0 < xs.length → ∃ b off, A = some ⟨b, off, none⟩ ∧ b < B ∧ ∀ i, i < xs.length → w.cell? ⟨b, off + i, none⟩ = some (.int .u32 (xs.getD i 0))
section
variable {w w' : World} {B B' : Nat} {A : Option Addr} {xs : List Int}
theorem WrdR.nil_ : WrdR w B A [] := fun h => absurd h (by simp)
theorem WrdR.keep (h : WrdR w B A xs) (hk : ∀ p : Addr, p.block < B → w'.cell? p = w.cell? p) : WrdR w' B A xs := fun hn => by
 obtain ⟨b, off, e, hb, hc⟩ := h hn;exact ⟨b, off, e, hb, fun i hi => (hk _ hb).trans (hc i hi)⟩
theorem WrdR.more (h : WrdR w B A xs) (hB : B ≤ B') : WrdR w B' A xs := fun hn => by
 obtain ⟨b, off, e, hb, hc⟩ := h hn;exact ⟨b, off, e, by omega, hc⟩
theorem WrdR.below (h : WrdR w B A xs) (hb : Below B w w') : WrdR w' B A xs := h.keep fun _ hp => hb.cell hp
theorem WrdR.upto (h : WrdR w w A xs) (hb : Below w w w') : WrdR w' w' A xs := (h.below hb).more hb.size
theorem WrdR.drewN (h : WrdR w B A xs) (n : Nat) : WrdR (w.drewN n) B A xs := h
theorem WrdR.alloc (h : WrdR w B A xs) (hB : B ≤ w) (o : Obj) : WrdR (w.alloc o) B A xs := h.keep fun p hp => World.cell?_alloc_lt w o p (by omega)
theorem WrdR.take (h : WrdR w B A xs) (n : Nat) : WrdR w B A (xs.take n) := fun hn => by
 have hl : 0 < xs.length := by rw [κk] at hn; omega
 obtain ⟨b, off, e, hb, hc⟩ := h hl;refine ⟨b, off, e, hb, fun i hi => ?_⟩;rw [κk] at hi;have : (xs.take n).getD i 0 = xs.getD i 0 := by rw [κd, κd, List.getElem?_take_of_lt (by omega)]
 rw [this];exact hc i (by omega)
theorem WrdR.trim (h : WrdR w B A xs) : WrdR w B A (trimL xs) := by rw [yC]; exact h.take _
end
theorem und_w : Tryz.prog.underlying 81 = some (.slice (Tryz.prog.elem 81)) := by kernel_rfl
theorem oR : Tryz.prog.elem 81 = 192 := by kernel_rfl
theorem add0 (a : Addr) : a.add 0 = a := by
 obtain ⟨b, o, p⟩ := a;cases p <;> simp [Addr.add]
theorem map0 (A : Option Addr) : A.map (·.add 0) = A := by
 cases A with
 | none => rfl
 | some a => simp [add0]
theorem rP (A : Option Addr) (len c hi : Nat) (h2 : hi ≤ c) (w : World) : (Instr.sliceAt 81 (.slice A len c) none (some (.int .i64 (hi : Int))) none).run Tryz.prog w = .ok (.slice A hi c) w := by
 rw [run_sliceAt_slice w _ _ _ _ _ und_w, run_slice_h w _ A len c und_w .i64 _ (by omega) (by omega), oR, Tryz.sizeOf192];simp [Result.andThen, sliced, map0]
theorem gJ {l : List Int} {k : Nat} (hk : k < l.length) (h : l.getD k 0 = 0) : trimL (l.take (k + 1)) = trimL (l.take k) := by
 rw [κs hk];rw [zM l k 0 hk] at h;rw [h, zS]
theorem gI {l : List Int} {k : Nat} (hk : k < l.length) (h : l.getD k 0 ≠ 0) : (trimL (l.take (k + 1))).length = k + 1 := by
 rw [κs hk];rw [zM l k 0 hk] at h;rw [qR _ h];simp;omega
theorem vP (A : Option Addr) (c : Nat) (l : List Int) (w : World) (h : WrdR w w A l) (hl : l.length ≤ 1000000) (hc : l.length ≤ c) : Calls Tryz.prog 198 #[.slice A l.length c] w fun e w' => e = .returned (.slice A (trimL l).length c) ∧ Below w w w' := by
 have H := η h;clear h;go_enter Tryz.func198, Tryz.ntmps198;go_wp2_with fail;go_loopg [0] l.length (fun g s0 wr => ∃ k : Nat, k ≤ l.length ∧ k ≤ g ∧ s0 = .slice A k c ∧ (trimL l) = trimL (l.take k) ∧ Below w w wr)
 case atStart => exact ⟨l.length, νr _, νr _, rfl, by rw [List.take_length], Below.refl _ _⟩
 case round =>
  obtain ⟨k, hkl, hkg, rfl, ht, hb⟩ := hrel;have HB := η hb;have HT := η ht;clear hb ht;cases k with
  | zero =>
   go_wp2_with fail;go_ret;refine ⟨?_, HB.out⟩;rw [HT.out];rfl
  | succ k =>
   obtain ⟨b, off, rfl, hbl, hcc⟩ := H.out (by omega);have f0 := (HB.out.cell (p := ⟨b, off + k, none⟩) hbl).trans (hcc k (by omega));clear hcc;have w0 : decide ((0 : Int) < ((k + 1 : Nat) : Int)) = true := κt (by omega);have w1 : IntKind.i64.wrap (((k + 1 : Nat) : Int) - 1) = (k : Int) := by rw [IntWalk.i64_in _ (by omega)]; omega
   have w3 : ((k : Nat) : Int) < ((k + 1 : Nat) : Int) := by omega
   have w4 : (k : Int) ≤ (k : Int) := by omega
   have hs := rP (some ⟨b, off, none⟩) (k + 1) c k (by omega);by_cases hz : l.getD k 0 = 0
   ·have HZ := η (HT.out.trans (gJ (by omega) hz));rw [hz] at f0;clear hz HT;go_wp2_with fail;go_roundg k
    case measure => omega
    case rel => exact ⟨k, by omega, νr _, rfl, HZ.out, HB.out⟩
   ·have HZ := η ((congrArg List.length HT.out).trans (gI (by omega) hz));have hz' : (l.getD k 0 == 0) = false := βf hz;clear HT hz;generalize l.getD k 0 = x at *;go_wp2_with fail;go_ret;refine ⟨?_, HB.out⟩;rw [HZ.out];rfl
theorem bo1 (a b : Nat) (h : a < 4294967296) : a ||| b * 4294967296 = a + 4294967296 * b := by
 have h0 := Nat.two_pow_add_eq_or_of_lt (i := 32) (b := a) h b;rw [Nat.or_comm, Nat.mul_comm b];exact h0.symm.trans (Nat.add_comm _ _)
theorem bo2 (a b : Nat) (h : a < 4294967296) (hb : b < 4294967296) : bits .or .u64 (a : Int) ((b * 4294967296 : Nat) : Int) = IntKind.u64.wrap ((a ||| b * 4294967296 : Nat) : Int) := by
 have h4 : (2 : Nat) ^ 64 = 18446744073709551616 := by decide
 unfold bits;have e1 : (BitVec.ofInt IntKind.u64.bits (a : Int)).toNat = a := by
  rw [BitVec.ofInt_natCast, BitVec.toNat_ofNat];exact Nat.mod_eq_of_lt (by show a < 2 ^ 64; omega)
 have e2 : (BitVec.ofInt IntKind.u64.bits ((b * 4294967296 : Nat) : Int)).toNat = b * 4294967296 := by
  rw [BitVec.ofInt_natCast, BitVec.toNat_ofNat];exact Nat.mod_eq_of_lt (by show b * 4294967296 < 2 ^ 64; omega)
 simp only [];rw [BitVec.toNat_or, e1, e2]
theorem rC (x y : Int) (hx : 0 ≤ x ∧ x < 4294967296) (hy : 0 ≤ y ∧ y < 4294967296) : bits .or .u64 x (y * 4294967296) = x + 4294967296 * y := by
 obtain ⟨a, ha⟩ : ∃ a : Nat, x = a := ⟨x.toNat, by omega⟩;obtain ⟨b, hb⟩ : ∃ b : Nat, y = b := ⟨y.toNat, by omega⟩;have e : y * 4294967296 = ((b * 4294967296 : Nat) : Int) := by omega
 rw [e, ha, bo2 a b (by omega) (by omega), bo1 a b (by omega), κu _ (by omega)];omega
theorem lD (A : Option Addr) (c : Nat) (l : List Int) (w : World) (h : WrdR w w A l) (hl : l.length ≤ 2) (hw : Words l) : Calls Tryz.prog 225 #[.slice A l.length c] w fun e w' => e = .returned (.int .u64 (wv l)) ∧ Below w w w' := by
 have HB := η (Below.refl w w)
 match l, h, hl, hw with
 | [], h, hl, hw =>
  clear h hw;go_enter Tryz.func225, Tryz.ntmps225;go_wp2_with fail;go_ret;exact ⟨rfl, HB.out⟩
 | [x], h, hl, hw =>
  obtain ⟨b, off, rfl, hbl, hcc⟩ := h (by simp);have f0 : w.cell? ⟨b, off, none⟩ = some (.int .u32 x) := hcc 0 (by simp);have hx := hw x (by simp);have w1 : IntKind.u64.wrap x = x := κu _ (by omega);clear h hcc hw;go_enter Tryz.func225, Tryz.ntmps225;go_wp2_with fail;go_ret;exact ⟨zC (by simp [wv]), HB.out⟩
 | [x, y], h, hl, hw =>
  obtain ⟨b, off, rfl, hbl, hcc⟩ := h (by simp);have f0 : w.cell? ⟨b, off, none⟩ = some (.int .u32 x) := hcc 0 (by simp);have f1 : w.cell? ⟨b, off + 1, none⟩ = some (.int .u32 y) := hcc 1 (by simp);have hx := hw x (by simp);have hy := hw y (by simp);have w1 : IntKind.u64.wrap x = x := κu _ (by omega);have w2 : IntKind.u64.wrap y = y := κu _ (by omega);clear h hcc hw;go_enter Tryz.func225, Tryz.ntmps225;go_wp2_with fail;go_quiet (fail);go_wp2_with fail;go_ret;exact ⟨zC (by rw [rC x y hx hy]; simp [wv]), gC HB.out _⟩
 | _ :: _ :: _ :: _, _, hl, _ => simp at hl
end Go.Proofs.YtkfhpefmmhljmaaGreatDoor
