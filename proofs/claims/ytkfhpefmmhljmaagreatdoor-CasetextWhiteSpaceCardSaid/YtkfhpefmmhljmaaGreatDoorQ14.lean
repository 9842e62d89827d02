/- Texts in one: CtE, CtF. -/
import Derived.Test.YtkfhpefmmhljmaaGreatDoorQ13
import Derived.Test.YtkfhpefmmhljmaaGreatDoorQ2
set_option linter.unusedVariables false
set_option linter.unusedSimpArgs false
set_option maxRecDepth 100000
/- CtE -/
namespace Go.Proofs.YtkfhpefmmhljmaaGreatDoor
open Go.RowKit
set_option maxRecDepth 100000
def WrdR (w : World) (B : Nat) (A : Option Addr) (xs : List Int) : Prop :=
 0 < xs.length → ∃ b off, A = some ⟨b, off, none⟩ ∧ b < B ∧ ∀ i, i < xs.length → w.cell? ⟨b, off + i, none⟩ = some (.int .u32 (xs.getD i 0))
section
variable {w w' : World} {B B' : Nat} {A : Option Addr} {xs : List Int}
theorem WrdR.nil_ : WrdR w B A [] := fun h => absurd h (by simp)
theorem WrdR.keep (h : WrdR w B A xs) (hk : ∀ p : Addr, p.block < B → w'.cell? p = w.cell? p) : WrdR w' B A xs := fun hn => by
 obtain ⟨b, off, e, hb, hc⟩ := h hn;exact ⟨b, off, e, hb, fun i hi => (hk _ hb).trans (hc i hi)⟩
theorem WrdR.more (h : WrdR w B A xs) (hB : B ≤ B') : WrdR w B' A xs := fun hn => by
 obtain ⟨b, off, e, hb, hc⟩ := h hn;exact ⟨b, off, e, by omega, hc⟩
theorem WrdR.below (h : WrdR w B A xs) (hb : Below B w w') : WrdR w' B A xs := h.keep fun _ hp => hb.cell hp
theorem WrdR.upto (h : WrdR w w.heap.size A xs) (hb : Below w.heap.size w w') : WrdR w' w'.heap.size A xs := (h.below hb).more hb.size
theorem WrdR.drewN (h : WrdR w B A xs) (n : Nat) : WrdR (w.drewN n) B A xs := h
theorem WrdR.alloc (h : WrdR w B A xs) (hB : B ≤ w.heap.size) (o : Obj) : WrdR (w.alloc o) B A xs := h.keep fun p hp => World.cell?_alloc_lt w o p (by omega)
theorem WrdR.take (h : WrdR w B A xs) (n : Nat) : WrdR w B A (xs.take n) := fun hn => by
 have hl : 0 < xs.length := by rw [List.length_take] at hn; omega
 obtain ⟨b, off, e, hb, hc⟩ := h hl;refine ⟨b, off, e, hb, fun i hi => ?_⟩;rw [List.length_take] at hi;have : (xs.take n).getD i 0 = xs.getD i 0 := by rw [List.getD_eq_getElem?_getD, List.getD_eq_getElem?_getD, List.getElem?_take_of_lt (by omega)]
 rw [this];exact hc i (by omega)
theorem WrdR.trim (h : WrdR w B A xs) : WrdR w B A (trimL xs) := by rw [trimL_take]; exact h.take _
end
theorem und_w : Tryz.prog.underlying 81 = some (.slice (Tryz.prog.elem 81)) := by kernel_rfl
theorem elem_w : Tryz.prog.elem 81 = 192 := by kernel_rfl
theorem add0 (a : Addr) : a.add 0 = a := by
 obtain ⟨b, o, p⟩ := a;cases p <;> simp [Addr.add]
theorem map0 (A : Option Addr) : A.map (·.add 0) = A := by
 cases A with
 | none => rfl
 | some a => simp [add0]
theorem slice_hw (A : Option Addr) (len c hi : Nat) (h2 : hi ≤ c) (w : World) : (Instr.sliceAt 81 (.slice A len c) none (some (.int .i64 (hi : Int))) none).run Tryz.prog w = .ok (.slice A hi c) w := by
 rw [run_sliceAt_slice w _ _ _ _ _ und_w, run_slice_h w _ A len c und_w .i64 _ (by omega) (by omega), elem_w, Tryz.sizeOf192];simp [Result.andThen, sliced, map0]
theorem trim_step0 {l : List Int} {k : Nat} (hk : k < l.length) (h : l.getD k 0 = 0) : trimL (l.take (k + 1)) = trimL (l.take k) := by
 rw [List.take_succ_eq_append_getElem hk];rw [getD_eq l k 0 hk] at h;rw [h, trimL_snoc_zero]
theorem trim_step1 {l : List Int} {k : Nat} (hk : k < l.length) (h : l.getD k 0 ≠ 0) : (trimL (l.take (k + 1))).length = k + 1 := by
 rw [List.take_succ_eq_append_getElem hk];rw [getD_eq l k 0 hk] at h;rw [trimL_snoc _ h];simp;omega
set_option maxHeartbeats 2000000 in
theorem trim_any (A : Option Addr) (c : Nat) (l : List Int) (w : World) (h : WrdR w w.heap.size A l) (hl : l.length ≤ 1000000) (hc : l.length ≤ c) : Calls Tryz.prog 198 #[.slice A l.length c] w fun e w' => e = .returned (.slice A (trimL l).length c) ∧ Below w.heap.size w w' := by
 have H := Lib.hid h;clear h;go_enter Tryz.func198, Tryz.ntmps198;go_wp2_with fail;go_loopg [0] l.length (fun g s0 wr => ∃ k : Nat, k ≤ l.length ∧ k ≤ g ∧ s0 = .slice A k c ∧ (trimL l) = trimL (l.take k) ∧ Below w.heap.size w wr)
 case atStart => exact ⟨l.length, Nat.le_refl _, Nat.le_refl _, rfl, by rw [List.take_length], Below.refl _ _⟩
 case round =>
  obtain ⟨k, hkl, hkg, rfl, ht, hb⟩ := hrel;have HB := Lib.hid hb;have HT := Lib.hid ht;clear hb ht;cases k with
  | zero =>
   go_wp2_with fail;go_ret;refine ⟨?_, HB.out⟩;rw [HT.out];rfl
  | succ k =>
   obtain ⟨b, off, rfl, hbl, hcc⟩ := H.out (by omega);have f0 := (HB.out.cell (p := ⟨b, off + k, none⟩) hbl).trans (hcc k (by omega));clear hcc;have w0 : decide ((0 : Int) < ((k + 1 : Nat) : Int)) = true := decide_eq_true (by omega);have w1 : IntKind.i64.wrap (((k + 1 : Nat) : Int) - 1) = (k : Int) := by rw [IntWalk.i64_in _ (by omega)]; omega
   have w3 : ((k : Nat) : Int) < ((k + 1 : Nat) : Int) := by omega
   have w4 : (k : Int) ≤ (k : Int) := by omega
   have hs := slice_hw (some ⟨b, off, none⟩) (k + 1) c k (by omega);by_cases hz : l.getD k 0 = 0
   ·have HZ := Lib.hid (HT.out.trans (trim_step0 (by omega) hz));rw [hz] at f0;clear hz HT;go_wp2_with fail;go_roundg k
    case measure => omega
    case rel => exact ⟨k, by omega, Nat.le_refl _, rfl, HZ.out, HB.out⟩
   ·have HZ := Lib.hid ((congrArg List.length HT.out).trans (trim_step1 (by omega) hz));have hz' : (l.getD k 0 == 0) = false := beq_eq_false_iff_ne.2 hz;clear HT hz;generalize l.getD k 0 = x at *;go_wp2_with fail;go_ret;refine ⟨?_, HB.out⟩;rw [HZ.out];rfl
theorem bo1 (a b : Nat) (h : a < 4294967296) : a ||| b * 4294967296 = a + 4294967296 * b := by
 have h0 := Nat.two_pow_add_eq_or_of_lt (i := 32) (b := a) h b;rw [Nat.or_comm, Nat.mul_comm b];exact h0.symm.trans (Nat.add_comm _ _)
theorem bo2 (a b : Nat) (h : a < 4294967296) (hb : b < 4294967296) : bits .or .u64 (a : Int) ((b * 4294967296 : Nat) : Int) = IntKind.u64.wrap ((a ||| b * 4294967296 : Nat) : Int) := by
 have h4 : (2 : Nat) ^ 64 = 18446744073709551616 := by decide
 unfold bits;have e1 : (BitVec.ofInt IntKind.u64.bits (a : Int)).toNat = a := by
  rw [BitVec.ofInt_natCast, BitVec.toNat_ofNat];exact Nat.mod_eq_of_lt (by show a < 2 ^ 64; omega)
 have e2 : (BitVec.ofInt IntKind.u64.bits ((b * 4294967296 : Nat) : Int)).toNat = b * 4294967296 := by
  rw [BitVec.ofInt_natCast, BitVec.toNat_ofNat];exact Nat.mod_eq_of_lt (by show b * 4294967296 < 2 ^ 64; omega)
 simp only [];rw [BitVec.toNat_or, e1, e2]
theorem bits_or64 (x y : Int) (hx : 0 ≤ x ∧ x < 4294967296) (hy : 0 ≤ y ∧ y < 4294967296) : bits .or .u64 x (y * 4294967296) = x + 4294967296 * y := by
 obtain ⟨a, ha⟩ : ∃ a : Nat, x = a := ⟨x.toNat, by omega⟩;obtain ⟨b, hb⟩ : ∃ b : Nat, y = b := ⟨y.toNat, by omega⟩;have e : y * 4294967296 = ((b * 4294967296 : Nat) : Int) := by omega
 rw [e, ha, bo2 a b (by omega) (by omega), bo1 a b (by omega), IntWalk.u64_in _ (by omega)];omega
theorem low_any (A : Option Addr) (c : Nat) (l : List Int) (w : World) (h : WrdR w w.heap.size A l) (hl : l.length ≤ 2) (hw : Words l) : Calls Tryz.prog 225 #[.slice A l.length c] w fun e w' => e = .returned (.int .u64 (wv l)) ∧ Below w.heap.size w w' := by
 have HB := Lib.hid (Below.refl w.heap.size w)
 match l, h, hl, hw with
 | [], h, hl, hw =>
  clear h hw;go_enter Tryz.func225, Tryz.ntmps225;go_wp2_with fail;go_ret;exact ⟨rfl, HB.out⟩
 | [x], h, hl, hw =>
  obtain ⟨b, off, rfl, hbl, hcc⟩ := h (by simp);have f0 : w.cell? ⟨b, off, none⟩ = some (.int .u32 x) := hcc 0 (by simp);have hx := hw x (by simp);have w1 : IntKind.u64.wrap x = x := IntWalk.u64_in _ (by omega);clear h hcc hw;go_enter Tryz.func225, Tryz.ntmps225;go_wp2_with fail;go_ret;exact ⟨ret_int (by simp [wv]), HB.out⟩
 | [x, y], h, hl, hw =>
  obtain ⟨b, off, rfl, hbl, hcc⟩ := h (by simp);have f0 : w.cell? ⟨b, off, none⟩ = some (.int .u32 x) := hcc 0 (by simp);have f1 : w.cell? ⟨b, off + 1, none⟩ = some (.int .u32 y) := hcc 1 (by simp);have hx := hw x (by simp);have hy := hw y (by simp);have w1 : IntKind.u64.wrap x = x := IntWalk.u64_in _ (by omega);have w2 : IntKind.u64.wrap y = y := IntWalk.u64_in _ (by omega);clear h hcc hw;go_enter Tryz.func225, Tryz.ntmps225;go_wp2_with fail;go_quiet (fail);go_wp2_with fail;go_ret;exact ⟨ret_int (by rw [bits_or64 x y hx hy]; simp [wv]), below_drewN HB.out _⟩
 | _ :: _ :: _ :: _, _, hl, _ => simp at hl
end Go.Proofs.YtkfhpefmmhljmaaGreatDoor
/- CtF -/
namespace Go.Proofs.YtkfhpefmmhljmaaGreatDoor
open Go.RowKit
set_option maxRecDepth 100000
def carV (b : Nat) : Value := .func (.func 232) #[] #[.pointer (some ⟨b, 0, none⟩)]
set_option maxHeartbeats 1000000 in
theorem carrier_any (c : Int) (w : World) : Calls Tryz.prog 222 #[.int .u64 c] w fun e w' => e = .returned (carV w.heap.size) ∧ w' = w.alloc (.cells #[.int .u64 c] 195) := by
 go_enter Tryz.func222, Tryz.ntmps222;go_wp2_with fail;go_ret;exact ⟨rfl, rfl⟩
set_option maxHeartbeats 1000000 in
theorem car_any (b : Nat) (x c : Int) (w : World) (hx : 0 ≤ x ∧ 0 ≤ c ∧ x + c < 18446744073709551616) (hc : w.cell? ⟨b, 0, none⟩ = some (.int .u64 c)) (hf : w.frozen? ⟨b, 0, none⟩ = false) :
  Calls Tryz.prog 232 #[.int .u64 x, .pointer (some ⟨b, 0, none⟩)] w fun e w' => e = .returned (.int .u32 ((x + c) % 4294967296)) ∧ w' = w.setCell ⟨b, 0, none⟩ (.int .u64 ((x + c) / 4294967296)) := by
 have w1 : IntKind.u64.wrap (x + c) = x + c := IntWalk.u64_in _ (by omega);have w2 : IntKind.u32.wrap (x + c) = (x + c) % 4294967296 := by rfl
 go_enter Tryz.func232, Tryz.ntmps232;go_wp2_with fail;go_ret;exact ⟨rfl, rfl⟩
def wV (x : Int) : Value := .int .u32 x
theorem scL_length (f : Int) : ∀ (l : List Int) (c : Int), (scL f c l).length = l.length + 1 := by
 intro l
 induction l with
 | nil => intro c; rfl
 | cons x l ih => intro c; rw [scL, List.length_cons, ih, List.length_cons]
theorem sc_carry {f x c : Int} (hf : 0 ≤ f ∧ f < 4294967296) (hx : 0 ≤ x ∧ x < 4294967296) (hc : 0 ≤ c ∧ c < 4294967296) : 0 ≤ x * f ∧ x * f + c < 18446744073709551616 ∧ 0 ≤ (x * f + c) / 4294967296 ∧ (x * f + c) / 4294967296 < 4294967296 := by
 have h1 : 0 ≤ x * f := Int.mul_nonneg hx.1 hf.1;have h2 : x * f ≤ 4294967295 * 4294967295 := Int.mul_le_mul (by omega) (by omega) hf.1 (by omega);omega
theorem info_w : (Tryz.prog.info? 192).map (fun i => (i.zero, i.size, i.bytes)) = some (some (.int .u32 0), 1, 4) := by kernel_rfl
set_option maxHeartbeats 4000000 in
theorem scale_any (base : Nat) (v : Value) (l : List Int) (f c : Int) (w : World) (hv : w.ownsRow base 192 1 v l.length (l.map wV)) (hb : base ≤ w.heap.size) (hw : Words l) (hf : 0 ≤ f ∧ f < 4294967296) (hc : 0 ≤ c ∧ c < 4294967296) (hl : l.length ≤ 1000000) :
  Calls Tryz.prog 196 #[v, .int .u64 f, .int .u64 c] w fun e w' => ∃ v', e = .returned v' ∧ w'.ownsRow base 192 1 v' (l.length + 1) ((scL f c l).map wV) ∧ Below base w w' := by
 obtain ⟨i0, hi, hz0, hz1, hz2⟩ := info_parts info_w;have HV := Lib.hid hv;have HW := Lib.hid hw;have K := Lib.hid car_any;obtain ⟨A, cp, rfl, hcap⟩ := ownsRow_slice hv;clear hv hw;go_enter Tryz.func196, Tryz.ntmps196;go_wp2_with fail;refine (carrier_any c _).mono ?_;rintro e w1 ⟨rfl, rfl⟩;unfold carV;go_wp2_with fail;go_loopg [8, 9, 14] l.length (fun g s8 s9 s14 wr => ∃ (k : Nat) (pre : List Int) (ck : Int), k + g = l.length ∧ s14 = .int .i64 (k : Int) ∧ pre.length = k ∧ scL f c l = pre ++ scL f ck (l.drop k) ∧ 0 ≤ ck ∧ ck < 4294967296 ∧
  wr.ownsRow base 192 1 (.slice A l.length cp) l.length ((pre ++ l.drop k).map wV) ∧ wr.cell? ⟨w.heap.size, 0, none⟩ = some (.int .u64 ck) ∧ wr.frozen? ⟨w.heap.size, 0, none⟩ = false ∧ Below base w wr)
 case atStart => exact ⟨0, [], c, by omega, rfl, rfl, rfl, hc.1, hc.2, HV.out.alloc _, by simp, by simp, (Below.refl _ _).alloc hb _⟩
 case round =>
  obtain ⟨k, pre, ck, hkg, rfl, hpl, hsc, hc0, hc1, hrow, hbx, hfx, hbl⟩ := hrel;have HS := Lib.hid hsc;have HB := Lib.hid hbl;have HR := Lib.hid hrow;clear hsc hbl hrow;cases gk with
  | zero =>
   obtain rfl : k = l.length := by omega
   clear hkg;have e0 : pre ++ l.drop l.length = pre := by rw [List.drop_length, List.append_nil]
   have HS2 : Hid (scL f c l = pre ++ [ck % 4294967296]) := by show _ = _; rw [HS.out, List.drop_length]; rfl
   have HR2 := HR.out;rw [e0] at HR2;have HRR := Lib.hid HR2;clear HR HS HR2 e0;go_wp2_with fail;refine (K.out w.heap.size 0 ck wr ⟨by omega, hc0, by omega⟩ hbx hfx).mono ?_;rintro e w2 ⟨rfl, hw2⟩;have hrow2 : w2.ownsRow base 192 1 (.slice A l.length cp) l.length (pre.map wV) := by rw [hw2]; exact ownsRow_setOther HRR.out (ownsRow_blocks HV.out (.inr (Nat.le_refl _))) _
   have hb2 : Below base w w2 := by rw [hw2]; exact HB.out.setCell (p := ⟨w.heap.size, 0, none⟩) hb _
   have hz : base ≤ w2.heap.size := Nat.le_trans hb hb2.size;clear hw2 HRR hbx hfx;rw [show (0 + ck) = ck from Int.zero_add _];go_wp2_with (at_builtin; refine wpList_append_own _ rfl _ _ 81 rfl base 192 i0 (.int .u32 0) 1 4 Tryz.underlying81 hi hz0 hz1 hz2 rfl (by decide) _ _ _ rfl (hrow2.alloc _) ⟨w2.heap.size, 0, none⟩ 1 1 [.int .u32 (ck % 4294967296)] rfl rfl (cell_one_new _ _ _) (by simp [Value.oneCell']) (by unfold maxLen; omega) (by omega) (by simp; omega) ?_; intro v' w3 hown' hgrow _);have hb3 := below_appended hrow2 hz hgrow;have HO := Lib.hid hown';clear hgrow hrow2 hown';go_wp2_with fail;go_ret;exact ⟨_, rfl, by rw [HS2.out]; simpa [wV] using HO.out, hb2.trans hb3⟩
  | succ g =>
   have hk : k < l.length := by omega
   have HG := Lib.hid hkg;clear hkg;obtain ⟨gb, rfl⟩ : ∃ gb, A = some ⟨gb, 0, none⟩ := by
    rcases HV.out.2 with ⟨h, h0⟩ | ⟨gb, _, _, h, _⟩
    ·omega
    ·injection h with h; exact ⟨gb, h⟩
   have hne : gb ≠ w.heap.size := fun e => ownsRow_blocks HV.out (b := w.heap.size) (.inr (Nat.le_refl _)) (by rw [Value.ownBlock, e])
   have hd : l.drop k = l.getD k 0 :: l.drop (k + 1) := by rw [List.drop_eq_getElem_cons hk, getD_eq l k 0 hk]
   have hx := HW.out (l.getD k 0) (by rw [getD_eq l k 0 hk]; exact List.getElem_mem hk);have f0 : wr.cell? ⟨gb, k, none⟩ = some (.int .u32 (l.getD k 0)) := by
    rw [HR.out.cellAt k (by omega), hd];simp [wV, hpl]
   have f1 : wr.frozen? ⟨gb, k, none⟩ = false := HR.out.frozenAt k;have HC := Lib.hid (sc_carry hf hx ⟨hc0, hc1⟩);have hd2 : pre ++ l.drop k = pre ++ (l.getD k 0 :: l.drop (k + 1)) := by rw [hd]
   have HS2 : Hid (scL f c l = (pre ++ [(l.getD k 0 * f + ck) % 4294967296]) ++ scL f ((l.getD k 0 * f + ck) / 4294967296) (l.drop (k + 1))) := by
    show _ = _
    rw [HS.out, hd, scL, List.append_assoc];rfl
   have HR2 := HR.out;rw [hd2] at HR2;have HRR := Lib.hid HR2;clear HR2 HR HS hd hd2;have p1 : IntKind.u64.wrap (l.getD k 0) = l.getD k 0 := IntWalk.u64_in _ (by omega);have p2 : IntKind.u64.wrap (l.getD k 0 * f) = l.getD k 0 * f := IntWalk.u64_in _ (by have := HC.out; omega);have HX := Lib.hid hx;clear hx;generalize l.getD k 0 = x at *;go_wp2_with fail;refine (K.out w.heap.size (x * f) ck wr ⟨HC.out.1, hc0, HC.out.2.1⟩ hbx hfx).mono ?_;rintro e w2 ⟨rfl, hw2⟩;have q0 : w2.cell? ⟨gb, k, none⟩ = some (.int .u32 x) := by rw [hw2, World.cell?_setCell_other _ _ _ _ (by simp; try omega)]; exact f0
   have q1 : w2.frozen? ⟨gb, k, none⟩ = false := by rw [hw2, World.frozen?_setCell]; exact f1
   have q2 : w2.cell? ⟨w.heap.size, 0, none⟩ = some (.int .u64 ((x * f + ck) / 4294967296)) := by rw [hw2]; exact World.cell?_setCell_same _ _ _ hbx
   have q3 : w2.frozen? ⟨w.heap.size, 0, none⟩ = false := by rw [hw2, World.frozen?_setCell]; exact hfx
   have HR3 : Hid (w2.ownsRow base 192 1 (.slice (some ⟨gb, 0, none⟩) l.length cp) l.length ((pre ++ x :: l.drop (k + 1)).map wV)) := by
    show World.ownsRow _ _ _ _ _ _ _
    rw [hw2]; exact ownsRow_setOther HRR.out (ownsRow_blocks HV.out (.inr (Nat.le_refl _))) _
   have HB2 : Hid (Below base w w2) := by show Below _ _ _; rw [hw2]; exact HB.out.setCell (p := ⟨w.heap.size, 0, none⟩) hb _
   clear hw2 HRR HB hbx hfx f0 f1;go_wp2_with fail;go_roundg g
   case measure => omega
   case rel =>
    refine ⟨k + 1, pre ++ [(x * f + ck) % 4294967296], (x * f + ck) / 4294967296, by have := HG.out; omega, by go_num, by simp [hpl], HS2.out, HC.out.2.2.1, HC.out.2.2.2, ?_, ?_, ?_, ?_⟩
    ·have h := (HR3.out.stored k (.int .u32 ((x * f + ck) % 4294967296))).1;have e : ((pre ++ x :: l.drop (k + 1)).map wV).set k (.int .u32 ((x * f + ck) % 4294967296)) = ((pre ++ [(x * f + ck) % 4294967296]) ++ l.drop (k + 1)).map wV := by
      rw [List.map_append, List.map_cons, List.set_append_right _ _ (by simp [hpl])];simp [wV, hpl]
     rw [e] at h;exact h
    ·rw [World.cell?_setCell_other _ _ _ _ (by simp; try omega)];exact q2
    ·rw [World.frozen?_setCell];exact q3
    ·exact HB2.out.setCell (p := ⟨gb, k, none⟩) (HV.out.lt gb rfl).1 _
end Go.Proofs.YtkfhpefmmhljmaaGreatDoor
