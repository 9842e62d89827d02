/- Texts in one: KnC, KnD. -/
import Derived.Test.YtkfhpefmmhljmaaGreatDoorR13
import Derived.Test.YtkfhpefmmhljmaaGreatDoorR19
set_option linter.unusedVariables false
set_option linter.unusedSimpArgs false
set_option maxHeartbeats 16000000
set_option maxRecDepth 100000
namespace Go.Proofs.YtkfhpefmmhljmaaGreatDoor
open Go.RowKit
theorem fN (x y : Int) (hx : 0 ≤ x ∧ x < 4294967296) (hy : 0 ≤ y ∧ y < 4294967296) : bits .or .u64 (y * 4294967296) x = x + 4294967296 * y := by
 rw [← fO x y hx hy];unfold bits;simp only [];rw [BitVec.or_comm]
theorem xH (ys : List Int) (k : Nat) (z : Int) : (ys.map wV).set k (.int .u32 z) = (ys.set k z).map wV := by
 rw [List.map_set]; rfl
theorem Words.set {ys : List Int} (h : Words ys) (k : Nat) {z : Int} (hz : 0 ≤ z ∧ z < 4294967296) : Words (ys.set k z) := fun x hx => by
 rcases List.mem_or_eq_of_mem_set hx with h1 | rfl
 ·exact h x h1
 ·exact hz
theorem cellW {w : World} {base g n c : Nat} {ys : List Int} (h : w.ownsRow base 192 1 (.slice (some ⟨g, 0, none⟩) n c) n (ys.map wV)) {k : Nat} (hk : k < n) : w.cell? ⟨g, k, none⟩ = some (.int .u32 (ys.getD k 0)) ∧ w.frozen? ⟨g, k, none⟩ = false := by
 have hl : ys.length = n := by have := h.1; simpa using this
 refine ⟨?_, h.frozenAt k⟩;rw [h.cellAt k (by omega), List.getElem?_map, κd, κg (by omega)];rfl
theorem mB (base g c : Nat) (l : List Int) (d : Int) (w : World) (h : w.ownsRow base 192 1 (.slice (some ⟨g, 0, none⟩) l.length c) l.length (l.map wV)) (hb : base ≤ g) (hw : Words l) (hd : 0 < d ∧ d < 4294967296) (hl : l.length ≤ 1000000) :
  Calls Tryz.prog 213 #[.slice (some ⟨g, 0, none⟩) l.length c, .int .u64 d] w fun e w' => ∃ r l', e = .returned (.int .u64 r) ∧ 0 ≤ r ∧ r < d ∧ l'.length = l.length ∧ Words l' ∧ w'.ownsRow base 192 1 (.slice (some ⟨g, 0, none⟩) l.length c) l.length (l'.map wV) ∧ Below base w w' := by
 have H := η h;have HW := η hw;have HD := η hd;have d0 : (d == 0) = false := βf (by omega);have d1 : d ≠ 0 := by omega
 have w0 : IntKind.i64.wrap ((l.length : Int) - 1) = (l.length : Int) - 1 := IntWalk.i64_in _ (by omega);clear h hw hd;go_enter Tryz.func213, Tryz.ntmps213;go_wp2_with fail;go_loopg [5, 6, 7] l.length (fun gl s5 s6 s7 wr => ∃ (k : Nat) (r : Int) (ys : List Int), k ≤ l.length ∧ k ≤ gl ∧ s5 = .int .u64 r ∧ s6 = .int .i64 ((k : Int) - 1) ∧ 0 ≤ r ∧ r < d ∧ ys.length = l.length ∧ Words ys ∧
  wr.ownsRow base 192 1 (.slice (some ⟨g, 0, none⟩) l.length c) l.length (ys.map wV) ∧ Below base w wr)
 case atStart => exact ⟨l.length, 0, l, νr _, νr _, rfl, rfl, Int.le_refl _, HD.out.1, rfl, HW.out, H.out, Below.refl _ _⟩
 case round =>
  obtain ⟨k, r, ys, hkl, hkg, rfl, rfl, hr0, hr1, hyl, hyw, hrow, hbl⟩ := hrel;have HY := η hyw;have HR := η hrow;have HB := η hbl;have HYL := η hyl;clear hyw hrow hbl hyl w0;cases k with
  | zero =>
   go_wp2_with fail;go_ret;exact ⟨r, ys, rfl, hr0, hr1, HYL.out, HY.out, HR.out, HB.out⟩
  | succ k =>
   obtain ⟨g2, rfl⟩ : ∃ g2, gk = g2 + 1 := ⟨gk - 1, by omega⟩;have w1 : ((k + 1 : Nat) : Int) - 1 = (k : Int) := by omega
   have w2 : decide ((0 : Int) ≤ (k : Int)) = true := κt (by omega);have w3 : (k : Int) < (l.length : Int) := by omega
   have w5 : IntKind.i64.wrap ((k : Int) - 1) = (k : Int) - 1 := IntWalk.i64_in _ (by omega);rw [w1];obtain ⟨f0, f1⟩ := cellW HR.out (k := k) (by omega);have hy := HY.out.getD k;have HYB := η hy;have HR0 := η hr0;have HR1 := η hr1;clear w1 hr0 hr1;generalize ys.getD k 0 = y at *;obtain ⟨X, hX⟩ : ∃ X, X = y + 4294967296 * r := ⟨_, rfl⟩;have hD := HD.out;have hr0 := HR0.out;have hr1 := HR1.out;have hrb : 0 ≤ r ∧ r < 4294967296 := by omega
   have hXb : 0 ≤ X ∧ X < d * 4294967296 := by
    have : r * 4294967296 + 4294967296 ≤ d * 4294967296 := by omega
    omega
   have hq : 0 ≤ X / d ∧ X / d < 4294967296 := ⟨Int.ediv_nonneg hXb.1 (by omega), Int.ediv_lt_of_lt_mul hD.1 (by rw [Int.mul_comm]; exact hXb.2)⟩;have hm : 0 ≤ X % d ∧ X % d < d := ⟨Int.emod_nonneg _ (by omega), Int.emod_lt_of_pos _ hD.1⟩;have p1 : IntKind.u64.wrap y = y := κu _ (by omega);have p2 : IntKind.u64.wrap (r * 4294967296) = r * 4294967296 := κu _ (by omega);have p3 : bits .or .u64 (r * 4294967296) y = X := by rw [hX]; exact fN y r hy hrb
   have p4 : X.tdiv d = X / d := Int.tdiv_eq_ediv_of_nonneg hXb.1;have p5 : X.tmod d = X % d := Int.tmod_eq_emod_of_nonneg hXb.1;have p6 : IntKind.u64.wrap (X / d) = X / d := κu _ (by omega);have p7 : IntKind.u32.wrap (X / d) = X / d := IntWalk.u32_in _ (by omega);have p8 : IntKind.u64.wrap (X % d) = X % d := κu _ (by omega);have HQ := η hq;have HM := η hm;clear hX hXb hq hm hy hr0 hr1 hD hrb;go_wp2_with fail;go_roundg g2
   case measure => omega
   case rel =>
    have hst := (HR.out.stored k (.int .u32 (X / d))).1;rw [xH] at hst;exact ⟨k, X % d, ys.set k (X / d), by omega, by omega, rfl, rfl, HM.out.1, HM.out.2, by rw [List.length_set]; exact HYL.out, HY.out.set k HQ.out, hst, HB.out.setCell (p := ⟨g, k, none⟩) hb _⟩
theorem nH (f : Int) (hf0 : 0 ≤ f) (hf : f < 4294967296) : ∀ (l : List Int) (c : Int), Words l → 0 ≤ c → c < 4294967296 → Words (scL f c l) ∧ wv (scL f c l) = wv l * f + c
 | [], c, _, h0, h1 => by
  refine ⟨fun x hx => ?_, ?_⟩
  ·simp [scL] at hx; subst hx; omega
  ·simp only [scL, wv]; omega
 | x :: l, c, hw, h0, h1 => by
  obtain ⟨a, b, e, g⟩ := dS ⟨hf0, hf⟩ (hw x (by simp)) ⟨h0, h1⟩;obtain ⟨i1, i2⟩ := nH f hf0 hf l ((x * f + c) / 4294967296) hw.tail e g;refine ⟨fun y hy => ?_, ?_⟩
  ·rw [scL, List.mem_cons] at hy;rcases hy with rfl | hy
   ·omega
   ·exact i1 y hy
  ·rw [scL, wv, i2, wv];have : x * f + c = (x * f + c) % 4294967296 + 4294967296 * ((x * f + c) / 4294967296) := by omega
   grind
theorem dZ {s : Nat} (hs : s ≤ 31) : (1 : Int) ≤ 2 ^ s ∧ (2 : Int) ^ s ≤ 2147483648 ∧ ∃ k : Int, 2 ^ s * k = 4294967296 := by
 have e : (2 : Int) ^ s * 2 ^ (32 - s) = 4294967296 := by rw [← Int.pow_add, show s + (32 - s) = 32 by omega]; decide
 have h1 : (0 : Int) < 2 ^ s := Int.pow_pos (by decide);have e2 : (2 : Int) ^ s * 2 ^ (31 - s) = 2147483648 := by rw [← Int.pow_add, show s + (31 - s) = 31 by omega]; decide
 have h2 : (0 : Int) < 2 ^ (31 - s) := Int.pow_pos (by decide);refine ⟨by omega, ?_, _, e⟩;have : (2 : Int) ^ s * 1 ≤ 2 ^ s * 2 ^ (31 - s) := Int.mul_le_mul_of_nonneg_left (by omega) (by omega);omega
theorem fZ (A : Option Addr) (c s : Nat) (l : List Int) (w : World) (h : WrdR w w A l) (hw : Words l) (hs : s ≤ 31) (hl : l.length ≤ 1000000) :
  Calls Tryz.prog 237 #[.slice A l.length c, .int .u64 (s : Int)] w fun e w' => ∃ v, e = .returned v ∧ w'.ownsRow w 192 1 v (l.length + 1) ((scL (2 ^ s) 0 l).map wV) ∧ Below w w w' := by
 obtain ⟨i0, hi, hz0, hz1, hz2⟩ := info_parts bM;have HH := η h;have HW := η hw;have K := η pS;have HF := η (dZ hs);clear h hw;have hmk : ∀ W : World, (Instr.makeSlice 81 (.int .i64 0) (.int .i64 ((l.length : Int) + 1))).run Tryz.prog W = .ok (.slice (some ⟨W, 0, none⟩) 0 (l.length + 1)) (W.alloc (.cells (madeCells #[.int .u32 0] (l.length + 1)) 192)) := fun W => by
  have hr := run_make (P := Tryz.prog) W 81 192 i0 (.int .u32 0) Tryz.underlying81 hi hz0 .i64 .i64 0 ((l.length : Int) + 1) (Int.le_refl _) (by omega) (by rw [hz2]; omega) (by omega);rw [show ((l.length : Int) + 1).toNat = l.length + 1 by omega, hz1, Nat.mul_one] at hr;exact hr
 have w0 : IntKind.i64.wrap ((l.length : Int) + 1) = (l.length : Int) + 1 := IntWalk.i64_in _ (by omega);go_enter Tryz.func237, Tryz.ntmps237;go_wp2_with fail;refine (vQ 0 _).mono ?_;rintro e w1 ⟨rfl, rfl⟩;unfold carV;go_wp2_with fail;have hrow0 : ((w.alloc (.cells #[.int .u64 0] 195)).alloc (.cells (madeCells #[.int .u32 0] (l.length + 1)) 192)).ownsRow (w + 1) 192 1 (.slice (some ⟨w + 1, 0, none⟩) 0 (l.length + 1)) 0 [] := by
  have := World.ownsRow_made (w.alloc (.cells #[.int .u64 0] 195)) (e := 192) (size := 1) (base := w + 1) (madeCells #[.int .u32 0] (l.length + 1)) (l.length + 1) (by simp) (by unfold maxLen; omega) (by rw [size_madeCells, Nat.mul_one]);simpa using this
 go_loopg [6, 8, 16] l.length (fun g s6 s8 s16 wr => ∃ (k : Nat) (pre : List Int) (ck : Int) (v : Value), k + g = l.length ∧ s6 = v ∧ s16 = .int .i64 (k : Int) ∧ pre.length = k ∧ scL (2 ^ s) 0 l = pre ++ scL (2 ^ s) ck (l.drop k) ∧ 0 ≤ ck ∧ ck < 4294967296 ∧
  wr.ownsRow (w + 1) 192 1 v k (pre.map wV) ∧ wr.cell? ⟨w, 0, none⟩ = some (.int .u64 ck) ∧ wr.frozen? ⟨w, 0, none⟩ = false ∧ w + 1 ≤ wr.heap.size ∧ Below w w wr)
 case atStart => exact ⟨0, [], 0, _, by omega, rfl, rfl, rfl, rfl, Int.le_refl _, by decide, hrow0, by simp, by simp, by simp, (βA _).alloc (by simp) _⟩
 case round =>
  obtain ⟨k, pre, ck, v, hkg, rfl, rfl, hpl, hsc, hc0, hc1, hrow, hbx, hfx, hlt, hbl⟩ := hrel;obtain ⟨AA, cp, rfl, hcap⟩ := zQ hrow;have HS := η hsc;have HB := η hbl;have HR := η hrow;have HL := η hlt;clear hsc hbl hrow hrow0 hmk w0 hlt;cases gk with
  | zero =>
   obtain rfl : k = l.length := by omega
   clear hkg;have HS2 : Hid (scL (2 ^ s) 0 l = pre ++ [ck % 4294967296]) := by show _ = _; rw [HS.out, List.drop_length]; rfl
   clear HS;go_wp2_with fail;refine (K.out w 0 ck wr ⟨by omega, hc0, by omega⟩ hbx hfx).mono ?_;rintro e w2 ⟨rfl, hw2⟩;have hrow2 : w2.ownsRow (w + 1) 192 1 (.slice AA l.length cp) l.length (pre.map wV) := by rw [hw2]; exact zL HR.out (qZ HR.out (.inl (Nat.lt_succ_self _))) _
   have hb2 : Below w w w2 := by rw [hw2]; exact HB.out.setCell (p := ⟨w, 0, none⟩) (νr _) _
   have hz : w + 1 ≤ w2.heap.size := by rw [hw2, zN]; exact HL.out
   clear hw2 HR hbx hfx;rw [show (0 + ck) = ck from Int.zero_add _];go_wp2_with (at_builtin; refine wpList_append_own _ rfl _ _ 81 rfl (w + 1) 192 i0 (.int .u32 0) 1 4 Tryz.underlying81 hi hz0 hz1 hz2 rfl (by decide) _ _ _ rfl (hrow2.alloc _) ⟨w2, 0, none⟩ 1 1 [.int .u32 (ck % 4294967296)] rfl rfl (cell_one_new _ _ _) (by simp [Value.oneCell']) (by unfold maxLen; omega) (by omega) (by simp; omega) ?_; intro v' w3 hown' hgrow _);have hb3 := zF hrow2 hz hgrow;have HO := η hown';clear hgrow hrow2 hown';go_wp2_with fail;go_ret;refine ⟨_, rfl, ?_, hb2.trans (hb3.mono (Nat.le_succ _))⟩;rw [HS2.out];exact vX (by simpa [wV] using HO.out) (Nat.le_succ _)
  | succ g =>
   have hk : k < l.length := by omega
   have HG := η hkg;obtain ⟨b, off, rfl, hbl', hcc⟩ := HH.out (by omega);have f0 := (HB.out.cell (p := ⟨b, off + k, none⟩) hbl').trans (hcc k hk);clear hcc hkg;have hd : l.drop k = l.getD k 0 :: l.drop (k + 1) := by rw [List.drop_eq_getElem_cons hk, zK l k 0 hk]
   have hx := HW.out (l.getD k 0) (by rw [zK l k 0 hk]; exact List.getElem_mem hk);have hf := HF.out;have HC := η (dS (f := 2 ^ s) ⟨by omega, by omega⟩ hx ⟨hc0, hc1⟩);have HS2 : Hid (scL (2 ^ s) 0 l = (pre ++ [(l.getD k 0 * 2 ^ s + ck) % 4294967296]) ++ scL (2 ^ s) ((l.getD k 0 * 2 ^ s + ck) / 4294967296) (l.drop (k + 1))) := by
    show _ = _
    rw [HS.out, hd, scL, κq];rfl
   clear HS hd hf;have p1 : IntKind.u64.wrap (l.getD k 0) = l.getD k 0 := κu _ (by omega);have p2 : IntKind.u64.wrap (l.getD k 0 * 2 ^ s) = l.getD k 0 * 2 ^ s := κu _ (by have := HC.out; omega);have p3 : IntKind.u64.wrap (l.getD k 0 * 2 ^ min s 64) = l.getD k 0 * 2 ^ s := by rw [Nat.min_eq_left (by omega)]; exact p2
   clear hx;have w3 : (k : Int) < (l.length : Int) := by omega
   generalize l.getD k 0 = x at *;go_wp2_with fail;refine (K.out w (x * 2 ^ s) ck wr ⟨HC.out.1, hc0, HC.out.2.1⟩ hbx hfx).mono ?_;rintro e w2 ⟨rfl, hw2⟩;have q2 : w2.cell? ⟨w, 0, none⟩ = some (.int .u64 ((x * 2 ^ s + ck) / 4294967296)) := by rw [hw2]; exact World.cell?_setCell_same _ _ _ hbx
   have q3 : w2.frozen? ⟨w, 0, none⟩ = false := by rw [hw2, World.frozen?_setCell]; exact hfx
   have hrow2 : w2.ownsRow (w + 1) 192 1 (.slice AA k cp) k (pre.map wV) := by rw [hw2]; exact zL HR.out (qZ HR.out (.inl (Nat.lt_succ_self _))) _
   have hb2 : Below w w w2 := by rw [hw2]; exact HB.out.setCell (p := ⟨w, 0, none⟩) (νr _) _
   have hz : w + 1 ≤ w2.heap.size := by rw [hw2, zN]; exact HL.out
   clear hw2 HR hbx hfx HB HL;go_wp2_with (at_builtin; refine wpList_append_own _ rfl _ _ 81 rfl (w + 1) 192 i0 (.int .u32 0) 1 4 Tryz.underlying81 hi hz0 hz1 hz2 rfl (by decide) _ _ _ rfl (hrow2.alloc _) ⟨w2, 0, none⟩ 1 1 [.int .u32 ((x * 2 ^ s + ck) % 4294967296)] rfl rfl (cell_one_new _ _ _) (by simp [Value.oneCell']) (by unfold maxLen; omega) (by omega) (by simp; omega) ?_; intro v' w3 hown' hgrow _);have hb3 := zF hrow2 hz hgrow;have HO := η hown';have HB3 := η (hb2.trans (hb3.mono (Nat.le_succ _)));have q4 := (hb3.cell (p := ⟨w, 0, none⟩) (Nat.lt_succ_self _)).trans q2;have q5 := (hb3.frozen (p := ⟨w, 0, none⟩) (Nat.lt_succ_self _)).trans q3;have HZ := η (Nat.le_trans hz hb3.size);clear hgrow hrow2 hown' hb3 hb2 q2 q3 hz;go_wp2_with fail;go_roundg g
   case measure => omega
   case rel => exact ⟨k + 1, pre ++ [(x * 2 ^ s + ck) % 4294967296], (x * 2 ^ s + ck) / 4294967296, _, by have := HG.out; omega, rfl, by go_num, by simp [hpl], HS2.out, HC.out.2.2.1, HC.out.2.2.2, by simpa [wV] using HO.out, q4, q5, HZ.out, HB3.out⟩
end Go.Proofs.YtkfhpefmmhljmaaGreatDoor
