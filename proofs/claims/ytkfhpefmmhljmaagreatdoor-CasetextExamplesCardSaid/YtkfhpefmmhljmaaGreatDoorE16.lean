/- Texts in one: CtH, FmA. -/
import Derived.Test.YtkfhpefmmhljmaaGreatDoorE15
set_option linter.unusedVariables false
set_option linter.unusedSimpArgs false
set_option maxHeartbeats 16000000
set_option maxRecDepth 100000
namespace Go.Proofs.YtkfhpefmmhljmaaGreatDoor
open Go.RowKit
theorem sE {l : List Int} (hw : Words l) (ht : trimL l = l) (hn : 2 < l.length) : 18446744073709551616 ≤ wv l := by
 revert ht hn hw
 refine xJ (P := fun l => Words l → trimL l = l → 2 < l.length → 18446744073709551616 ≤ wv l) (fun _ _ h => by simp at h) (fun l x _ hw ht hn => ?_) l;have hx : x ≠ 0 := by
  intro h;subst h;rw [qD] at ht;have h1 := jV l;rw [ht] at h1;simp at h1;omega
 have h0 := hw x (by simp);have h2 : 0 ≤ wv l := yB (fun y hy => hw y (by simp [hy]));rw [yC, mU];obtain ⟨k, hk⟩ : ∃ k, l.length = k + 2 := ⟨l.length - 2, by simp at hn; omega⟩;rw [hk, Int.pow_succ, Int.pow_succ];have h3 : 0 < (4294967296 : Int) ^ k := Int.pow_pos (by decide);have h4 : 1 * 18446744073709551616 ≤ ((4294967296 : Int) ^ k * x) * 18446744073709551616 := Int.mul_le_mul_of_nonneg_right (by
  have := Int.mul_pos h3 (show 0 < x by omega);omega) (by decide)
 have h5 : (4294967296 : Int) ^ k * 4294967296 * 4294967296 * x = ((4294967296 : Int) ^ k * x) * 18446744073709551616 := by
  rw [Int.mul_assoc, Int.mul_assoc, Int.mul_assoc]
  congr 1
  omega
 rw [h5];omega
theorem aY {l : List Int} (hw : Words l) (hn : l.length ≤ 2) : wv l < 18446744073709551616 := by
 match l, hn with
 | [], _ => decide
 | [x], _ => rw [mU]; have := hw x (by simp); omega
 | [x, y], _ => rw [sC]; have h1 := hw x (by simp); have h2 := hw y (by simp); omega
def i64V (n : Int) : Value := .tuple #[.int .i64 (if i64In n then n else 0), .bool (i64In n)]
theorem gJ {n : Int} (h : -9223372036854775808 ≤ n ∧ n ≤ 9223372036854775807) : i64V n = .tuple #[.int .i64 n, .bool true] := by
 have : i64In n = true := by simp [i64In]; exact h
 unfold i64V;rw [this]; rfl
theorem kZ {n : Int} (h : ¬ (-9223372036854775808 ≤ n ∧ n ≤ 9223372036854775807)) : i64V n = .tuple #[.int .i64 0, .bool false] := by
 have : i64In n = false := by simp [i64In]; omega
 unfold i64V;rw [this]; rfl
theorem gX {a b : Value} (h : a = b) : Ending.returned a = .returned b := by rw [h]
theorem yS (v : Value) (n : Int) (w : World) (h : NumR w w v n) : Calls Tryz.prog 202 #[v] w fun e w' => e = .returned (i64V n) ∧ Below w w w' := by
 obtain ⟨neg, A, ws, c, rfl, hc, hl, hr, hw, ht, h0, hn⟩ := h;have hb0 : Below w w (w.alloc (.cells #[.bool neg, .slice A ws.length c] 83)) := βA _;have K := vA A c ws _ (hr.upto hb0) hl hc;rw [ht] at K;have HK := η K;have HR := η hr;clear K hr;by_cases h2 : ws.length ≤ 2
 ·have hlo := aY hw h2;have hnn := yB hw;have KL := η fun W h => rL A c ws W h h2 hw
  have e0 : decide ((2 : Int) < (ws.length : Int)) = false := κf (by omega);subst hn;generalize hm : wv ws = m at *;clear hm ht h0 hw;go_enter Tryz.func202, Tryz.ntmps202;go_wp2_with fail;refine HK.out.mono ?_;rintro e w1 ⟨rfl, hb1⟩;have q0 : w1.cell? ⟨w, 0, none⟩ = some (.bool neg) := (hb1.cell (by simp)).trans (by simp);have HB := η (hb0.trans (hb1.mono (by simp)));clear hb1 hb0 HK;go_wp2_with fail;refine (KL.out _ (HR.out.upto HB.out)).mono ?_;rintro e w2 ⟨rfl, hb2⟩;have q2 : w2.cell? ⟨w, 0, none⟩ = some (.bool neg) := (hb2.cell (World.block_lt_of_cell? w1 _ q0)).trans q0;have HB2 := βT HB hb2;clear hb2 HB KL q0;cases neg with
  | true =>
   by_cases hm : 9223372036854775808 < m
   ·have e1 : decide ((9223372036854775808 : Int) < m) = true := κt hm;have E : Hid (i64V (sgnI true m) = .tuple #[.int .i64 0, .bool false]) := kZ (by simp [sgnI]; omega);go_wp2_with fail;go_ret2;exact ⟨gX E.out.symm, HB2.out⟩
   ·have e1 : decide ((9223372036854775808 : Int) < m) = false := κf hm;have e2 : IntKind.i64.wrap (IntKind.u64.wrap (-m)) = -m := by
     by_cases h : m = 0
     ·subst h; rfl
     ·rw [show IntKind.u64.wrap (-m) = 18446744073709551616 - m from by show (-m) % 18446744073709551616 = _; omega];by_cases h' : m = 9223372036854775808
      ·subst h'; rfl
      ·rw [IntKind.wrap_i64]; omega
    have E : Hid (i64V (sgnI true m) = .tuple #[.int .i64 (-m), .bool true]) := gJ (by simp [sgnI]; omega);go_wp2_with fail;go_ret2;exact ⟨gX E.out.symm, HB2.out⟩
  | false =>
   by_cases hm : 9223372036854775808 ≤ m
   ·have e1 : decide ((9223372036854775808 : Int) ≤ m) = true := κt hm;have E : Hid (i64V (sgnI false m) = .tuple #[.int .i64 0, .bool false]) := kZ (by simp [sgnI]; omega);go_wp2_with fail;go_ret2;exact ⟨gX E.out.symm, HB2.out⟩
   ·have e1 : decide ((9223372036854775808 : Int) ≤ m) = false := κf hm;have e2 : IntKind.i64.wrap m = m := IntWalk.i64_in _ (by omega);have E : Hid (i64V (sgnI false m) = .tuple #[.int .i64 m, .bool true]) := gJ (by simp [sgnI]; omega);go_wp2_with fail;go_ret2;exact ⟨gX E.out.symm, HB2.out⟩
 ·have hbig := sE hw ht (by omega);have e0 : decide ((2 : Int) < (ws.length : Int)) = true := κt (by omega);have E : Hid (i64V n = .tuple #[.int .i64 0, .bool false]) := kZ (by rw [hn]; cases neg <;> simp [sgnI] <;> omega);clear hn ht h0 hw h2 hbig;go_enter Tryz.func202, Tryz.ntmps202;go_wp2_with fail;refine HK.out.mono ?_;rintro e w1 ⟨rfl, hb1⟩;have HB := η (hb0.trans (hb1.mono (by simp)));clear hb1 hb0 HK;go_wp2_with fail;go_ret2;exact ⟨gX E.out.symm, HB.out⟩
def sgn (n : Int) : Int := if n = 0 then 0 else if n < 0 then -1 else 1
theorem bG (v : Value) (n : Int) (w : World) (h : NumR w w v n) : Calls Tryz.prog 163 #[v] w fun e w' => e = .returned (.int .i64 (sgn n)) ∧ Below w w w' := by
 obtain ⟨neg, A, ws, c, rfl, hc, hl, hr, hw, ht, h0, hn⟩ := h;have hb0 : Below w w (w.alloc (.cells #[.bool neg, .slice A ws.length c] 83)) := βA _;have K := vA A c ws _ (hr.upto hb0) hl hc;rw [ht] at K;have HK := η K;clear K hr;by_cases hz : ws = []
 ·have e0 : ((ws.length : Int) == 0) = true := by rw [hz]; rfl
  have E : Hid (sgn n = 0) := by show _ = _; rw [hn, hz, show wv [] = 0 from rfl, yL]; rfl
  clear hn ht h0 hw hz;go_enter Tryz.func163, Tryz.ntmps163;go_wp2_with fail;refine HK.out.mono ?_;rintro e w1 ⟨rfl, hb1⟩;have HB := η (hb0.trans (hb1.mono (by simp)));clear hb1 hb0 HK;go_wp2_with fail;go_ret;exact ⟨zH E.out.symm, HB.out⟩
 ·have hp := sD hw ht hz;have hlen : 0 < ws.length := List.length_pos_iff.2 hz;have e0 : ((ws.length : Int) == 0) = false := βf (by omega);have E : Hid (sgn n = if neg then -1 else 1) := by
   show _ = _
   rw [hn];cases neg
   ·simp [sgnI, sgn]; omega
   ·simp [sgnI, sgn]; omega
  clear hn ht h0 hw hz hp;cases neg with
  | true =>
   go_enter Tryz.func163, Tryz.ntmps163;go_wp2_with fail;refine HK.out.mono ?_;rintro e w1 ⟨rfl, hb1⟩;have q0 : w1.cell? ⟨w, 0, none⟩ = some (.bool true) := (hb1.cell (by simp)).trans (by simp);have HB := η (hb0.trans (hb1.mono (by simp)));clear hb1 hb0 HK;go_wp2_with fail;go_ret;exact ⟨zH E.out.symm, HB.out⟩
  | false =>
   go_enter Tryz.func163, Tryz.ntmps163;go_wp2_with fail;refine HK.out.mono ?_;rintro e w1 ⟨rfl, hb1⟩;have q0 : w1.cell? ⟨w, 0, none⟩ = some (.bool false) := (hb1.cell (by simp)).trans (by simp);have HB := η (hb0.trans (hb1.mono (by simp)));clear hb1 hb0 HK;go_wp2_with fail;go_ret;exact ⟨zH E.out.symm, HB.out⟩
def N1 (w : World) (base : Nat) (a0 a1 : Value) (n : Int) : Prop :=
 (n = 0 ∧ a0 = .bool false ∧ a1 = .slice none 0 0) ∨ (n ≠ 0 ∧ n.natAbs < 4294967296 ∧ a0 = .bool (decide (n < 0)) ∧ ∃ b, base ≤ b ∧ a1 = .slice (some ⟨b, 0, none⟩) 1 1 ∧ w.heap[b]? = some (.cells #[.int .u32 n.natAbs] 192 (0, 0)))
section
variable {w w' : World} {base base' : Nat} {a0 a1 : Value} {n : Int}
theorem N1.keep (h : N1 w base a0 a1 n) (hb : base' ≤ base) (hk : ∀ k, base ≤ k → vO [192] w k → w'.heap[k]? = w.heap[k]?) : N1 w' base' a0 a1 n := by
 rcases h with h | ⟨h1, h2, h3, b, h4, h5, h6⟩
 ·exact .inl h
 ·exact .inr ⟨h1, h2, h3, b, by omega, h5, (hk b h4 ⟨_, by simp, _, _, h6⟩).trans h6⟩
theorem N1.below (h : N1 w base a0 a1 n) (hb : Below w w w') : N1 w' base a0 a1 n := h.keep (νr _) fun k _ ⟨t', _, cur, fz, hc⟩ => hb.block k (κi hc).1
theorem N1.mono (h : N1 w base a0 a1 n) (hb : base' ≤ base) : N1 w base' a0 a1 n := h.keep hb fun _ _ _ => rfl
theorem N1.set (h : N1 w base a0 a1 n) {p : Addr} (hp : p.block < base) (v : Value) : N1 (w.setCell p v) base a0 a1 n := h.keep (νr _) fun k hk _ => Below.heap_setCell w p v k (by omega)
theorem N1.form (h : N1 w base a0 a1 n) : ∃ ng A k c, a0 = .bool ng ∧ a1 = .slice A k c := by
 rcases h with ⟨_, rfl, rfl⟩ | ⟨_, _, rfl, b, _, rfl, _⟩
 ·exact ⟨_, _, _, _, rfl, rfl⟩
 ·exact ⟨_, _, _, _, rfl, rfl⟩
theorem N1.num (h : N1 w base a0 a1 n) : NumR w w (.agg #[a0, a1]) n := by
 rcases h with ⟨rfl, rfl, rfl⟩ | ⟨h1, h2, rfl, b, h4, rfl, h6⟩
 ·exact NumR.zero _ _
 ·refine ⟨decide (n < 0), some ⟨b, 0, none⟩, [(n.natAbs : Int)], 1, rfl, νr _, by simp, fun _ => ⟨b, 0, rfl, (κi h6).1, fun i hi => ?_⟩, fun x hx => ?_, yF (by omega), fun h => by simp at h, ?_⟩
  ·have hi0 : i = 0 := by simp at hi; exact hi
   subst hi0;rw [Lib.cell_of_heap h6]; rfl
  ·simp at hx; omega
  ·rw [mU]; unfold sgnI; by_cases hn : n < 0 <;> simp [hn] <;> omega
end
def N1E (w : World) (n : Int) (e : Ending) (w' : World) : Prop := ∃ a0 a1, e = .returned (.agg #[a0, a1]) ∧ N1 w' w a0 a1 n ∧ Below w w w'
def Q1E (w : World) (n : Int) (e : Ending) (w' : World) : Prop := ∃ a0 a1, e = .returned (.agg #[a0, a1, .bool false, .slice none 0 0]) ∧ N1 w' w a0 a1 n ∧ Below w w w'
theorem uN (neg : Bool) (n : Int) (w : World) (h0 : 0 ≤ n) (h1 : n < 4294967296) :
  Calls Tryz.prog 207 #[.bool neg, .int .u64 n] w (N1E w (sgnI neg n)) := by
 by_cases hz : n = 0
 ·subst hz;go_enter Tryz.func207, Tryz.ntmps207;go_wp2_with fail;refine κr (v := .agg #[.bool false, .slice none 0 0]) (by simp [results, Tryz.results207, go_sem]) rfl ⟨_, _, rfl, .inl ⟨yL _, rfl, rfl⟩, ?_⟩;exact βA _
 ·have hz' : (n == 0) = false := βf hz;have e1 : (n / 4294967296 == 0) = true := by rw [eU n h0 h1]; rfl
  have e2 : IntKind.u32.wrap n = n := IntWalk.u32_in _ (by omega);have HS : Hid (sgnI neg n ≠ 0 ∧ (sgnI neg n).natAbs < 4294967296 ∧ decide (sgnI neg n < 0) = neg ∧ ((sgnI neg n).natAbs : Int) = n) := by
   show _ ∧ _
   unfold sgnI;cases neg <;> simp <;> omega
  clear hz h0 h1;go_enter Tryz.func207, Tryz.ntmps207;go_wp2_with fail;have HB := η (((Below.refl w w).alloc (νr _) (.cells #[.bool neg, .slice (some ⟨w + 1, 0, none⟩) 1 1] 83)).alloc (by simp) (.cells #[.int .u32 n] 192));refine κr (v := .agg #[.bool neg, .slice (some ⟨w + 1, 0, none⟩) 1 1]) (by simp [results, Tryz.results207, go_sem]) rfl ⟨_, _, rfl, .inr ⟨HS.out.1, HS.out.2.1, by rw [HS.out.2.2.1], w + 1, by omega, rfl, ?_⟩, HB.out⟩;rw [HS.out.2.2.2];have := heap_alloc_new (w.alloc (.cells #[.bool neg, .slice (some ⟨w + 1, 0, none⟩) 1 1] 83)) (.cells #[.int .u32 n] 192);simpa using this
theorem fL (n : Int) (w : World) (h0 : -4294967296 < n) (h1 : n < 4294967296) : Calls Tryz.prog 175 #[.int .i64 n] w (N1E w n) := by
 have hb0 : Below w w (w.alloc (.cells #[.bool false, .slice none 0 0] 83)) := βA _;by_cases hn : n < 0
 ·have e1 : decide (n < 0) = true := κt hn;have e2 : IntKind.u64.wrap n = n + 18446744073709551616 := by show n % 18446744073709551616 = _; omega
  have e3 : IntKind.u64.wrap (-(n + 18446744073709551616)) = -n := by show (-(n + 18446744073709551616)) % 18446744073709551616 = _; omega
  have K := η (uN true (-n) (w.alloc (.cells #[.bool false, .slice none 0 0] 83)) (by omega) (by omega));have ES : Hid (sgnI true (-n) = n) := by show _ = _; unfold sgnI; simp
  clear hn h0 h1;go_enter Tryz.func175, Tryz.ntmps175;go_wp2_with fail;refine K.out.mono ?_;rintro e w1 ⟨a0, a1, rfl, hv, hb1⟩;obtain ⟨ng, A, k, c, rfl, rfl⟩ := hv.form;rw [ES.out] at hv;have q0 : w1.cell? ⟨w, 0, none⟩ = some (.bool false) := (hb1.cell (by simp)).trans (by simp);have q1 : w1.cell? ⟨w, 1, none⟩ = some (.slice none 0 0) := (hb1.cell (by simp)).trans (by simp);have s0 : w1.frozen? ⟨w, 0, none⟩ = false := (hb1.frozen (by simp)).trans (by simp);have s1 : w1.frozen? ⟨w, 1, none⟩ = false := (hb1.frozen (by simp)).trans (by simp);have HB := η (hb0.trans (hb1.mono (by simp)));have HN := η (((hv.set (p := ⟨w, 0, none⟩) (by simp) (.bool ng)).set (p := ⟨w, 1, none⟩) (by simp) (.slice A k c)).mono (base' := w) (by simp));have HF := η ((HB.out.setCell (p := ⟨w, 0, none⟩) (νr _) (.bool ng)).setCell (p := ⟨w, 1, none⟩) (νr _) (.slice A k c));clear hb1 hb0 K hv;go_wp2_with fail;refine κr (v := .agg #[.bool ng, .slice A k c]) (by simp [results, Tryz.results175, go_sem, q0, q1]) rfl ?_;exact ⟨_, _, rfl, HN.out, HF.out⟩
 ·have e1 : decide (n < 0) = false := κf hn;have e2 : IntKind.u64.wrap n = n := κu _ (by omega);have K := η (uN false n (w.alloc (.cells #[.bool false, .slice none 0 0] 83)) (by omega) (by omega));have ES : Hid (sgnI false n = n) := rfl;clear hn h0 h1;go_enter Tryz.func175, Tryz.ntmps175;go_wp2_with fail;refine K.out.mono ?_;rintro e w1 ⟨a0, a1, rfl, hv, hb1⟩;obtain ⟨ng, A, k, c, rfl, rfl⟩ := hv.form;rw [ES.out] at hv;have q0 : w1.cell? ⟨w, 0, none⟩ = some (.bool false) := (hb1.cell (by simp)).trans (by simp);have q1 : w1.cell? ⟨w, 1, none⟩ = some (.slice none 0 0) := (hb1.cell (by simp)).trans (by simp);have s0 : w1.frozen? ⟨w, 0, none⟩ = false := (hb1.frozen (by simp)).trans (by simp);have s1 : w1.frozen? ⟨w, 1, none⟩ = false := (hb1.frozen (by simp)).trans (by simp);have HB := η (hb0.trans (hb1.mono (by simp)));have HN := η (((hv.set (p := ⟨w, 0, none⟩) (by simp) (.bool ng)).set (p := ⟨w, 1, none⟩) (by simp) (.slice A k c)).mono (base' := w) (by simp));have HF := η ((HB.out.setCell (p := ⟨w, 0, none⟩) (νr _) (.bool ng)).setCell (p := ⟨w, 1, none⟩) (νr _) (.slice A k c));clear hb1 hb0 K hv;go_wp2_with fail;refine κr (v := .agg #[.bool ng, .slice A k c]) (by simp [results, Tryz.results175, go_sem, q0, q1]) rfl ?_;exact ⟨_, _, rfl, HN.out, HF.out⟩
theorem fK (n : Int) (w : World) (h0 : -4294967296 < n) (h1 : n < 4294967296) : Calls Tryz.prog 130 #[.int .i64 n] w (Q1E w n) := by
 have hb0 : Below w w (w.alloc (.cells #[.bool false, .slice none 0 0, .bool false, .slice none 0 0] 85)) := βA _;have K := η (fL n (w.alloc (.cells #[.bool false, .slice none 0 0, .bool false, .slice none 0 0] 85)) h0 h1);clear h0 h1;go_enter Tryz.func130, Tryz.ntmps130;go_wp2_with fail;refine K.out.mono ?_;rintro e w1 ⟨a0, a1, rfl, hv, hb1⟩;obtain ⟨ng, A, k, c, rfl, rfl⟩ := hv.form;have q0 : w1.cell? ⟨w, 0, none⟩ = some (.bool false) := (hb1.cell (by simp)).trans (by simp);have q1 : w1.cell? ⟨w, 1, none⟩ = some (.slice none 0 0) := (hb1.cell (by simp)).trans (by simp);have q2 : w1.cell? ⟨w, 2, none⟩ = some (.bool false) := (hb1.cell (by simp)).trans (by simp);have q3 : w1.cell? ⟨w, 3, none⟩ = some (.slice none 0 0) := (hb1.cell (by simp)).trans (by simp);have s0 : w1.frozen? ⟨w, 0, none⟩ = false := (hb1.frozen (by simp)).trans (by simp);have s1 : w1.frozen? ⟨w, 1, none⟩ = false := (hb1.frozen (by simp)).trans (by simp);have s2 : w1.frozen? ⟨w, 2, none⟩ = false := (hb1.frozen (by simp)).trans (by simp);have s3 : w1.frozen? ⟨w, 3, none⟩ = false := (hb1.frozen (by simp)).trans (by simp);have HB := η (hb0.trans (hb1.mono (by simp)));have HN := η (((((hv.set (p := ⟨w, 0, none⟩) (by simp) (.bool ng)).set (p := ⟨w, 1, none⟩) (by simp) (.slice A k c)).set (p := ⟨w, 2, none⟩) (by simp) (.bool false)).set (p := ⟨w, 3, none⟩) (by simp) (.slice none 0 0)).mono (base' := w) (by simp));have HF := η ((((HB.out.setCell (p := ⟨w, 0, none⟩) (νr _) (.bool ng)).setCell (p := ⟨w, 1, none⟩) (νr _) (.slice A k c)).setCell (p := ⟨w, 2, none⟩) (νr _) (.bool false)).setCell (p := ⟨w, 3, none⟩) (νr _) (.slice none 0 0));clear hb1 hb0 K hv;go_wp2_with fail;refine κr (v := .agg #[.bool ng, .slice A k c, .bool false, .slice none 0 0]) (by simp [results, Tryz.results130, go_sem, q0, q1, q2, q3]) rfl ?_;exact ⟨_, _, rfl, HN.out, HF.out⟩
end Go.Proofs.YtkfhpefmmhljmaaGreatDoor
