/- The text FmA. -/
import Derived.Lib.Builder
import Derived.Test.YtkfhpefmmhljmaaGreatDoorQ15
import Derived.Test.YtkfhpefmmhljmaaGreatDoorQ9
set_option linter.unusedVariables false
set_option linter.unusedSimpArgs false
set_option maxRecDepth 100000
/- FmA -/
namespace Go.Proofs.YtkfhpefmmhljmaaGreatDoor
open Go.RowKit
set_option maxRecDepth 100000
def N1 (w : World) (base : Nat) (a0 a1 : Value) (n : Int) : Prop :=
 (n = 0 ∧ a0 = .bool false ∧ a1 = .slice none 0 0) ∨ (n ≠ 0 ∧ n.natAbs < 4294967296 ∧ a0 = .bool (decide (n < 0)) ∧ ∃ b, base ≤ b ∧ a1 = .slice (some ⟨b, 0, none⟩) 1 1 ∧ w.heap[b]? = some (.cells #[.int .u32 n.natAbs] 192 (0, 0)))
section
variable {w w' : World} {base base' : Nat} {a0 a1 : Value} {n : Int}
theorem N1.keep (h : N1 w base a0 a1 n) (hb : base' ≤ base) (hk : ∀ k, base ≤ k → TypedIn [192] w k → w'.heap[k]? = w.heap[k]?) : N1 w' base' a0 a1 n := by
 rcases h with h | ⟨h1, h2, h3, b, h4, h5, h6⟩
 ·exact .inl h
 ·exact .inr ⟨h1, h2, h3, b, by omega, h5, (hk b h4 ⟨_, by simp, _, _, h6⟩).trans h6⟩
theorem N1.below (h : N1 w base a0 a1 n) (hb : Below w.heap.size w w') : N1 w' base a0 a1 n := h.keep (Nat.le_refl _) fun k _ ⟨t', _, cur, fz, hc⟩ => hb.block k (Array.getElem?_eq_some_iff.1 hc).1
theorem N1.mono (h : N1 w base a0 a1 n) (hb : base' ≤ base) : N1 w base' a0 a1 n := h.keep hb fun _ _ _ => rfl
theorem N1.set (h : N1 w base a0 a1 n) {p : Addr} (hp : p.block < base) (v : Value) : N1 (w.setCell p v) base a0 a1 n := h.keep (Nat.le_refl _) fun k hk _ => Below.heap_setCell w p v k (by omega)
theorem N1.form (h : N1 w base a0 a1 n) : ∃ ng A k c, a0 = .bool ng ∧ a1 = .slice A k c := by
 rcases h with ⟨_, rfl, rfl⟩ | ⟨_, _, rfl, b, _, rfl, _⟩
 ·exact ⟨_, _, _, _, rfl, rfl⟩
 ·exact ⟨_, _, _, _, rfl, rfl⟩
theorem N1.num (h : N1 w base a0 a1 n) : NumR w w.heap.size (.agg #[a0, a1]) n := by
 rcases h with ⟨rfl, rfl, rfl⟩ | ⟨h1, h2, rfl, b, h4, rfl, h6⟩
 ·exact NumR.zero _ _
 ·refine ⟨decide (n < 0), some ⟨b, 0, none⟩, [(n.natAbs : Int)], 1, rfl, Nat.le_refl _, by simp, fun _ => ⟨b, 0, rfl, (Array.getElem?_eq_some_iff.1 h6).1, fun i hi => ?_⟩, fun x hx => ?_, trimL_one (by omega), fun h => by simp at h, ?_⟩
  ·have hi0 : i = 0 := by simp at hi; exact hi
   subst hi0;rw [Lib.cell_of_heap h6]; rfl
  ·simp at hx; omega
  ·rw [wv_one]; unfold sgnI; by_cases hn : n < 0 <;> simp [hn] <;> omega
end
def N1E (w : World) (n : Int) (e : Ending) (w' : World) : Prop := ∃ a0 a1, e = .returned (.agg #[a0, a1]) ∧ N1 w' w.heap.size a0 a1 n ∧ Below w.heap.size w w'
def Q1E (w : World) (n : Int) (e : Ending) (w' : World) : Prop := ∃ a0 a1, e = .returned (.agg #[a0, a1, .bool false, .slice none 0 0]) ∧ N1 w' w.heap.size a0 a1 n ∧ Below w.heap.size w w'
set_option maxHeartbeats 2000000 in
theorem small1_any (neg : Bool) (n : Int) (w : World) (h0 : 0 ≤ n) (h1 : n < 4294967296) :
  Calls Tryz.prog 207 #[.bool neg, .int .u64 n] w (N1E w (sgnI neg n)) := by
 by_cases hz : n = 0
 ·subst hz;go_enter Tryz.func207, Tryz.ntmps207;go_wp2_with fail;refine bodyPost_ret (v := .agg #[.bool false, .slice none 0 0]) (by simp [results, Tryz.results207, go_sem]) rfl ⟨_, _, rfl, .inl ⟨sgnI_zero _, rfl, rfl⟩, ?_⟩;exact (Below.refl _ _).alloc (Nat.le_refl _) _
 ·have hz' : (n == 0) = false := beq_eq_false_iff_ne.2 hz;have e1 : (n / 4294967296 == 0) = true := by rw [shr_low n h0 h1]; rfl
  have e2 : IntKind.u32.wrap n = n := IntWalk.u32_in _ (by omega);have HS : Hid (sgnI neg n ≠ 0 ∧ (sgnI neg n).natAbs < 4294967296 ∧ decide (sgnI neg n < 0) = neg ∧ ((sgnI neg n).natAbs : Int) = n) := by
   show _ ∧ _
   unfold sgnI;cases neg <;> simp <;> omega
  clear hz h0 h1;go_enter Tryz.func207, Tryz.ntmps207;go_wp2_with fail;have HB := Lib.hid (((Below.refl w.heap.size w).alloc (Nat.le_refl _) (.cells #[.bool neg, .slice (some ⟨w.heap.size + 1, 0, none⟩) 1 1] 83)).alloc (by simp) (.cells #[.int .u32 n] 192));refine bodyPost_ret (v := .agg #[.bool neg, .slice (some ⟨w.heap.size + 1, 0, none⟩) 1 1]) (by simp [results, Tryz.results207, go_sem]) rfl ⟨_, _, rfl, .inr ⟨HS.out.1, HS.out.2.1, by rw [HS.out.2.2.1], w.heap.size + 1, by omega, rfl, ?_⟩, HB.out⟩;rw [HS.out.2.2.2];have := heap_alloc_new (w.alloc (.cells #[.bool neg, .slice (some ⟨w.heap.size + 1, 0, none⟩) 1 1] 83)) (.cells #[.int .u32 n] 192);simpa using this
set_option maxHeartbeats 2000000 in
theorem from1_any (n : Int) (w : World) (h0 : -4294967296 < n) (h1 : n < 4294967296) : Calls Tryz.prog 175 #[.int .i64 n] w (N1E w n) := by
 have hb0 : Below w.heap.size w (w.alloc (.cells #[.bool false, .slice none 0 0] 83)) := (Below.refl _ _).alloc (Nat.le_refl _) _;by_cases hn : n < 0
 ·have e1 : decide (n < 0) = true := decide_eq_true hn;have e2 : IntKind.u64.wrap n = n + 18446744073709551616 := by show n % 18446744073709551616 = _; omega
  have e3 : IntKind.u64.wrap (-(n + 18446744073709551616)) = -n := by show (-(n + 18446744073709551616)) % 18446744073709551616 = _; omega
  have K := Lib.hid (small1_any true (-n) (w.alloc (.cells #[.bool false, .slice none 0 0] 83)) (by omega) (by omega));have ES : Hid (sgnI true (-n) = n) := by show _ = _; unfold sgnI; simp
  clear hn h0 h1;go_enter Tryz.func175, Tryz.ntmps175;go_wp2_with fail;refine K.out.mono ?_;rintro e w1 ⟨a0, a1, rfl, hv, hb1⟩;obtain ⟨ng, A, k, c, rfl, rfl⟩ := hv.form;rw [ES.out] at hv;have q0 : w1.cell? ⟨w.heap.size, 0, none⟩ = some (.bool false) := (hb1.cell (by simp)).trans (by simp);have q1 : w1.cell? ⟨w.heap.size, 1, none⟩ = some (.slice none 0 0) := (hb1.cell (by simp)).trans (by simp);have s0 : w1.frozen? ⟨w.heap.size, 0, none⟩ = false := (hb1.frozen (by simp)).trans (by simp);have s1 : w1.frozen? ⟨w.heap.size, 1, none⟩ = false := (hb1.frozen (by simp)).trans (by simp);have HB := Lib.hid (hb0.trans (hb1.mono (by simp)));have HN := Lib.hid (((hv.set (p := ⟨w.heap.size, 0, none⟩) (by simp) (.bool ng)).set (p := ⟨w.heap.size, 1, none⟩) (by simp) (.slice A k c)).mono (base' := w.heap.size) (by simp));have HF := Lib.hid ((HB.out.setCell (p := ⟨w.heap.size, 0, none⟩) (Nat.le_refl _) (.bool ng)).setCell (p := ⟨w.heap.size, 1, none⟩) (Nat.le_refl _) (.slice A k c));clear hb1 hb0 K hv;go_wp2_with fail;refine bodyPost_ret (v := .agg #[.bool ng, .slice A k c]) (by simp [results, Tryz.results175, go_sem, q0, q1]) rfl ?_;exact ⟨_, _, rfl, HN.out, HF.out⟩
 ·have e1 : decide (n < 0) = false := decide_eq_false hn;have e2 : IntKind.u64.wrap n = n := IntWalk.u64_in _ (by omega);have K := Lib.hid (small1_any false n (w.alloc (.cells #[.bool false, .slice none 0 0] 83)) (by omega) (by omega));have ES : Hid (sgnI false n = n) := rfl;clear hn h0 h1;go_enter Tryz.func175, Tryz.ntmps175;go_wp2_with fail;refine K.out.mono ?_;rintro e w1 ⟨a0, a1, rfl, hv, hb1⟩;obtain ⟨ng, A, k, c, rfl, rfl⟩ := hv.form;rw [ES.out] at hv;have q0 : w1.cell? ⟨w.heap.size, 0, none⟩ = some (.bool false) := (hb1.cell (by simp)).trans (by simp);have q1 : w1.cell? ⟨w.heap.size, 1, none⟩ = some (.slice none 0 0) := (hb1.cell (by simp)).trans (by simp);have s0 : w1.frozen? ⟨w.heap.size, 0, none⟩ = false := (hb1.frozen (by simp)).trans (by simp);have s1 : w1.frozen? ⟨w.heap.size, 1, none⟩ = false := (hb1.frozen (by simp)).trans (by simp);have HB := Lib.hid (hb0.trans (hb1.mono (by simp)));have HN := Lib.hid (((hv.set (p := ⟨w.heap.size, 0, none⟩) (by simp) (.bool ng)).set (p := ⟨w.heap.size, 1, none⟩) (by simp) (.slice A k c)).mono (base' := w.heap.size) (by simp));have HF := Lib.hid ((HB.out.setCell (p := ⟨w.heap.size, 0, none⟩) (Nat.le_refl _) (.bool ng)).setCell (p := ⟨w.heap.size, 1, none⟩) (Nat.le_refl _) (.slice A k c));clear hb1 hb0 K hv;go_wp2_with fail;refine bodyPost_ret (v := .agg #[.bool ng, .slice A k c]) (by simp [results, Tryz.results175, go_sem, q0, q1]) rfl ?_;exact ⟨_, _, rfl, HN.out, HF.out⟩
set_option maxHeartbeats 2000000 in
theorem fromQ_any (n : Int) (w : World) (h0 : -4294967296 < n) (h1 : n < 4294967296) : Calls Tryz.prog 130 #[.int .i64 n] w (Q1E w n) := by
 have hb0 : Below w.heap.size w (w.alloc (.cells #[.bool false, .slice none 0 0, .bool false, .slice none 0 0] 85)) := (Below.refl _ _).alloc (Nat.le_refl _) _;have K := Lib.hid (from1_any n (w.alloc (.cells #[.bool false, .slice none 0 0, .bool false, .slice none 0 0] 85)) h0 h1);clear h0 h1;go_enter Tryz.func130, Tryz.ntmps130;go_wp2_with fail;refine K.out.mono ?_;rintro e w1 ⟨a0, a1, rfl, hv, hb1⟩;obtain ⟨ng, A, k, c, rfl, rfl⟩ := hv.form;have q0 : w1.cell? ⟨w.heap.size, 0, none⟩ = some (.bool false) := (hb1.cell (by simp)).trans (by simp);have q1 : w1.cell? ⟨w.heap.size, 1, none⟩ = some (.slice none 0 0) := (hb1.cell (by simp)).trans (by simp);have q2 : w1.cell? ⟨w.heap.size, 2, none⟩ = some (.bool false) := (hb1.cell (by simp)).trans (by simp);have q3 : w1.cell? ⟨w.heap.size, 3, none⟩ = some (.slice none 0 0) := (hb1.cell (by simp)).trans (by simp);have s0 : w1.frozen? ⟨w.heap.size, 0, none⟩ = false := (hb1.frozen (by simp)).trans (by simp);have s1 : w1.frozen? ⟨w.heap.size, 1, none⟩ = false := (hb1.frozen (by simp)).trans (by simp);have s2 : w1.frozen? ⟨w.heap.size, 2, none⟩ = false := (hb1.frozen (by simp)).trans (by simp);have s3 : w1.frozen? ⟨w.heap.size, 3, none⟩ = false := (hb1.frozen (by simp)).trans (by simp);have HB := Lib.hid (hb0.trans (hb1.mono (by simp)));have HN := Lib.hid (((((hv.set (p := ⟨w.heap.size, 0, none⟩) (by simp) (.bool ng)).set (p := ⟨w.heap.size, 1, none⟩) (by simp) (.slice A k c)).set (p := ⟨w.heap.size, 2, none⟩) (by simp) (.bool false)).set (p := ⟨w.heap.size, 3, none⟩) (by simp) (.slice none 0 0)).mono (base' := w.heap.size) (by simp));have HF := Lib.hid ((((HB.out.setCell (p := ⟨w.heap.size, 0, none⟩) (Nat.le_refl _) (.bool ng)).setCell (p := ⟨w.heap.size, 1, none⟩) (Nat.le_refl _) (.slice A k c)).setCell (p := ⟨w.heap.size, 2, none⟩) (Nat.le_refl _) (.bool false)).setCell (p := ⟨w.heap.size, 3, none⟩) (Nat.le_refl _) (.slice none 0 0));clear hb1 hb0 K hv;go_wp2_with fail;refine bodyPost_ret (v := .agg #[.bool ng, .slice A k c, .bool false, .slice none 0 0]) (by simp [results, Tryz.results130, go_sem, q0, q1, q2, q3]) rfl ?_;exact ⟨_, _, rfl, HN.out, HF.out⟩
end Go.Proofs.YtkfhpefmmhljmaaGreatDoor
