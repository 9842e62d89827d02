/- Texts in one: FmA, FmB. -/
import Derived.Test.YtkfhpefmmhljmaaGreatDoorF27
set_option linter.unusedVariables false
set_option linter.unusedSimpArgs false
set_option maxHeartbeats 16000000
set_option maxRecDepth 100000
namespace Go.Proofs.YtkfhpefmmhljmaaGreatDoor
open Go.RowKit
def N1 (w : World) (base : Nat) (a0 a1 : Value) (n : Int) : Prop :=
 (n = 0 ∧ a0 = .bool false ∧ a1 = .slice none 0 0) ∨ (n ≠ 0 ∧ n.natAbs < 4294967296 ∧ a0 = .bool (decide (n < 0)) ∧ ∃ b, base ≤ b ∧ a1 = .slice (some ⟨b, 0, none⟩) 1 1 ∧ w.heap[b]? = some (.cells #[.int .u32 n.natAbs] 192 (0, 0)))
section
variable {w w' : World} {base base' : Nat} {a0 a1 : Value} {n : Int}
theorem N1.keep (h : N1 w base a0 a1 n) (hb : base' ≤ base) (hk : ∀ k, base ≤ k → kH [192] w k → w'.heap[k]? = w.heap[k]?) : N1 w' base' a0 a1 n := by
 rcases h with h | ⟨h1, h2, h3, b, h4, h5, h6⟩
 ·exact .inl h
 ·exact .inr ⟨h1, h2, h3, b, by omega, h5, (hk b h4 ⟨_, by simp, _, _, h6⟩).trans h6⟩
theorem N1.below (h : N1 w base a0 a1 n) (hb : Below w w w') : N1 w' base a0 a1 n := h.keep (νr _) fun k _ ⟨t', _, cur, fz, hc⟩ => hb.block k (κi hc).1
theorem N1.mono (h : N1 w base a0 a1 n) (hb : base' ≤ base) : N1 w base' a0 a1 n := h.keep hb fun _ _ _ => rfl
theorem N1.set (h : N1 w base a0 a1 n) {p : Addr} (hp : p.block < base) (v : Value) : N1 (w.setCell p v) base a0 a1 n := h.keep (νr _) fun k hk _ => Below.heap_setCell w p v k (by omega)
theorem N1.form (h : N1 w base a0 a1 n) : ∃ ng A k c, a0 = .bool ng ∧ a1 = .slice A k c := by
 rcases h with ⟨_, rfl, rfl⟩ | ⟨_, _, rfl, b, _, rfl, _⟩
 ·exact ⟨_, _, _, _, rfl, rfl⟩
 ·exact ⟨_, _, _, _, rfl, rfl⟩
theorem N1.num (h : N1 w base a0 a1 n) : NumR w w (.agg #[a0, a1]) n := by
 rcases h with ⟨rfl, rfl, rfl⟩ | ⟨h1, h2, rfl, b, h4, rfl, h6⟩
 ·exact NumR.zero _ _
 ·refine ⟨decide (n < 0), some ⟨b, 0, none⟩, [(n.natAbs : Int)], 1, rfl, νr _, by simp, fun _ => ⟨b, 0, rfl, (κi h6).1, fun i hi => ?_⟩, fun x hx => ?_, uE (by omega), fun h => by simp at h, ?_⟩
  ·have hi0 : i = 0 := by simp at hi; exact hi
   subst hi0;rw [Lib.cell_of_heap h6]; rfl
  ·simp at hx; omega
  ·rw [bK]; unfold sgnI; by_cases hn : n < 0 <;> simp [hn] <;> omega
end
def N1E (w : World) (n : Int) (e : Ending) (w' : World) : Prop := ∃ a0 a1, e = .returned (.agg #[a0, a1]) ∧ N1 w' w a0 a1 n ∧ Below w w w'
def Q1E (w : World) (n : Int) (e : Ending) (w' : World) : Prop := ∃ a0 a1, e = .returned (.agg #[a0, a1, .bool false, .slice none 0 0]) ∧ N1 w' w a0 a1 n ∧ Below w w w'
theorem gL (neg : Bool) (n : Int) (w : World) (h0 : 0 ≤ n) (h1 : n < 4294967296) :
  Calls Tryz.prog 207 #[.bool neg, .int .u64 n] w (N1E w (sgnI neg n)) := by
 by_cases hz : n = 0
 ·subst hz;go_enter Tryz.func207, Tryz.ntmps207;go_wp2_with fail;refine κr (v := .agg #[.bool false, .slice none 0 0]) (by simp [results, Tryz.results207, go_sem]) rfl ⟨_, _, rfl, .inl ⟨uL _, rfl, rfl⟩, ?_⟩;exact βA _
 ·have hz' : (n == 0) = false := βf hz;have e1 : (n / 4294967296 == 0) = true := by rw [iH n h0 h1]; rfl
  have e2 : IntKind.u32.wrap n = n := IntWalk.u32_in _ (by omega);have HS : Hid (sgnI neg n ≠ 0 ∧ (sgnI neg n).natAbs < 4294967296 ∧ decide (sgnI neg n < 0) = neg ∧ ((sgnI neg n).natAbs : Int) = n) := by
   show _ ∧ _
   unfold sgnI;cases neg <;> simp <;> omega
  clear hz h0 h1;go_enter Tryz.func207, Tryz.ntmps207;go_wp2_with fail;have HB := η (((Below.refl w w).alloc (νr _) (.cells #[.bool neg, .slice (some ⟨w + 1, 0, none⟩) 1 1] 83)).alloc (by simp) (.cells #[.int .u32 n] 192));refine κr (v := .agg #[.bool neg, .slice (some ⟨w + 1, 0, none⟩) 1 1]) (by simp [results, Tryz.results207, go_sem]) rfl ⟨_, _, rfl, .inr ⟨HS.out.1, HS.out.2.1, by rw [HS.out.2.2.1], w + 1, by omega, rfl, ?_⟩, HB.out⟩;rw [HS.out.2.2.2];have := heap_alloc_new (w.alloc (.cells #[.bool neg, .slice (some ⟨w + 1, 0, none⟩) 1 1] 83)) (.cells #[.int .u32 n] 192);simpa using this
theorem pE (n : Int) (w : World) (h0 : -4294967296 < n) (h1 : n < 4294967296) : Calls Tryz.prog 175 #[.int .i64 n] w (N1E w n) := by
 have hb0 : Below w w (w.alloc (.cells #[.bool false, .slice none 0 0] 83)) := βA _;by_cases hn : n < 0
 ·have e1 : decide (n < 0) = true := κt hn;have e2 : IntKind.u64.wrap n = n + 18446744073709551616 := by show n % 18446744073709551616 = _; omega
  have e3 : IntKind.u64.wrap (-(n + 18446744073709551616)) = -n := by show (-(n + 18446744073709551616)) % 18446744073709551616 = _; omega
  have K := η (gL true (-n) (w.alloc (.cells #[.bool false, .slice none 0 0] 83)) (by omega) (by omega));have ES : Hid (sgnI true (-n) = n) := by show _ = _; unfold sgnI; simp
  clear hn h0 h1;go_enter Tryz.func175, Tryz.ntmps175;go_wp2_with fail;refine K.out.mono ?_;rintro e w1 ⟨a0, a1, rfl, hv, hb1⟩;obtain ⟨ng, A, k, c, rfl, rfl⟩ := hv.form;rw [ES.out] at hv;have q0 : w1.cell? ⟨w, 0, none⟩ = some (.bool false) := (hb1.cell (by simp)).trans (by simp);have q1 : w1.cell? ⟨w, 1, none⟩ = some (.slice none 0 0) := (hb1.cell (by simp)).trans (by simp);have s0 : w1.frozen? ⟨w, 0, none⟩ = false := (hb1.frozen (by simp)).trans (by simp);have s1 : w1.frozen? ⟨w, 1, none⟩ = false := (hb1.frozen (by simp)).trans (by simp);have HB := η (hb0.trans (hb1.mono (by simp)));have HN := η (((hv.set (p := ⟨w, 0, none⟩) (by simp) (.bool ng)).set (p := ⟨w, 1, none⟩) (by simp) (.slice A k c)).mono (base' := w) (by simp));have HF := η ((HB.out.setCell (p := ⟨w, 0, none⟩) (νr _) (.bool ng)).setCell (p := ⟨w, 1, none⟩) (νr _) (.slice A k c));clear hb1 hb0 K hv;go_wp2_with fail;refine κr (v := .agg #[.bool ng, .slice A k c]) (by simp [results, Tryz.results175, go_sem, q0, q1]) rfl ?_;exact ⟨_, _, rfl, HN.out, HF.out⟩
 ·have e1 : decide (n < 0) = false := κf hn;have e2 : IntKind.u64.wrap n = n := κu _ (by omega);have K := η (gL false n (w.alloc (.cells #[.bool false, .slice none 0 0] 83)) (by omega) (by omega));have ES : Hid (sgnI false n = n) := rfl;clear hn h0 h1;go_enter Tryz.func175, Tryz.ntmps175;go_wp2_with fail;refine K.out.mono ?_;rintro e w1 ⟨a0, a1, rfl, hv, hb1⟩;obtain ⟨ng, A, k, c, rfl, rfl⟩ := hv.form;rw [ES.out] at hv;have q0 : w1.cell? ⟨w, 0, none⟩ = some (.bool false) := (hb1.cell (by simp)).trans (by simp);have q1 : w1.cell? ⟨w, 1, none⟩ = some (.slice none 0 0) := (hb1.cell (by simp)).trans (by simp);have s0 : w1.frozen? ⟨w, 0, none⟩ = false := (hb1.frozen (by simp)).trans (by simp);have s1 : w1.frozen? ⟨w, 1, none⟩ = false := (hb1.frozen (by simp)).trans (by simp);have HB := η (hb0.trans (hb1.mono (by simp)));have HN := η (((hv.set (p := ⟨w, 0, none⟩) (by simp) (.bool ng)).set (p := ⟨w, 1, none⟩) (by simp) (.slice A k c)).mono (base' := w) (by simp));have HF := η ((HB.out.setCell (p := ⟨w, 0, none⟩) (νr _) (.bool ng)).setCell (p := ⟨w, 1, none⟩) (νr _) (.slice A k c));clear hb1 hb0 K hv;go_wp2_with fail;refine κr (v := .agg #[.bool ng, .slice A k c]) (by simp [results, Tryz.results175, go_sem, q0, q1]) rfl ?_;exact ⟨_, _, rfl, HN.out, HF.out⟩
theorem pD (n : Int) (w : World) (h0 : -4294967296 < n) (h1 : n < 4294967296) : Calls Tryz.prog 130 #[.int .i64 n] w (Q1E w n) := by
 have hb0 : Below w w (w.alloc (.cells #[.bool false, .slice none 0 0, .bool false, .slice none 0 0] 85)) := βA _;have K := η (pE n (w.alloc (.cells #[.bool false, .slice none 0 0, .bool false, .slice none 0 0] 85)) h0 h1);clear h0 h1;go_enter Tryz.func130, Tryz.ntmps130;go_wp2_with fail;refine K.out.mono ?_;rintro e w1 ⟨a0, a1, rfl, hv, hb1⟩;obtain ⟨ng, A, k, c, rfl, rfl⟩ := hv.form;have q0 : w1.cell? ⟨w, 0, none⟩ = some (.bool false) := (hb1.cell (by simp)).trans (by simp);have q1 : w1.cell? ⟨w, 1, none⟩ = some (.slice none 0 0) := (hb1.cell (by simp)).trans (by simp);have q2 : w1.cell? ⟨w, 2, none⟩ = some (.bool false) := (hb1.cell (by simp)).trans (by simp);have q3 : w1.cell? ⟨w, 3, none⟩ = some (.slice none 0 0) := (hb1.cell (by simp)).trans (by simp);have s0 : w1.frozen? ⟨w, 0, none⟩ = false := (hb1.frozen (by simp)).trans (by simp);have s1 : w1.frozen? ⟨w, 1, none⟩ = false := (hb1.frozen (by simp)).trans (by simp);have s2 : w1.frozen? ⟨w, 2, none⟩ = false := (hb1.frozen (by simp)).trans (by simp);have s3 : w1.frozen? ⟨w, 3, none⟩ = false := (hb1.frozen (by simp)).trans (by simp);have HB := η (hb0.trans (hb1.mono (by simp)));have HN := η (((((hv.set (p := ⟨w, 0, none⟩) (by simp) (.bool ng)).set (p := ⟨w, 1, none⟩) (by simp) (.slice A k c)).set (p := ⟨w, 2, none⟩) (by simp) (.bool false)).set (p := ⟨w, 3, none⟩) (by simp) (.slice none 0 0)).mono (base' := w) (by simp));have HF := η ((((HB.out.setCell (p := ⟨w, 0, none⟩) (νr _) (.bool ng)).setCell (p := ⟨w, 1, none⟩) (νr _) (.slice A k c)).setCell (p := ⟨w, 2, none⟩) (νr _) (.bool false)).setCell (p := ⟨w, 3, none⟩) (νr _) (.slice none 0 0));clear hb1 hb0 K hv;go_wp2_with fail;refine κr (v := .agg #[.bool ng, .slice A k c, .bool false, .slice none 0 0]) (by simp [results, Tryz.results130, go_sem, q0, q1, q2, q3]) rfl ?_;exact ⟨_, _, rfl, HN.out, HF.out⟩
theorem RowO.onto {α : Type} {E : Enc α} {n : Nat} {w w2 : World} {base : Nat} {ts : List TypeId} {t : TypeId} {v v' : Value} {l l2 : List α} {raws raws2 : List (List Value)} (hE : EOwn E ts) (ht : t ∉ ts)
  (h1 : raws.length = l.length) (h2 : ∀ c ∈ raws, c.length = n) (h3 : ∀ (i : Nat) c x, raws[i]? = some c → l[i]? = some x → E w base c x) (h4 : w.ownsRow base t n v l.length raws.flatten)
  (k1 : raws2.length = l2.length) (k2 : ∀ c ∈ raws2, c.length = n) (k3 : ∀ (i : Nat) c x, raws2[i]? = some c → l2[i]? = some x → E w base c x)
  (hgr : w.grownBy w2 v.ownBlock) (ho : w2.ownsRow base t n v' (l.length + l2.length) (raws.flatten ++ raws2.flatten)) : RowO E t n w2 base v' (l ++ l2) := by
 have hkeep : ∀ k, base ≤ k → kH ts w k → w2.heap[k]? = w.heap[k]? := fun k hk ⟨t', ht', cur, fz, hcur⟩ => by
  have hlt := (κi hcur).1;refine hgr.block k hlt ?_;intro e;rcases h4.2 with ⟨rfl, _⟩ | ⟨g, cap, cur', rfl, _, hg, _⟩
  ·simp [Value.ownBlock] at e
  ·have : k = g := by simpa [Value.ownBlock] using e
   subst this;rw [hcur] at hg;injection hg with hg
   injection hg with _ h5
   exact ht (h5 ▸ ht')
 refine ⟨raws ++ raws2, by simp [h1, k1], fun d hd => ?_, fun i d y hd hy => ?_, ?_⟩
 ·rcases List.mem_append.1 hd with hd | hd
  ·exact h2 d hd
  ·exact k2 d hd
 ·rcases Nat.lt_or_ge i l.length with hi | hi
  ·rw [List.getElem?_append_left (by omega)] at hd hy;exact hE.out (νr _) hkeep (h3 i d y hd hy)
  ·rw [List.getElem?_append_right (by omega)] at hd hy;rw [h1] at hd;exact hE.out (νr _) hkeep (k3 _ d y hd hy)
 ·rw [κa, List.flatten_append];exact ho
def I64E : Enc Int := fun _ _ c x => c = [.int .i64 x]
theorem I64E.keep : EKeep I64E := ⟨fun _ _ h => h⟩
def TkO : Enc Tk := fun w base c t => match t with
 | .op => c = [.int .u8 1, .string ⟨#[]⟩, .bool false, .slice none 0 0, .bool false, .slice none 0 0]
 | .cl => c = [.int .u8 2, .string ⟨#[]⟩, .bool false, .slice none 0 0, .bool false, .slice none 0 0]
 | .wd y => c = [.int .u8 3, .string (bstr y), .bool false, .slice none 0 0, .bool false, .slice none 0 0]
 | .nm n => ∃ a0 a1, c = [.int .u8 4, .string ⟨#[]⟩, a0, a1, .bool false, .slice none 0 0] ∧ N1 w base a0 a1 n
theorem TkO.own : EOwn TkO [192] := ⟨fun {w w' base base' c x} hb hk h => by
 cases x with
 | op => exact h
 | cl => exact h
 | wd y => exact h
 | nm n => obtain ⟨a0, a1, h1, h2⟩ := h; exact ⟨a0, a1, h1, h2.keep hb hk⟩⟩
theorem TkO.six {w : World} {base : Nat} {c : List Value} {t : Tk} (h : TkO w base c t) : c.length = 6 ∧ ∀ u ∈ c, u.oneCell' = true := by
 cases t with
 | op => replace h : c = _ := h; subst h; exact ⟨rfl, by simp [Value.oneCell']⟩
 | cl => replace h : c = _ := h; subst h; exact ⟨rfl, by simp [Value.oneCell']⟩
 | wd y => replace h : c = _ := h; subst h; exact ⟨rfl, by simp [Value.oneCell']⟩
 | nm n =>
  obtain ⟨a0, a1, rfl, h2⟩ := h;obtain ⟨ng, A, k, c, rfl, rfl⟩ := h2.form;exact ⟨rfl, by simp [Value.oneCell']⟩
def gD (w : World) (l : List Tk) (e : Ending) (w' : World) : Prop := ∃ v, e = .returned v ∧ RowO TkO 87 6 w' w v l ∧ Below w w w'
theorem gD.of {w w' : World} {l : List Tk} {v : Value} (h : RowO TkO 87 6 w' w v l) (hb : Below w w w') : gD w l (.returned v) w' := ⟨v, rfl, h, hb⟩
theorem uX : (Tryz.prog.info? 87).map (fun i => (i.zero, i.size, i.bytes)) = some (some (.agg #[.int .u8 0, .string ⟨#[]⟩, .bool false, .slice none 0 0, .bool false, .slice none 0 0]), 6, 88) := by kernel_rfl
theorem RowO.lit2 (y : Bytes) (w : World) : RowO TkO 87 6 (w.alloc (.cells #[.int .u8 1, .string ⟨#[]⟩, .bool false, .slice none 0 0, .bool false, .slice none 0 0, .int .u8 3, .string (bstr y), .bool false, .slice none 0 0, .bool false, .slice none 0 0] 87)) w (.slice (some ⟨w, 0, none⟩) 2 2) [.op, .wd y] := by
 refine ⟨[[.int .u8 1, .string ⟨#[]⟩, .bool false, .slice none 0 0, .bool false, .slice none 0 0], [.int .u8 3, .string (bstr y), .bool false, .slice none 0 0, .bool false, .slice none 0 0]], rfl, fun c hc => ?_, fun i c x hc hx => ?_, rfl, .inr ⟨w, 2, _, rfl, νr _, heap_alloc_new w _, νr _, by unfold maxLen; omega, rfl, rfl⟩⟩
 ·simp at hc; rcases hc with rfl | rfl <;> rfl
 ·rcases i with _ | _ | i
  ·simp at hc hx; subst hc; subst hx; rfl
  ·simp at hc hx; subst hc; subst hx; rfl
  ·simp at hx
theorem vI (y : Bytes) (A : Option Addr) (c : Nat) (l : List Int) (w : World) (hl : RowR I64E 1 w w A l) (hn : l.length ≤ 1000) (hr : ∀ x ∈ l, -4294967296 < x ∧ x < 4294967296) :
  Calls Tryz.prog 64 #[.string (bstr y), .slice A l.length c] w (gD w (.op :: .wd y :: l.map .nm)) := by
 obtain ⟨i0, hi, hz0, hz1, hz2⟩ := info_parts uX;have HL := η hl;have HRG := η hr;clear hl hr;go_enter Tryz.func64, Tryz.ntmps64;go_wp2_with fail;go_loopg [5, 7, 14] l.length (fun g s5 s7 s14 wr => ∃ (k : Nat), k + g = l.length ∧ s14 = .int .i64 (k : Int) ∧ RowO TkO 87 6 wr w s5 (.op :: .wd y :: (l.take k).map .nm) ∧ Below w w wr)
 case atStart =>
  refine ⟨0, by omega, rfl, ?_, βA _⟩;exact RowO.lit2 y w
 case round =>
  obtain ⟨k, hkg, rfl, hrow, hbl⟩ := hrel;have HB := η hbl;have HR := η hrow;clear hbl hrow;cases gk with
  | zero =>
   obtain rfl : k = l.length := by omega
   clear hkg;go_wp2_with fail;go_ret;have := HR.out;rw [List.take_length] at this;exact gD.of this HB.out
  | succ g =>
   have hk : k < l.length := by omega
   have HG := η hkg;clear hkg;obtain ⟨b, off, cc, rfl, hb, hc1, hc2, hc3⟩ := (HL.out.up I64E.keep HB.out).at_ k 0 hk;replace hc2 : cc = _ := hc2;subst hc2;have f0 := hc3 0 _ rfl;rw [Nat.mul_one, κz] at f0;have hx := HRG.out (l.getD k 0) (by rw [zM l k 0 hk]; exact List.getElem_mem hk);have HT : Hid (l.take (k + 1) = l.take k ++ [l.getD k 0]) := by show _ = _; rw [κs hk, zM l k 0 hk]
   generalize hxx : l.getD k 0 = x at *;have HXX := η hxx;have KQ := η (pD x wr hx.1 hx.2);clear hc1 hc3 hb hx hxx;go_wp2_with fail;refine KQ.out.mono ?_;rintro e w1 ⟨a0, a1, rfl, hv, hb1⟩;obtain ⟨ng, A', k', c', rfl, rfl⟩ := hv.form;have hz : w ≤ wr.heap.size := HB.out.size;have HR1 := η (HR.out.below TkO.own hb1);have HB1 := η (HB.out.trans (hb1.mono hz));have HN := η (hv.mono (base' := w) hz);clear HR HB hb1 hv KQ;obtain ⟨acc, hacc⟩ : ∃ acc, acc = Tk.op :: .wd y :: (l.take k).map .nm := ⟨_, rfl⟩;have hlen : acc.length = k + 2 := by rw [hacc]; simp; omega
   have HAC := η hacc;rw [← hacc] at HR1;clear hacc;obtain ⟨raws, r1, r2, r3, hown⟩ := HR1.out;have hzw : w ≤ w1.heap.size := HB1.out.size;have R1 := η r1;have R2 := η r2;have R3 := η r3;clear r1 r2 r3;go_wp2_with (at_builtin; refine wpList_append_own _ rfl _ _ 124 rfl w 87 i0 _ 6 88 Tryz.underlying124 hi hz0 hz1 hz2 rfl (by decide) _ _ _ rfl (hown.alloc _) ⟨w1, 0, none⟩ 1 1 [.int .u8 4, .string ⟨#[]⟩, .bool ng, .slice A' k' c', .bool false, .slice none 0 0] rfl rfl (zZ _ _ _) (by simp [Value.oneCell']) (by unfold maxLen; omega) (by omega) (by simp; omega) ?_; intro v' w3 hown' hgrow _);have hgz : (w1.alloc _).heap.size ≤ w3.heap.size := hgrow.size;have HR3 : Hid (RowO TkO 87 6 w3 w v' (acc ++ [.nm x])) := by
    show RowO _ _ _ _ _ _ _
    refine RowO.onto TkO.own (by decide) R1.out R2.out (fun i c y h1 h2 => TkO.own.up (R3.out i c y h1 h2) (βA _)) (hown.alloc _) (raws2 := [[.int .u8 4, .string ⟨#[]⟩, .bool ng, .slice A' k' c', .bool false, .slice none 0 0]]) rfl (fun c hc => by simp at hc; subst hc; rfl) (fun i c y hc hy => ?_) hgrow (by simpa using hown');rcases i with _ | i
    ·simp at hc hy;subst hc;subst hy;exact ⟨_, _, rfl, HN.out.below (βA _)⟩
    ·simp at hc
   have HB3 := η (HB1.out.trans (zH hown hzw hgrow));clear hgrow hown' hown R1 R2 R3 HR1 HB1 HN;go_wp2_with fail;go_roundg g
   case measure => omega
   case rel =>
    refine ⟨k + 1, by have := HG.out; omega, by go_num, ?_, HB3.out⟩;have := HR3.out;rw [HAC.out] at this;rw [HT.out];simpa using this
end Go.Proofs.YtkfhpefmmhljmaaGreatDoor
