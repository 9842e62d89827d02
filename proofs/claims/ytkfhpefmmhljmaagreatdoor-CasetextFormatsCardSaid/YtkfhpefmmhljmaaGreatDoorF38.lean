/- Texts in one: FmC, FmJ. -/
import Derived.Test.YtkfhpefmmhljmaaGreatDoorF37
set_option linter.unusedVariables false
set_option linter.unusedSimpArgs false
set_option maxHeartbeats 16000000
set_option maxRecDepth 100000
namespace Go.Proofs.YtkfhpefmmhljmaaGreatDoor
open Go.RowKit
def setL : List Value → Nat → List Value → List Value
 | xs, _, [] => xs
 | xs, o, v :: vs => setL (xs.set o v) (o + 1) vs
theorem iI : ∀ (vs xs : List Value) (o : Nat), o + vs.length ≤ xs.length → setL xs o vs = xs.take o ++ vs ++ xs.drop (o + vs.length) := by
 intro vs
 induction vs with
 | nil => intro xs o _; simp [setL]
 | cons v vs ih =>
  intro xs o h;simp at h;have hl : (xs.take o).length = o := by rw [κk]; omega
  have hs : xs.set o v = xs.take o ++ v :: xs.drop (o + 1) := by rw [List.set_eq_take_append_cons_drop, if_pos (by omega)]
  rw [setL, ih _ _ (by simp; omega), hs];have e1 : (xs.take o ++ v :: xs.drop (o + 1)).take (o + 1) = xs.take o ++ [v] := by
   rw [List.take_append, hl, κy (by omega), Nat.add_sub_cancel_left, List.take_succ_cons, List.take_zero]
  have e2 : (xs.take o ++ v :: xs.drop (o + 1)).drop (o + 1 + vs.length) = xs.drop (o + (vs.length + 1)) := by
   rw [List.drop_append, hl, List.drop_of_length_le (by omega), List.nil_append, show o + 1 + vs.length - o = vs.length + 1 by omega, List.drop_succ_cons, List.drop_drop]
   congr 1
   omega
  rw [e1, e2];simp
theorem yS {n : Nat} {raws : List (List Value)} (h : ∀ c ∈ raws, c.length = n) : ∀ k, k ≤ raws.length → raws.flatten.take (k * n) = (raws.take k).flatten ∧ raws.flatten.drop (k * n) = (raws.drop k).flatten := by
 induction raws with
 | nil => intro k hk; simp at hk; subst hk; simp
 | cons a r ih =>
  intro k hk;cases k with
  | zero => simp
  | succ k =>
   have ha := h a (by simp);have := ih (fun c hc => h c (by simp [hc])) k (by simpa using hk);have e : (k + 1) * n = n + k * n := by rw [Nat.succ_mul, Nat.add_comm]
   rw [List.flatten_cons, e, List.take_succ_cons, List.drop_succ_cons, List.flatten_cons, ← this.1, ← this.2];constructor
   ·rw [List.take_append, ha, κy (show a.length ≤ n + k * n by omega), Nat.add_sub_cancel_left]
   ·rw [List.drop_append, ha, List.drop_of_length_le (show a.length ≤ n + k * n by omega), Nat.add_sub_cancel_left, List.nil_append]
theorem mL {n : Nat} {raws : List (List Value)} (h : ∀ c ∈ raws, c.length = n) {k : Nat} (hk : k < raws.length) {c : List Value} (hc : c.length = n) : setL raws.flatten (k * n) c = (raws.set k c).flatten := by
 have hl := gH h;have h1 : (k + 1) * n ≤ raws.length * n := Nat.mul_le_mul_right _ (by omega);rw [Nat.succ_mul] at h1;rw [iI c _ _ (by rw [hl, hc]; omega), (yS h k (by omega)).1, hc, ← Nat.succ_mul, (yS h (k + 1) (by omega)).2, List.set_eq_take_append_cons_drop, if_pos hk, List.flatten_append, List.flatten_cons, κq]
theorem sH {base : Nat} {e : TypeId} {size g m cap : Nat} : ∀ (vs : List Value) (w : World) (o : Nat) (xs : List Value), w.ownsRow base e size (.slice (some ⟨g, 0, none⟩) m cap) m xs →
  (w.setCells g o vs).ownsRow base e size (.slice (some ⟨g, 0, none⟩) m cap) m (setL xs o vs) ∧ w.grownBy (w.setCells g o vs) (some g) := by
 intro vs
 induction vs with
 | nil => intro w o xs h; exact ⟨h, World.grownBy.refl _ _⟩
 | cons v vs ih =>
  intro w o xs h;obtain ⟨h1, h2⟩ := h.stored o v;obtain ⟨h3, h4⟩ := ih _ (o + 1) _ h1;exact ⟨h3, zB h2 h4⟩
theorem RowO.put {α : Type} {E : Enc α} {ts : List TypeId} {t : TypeId} {n : Nat} {w : World} {base g m cap : Nat} {l : List α} {c : List Value} {x : α} {k : Nat} (hE : EOwn E ts) (ht : t ∉ ts)
  (h : RowO E t n w base (.slice (some ⟨g, 0, none⟩) m cap) l) (hm : m = l.length) (hk : k < l.length) (hc : c.length = n) (hx : E w base c x) :
  RowO E t n (w.setCells g (k * n) c) base (.slice (some ⟨g, 0, none⟩) m cap) (l.set k x) ∧ w.grownBy (w.setCells g (k * n) c) (some g) := by
 subst hm;obtain ⟨raws, h1, h2, h3, h4⟩ := h;obtain ⟨h5, h6⟩ := sH c w (k * n) _ h4;rw [mL h2 (by omega) hc] at h5;have hkeep : ∀ j, base ≤ j → kH ts w j → (w.setCells g (k * n) c).heap[j]? = w.heap[j]? := fun j hj ⟨t', ht', cur, fz, hcur⟩ => by
  have hlt := (κi hcur).1;refine h6.block j hlt ?_;intro e;have : j = g := by have := Option.some.inj e; omega
  subst this;rcases h4.2 with ⟨h, _⟩ | ⟨g', cap', cur', h, _, hg, _⟩
  ·cases h
  ·injection h with h _ _
   injection h with h
   injection h with h _ _
   subst h;rw [hcur] at hg;injection hg with hg
   injection hg with _ h7
   exact ht (h7 ▸ ht')
 refine ⟨⟨raws.set k c, by simp [h1], fun d hd => ?_, fun i d y hd hy => ?_, by rw [List.length_set]; exact h5⟩, h6⟩
 ·rcases List.mem_or_eq_of_mem_set hd with hd | rfl
  ·exact h2 d hd
  ·exact hc
 ·by_cases hi : k = i
  ·subst hi;rw [List.getElem?_set_self (by omega)] at hd;rw [List.getElem?_set_self hk] at hy;injection hd with hd
   injection hy with hy
   subst hd;subst hy;exact hE.out (νr _) hkeep hx
  ·rw [List.getElem?_set_ne hi] at hd hy;exact hE.out (νr _) hkeep (h3 i d y hd hy)
theorem RowO.map {α β : Type} {E : Enc α} {E' : Enc β} {t : TypeId} {n : Nat} {w : World} {base : Nat} {v : Value} {l : List β} (f : β → α) (hE : ∀ c x, E w base c (f x) → E' w base c x) (h : RowO E t n w base v (l.map f)) : RowO E' t n w base v l := by
 obtain ⟨raws, h1, h2, h3, h4⟩ := h;rw [List.length_map] at h1 h4;exact ⟨raws, h1, h2, fun i c x hc hx => hE c x (h3 i c (f x) hc (by rw [List.getElem?_map, hx]; rfl)), h4⟩
def TkZ : Enc (Option Tk) := fun w base c o => match o with
 | none => c = [.int .u8 0, .string ⟨#[]⟩, .bool false, .slice none 0 0, .bool false, .slice none 0 0]
 | some t => TkO w base c t
theorem TkZ.own : EOwn TkZ [192] := ⟨fun {w w' base base' c x} hb hk h => by
 cases x with
 | none => exact h
 | some t => exact TkO.own.out hb hk h⟩
theorem mK (n : Nat) (z : List Value) : ∀ k j : Nat, z.length = n → 0 < n → j < k * n → (List.replicate k z).flatten[j]? = z[j % n]? := by
 intro k
 induction k with
 | zero => intro j _ _ h; simp at h
 | succ k ih =>
  intro j hz hn hj;rw [List.replicate_succ, List.flatten_cons];rw [Nat.succ_mul] at hj;rcases Nat.lt_or_ge j n with h | h
  ·rw [List.getElem?_append_left (by omega), Nat.mod_eq_of_lt h]
  ·rw [List.getElem?_append_right (by omega), hz, ih (j - n) hz hn (by omega)];rw [Nat.mod_eq_sub_mod h]
theorem lB (Z : Array Value) (hZ : Z.size = 6) (n j : Nat) (h : j < n * 6) : (madeCells Z (n * 6)).toList[j]? = Z.toList[j % 6]? := by
 have hm : j % 6 < Z.size := by rw [hZ]; exact Nat.mod_lt _ (by decide)
 have e : (madeCells Z (n * 6)).toList[j]? = some (Z[j % Z.size]!) := by simp [madeCells, h]
 rw [e, hZ, getElem!_pos Z (j % 6) hm];simp
theorem RowO.made (w : World) (n : Nat) (hn : n ≤ 1000) : RowO TkZ 87 6 (w.alloc (.cells (madeCells (Value.agg #[.int .u8 0, .string ⟨#[]⟩, .bool false, .slice none 0 0, .bool false, .slice none 0 0]).cells (n * 6)) 87)) w (.slice (some ⟨w, 0, none⟩) n n) (List.replicate n none) := by
 refine ⟨List.replicate n [.int .u8 0, .string ⟨#[]⟩, .bool false, .slice none 0 0, .bool false, .slice none 0 0], by simp, fun c hc => ?_, fun i c x hc hx => ?_, ?_, .inr ⟨w, n, _, by simp, νr _, heap_alloc_new w _, by simp, by unfold maxLen; omega, size_madeCells _ _, ?_⟩⟩
 ·rw [(List.mem_replicate.1 hc).2]; rfl
 ·have h1 : i < n := by have := (List.getElem?_eq_some_iff.1 hc).1; simpa using this
  rw [List.getElem?_replicate_of_lt h1] at hc hx;injection hc with hc
  injection hx with hx
  subst hc;subst hx;rfl
 ·rw [List.length_flatten];simp
 ·rw [List.length_replicate, κy (by simp [madeCells])];apply List.ext_getElem?;intro j;rcases Nat.lt_or_ge j (n * 6) with h | h
  ·rw [mK 6 _ n j rfl (by decide) h, lB _ rfl n j h];rfl
  ·rw [List.getElem?_eq_none (by simp [madeCells]; omega), List.getElem?_eq_none (by rw [List.length_flatten]; simp; omega)]
theorem RowO.cell {α : Type} {E : Enc α} {t : TypeId} {n : Nat} {w : World} {base g m cap : Nat} {l : List α} (h : RowO E t n w base (.slice (some ⟨g, 0, none⟩) m cap) l) (k j : Nat) (hk : k < l.length) (hj : j < n) :
  (∃ v, w.cell? ⟨g, k * n + j, none⟩ = some v) ∧ w.frozen? ⟨g, k * n + j, none⟩ = false := by
 obtain ⟨raws, h1, h2, h3, h4⟩ := h;rcases h4.2 with ⟨h, _⟩ | ⟨g', cap', cur', h, _, hg, hc, _, hs, _⟩
 ·cases h
 ·injection h with h _ _
  injection h with h
  injection h with h _ _
  subst h;have : (k + 1) * n ≤ cap' * n := Nat.mul_le_mul_right _ (by omega);rw [Nat.succ_mul] at this;have hlt : k * n + j < cur'.size := by omega
  exact ⟨⟨cur'[k * n + j], by rw [Lib.cell_of_heap hg]; simp [hlt]⟩, Lib.frozen_of_heap hg _⟩
theorem kB (A : Option Addr) (c : Nat) (l : List Int) (w : World) (hl : RowR I64E 1 w w A l) (hn : l.length ≤ 1000) (hr : ∀ x ∈ l, -4294967296 < x ∧ x < 4294967296) :
  Calls Tryz.prog 66 #[.slice A l.length c] w (gD w (l.map .nm)) := by
 obtain ⟨i0, hi, hz0, hz1, hz2⟩ := info_parts uX;have hmk : ∀ W : World, (Instr.makeSlice 124 (.int .i64 (l.length : Int)) (.int .i64 (l.length : Int))).run Tryz.prog W = .ok (.slice (some ⟨W, 0, none⟩) l.length l.length) (W.alloc (.cells (madeCells (Value.agg #[.int .u8 0, .string ⟨#[]⟩, .bool false, .slice none 0 0, .bool false, .slice none 0 0]).cells (l.length * 6)) 87)) := fun W => by
  have := run_make (P := Tryz.prog) W 124 87 i0 _ Tryz.underlying124 hi hz0 .i64 .i64 l.length l.length (by omega) (Int.le_refl _) (by rw [hz2]; omega) (by omega);rw [hz1] at this;simpa using this
 have HL := η hl;have HRG := η hr;clear hl hr hi hz0 hz1 hz2;go_enter Tryz.func66, Tryz.ntmps66;go_wp2_with fail;have hrow0 := RowO.made w l.length hn;go_loopg [4, 5, 11] l.length (fun g s4 s5 s11 wr => ∃ (k : Nat), k + g = l.length ∧ s11 = .int .i64 (k : Int) ∧ RowO TkZ 87 6 wr w (.slice (some ⟨w, 0, none⟩) l.length l.length) ((l.take k).map (fun x => some (.nm x)) ++ List.replicate g none) ∧ Below w w wr)
 case atStart => exact ⟨0, by omega, rfl, hrow0, βA _⟩
 case round =>
  clear hrow0;obtain ⟨k, hkg, rfl, hrow, hbl⟩ := hrel;have HB := η hbl;have HR := η hrow;clear hbl hrow;cases gk with
  | zero =>
   obtain rfl : k = l.length := by omega
   clear hkg;go_wp2_with fail;go_ret;have := HR.out;rw [List.take_length, List.replicate_zero, κp, show l.map (fun x => some (Tk.nm x)) = (l.map Tk.nm).map some by simp] at this;exact gD.of (this.map (E' := TkO) some (fun _ _ h => h)) HB.out
  | succ g =>
   have hk : k < l.length := by omega
   have HG := η hkg;clear hkg;obtain ⟨b, off, cc, rfl, hb, hc1, hc2, hc3⟩ := (HL.out.up I64E.keep HB.out).at_ k 0 hk;replace hc2 : cc = _ := hc2;subst hc2;have f0 := hc3 0 _ rfl;rw [Nat.mul_one, κz] at f0;have hx := HRG.out (l.getD k 0) (by rw [zM l k 0 hk]; exact List.getElem_mem hk);have HT : Hid (l.take (k + 1) = l.take k ++ [l.getD k 0]) := by show _ = _; rw [κs hk, zM l k 0 hk]
   generalize hxx : l.getD k 0 = x at *;have HXX := η hxx;have KQ := η (pD x wr hx.1 hx.2);clear hc1 hc3 hb hx hxx;go_wp2_with fail;refine KQ.out.mono ?_;rintro e w1 ⟨a0, a1, rfl, hv, hb1⟩;obtain ⟨ng, A', k', c', rfl, rfl⟩ := hv.form;have hz : w ≤ wr.heap.size := HB.out.size;have HR1 := η (HR.out.below TkZ.own hb1);have HB1 := η (HB.out.trans (hb1.mono hz));have HN := η (hv.mono (base' := w) hz);clear HR HB hb1 hv KQ;obtain ⟨acc, hacc⟩ : ∃ acc, acc = (l.take k).map (fun x => some (Tk.nm x)) ++ List.replicate (g + 1) none := ⟨_, rfl⟩;have hlen : acc.length = l.length := by rw [hacc]; have := HG.out; simp; omega
   have HAC := η hacc;have HLN := η hlen;rw [← hacc] at HR1;clear hacc;have hka : k < acc.length := by omega
   obtain ⟨⟨z0, q0⟩, t0⟩ := HR1.out.cell k 0 hka (by decide);obtain ⟨⟨z1, q1⟩, t1⟩ := HR1.out.cell k 1 hka (by decide);obtain ⟨⟨z2, q2⟩, t2⟩ := HR1.out.cell k 2 hka (by decide);obtain ⟨⟨z3, q3⟩, t3⟩ := HR1.out.cell k 3 hka (by decide);obtain ⟨⟨z4, q4⟩, t4⟩ := HR1.out.cell k 4 hka (by decide);obtain ⟨⟨z5, q5⟩, t5⟩ := HR1.out.cell k 5 hka (by decide);rw [κz] at q0 t0;clear hlen;go_wp2_with fail;rw [show ((((((w1.setCell ⟨w, k * 6, none⟩ (.int .u8 4)).setCell ⟨w, k * 6 + 1, none⟩ (.string ⟨#[]⟩)).setCell ⟨w, k * 6 + 2, none⟩ (.bool ng)).setCell ⟨w, k * 6 + 3, none⟩ (.slice A' k' c')).setCell ⟨w, k * 6 + 4, none⟩ (.bool false)).setCell ⟨w, k * 6 + 5, none⟩ (.slice none 0 0)) = w1.setCells w (k * 6) [.int .u8 4, .string ⟨#[]⟩, .bool ng, .slice A' k' c', .bool false, .slice none 0 0] from rfl];have hxx : TkZ w1 w [.int .u8 4, .string ⟨#[]⟩, .bool ng, .slice A' k' c', .bool false, .slice none 0 0] (some (.nm x)) := ⟨_, _, rfl, HN.out⟩;obtain ⟨hr3, hg3⟩ := RowO.put (c := [.int .u8 4, .string ⟨#[]⟩, .bool ng, .slice A' k' c', .bool false, .slice none 0 0]) (x := some (.nm x)) TkZ.own (by decide) HR1.out HLN.out.symm hka rfl hxx;have HR3 := η hr3;have HB3 : Hid (Below w w (w1.setCells w (k * 6) [.int .u8 4, .string ⟨#[]⟩, .bool ng, .slice A' k' c', .bool false, .slice none 0 0])) := zI HB1.out (νr _) _ _;clear hr3 hg3 hxx HR1 HB1 HN q0 q1 q2 q3 q4 q5 t0 t1 t2 t3 t4 t5;generalize w1.setCells w (k * 6) _ = w3 at *;go_wp2_with fail;go_roundg g
   case measure => omega
   case rel =>
    refine ⟨k + 1, by have := HG.out; omega, by go_num, ?_, HB3.out⟩;have := HR3.out;have e : acc.set k (some (.nm x)) = (l.take (k + 1)).map (fun x => some (Tk.nm x)) ++ List.replicate g none := by
     have hl : ((l.take k).map (fun x => some (Tk.nm x))).length = k := by simp; omega
     rw [HAC.out, HT.out, List.set_append_right _ _ (by rw [hl]; exact νr _), hl, Nat.sub_self, List.replicate_succ, σo, List.map_append, κq];rfl
    rw [e] at this;exact this
def TxtB (B : Nat) (w : World) (t : Bytes) (e : Ending) (w' : World) : Prop := e = .returned (.tuple #[.string (bstr t), .int .i64 0]) ∧ Below B w w'
theorem kM (l : List St) : (l.flatMap stepT).length = l.length * 4 := by
 induction l with
 | nil => rfl
 | cons x l ih => rw [List.flatMap_cons, κa, ih, κc]; simp [stepT]; omega
theorem rB {w w' : World} {b : Nat} {vs : List Value} {row : Option Nat} (h : Box w b vs) (hg : w.grownBy w' row) (hb : b < w) (hne : row ≠ some b) : Box w' b vs := fun j hj => by
 have e := hg.block b hb (fun e => hne e.symm);exact ⟨(World.cell?_of_block e).trans (h j hj).1, (by simp only [World.frozen?, e]; exact (h j hj).2)⟩
theorem gB (y : Bytes) (B : Nat) (vf : Value) (fs : List Int) (A : Option Addr) (c : Nat) (l : List St) (w : World) (hf : RowO TkO 87 6 w B vf (fs.map .nm)) (hB : B ≤ w) (hs : RowR StE 2 w B A l) (hfn : fs.length ≤ 8) (hl3' : l.length ≤ 3)
  (hsm : ∀ t ∈ (Tk.op :: .wd y :: (fs.map .nm ++ (l.flatMap stepT ++ [.cl]))), TkSm t) (hst : ∀ s ∈ l, small s.1 ∧ small s.2) :
  Calls Tryz.prog 67 #[.string (bstr y), vf, .slice A l.length c] w (TxtB B w (fmtT (Tk.op :: .wd y :: (fs.map .nm ++ (l.flatMap stepT ++ [.cl]))))) := by
 obtain ⟨i0, hi, hy0, hy1, hy2⟩ := info_parts uX;have HS := η hs;have HLN := η hst;obtain ⟨TT, hTT⟩ : ∃ T, T = Tk.op :: .wd y :: (fs.map .nm ++ (l.flatMap stepT ++ [.cl])) := ⟨_, rfl⟩;rw [← hTT] at hsm ⊢;have HSM := η hsm;have HTT := η hTT;clear hs hst hsm hTT;have HR0 : Hid (RowO TkO 87 6 (w.alloc (.cells #[.int .u8 1, .string ⟨#[]⟩, .bool false, .slice none 0 0, .bool false, .slice none 0 0, .int .u8 3, .string (bstr y), .bool false, .slice none 0 0, .bool false, .slice none 0 0] 87)) B (.slice (some ⟨w, 0, none⟩) 2 2) [.op, .wd y]) := (RowO.lit2 y w).mono TkO.own hB;have HF0 := η (hf.below TkO.own (w' := (w.alloc (.cells #[.int .u8 1, .string ⟨#[]⟩, .bool false, .slice none 0 0, .bool false, .slice none 0 0, .int .u8 3, .string (bstr y), .bool false, .slice none 0 0, .bool false, .slice none 0 0] 87))) (βA _));have HB0 : Hid (Below B w (w.alloc (.cells #[.int .u8 1, .string ⟨#[]⟩, .bool false, .slice none 0 0, .bool false, .slice none 0 0, .int .u8 3, .string (bstr y), .bool false, .slice none 0 0, .bool false, .slice none 0 0] 87))) := (Below.refl _ _).alloc hB _;have hz0 : B ≤ (w.alloc (.cells #[.int .u8 1, .string ⟨#[]⟩, .bool false, .slice none 0 0, .bool false, .slice none 0 0, .int .u8 3, .string (bstr y), .bool false, .slice none 0 0, .bool false, .slice none 0 0] 87)).heap.size := by simp; omega
 obtain ⟨a2, ha2⟩ : ∃ a, a = [Tk.op, .wd y] := ⟨_, rfl⟩;rw [← ha2] at HR0;have hl2 : a2.length ≤ 2 := by rw [ha2]; exact νr _
 obtain ⟨fl, hfl⟩ : ∃ a, a = fs.map Tk.nm := ⟨_, rfl⟩;rw [← hfl] at HF0;have hl3 : fl.length ≤ 8 := by rw [hfl]; simpa using hfn
 have HA2 := η ha2;have HFL := η hfl;rw [← hfl] at hf;obtain ⟨Af, cf, rfl⟩ := kN hf;clear hf ha2 hfl hfn;go_enter Tryz.func67, Tryz.ntmps67;obtain ⟨raws, r1, r2, r3, hown⟩ := HR0.out;have R1 := η r1;have R2 := η r2;have R3 := η r3;obtain ⟨raws2, s1, s2, s3, hown2⟩ := HF0.out;have S1 := η s1;have S2 := η s2;have S3 := η s3;clear r1 r2 r3 s1 s2 s3;go_upto_region 3 with (at_builtin; refine qX _ rfl _ _ 124 rfl (B) 87 i0 _ 6 88 Tryz.underlying124 hi hy0 hy1 hy2 rfl (by decide) _ _ _ rfl hown Af (fl).length cf raws2.flatten rfl (pZ hown2) (uF S1.out S3.out) (by unfold maxLen; omega) (by omega) (by omega) ?_; intro v' w1 hown' hgrow _)
 have HR1 := η (RowO.onto (l := a2) (l2 := fl) TkO.own (by decide) R1.out R2.out R3.out hown S1.out S2.out S3.out hgrow hown');have HB1 := η (HB0.out.trans ((yL hown hz0 hgrow).mono (by omega)));have hz_w1 := hgrow.size;clear hown' hgrow hown hown2 R1 R2 R3 S1 S2 S3 HR0 HF0 HB0;have hz1 : B ≤ w1 := by simp at hz_w1; omega
 have HS1 := η (HS.out.keep StE.keep (fun p hp => HB1.out.cell hp) (νr _));obtain ⟨a3, ha3⟩ : ∃ a, a = a2 ++ fl := ⟨_, rfl⟩;rw [← ha3] at HR1;have hl4 : a3.length ≤ 10 := by rw [ha3, κa]; omega
 have HA3 : Hid (a3 = Tk.op :: .wd y :: fs.map Tk.nm) := by show _ = _; rw [ha3, HA2.out, HFL.out]; rfl
 clear ha3 HA2 HFL hl2 hl3;go_wp2_with fail;go_loopg [8, 20] l.length (fun gk s8 s20 wr => ∃ k : Nat, k + gk = l.length ∧ s20 = .int .i64 (k : Int) ∧ RowO TkO 87 6 wr B s8 (a3 ++ (l.take k).flatMap stepT) ∧ Below B w wr ∧ B ≤ wr)
 case atStart => exact ⟨0, by omega, rfl, by simpa using HR1.out, HB1.out, hz1⟩
 case round =>
  obtain ⟨k, hkg, rfl, hrow, hbl, hzr⟩ := hrel;have HR := η hrow;have HB := η hbl;clear hrow hbl HR1 HB1 HS1;cases gk with
  | zero =>
   obtain rfl : k = l.length := by omega
   clear hkg;rw [List.take_length] at HR;obtain ⟨acc, hacc⟩ : ∃ acc, acc = a3 ++ l.flatMap stepT := ⟨_, rfl⟩;rw [← hacc] at HR;have hlen : acc.length ≤ 100 := by rw [hacc, κa, kM]; omega
   have HNT : Hid (acc ++ [.cl] = TT) := by show _ = _; rw [hacc, HA3.out, HTT.out]; simp
   clear hacc;obtain ⟨raws, r1, r2, r3, hown⟩ := HR.out;have R1 := η r1;have R2 := η r2;have R3 := η r3;have HX1 := η (show TkO wr B _ .cl from rfl);clear r1 r2 r3;go_upto_region 11 with (at_builtin; refine wpList_append_own _ rfl _ _ 124 rfl (B) 87 i0 _ 6 88 Tryz.underlying124 hi hy0 hy1 hy2 rfl (by decide) _ _ _ rfl (hown.alloc _) ⟨wr, 0, none⟩ 1 1 [.int .u8 2, .string ⟨#[]⟩, .bool false, .slice none 0 0, .bool false, .slice none 0 0] rfl rfl (zZ _ _ _) (by simp [Value.oneCell']) (by unfold maxLen; omega) (by omega) (by simp; omega) ?_; intro v' w3 hown' hgrow _)
   have HR3 := η (xD (acc := acc) (t := .cl) R1.out R2.out R3.out hown HX1.out hgrow (by simpa using hown'));have HB3 := η (HB.out.trans ((zH hown hzr hgrow).mono (by omega)));have hz_w3 := hgrow.size
   (try simp at hz_w3)
   clear hown' hgrow hown R1 R2 R3 HX1 HR HB;rw [HNT.out] at HR3;obtain ⟨A3, c3, rfl⟩ := kN HR3.out;have KF := η (jY B A3 c3 TT w3 HR3.out (fun t ht => (HSM.out t ht).wf) (kW HSM.out (by rw [← HNT.out]; simp; omega)) (by rw [← HNT.out]; simp; omega));go_wp2_with fail;refine KF.out.mono ?_;rintro e w4 ⟨rfl, hb4⟩;have HB4 := η (HB3.out.trans (hb4.mono (by omega)));clear KF HR3 HB3 hb4;go_wp2_with fail;go_ret2;exact ⟨rfl, HB4.out⟩
  | succ g =>
   have hk : k < l.length := by omega
   have HG := η hkg;clear hkg;have hsr := HS.out.keep StE.keep (fun p hp => HB.out.cell hp) (νr _);obtain ⟨b, off, cc, rfl, hb, hc1, hc2, hc3⟩ := hsr.at_ k (0, 0) hk;replace hc2 : cc = _ := hc2;subst hc2;have hbw : b < wr := by omega
   have f0 := hc3 0 _ rfl;have f1 := hc3 1 _ rfl;rw [κz] at f0;have HSL := η (HLN.out (l.getD k (0, 0)) (by rw [zM l k _ hk]; exact List.getElem_mem hk));have HT : Hid (l.take (k + 1) = l.take k ++ [l.getD k (0, 0)]) := by show _ = _; rw [κs hk, zM l k _ hk]
   generalize hxx : l.getD k (0, 0) = x at *;have HXX := η hxx;clear hc1 hc3 hxx hsr;have HXB : Hid (Box (wr.alloc (.cells #[.int .i64 x.1, .int .i64 x.2] 205)) wr [.int .i64 x.1, .int .i64 x.2]) := Box.new wr #[.int .i64 x.1, .int .i64 x.2] _;have HB5 : Hid (Below B w (wr.alloc (.cells #[.int .i64 x.1, .int .i64 x.2] 205))) := HB.out.alloc hzr _;have HR5 := η (HR.out.below TkO.own (w' := (wr.alloc (.cells #[.int .i64 x.1, .int .i64 x.2] 205))) (βA _));have hz5 : B ≤ (wr.alloc (.cells #[.int .i64 x.1, .int .i64 x.2] 205)).heap.size := by simp; omega
   obtain ⟨acc, hacc⟩ : ∃ acc, acc = a3 ++ (l.take k).flatMap stepT := ⟨_, rfl⟩;rw [← hacc] at HR5 HR;have hlen : acc.length ≤ 100 := by have h1 := kM (l.take k); rw [κk] at h1; rw [hacc, κa]; omega
   have HAC : Hid (acc ++ [.op] ++ [.nm x.1, .nm x.2] ++ [.cl] = a3 ++ (l.take (k + 1)).flatMap stepT) := by show _ = _; rw [hacc, HT.out, List.flatMap_append]; simp [stepT]
   have hnb : u8.ownBlock ≠ some wr.heap.size := by
    obtain ⟨_, _, _, _, ho⟩ := HR.out;exact jN ho (.inr (νr _))
   clear hacc HR HB;have hzb : wr < (wr.alloc (.cells #[.int .i64 x.1, .int .i64 x.2] 205)).heap.size := by simp
   go_upto_region 6 with fail
   generalize (wr.alloc (.cells #[.int .i64 x.1, .int .i64 x.2] 205)) = w5 at *;obtain ⟨raws, r1, r2, r3, hown⟩ := HR5.out;have R1 := η r1;have R2 := η r2;have R3 := η r3;clear r1 r2 r3;go_upto_region 7 with (at_builtin; refine wpList_append_own _ rfl _ _ 124 rfl B 87 i0 _ 6 88 Tryz.underlying124 hi hy0 hy1 hy2 rfl (by decide) _ _ _ rfl (hown.alloc _) ⟨w5, 0, none⟩ 1 1 [.int .u8 1, .string ⟨#[]⟩, .bool false, .slice none 0 0, .bool false, .slice none 0 0] rfl rfl (zZ _ _ _) (by simp [Value.oneCell']) (by unfold maxLen; omega) (by omega) (by simp; omega) ?_; intro v6 w6 hown' hgrow _)
   have HR6 := η (xD (acc := acc) (t := .op) (cells := [.int .u8 1, .string ⟨#[]⟩, .bool false, .slice none 0 0, .bool false, .slice none 0 0]) R1.out R2.out R3.out hown rfl hgrow (by simpa using hown'));have HB6 := η (HB5.out.trans (zH hown hz5 hgrow));have HX6 := η (rB (HXB.out.alloc hzb _) hgrow (by simp; omega) hnb);have hz_w6 := hgrow.size;simp at hz_w6;clear hown' hgrow hown R1 R2 R3 HR5 HB5 HXB hnb;have hz6 : B ≤ w6 := by omega
   have hzx : wr < w6.heap.size := by omega
   obtain ⟨q0, s0, q1, s1⟩ := sqX2 HX6.out;have HXL := η (RowR.lit64 w6 2 [x.1, x.2] #[.int .i64 x.1, .int .i64 x.2] rfl);have KG := η (kB (some ⟨w6, 0, none⟩) 2 [x.1, x.2] (w6.alloc (.cells #[.int .i64 x.1, .int .i64 x.2] 2)) HXL.out (by simp) (fun y hy => by have := HSL.out; unfold small at this; simp at hy; omega));go_wp2_with fail;refine KG.out.mono ?_;rintro e w7 ⟨v7, rfl, hrow7, hb7⟩;have hz7 : B ≤ w7 := Nat.le_trans (by simp; omega) hb7.size;have HR7 := η ((HR6.out.below TkO.own (w' := (w6.alloc (.cells #[.int .i64 x.1, .int .i64 x.2] 2))) (βA _)).below TkO.own hb7);have HB7 := η ((HB6.out.alloc hz6 (.cells #[.int .i64 x.1, .int .i64 x.2] 2)).trans (hb7.mono (by simp; omega)));have HS7 := η (hrow7.mono TkO.own (base' := B) (by simp; omega));clear hrow7 hb7 HR6 HB6 KG HXL HX6 f0 f1 q0 q1 s0 s1;obtain ⟨ac2, hac2⟩ : ∃ a, a = acc ++ [Tk.op] := ⟨_, rfl⟩;obtain ⟨l2, hl2⟩ : ∃ l2, l2 = [x.1, x.2].map Tk.nm := ⟨_, rfl⟩;rw [← hac2] at HR7 HAC;rw [← hl2] at HS7;rw [show [Tk.nm x.1, Tk.nm x.2] = l2 from hl2.symm] at HAC;have hlen2 : l2.length ≤ 2 := by rw [hl2]; exact νr _
   have hlen3 : ac2.length ≤ 101 := by rw [hac2]; simp; omega
   obtain ⟨A7, c7, rfl⟩ := kN HS7.out;clear hac2 hl2 hlen;obtain ⟨raws, r1, r2, r3, hown⟩ := HR7.out;have R1 := η r1;have R2 := η r2;have R3 := η r3;obtain ⟨raws2, s1, s2, s3, hown2⟩ := HS7.out;have S1 := η s1;have S2 := η s2;have S3 := η s3;clear r1 r2 r3 s1 s2 s3;go_upto_region 8 with (at_builtin; refine qX _ rfl _ _ 124 rfl (B) 87 i0 _ 6 88 Tryz.underlying124 hi hy0 hy1 hy2 rfl (by decide) _ _ _ rfl hown A7 (l2).length c7 raws2.flatten rfl (pZ hown2) (uF S1.out S3.out) (by unfold maxLen; omega) (by omega) (by omega) ?_; intro v' w8 hown' hgrow _)
   have HR8 := η (RowO.onto (l := ac2) (l2 := l2) TkO.own (by decide) R1.out R2.out R3.out hown S1.out S2.out S3.out hgrow hown');have HB8 := η (HB7.out.trans ((yL hown hz7 hgrow).mono (by omega)));have hz_w8 := hgrow.size;clear hown' hgrow hown hown2 R1 R2 R3 S1 S2 S3 HR7 HS7 HB7;have hz8 : B ≤ w8 := by omega
   obtain ⟨ac3, hac3⟩ : ∃ a, a = ac2 ++ l2 := ⟨_, rfl⟩;rw [← hac3] at HR8 HAC;have hlen4 : ac3.length ≤ 103 := by rw [hac3]; simp; omega
   clear hac3 hlen2 hlen3;obtain ⟨raws, r1, r2, r3, hown⟩ := HR8.out;have R1 := η r1;have R2 := η r2;have R3 := η r3;have HX1 := η (show TkO w8 B _ .cl from rfl);clear r1 r2 r3;go_wp2_with (at_builtin; refine wpList_append_own _ rfl _ _ 124 rfl (B) 87 i0 _ 6 88 Tryz.underlying124 hi hy0 hy1 hy2 rfl (by decide) _ _ _ rfl (hown.alloc _) ⟨w8, 0, none⟩ 1 1 [.int .u8 2, .string ⟨#[]⟩, .bool false, .slice none 0 0, .bool false, .slice none 0 0] rfl rfl (zZ _ _ _) (by simp [Value.oneCell']) (by unfold maxLen; omega) (by omega) (by simp; omega) ?_; intro v' w9 hown' hgrow _);have HR9 := η (xD (acc := ac3) (t := .cl) R1.out R2.out R3.out hown HX1.out hgrow (by simpa using hown'));have HB9 := η (HB8.out.trans ((zH hown hz8 hgrow).mono (by omega)));have hz_w9 := hgrow.size
   (try simp at hz_w9)
   clear hown' hgrow hown R1 R2 R3 HX1 HR8 HB8;rw [HAC.out] at HR9;go_wp2_with fail;go_roundg g
   case measure => omega
   case rel => exact ⟨k + 1, by have := HG.out; omega, by go_num, HR9.out, HB9.out, by omega⟩
end Go.Proofs.YtkfhpefmmhljmaaGreatDoor
