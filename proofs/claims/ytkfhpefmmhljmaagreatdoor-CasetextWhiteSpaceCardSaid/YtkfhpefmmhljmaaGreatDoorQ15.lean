/- Texts in one: CtG, CtH. -/
import Derived.Test.YtkfhpefmmhljmaaGreatDoorQ14
set_option linter.unusedVariables false
set_option linter.unusedSimpArgs false
set_option maxRecDepth 100000
/- CtG -/
namespace Go.Proofs.YtkfhpefmmhljmaaGreatDoor
open Go.RowKit
set_option maxRecDepth 100000
def sgnI (neg : Bool) (n : Int) : Int := if neg then -n else n
theorem sgnI_zero (neg : Bool) : sgnI neg 0 = 0 := by cases neg <;> rfl
def NumR (w : World) (B : Nat) (v : Value) (n : Int) : Prop :=
 ∃ (neg : Bool) (A : Option Addr) (ws : List Int) (c : Nat), v = .agg #[.bool neg, .slice A ws.length c] ∧ ws.length ≤ c ∧ ws.length ≤ 1000000 ∧ WrdR w B A ws ∧ Words ws ∧ trimL ws = ws ∧ (ws = [] → neg = false) ∧ n = sgnI neg (wv ws)
section
variable {w w' : World} {B B' : Nat} {v : Value} {n : Int}
theorem NumR.below (h : NumR w B v n) (hb : Below B w w') : NumR w' B v n := by
 obtain ⟨neg, A, ws, c, h1, h2, h2', h3, h4⟩ := h;exact ⟨neg, A, ws, c, h1, h2, h2', h3.below hb, h4⟩
theorem NumR.more (h : NumR w B v n) (hB : B ≤ B') : NumR w B' v n := by
 obtain ⟨neg, A, ws, c, h1, h2, h2', h3, h4⟩ := h;exact ⟨neg, A, ws, c, h1, h2, h2', h3.more hB, h4⟩
theorem NumR.upto (h : NumR w w.heap.size v n) (hb : Below w.heap.size w w') : NumR w' w'.heap.size v n := (h.below hb).more hb.size
end
theorem WrdR.set {w : World} {B : Nat} {A : Option Addr} {xs : List Int} {p : Addr} {u : Value} (h : WrdR w B A xs) (hp : w.cell? p = some u) (hu : ∀ x, u ≠ .int .u32 x) (v : Value) : WrdR (w.setCell p v) B A xs := fun hn => by
 obtain ⟨b, off, e, hb, hc⟩ := h hn;refine ⟨b, off, e, hb, fun i hi => ?_⟩;rw [World.cell?_setCell_other _ _ _ _ (fun e => ?_)]
 ·exact hc i hi
 ·rw [e, hc i hi] at hp;injection hp with hp
  exact hu _ hp.symm
theorem size_set (w : World) (p : Addr) (v : Value) : (w.setCell p v).heap.size = w.heap.size := by
 have := (World.grownBy.refl w (some p.block));simp [World.setCell]
theorem NumR.set {w : World} {B : Nat} {v : Value} {n : Int} {p : Addr} {u : Value} (h : NumR w B v n) (hp : w.cell? p = some u) (hu : ∀ x, u ≠ .int .u32 x) (v' : Value) : NumR (w.setCell p v') B v n := by
 obtain ⟨neg, A, ws, c, h1, h2, h2', h3, h4⟩ := h;exact ⟨neg, A, ws, c, h1, h2, h2', h3.set hp hu v', h4⟩
theorem WrdR.sets {w : World} {B : Nat} {A : Option Addr} {xs : List Int} {b : Nat} {vs vs' : List Value} (h : WrdR w B A xs) (hx : Box w b vs) (hu : ∀ u ∈ vs, ∀ x, u ≠ .int .u32 x) (hl : vs'.length ≤ vs.length) : WrdR (w.setCells b 0 vs') B A xs := fun hn => by
 obtain ⟨bb, off, e, hb, hc⟩ := h hn;refine ⟨bb, off, e, hb, fun i hi => ?_⟩;rw [World.cell?_setCells_out _ _ _ _ _ (fun e _ => ?_)]
 ·exact hc i hi
 ·right;show 0 + vs'.length ≤ off + i
  have e' : bb = b := e;subst e';refine Nat.le_of_not_lt fun hlt => ?_
  have hj : off + i < vs.length := by omega
  have h1 := (hx _ hj).1;rw [hc i hi, List.getElem?_eq_getElem hj] at h1;injection h1 with h1
  exact hu _ (List.getElem_mem hj) _ h1.symm
theorem NumR.sets {w : World} {B : Nat} {v : Value} {n : Int} {b : Nat} {vs vs' : List Value} (h : NumR w B v n) (hx : Box w b vs) (hu : ∀ u ∈ vs, ∀ x, u ≠ .int .u32 x) (hl : vs'.length ≤ vs.length) : NumR (w.setCells b 0 vs') B v n := by
 obtain ⟨neg, A, ws, c, h1, h2, h2', h3, h4⟩ := h;exact ⟨neg, A, ws, c, h1, h2, h2', h3.sets hx hu hl, h4⟩
theorem NumR.alloc {w : World} {B : Nat} {v : Value} {n : Int} (h : NumR w B v n) (hB : B ≤ w.heap.size) (o : Obj) : NumR (w.alloc o) B v n := h.below ((Below.refl _ _).alloc hB _)
theorem NumR.zero (w : World) (B : Nat) : NumR w B (.agg #[.bool false, .slice none 0 0]) 0 :=
 ⟨false, none, [], 0, rfl, Nat.le_refl _, by simp, WrdR.nil_, (fun x h => by cases h), rfl, fun _ => rfl, rfl⟩
theorem trimL_idem (l : List Int) : trimL (trimL l) = trimL l := by
 refine snoc_ind (P := fun l => trimL (trimL l) = trimL l) rfl (fun l x ih => ?_) l;by_cases h : x = 0
 ·subst h; rw [trimL_snoc_zero]; exact ih
 ·rw [trimL_snoc l h, trimL_snoc l h]
theorem wv_pos {l : List Int} (hw : Words l) (ht : trimL l = l) (hn : l ≠ []) : 0 < wv l := by
 revert ht hn hw
 refine snoc_ind (P := fun l => Words l → trimL l = l → l ≠ [] → 0 < wv l) (fun _ _ h => absurd rfl h) (fun l x _ hw ht _ => ?_) l;have hx : x ≠ 0 := by
  intro h;subst h;rw [trimL_snoc_zero] at ht;have h1 := trimL_length l;rw [ht] at h1;simp at h1;omega
 have h0 := hw x (by simp);have h2 : 0 ≤ wv l := wv_nonneg (fun y hy => hw y (by simp [hy]));rw [wv_append];have h3 : wv [x] = x := by simp [wv]
 rw [h3];have h4 : 0 < (4294967296 : Int) ^ l.length * x := Int.mul_pos (Int.pow_pos (by decide)) (by omega);omega
def NumE (w : World) (n : Int) (e : Ending) (w' : World) : Prop := ∃ v, e = .returned v ∧ NumR w' w'.heap.size v n ∧ Below w.heap.size w w'
set_option maxHeartbeats 2000000 in
theorem build_any (neg : Bool) (A : Option Addr) (c : Nat) (l : List Int) (w : World) (h : WrdR w w.heap.size A l) (hl : l.length ≤ 1000000) (hc : l.length ≤ c) (hw : Words l) :
  Calls Tryz.prog 197 #[.bool neg, .slice A l.length c] w (NumE w (sgnI neg (wv l))) := by
 have K := Lib.hid fun W h => trim_any A c l W h hl hc
 have H := Lib.hid h;have HW := Lib.hid hw;clear h hw;have hb0 : Below w.heap.size w (w.alloc (.cells #[.bool false, .slice none 0 0] 83)) := (Below.refl _ _).alloc (Nat.le_refl _) _;have HB0 := Lib.hid hb0;have ht := trimL_length l;go_enter Tryz.func197, Tryz.ntmps197;go_wp2_with fail;refine (K.out _ (H.out.upto hb0)).mono ?_;rintro e w1 ⟨rfl, hb1⟩;have q0 : w1.cell? ⟨w.heap.size, 0, none⟩ = some (.bool false) := (hb1.cell (by simp)).trans (by simp);have q1 : w1.cell? ⟨w.heap.size, 1, none⟩ = some (.slice none 0 0) := (hb1.cell (by simp)).trans (by simp);have s0 : w1.frozen? ⟨w.heap.size, 0, none⟩ = false := (hb1.frozen (by simp)).trans (by simp);have s1 : w1.frozen? ⟨w.heap.size, 1, none⟩ = false := (hb1.frozen (by simp)).trans (by simp);have HB := Lib.hid (hb0.trans (hb1.mono (by simp)));clear hb1 hb0 K;by_cases hn : trimL l = []
 ·have e0 : (trimL l).length = 0 := by rw [hn]; rfl
  have hv : wv l = 0 := by rw [← wv_trim, hn]; rfl
  have e1 : sgnI neg (wv l) = 0 := by rw [hv, sgnI_zero]
  have E1 := Lib.hid e1;rw [e0];clear hn e0 e1 hv;go_wp2_with fail;refine bodyPost_ret (v := .agg #[.bool false, .slice none 0 0]) (by simp [results, Tryz.results197, go_sem, q0, q1]) rfl ⟨_, rfl, ?_, ?_⟩
  ·rw [E1.out];exact NumR.zero ((w1.setCell ⟨w.heap.size, 0, none⟩ (.bool false)).setCell ⟨w.heap.size, 1, none⟩ (.slice none 0 0)) ((w1.setCell ⟨w.heap.size, 0, none⟩ (.bool false)).setCell ⟨w.heap.size, 1, none⟩ (.slice none 0 0)).heap.size
  ·exact (HB.out.setCell (p := ⟨w.heap.size, 0, none⟩) (Nat.le_refl _) _).setCell (p := ⟨w.heap.size, 1, none⟩) (Nat.le_refl _) _
 ·have hp : 0 < (trimL l).length := List.length_pos_iff.2 hn;have t1 : (((trimL l).length : Nat) : Int) ≠ 0 := by omega
  have HN := Lib.hid hn;have HT : Hid (WrdR w1 w1.heap.size A (trimL l)) := (H.out.upto HB.out).trim;have e1 : (((trimL l).length : Int) == 0) = false := beq_eq_false_iff_ne.2 t1;clear hn;go_wp2_with fail;have HF := Lib.hid ((HB.out.setCell (p := ⟨w.heap.size, 0, none⟩) (Nat.le_refl _) (.bool neg)).setCell (p := ⟨w.heap.size, 1, none⟩) (Nat.le_refl _) (.slice A (trimL l).length c));exact bodyPost_ret (v := .agg #[.bool neg, .slice A (trimL l).length c]) (by simp [results, Tryz.results197, go_sem, q0, q1]) rfl ⟨_, rfl, ⟨neg, A, trimL l, c, rfl, by omega, by omega, (H.out.upto HF.out).trim, trimL_words HW.out, trimL_idem l, fun h => absurd h HN.out, by rw [wv_trim]⟩, HF.out⟩
theorem shr_low (x : Int) (h0 : 0 ≤ x) (h1 : x < 4294967296) : x / 4294967296 = 0 := by omega
theorem wv_one (x : Int) : wv [x] = x := by simp [wv]
theorem wv_two (x y : Int) : wv [x, y] = x + 4294967296 * y := by simp [wv]
theorem trimL_one {x : Int} (h : x ≠ 0) : trimL [x] = [x] := trimL_snoc [] h
theorem WrdR.lit (w : World) (t : TypeId) (xs : List Int) (cs : Array Value) (h : cs = (xs.map wV).toArray) : WrdR (w.alloc (.cells cs t)) (w.heap.size + 1) (some ⟨w.heap.size, 0, none⟩) xs := fun hn => by
 refine ⟨_, 0, rfl, by omega, fun i hi => ?_⟩;rw [cell_alloc_at _ _ _ _ _ rfl, h];simp [hi, wV]
end Go.Proofs.YtkfhpefmmhljmaaGreatDoor
/- CtH -/
namespace Go.Proofs.YtkfhpefmmhljmaaGreatDoor
open Go.RowKit
set_option maxRecDepth 100000
theorem wv_big {l : List Int} (hw : Words l) (ht : trimL l = l) (hn : 2 < l.length) : 18446744073709551616 ≤ wv l := by
 revert ht hn hw
 refine snoc_ind (P := fun l => Words l → trimL l = l → 2 < l.length → 18446744073709551616 ≤ wv l) (fun _ _ h => by simp at h) (fun l x _ hw ht hn => ?_) l;have hx : x ≠ 0 := by
  intro h;subst h;rw [trimL_snoc_zero] at ht;have h1 := trimL_length l;rw [ht] at h1;simp at h1;omega
 have h0 := hw x (by simp);have h2 : 0 ≤ wv l := wv_nonneg (fun y hy => hw y (by simp [hy]));rw [wv_append, wv_one];obtain ⟨k, hk⟩ : ∃ k, l.length = k + 2 := ⟨l.length - 2, by simp at hn; omega⟩;rw [hk, Int.pow_succ, Int.pow_succ];have h3 : 0 < (4294967296 : Int) ^ k := Int.pow_pos (by decide);have h4 : 1 * 18446744073709551616 ≤ ((4294967296 : Int) ^ k * x) * 18446744073709551616 := Int.mul_le_mul_of_nonneg_right (by
  have := Int.mul_pos h3 (show 0 < x by omega);omega) (by decide)
 have h5 : (4294967296 : Int) ^ k * 4294967296 * 4294967296 * x = ((4294967296 : Int) ^ k * x) * 18446744073709551616 := by
  rw [Int.mul_assoc, Int.mul_assoc, Int.mul_assoc]
  congr 1
  omega
 rw [h5];omega
theorem wv_small {l : List Int} (hw : Words l) (hn : l.length ≤ 2) : wv l < 18446744073709551616 := by
 match l, hn with
 | [], _ => decide
 | [x], _ => rw [wv_one]; have := hw x (by simp); omega
 | [x, y], _ => rw [wv_two]; have h1 := hw x (by simp); have h2 := hw y (by simp); omega
def i64V (n : Int) : Value := .tuple #[.int .i64 (if i64In n then n else 0), .bool (i64In n)]
theorem i64V_in {n : Int} (h : -9223372036854775808 ≤ n ∧ n ≤ 9223372036854775807) : i64V n = .tuple #[.int .i64 n, .bool true] := by
 have : i64In n = true := by simp [i64In]; exact h
 unfold i64V;rw [this]; rfl
theorem i64V_out {n : Int} (h : ¬ (-9223372036854775808 ≤ n ∧ n ≤ 9223372036854775807)) : i64V n = .tuple #[.int .i64 0, .bool false] := by
 have : i64In n = false := by simp [i64In]; omega
 unfold i64V;rw [this]; rfl
theorem ret_eq {a b : Value} (h : a = b) : Ending.returned a = .returned b := by rw [h]
set_option maxHeartbeats 4000000 in
theorem int64_any (v : Value) (n : Int) (w : World) (h : NumR w w.heap.size v n) : Calls Tryz.prog 202 #[v] w fun e w' => e = .returned (i64V n) ∧ Below w.heap.size w w' := by
 obtain ⟨neg, A, ws, c, rfl, hc, hl, hr, hw, ht, h0, hn⟩ := h;have hb0 : Below w.heap.size w (w.alloc (.cells #[.bool neg, .slice A ws.length c] 83)) := (Below.refl _ _).alloc (Nat.le_refl _) _;have K := trim_any A c ws _ (hr.upto hb0) hl hc;rw [ht] at K;have HK := Lib.hid K;have HR := Lib.hid hr;clear K hr;by_cases h2 : ws.length ≤ 2
 ·have hlo := wv_small hw h2;have hnn := wv_nonneg hw;have KL := Lib.hid fun W h => low_any A c ws W h h2 hw
  have e0 : decide ((2 : Int) < (ws.length : Int)) = false := decide_eq_false (by omega);subst hn;generalize hm : wv ws = m at *;clear hm ht h0 hw;go_enter Tryz.func202, Tryz.ntmps202;go_wp2_with fail;refine HK.out.mono ?_;rintro e w1 ⟨rfl, hb1⟩;have q0 : w1.cell? ⟨w.heap.size, 0, none⟩ = some (.bool neg) := (hb1.cell (by simp)).trans (by simp);have HB := Lib.hid (hb0.trans (hb1.mono (by simp)));clear hb1 hb0 HK;go_wp2_with fail;refine (KL.out _ (HR.out.upto HB.out)).mono ?_;rintro e w2 ⟨rfl, hb2⟩;have q2 : w2.cell? ⟨w.heap.size, 0, none⟩ = some (.bool neg) := (hb2.cell (World.block_lt_of_cell? w1 _ q0)).trans q0;have HB2 := Lib.hid (HB.out.trans (hb2.mono HB.out.size));clear hb2 HB KL q0;cases neg with
  | true =>
   by_cases hm : 9223372036854775808 < m
   ·have e1 : decide ((9223372036854775808 : Int) < m) = true := decide_eq_true hm;have E : Hid (i64V (sgnI true m) = .tuple #[.int .i64 0, .bool false]) := i64V_out (by simp [sgnI]; omega);go_wp2_with fail;go_ret2;exact ⟨ret_eq E.out.symm, HB2.out⟩
   ·have e1 : decide ((9223372036854775808 : Int) < m) = false := decide_eq_false hm;have e2 : IntKind.i64.wrap (IntKind.u64.wrap (-m)) = -m := by
     by_cases h : m = 0
     ·subst h; rfl
     ·rw [show IntKind.u64.wrap (-m) = 18446744073709551616 - m from by show (-m) % 18446744073709551616 = _; omega];by_cases h' : m = 9223372036854775808
      ·subst h'; rfl
      ·rw [IntKind.wrap_i64]; omega
    have E : Hid (i64V (sgnI true m) = .tuple #[.int .i64 (-m), .bool true]) := i64V_in (by simp [sgnI]; omega);go_wp2_with fail;go_ret2;exact ⟨ret_eq E.out.symm, HB2.out⟩
  | false =>
   by_cases hm : 9223372036854775808 ≤ m
   ·have e1 : decide ((9223372036854775808 : Int) ≤ m) = true := decide_eq_true hm;have E : Hid (i64V (sgnI false m) = .tuple #[.int .i64 0, .bool false]) := i64V_out (by simp [sgnI]; omega);go_wp2_with fail;go_ret2;exact ⟨ret_eq E.out.symm, HB2.out⟩
   ·have e1 : decide ((9223372036854775808 : Int) ≤ m) = false := decide_eq_false hm;have e2 : IntKind.i64.wrap m = m := IntWalk.i64_in _ (by omega);have E : Hid (i64V (sgnI false m) = .tuple #[.int .i64 m, .bool true]) := i64V_in (by simp [sgnI]; omega);go_wp2_with fail;go_ret2;exact ⟨ret_eq E.out.symm, HB2.out⟩
 ·have hbig := wv_big hw ht (by omega);have e0 : decide ((2 : Int) < (ws.length : Int)) = true := decide_eq_true (by omega);have E : Hid (i64V n = .tuple #[.int .i64 0, .bool false]) := i64V_out (by rw [hn]; cases neg <;> simp [sgnI] <;> omega);clear hn ht h0 hw h2 hbig;go_enter Tryz.func202, Tryz.ntmps202;go_wp2_with fail;refine HK.out.mono ?_;rintro e w1 ⟨rfl, hb1⟩;have HB := Lib.hid (hb0.trans (hb1.mono (by simp)));clear hb1 hb0 HK;go_wp2_with fail;go_ret2;exact ⟨ret_eq E.out.symm, HB.out⟩
def sgn (n : Int) : Int := if n = 0 then 0 else if n < 0 then -1 else 1
set_option maxHeartbeats 2000000 in
theorem sign_any (v : Value) (n : Int) (w : World) (h : NumR w w.heap.size v n) : Calls Tryz.prog 163 #[v] w fun e w' => e = .returned (.int .i64 (sgn n)) ∧ Below w.heap.size w w' := by
 obtain ⟨neg, A, ws, c, rfl, hc, hl, hr, hw, ht, h0, hn⟩ := h;have hb0 : Below w.heap.size w (w.alloc (.cells #[.bool neg, .slice A ws.length c] 83)) := (Below.refl _ _).alloc (Nat.le_refl _) _;have K := trim_any A c ws _ (hr.upto hb0) hl hc;rw [ht] at K;have HK := Lib.hid K;clear K hr;by_cases hz : ws = []
 ·have e0 : ((ws.length : Int) == 0) = true := by rw [hz]; rfl
  have E : Hid (sgn n = 0) := by show _ = _; rw [hn, hz, show wv [] = 0 from rfl, sgnI_zero]; rfl
  clear hn ht h0 hw hz;go_enter Tryz.func163, Tryz.ntmps163;go_wp2_with fail;refine HK.out.mono ?_;rintro e w1 ⟨rfl, hb1⟩;have HB := Lib.hid (hb0.trans (hb1.mono (by simp)));clear hb1 hb0 HK;go_wp2_with fail;go_ret;exact ⟨ret_int E.out.symm, HB.out⟩
 ·have hp := wv_pos hw ht hz;have hlen : 0 < ws.length := List.length_pos_iff.2 hz;have e0 : ((ws.length : Int) == 0) = false := beq_eq_false_iff_ne.2 (by omega);have E : Hid (sgn n = if neg then -1 else 1) := by
   show _ = _
   rw [hn];cases neg
   ·simp [sgnI, sgn]; omega
   ·simp [sgnI, sgn]; omega
  clear hn ht h0 hw hz hp;cases neg with
  | true =>
   go_enter Tryz.func163, Tryz.ntmps163;go_wp2_with fail;refine HK.out.mono ?_;rintro e w1 ⟨rfl, hb1⟩;have q0 : w1.cell? ⟨w.heap.size, 0, none⟩ = some (.bool true) := (hb1.cell (by simp)).trans (by simp);have HB := Lib.hid (hb0.trans (hb1.mono (by simp)));clear hb1 hb0 HK;go_wp2_with fail;go_ret;exact ⟨ret_int E.out.symm, HB.out⟩
  | false =>
   go_enter Tryz.func163, Tryz.ntmps163;go_wp2_with fail;refine HK.out.mono ?_;rintro e w1 ⟨rfl, hb1⟩;have q0 : w1.cell? ⟨w.heap.size, 0, none⟩ = some (.bool false) := (hb1.cell (by simp)).trans (by simp);have HB := Lib.hid (hb0.trans (hb1.mono (by simp)));clear hb1 hb0 HK;go_wp2_with fail;go_ret;exact ⟨ret_int E.out.symm, HB.out⟩
end Go.Proofs.YtkfhpefmmhljmaaGreatDoor
