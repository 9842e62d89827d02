/- Texts in one: CtF, CtG. -/
import Derived.Test.YtkfhpefmmhljmaaGreatDoorF17
import Derived.Test.YtkfhpefmmhljmaaGreatDoorF11
set_option linter.unusedVariables false
set_option linter.unusedSimpArgs false
set_option maxHeartbeats 16000000
set_option maxRecDepth 100000
namespace Go.Proofs.YtkfhpefmmhljmaaGreatDoor
open Go.RowKit
def carV (b : Nat) : Value := .func (.func 232) #[] #[.pointer (some ⟨b, 0, none⟩)]
theorem mT (c : Int) (w : World) : Calls Tryz.prog 222 #[.int .u64 c] w fun e w' => e = .returned (carV w) ∧ w' = w.alloc (.cells #[.int .u64 c] 195) := by
 go_enter Tryz.func222, Tryz.ntmps222;go_wp2_with fail;go_ret;exact ⟨rfl, rfl⟩
theorem lU (b : Nat) (x c : Int) (w : World) (hx : 0 ≤ x ∧ 0 ≤ c ∧ x + c < 18446744073709551616) (hc : w.cell? ⟨b, 0, none⟩ = some (.int .u64 c)) (hf : w.frozen? ⟨b, 0, none⟩ = false) :
  Calls Tryz.prog 232 #[.int .u64 x, .pointer (some ⟨b, 0, none⟩)] w fun e w' => e = .returned (.int .u32 ((x + c) % 4294967296)) ∧ w' = w.setCell ⟨b, 0, none⟩ (.int .u64 ((x + c) / 4294967296)) := by
 have w1 : IntKind.u64.wrap (x + c) = x + c := κu _ (by omega);have w2 : IntKind.u32.wrap (x + c) = (x + c) % 4294967296 := by rfl
 go_enter Tryz.func232, Tryz.ntmps232;go_wp2_with fail;go_ret;exact ⟨rfl, rfl⟩
def wV (x : Int) : Value := .int .u32 x
theorem gM (f : Int) : ∀ (l : List Int) (c : Int), (scL f c l).length = l.length + 1 := by
 intro l
 induction l with
 | nil => intro c; rfl
 | cons x l ih => intro c; rw [scL, κc, ih, κc]
theorem rT {f x c : Int} (hf : 0 ≤ f ∧ f < 4294967296) (hx : 0 ≤ x ∧ x < 4294967296) (hc : 0 ≤ c ∧ c < 4294967296) : 0 ≤ x * f ∧ x * f + c < 18446744073709551616 ∧ 0 ≤ (x * f + c) / 4294967296 ∧ (x * f + c) / 4294967296 < 4294967296 := by
 have h1 : 0 ≤ x * f := Int.mul_nonneg hx.1 hf.1;have h2 : x * f ≤ 4294967295 * 4294967295 := Int.mul_le_mul (by omega) (by omega) hf.1 (by omega);omega
theorem eK : (Tryz.prog.info? 192).map (fun i => (i.zero, i.size, i.bytes)) = some (some (.int .u32 0), 1, 4) := by kernel_rfl
theorem bY (base : Nat) (v : Value) (l : List Int) (f c : Int) (w : World) (hv : w.ownsRow base 192 1 v l.length (l.map wV)) (hb : base ≤ w) (hw : Words l) (hf : 0 ≤ f ∧ f < 4294967296) (hc : 0 ≤ c ∧ c < 4294967296) (hl : l.length ≤ 1000000) :
  Calls Tryz.prog 196 #[v, .int .u64 f, .int .u64 c] w fun e w' => ∃ v', e = .returned v' ∧ w'.ownsRow base 192 1 v' (l.length + 1) ((scL f c l).map wV) ∧ Below base w w' := by
 obtain ⟨i0, hi, hz0, hz1, hz2⟩ := info_parts eK;have HV := η hv;have HW := η hw;have K := η lU;obtain ⟨A, cp, rfl, hcap⟩ := zR hv;clear hv hw;go_enter Tryz.func196, Tryz.ntmps196;go_wp2_with fail;refine (mT c _).mono ?_;rintro e w1 ⟨rfl, rfl⟩;unfold carV;go_wp2_with fail;go_loopg [8, 9, 14] l.length (fun g s8 s9 s14 wr => ∃ (k : Nat) (pre : List Int) (ck : Int), k + g = l.length ∧ s14 = .int .i64 (k : Int) ∧ pre.length = k ∧ scL f c l = pre ++ scL f ck (l.drop k) ∧ 0 ≤ ck ∧ ck < 4294967296 ∧
  wr.ownsRow base 192 1 (.slice A l.length cp) l.length ((pre ++ l.drop k).map wV) ∧ wr.cell? ⟨w, 0, none⟩ = some (.int .u64 ck) ∧ wr.frozen? ⟨w, 0, none⟩ = false ∧ Below base w wr)
 case atStart => exact ⟨0, [], c, by omega, rfl, rfl, rfl, hc.1, hc.2, HV.out.alloc _, by simp, by simp, (Below.refl _ _).alloc hb _⟩
 case round =>
  obtain ⟨k, pre, ck, hkg, rfl, hpl, hsc, hc0, hc1, hrow, hbx, hfx, hbl⟩ := hrel;have HS := η hsc;have HB := η hbl;have HR := η hrow;clear hsc hbl hrow;cases gk with
  | zero =>
   obtain rfl : k = l.length := by omega
   clear hkg;have e0 : pre ++ l.drop l.length = pre := by rw [List.drop_length, κp]
   have HS2 : Hid (scL f c l = pre ++ [ck % 4294967296]) := by show _ = _; rw [HS.out, List.drop_length]; rfl
   have HR2 := HR.out;rw [e0] at HR2;have HRR := η HR2;clear HR HS HR2 e0;go_wp2_with fail;refine (K.out w 0 ck wr ⟨by omega, hc0, by omega⟩ hbx hfx).mono ?_;rintro e w2 ⟨rfl, hw2⟩;have hrow2 : w2.ownsRow base 192 1 (.slice A l.length cp) l.length (pre.map wV) := by rw [hw2]; exact jR HRR.out (jN HV.out (.inr (νr _))) _
   have hb2 : Below base w w2 := by rw [hw2]; exact HB.out.setCell (p := ⟨w, 0, none⟩) hb _
   have hz : base ≤ w2 := Nat.le_trans hb hb2.size;clear hw2 HRR hbx hfx;rw [show (0 + ck) = ck from Int.zero_add _];go_wp2_with (at_builtin; refine wpList_append_own _ rfl _ _ 81 rfl base 192 i0 (.int .u32 0) 1 4 Tryz.underlying81 hi hz0 hz1 hz2 rfl (by decide) _ _ _ rfl (hrow2.alloc _) ⟨w2, 0, none⟩ 1 1 [.int .u32 (ck % 4294967296)] rfl rfl (cell_one_new _ _ _) (by simp [Value.oneCell']) (by unfold maxLen; omega) (by omega) (by simp; omega) ?_; intro v' w3 hown' hgrow _);have hb3 := zH hrow2 hz hgrow;have HO := η hown';clear hgrow hrow2 hown';go_wp2_with fail;go_ret;exact ⟨_, rfl, by rw [HS2.out]; simpa [wV] using HO.out, hb2.trans hb3⟩
  | succ g =>
   have hk : k < l.length := by omega
   have HG := η hkg;clear hkg;obtain ⟨gb, rfl⟩ : ∃ gb, A = some ⟨gb, 0, none⟩ := by
    rcases HV.out.2 with ⟨h, h0⟩ | ⟨gb, _, _, h, _⟩
    ·omega
    ·injection h with h; exact ⟨gb, h⟩
   have hne : gb ≠ w := fun e => jN HV.out (b := w) (.inr (νr _)) (by rw [Value.ownBlock, e])
   have hd : l.drop k = l.getD k 0 :: l.drop (k + 1) := by rw [List.drop_eq_getElem_cons hk, zM l k 0 hk]
   have hx := HW.out (l.getD k 0) (by rw [zM l k 0 hk]; exact List.getElem_mem hk);have f0 : wr.cell? ⟨gb, k, none⟩ = some (.int .u32 (l.getD k 0)) := by
    rw [HR.out.cellAt k (by omega), hd];simp [wV, hpl]
   have f1 : wr.frozen? ⟨gb, k, none⟩ = false := HR.out.frozenAt k;have HC := η (rT hf hx ⟨hc0, hc1⟩);have hd2 : pre ++ l.drop k = pre ++ (l.getD k 0 :: l.drop (k + 1)) := by rw [hd]
   have HS2 : Hid (scL f c l = (pre ++ [(l.getD k 0 * f + ck) % 4294967296]) ++ scL f ((l.getD k 0 * f + ck) / 4294967296) (l.drop (k + 1))) := by
    show _ = _
    rw [HS.out, hd, scL, κq];rfl
   have HR2 := HR.out;rw [hd2] at HR2;have HRR := η HR2;clear HR2 HR HS hd hd2;have p1 : IntKind.u64.wrap (l.getD k 0) = l.getD k 0 := κu _ (by omega);have p2 : IntKind.u64.wrap (l.getD k 0 * f) = l.getD k 0 * f := κu _ (by have := HC.out; omega);have HX := η hx;clear hx;generalize l.getD k 0 = x at *;go_wp2_with fail;refine (K.out w (x * f) ck wr ⟨HC.out.1, hc0, HC.out.2.1⟩ hbx hfx).mono ?_;rintro e w2 ⟨rfl, hw2⟩;have q0 : w2.cell? ⟨gb, k, none⟩ = some (.int .u32 x) := by rw [hw2, κo _ _ _ _ (by simp; try omega)]; exact f0
   have q1 : w2.frozen? ⟨gb, k, none⟩ = false := by rw [hw2, World.frozen?_setCell]; exact f1
   have q2 : w2.cell? ⟨w, 0, none⟩ = some (.int .u64 ((x * f + ck) / 4294967296)) := by rw [hw2]; exact World.cell?_setCell_same _ _ _ hbx
   have q3 : w2.frozen? ⟨w, 0, none⟩ = false := by rw [hw2, World.frozen?_setCell]; exact hfx
   have HR3 : Hid (w2.ownsRow base 192 1 (.slice (some ⟨gb, 0, none⟩) l.length cp) l.length ((pre ++ x :: l.drop (k + 1)).map wV)) := by
    show World.ownsRow _ _ _ _ _ _ _
    rw [hw2]; exact jR HRR.out (jN HV.out (.inr (νr _))) _
   have HB2 : Hid (Below base w w2) := by show Below _ _ _; rw [hw2]; exact HB.out.setCell (p := ⟨w, 0, none⟩) hb _
   clear hw2 HRR HB hbx hfx f0 f1;go_wp2_with fail;go_roundg g
   case measure => omega
   case rel =>
    refine ⟨k + 1, pre ++ [(x * f + ck) % 4294967296], (x * f + ck) / 4294967296, by have := HG.out; omega, by go_num, by simp [hpl], HS2.out, HC.out.2.2.1, HC.out.2.2.2, ?_, ?_, ?_, ?_⟩
    ·have h := (HR3.out.stored k (.int .u32 ((x * f + ck) % 4294967296))).1;have e : ((pre ++ x :: l.drop (k + 1)).map wV).set k (.int .u32 ((x * f + ck) % 4294967296)) = ((pre ++ [(x * f + ck) % 4294967296]) ++ l.drop (k + 1)).map wV := by
      rw [List.map_append, List.map_cons, List.set_append_right _ _ (by simp [hpl])];simp [wV, hpl]
     rw [e] at h;exact h
    ·rw [κo _ _ _ _ (by simp; try omega)];exact q2
    ·rw [World.frozen?_setCell];exact q3
    ·exact HB2.out.setCell (p := ⟨gb, k, none⟩) (HV.out.lt gb rfl).1 _
def sgnI (neg : Bool) (n : Int) : Int := if neg then -n else n
theorem uL (neg : Bool) : sgnI neg 0 = 0 := by cases neg <;> rfl
def NumR (w : World) (B : Nat) (v : Value) (n : Int) : Prop :=
 ∃ (neg : Bool) (A : Option Addr) (ws : List Int) (c : Nat), v = .agg #[.bool neg, .slice A ws.length c] ∧ ws.length ≤ c ∧ ws.length ≤ 1000000 ∧ WrdR w B A ws ∧ Words ws ∧ trimL ws = ws ∧ (ws = [] → neg = false) ∧ n = sgnI neg (wv ws)
section
variable {w w' : World} {B B' : Nat} {v : Value} {n : Int}
theorem NumR.below (h : NumR w B v n) (hb : Below B w w') : NumR w' B v n := by
 obtain ⟨neg, A, ws, c, h1, h2, h2', h3, h4⟩ := h;exact ⟨neg, A, ws, c, h1, h2, h2', h3.below hb, h4⟩
theorem NumR.more (h : NumR w B v n) (hB : B ≤ B') : NumR w B' v n := by
 obtain ⟨neg, A, ws, c, h1, h2, h2', h3, h4⟩ := h;exact ⟨neg, A, ws, c, h1, h2, h2', h3.more hB, h4⟩
theorem NumR.upto (h : NumR w w v n) (hb : Below w w w') : NumR w' w' v n := (h.below hb).more hb.size
end
theorem WrdR.set {w : World} {B : Nat} {A : Option Addr} {xs : List Int} {p : Addr} {u : Value} (h : WrdR w B A xs) (hp : w.cell? p = some u) (hu : ∀ x, u ≠ .int .u32 x) (v : Value) : WrdR (w.setCell p v) B A xs := fun hn => by
 obtain ⟨b, off, e, hb, hc⟩ := h hn;refine ⟨b, off, e, hb, fun i hi => ?_⟩;rw [κo _ _ _ _ (fun e => ?_)]
 ·exact hc i hi
 ·rw [e, hc i hi] at hp;injection hp with hp
  exact hu _ hp.symm
theorem nG (w : World) (p : Addr) (v : Value) : (w.setCell p v).heap.size = w.heap.size := by
 have := (World.grownBy.refl w (some p.block));simp [World.setCell]
theorem NumR.set {w : World} {B : Nat} {v : Value} {n : Int} {p : Addr} {u : Value} (h : NumR w B v n) (hp : w.cell? p = some u) (hu : ∀ x, u ≠ .int .u32 x) (v' : Value) : NumR (w.setCell p v') B v n := by
 obtain ⟨neg, A, ws, c, h1, h2, h2', h3, h4⟩ := h;exact ⟨neg, A, ws, c, h1, h2, h2', h3.set hp hu v', h4⟩
theorem WrdR.sets {w : World} {B : Nat} {A : Option Addr} {xs : List Int} {b : Nat} {vs vs' : List Value} (h : WrdR w B A xs) (hx : Box w b vs) (hu : ∀ u ∈ vs, ∀ x, u ≠ .int .u32 x) (hl : vs'.length ≤ vs.length) : WrdR (w.setCells b 0 vs') B A xs := fun hn => by
 obtain ⟨bb, off, e, hb, hc⟩ := h hn;refine ⟨bb, off, e, hb, fun i hi => ?_⟩;rw [World.cell?_setCells_out _ _ _ _ _ (fun e _ => ?_)]
 ·exact hc i hi
 ·right;show 0 + vs'.length ≤ off + i
  have e' : bb = b := e;subst e';refine Nat.le_of_not_lt fun hlt => ?_
  have hj : off + i < vs.length := by omega
  have h1 := (hx _ hj).1;rw [hc i hi, κg hj] at h1;injection h1 with h1
  exact hu _ (List.getElem_mem hj) _ h1.symm
theorem NumR.sets {w : World} {B : Nat} {v : Value} {n : Int} {b : Nat} {vs vs' : List Value} (h : NumR w B v n) (hx : Box w b vs) (hu : ∀ u ∈ vs, ∀ x, u ≠ .int .u32 x) (hl : vs'.length ≤ vs.length) : NumR (w.setCells b 0 vs') B v n := by
 obtain ⟨neg, A, ws, c, h1, h2, h2', h3, h4⟩ := h;exact ⟨neg, A, ws, c, h1, h2, h2', h3.sets hx hu hl, h4⟩
theorem NumR.alloc {w : World} {B : Nat} {v : Value} {n : Int} (h : NumR w B v n) (hB : B ≤ w) (o : Obj) : NumR (w.alloc o) B v n := h.below ((Below.refl _ _).alloc hB _)
theorem NumR.zero (w : World) (B : Nat) : NumR w B (.agg #[.bool false, .slice none 0 0]) 0 :=
 ⟨false, none, [], 0, rfl, νr _, by simp, WrdR.nil_, (fun x h => by cases h), rfl, fun _ => rfl, rfl⟩
theorem nY (l : List Int) : trimL (trimL l) = trimL l := by
 refine xQ (P := fun l => trimL (trimL l) = trimL l) rfl (fun l x ih => ?_) l;by_cases h : x = 0
 ·subst h; rw [zS]; exact ih
 ·rw [qR l h, qR l h]
theorem lZ {l : List Int} (hw : Words l) (ht : trimL l = l) (hn : l ≠ []) : 0 < wv l := by
 revert ht hn hw
 refine xQ (P := fun l => Words l → trimL l = l → l ≠ [] → 0 < wv l) (fun _ _ h => absurd rfl h) (fun l x _ hw ht _ => ?_) l;have hx : x ≠ 0 := by
  intro h;subst h;rw [zS] at ht;have h1 := jP l;rw [ht] at h1;simp at h1;omega
 have h0 := hw x (by simp);have h2 : 0 ≤ wv l := yZ (fun y hy => hw y (by simp [hy]));rw [uA];have h3 : wv [x] = x := by simp [wv]
 rw [h3];have h4 : 0 < (4294967296 : Int) ^ l.length * x := Int.mul_pos (Int.pow_pos (by decide)) (by omega);omega
def NumE (w : World) (n : Int) (e : Ending) (w' : World) : Prop := ∃ v, e = .returned v ∧ NumR w' w' v n ∧ Below w w w'
theorem rA (neg : Bool) (A : Option Addr) (c : Nat) (l : List Int) (w : World) (h : WrdR w w A l) (hl : l.length ≤ 1000000) (hc : l.length ≤ c) (hw : Words l) :
  Calls Tryz.prog 197 #[.bool neg, .slice A l.length c] w (NumE w (sgnI neg (wv l))) := by
 have K := η fun W h => vP A c l W h hl hc
 have H := η h;have HW := η hw;clear h hw;have hb0 : Below w w (w.alloc (.cells #[.bool false, .slice none 0 0] 83)) := βA _;have HB0 := η hb0;have ht := jP l;go_enter Tryz.func197, Tryz.ntmps197;go_wp2_with fail;refine (K.out _ (H.out.upto hb0)).mono ?_;rintro e w1 ⟨rfl, hb1⟩;have q0 : w1.cell? ⟨w, 0, none⟩ = some (.bool false) := (hb1.cell (by simp)).trans (by simp);have q1 : w1.cell? ⟨w, 1, none⟩ = some (.slice none 0 0) := (hb1.cell (by simp)).trans (by simp);have s0 : w1.frozen? ⟨w, 0, none⟩ = false := (hb1.frozen (by simp)).trans (by simp);have s1 : w1.frozen? ⟨w, 1, none⟩ = false := (hb1.frozen (by simp)).trans (by simp);have HB := η (hb0.trans (hb1.mono (by simp)));clear hb1 hb0 K;by_cases hn : trimL l = []
 ·have e0 : (trimL l).length = 0 := by rw [hn]; rfl
  have hv : wv l = 0 := by rw [← bJ, hn]; rfl
  have e1 : sgnI neg (wv l) = 0 := by rw [hv, uL]
  have E1 := η e1;rw [e0];clear hn e0 e1 hv;go_wp2_with fail;refine κr (v := .agg #[.bool false, .slice none 0 0]) (by simp [results, Tryz.results197, go_sem, q0, q1]) rfl ⟨_, rfl, ?_, ?_⟩
  ·rw [E1.out];exact NumR.zero ((w1.setCell ⟨w, 0, none⟩ (.bool false)).setCell ⟨w, 1, none⟩ (.slice none 0 0)) ((w1.setCell ⟨w, 0, none⟩ (.bool false)).setCell ⟨w, 1, none⟩ (.slice none 0 0)).heap.size
  ·exact (HB.out.setCell (p := ⟨w, 0, none⟩) (νr _) _).setCell (p := ⟨w, 1, none⟩) (νr _) _
 ·have hp : 0 < (trimL l).length := List.length_pos_iff.2 hn;have t1 : (((trimL l).length : Nat) : Int) ≠ 0 := by omega
  have HN := η hn;have HT : Hid (WrdR w1 w1 A (trimL l)) := (H.out.upto HB.out).trim;have e1 : (((trimL l).length : Int) == 0) = false := βf t1;clear hn;go_wp2_with fail;have HF := η ((HB.out.setCell (p := ⟨w, 0, none⟩) (νr _) (.bool neg)).setCell (p := ⟨w, 1, none⟩) (νr _) (.slice A (trimL l).length c));exact κr (v := .agg #[.bool neg, .slice A (trimL l).length c]) (by simp [results, Tryz.results197, go_sem, q0, q1]) rfl ⟨_, rfl, ⟨neg, A, trimL l, c, rfl, by omega, by omega, (H.out.upto HF.out).trim, pR HW.out, nY l, fun h => absurd h HN.out, by rw [bJ]⟩, HF.out⟩
theorem iH (x : Int) (h0 : 0 ≤ x) (h1 : x < 4294967296) : x / 4294967296 = 0 := by omega
theorem bK (x : Int) : wv [x] = x := by simp [wv]
theorem lY (x y : Int) : wv [x, y] = x + 4294967296 * y := by simp [wv]
theorem uE {x : Int} (h : x ≠ 0) : trimL [x] = [x] := qR [] h
theorem WrdR.lit (w : World) (t : TypeId) (xs : List Int) (cs : Array Value) (h : cs = (xs.map wV).toArray) : WrdR (w.alloc (.cells cs t)) (w + 1) (some ⟨w, 0, none⟩) xs := fun hn => by
 refine ⟨_, 0, rfl, by omega, fun i hi => ?_⟩;rw [qP _ _ _ _ _ rfl, h];simp [hi, wV]
end Go.Proofs.YtkfhpefmmhljmaaGreatDoor
