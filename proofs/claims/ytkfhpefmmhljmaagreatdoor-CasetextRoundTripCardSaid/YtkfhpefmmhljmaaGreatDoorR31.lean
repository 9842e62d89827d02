/- Texts in one: CkF, CpC. -/
import Derived.Test.YtkfhpefmmhljmaaGreatDoorR29
import Derived.Test.YtkfhpefmmhljmaaGreatDoorR30
set_option linter.unusedVariables false
set_option linter.unusedSimpArgs false
set_option maxHeartbeats 16000000
set_option maxRecDepth 100000
namespace Go.Proofs.YtkfhpefmmhljmaaGreatDoor
open Go.RowKit
theorem uY (b : Bd) (A : Option Addr) (c : Nat) (w : World) (hr : RowR StE 2 w w A b.steps) :
  Calls Tryz.prog 132 #[.agg #[.int .i64 b.bus, .slice A b.steps.length c]] w (ErrE w (bidE 6 b)) := by
 obtain ⟨bus, steps⟩ := b;have E : Hid (bidE 6 ⟨bus, steps⟩ = if !inB bus 6 then 1 else zU falls steps) := rfl;generalize bidE 6 ⟨bus, steps⟩ = R at *;dsimp only at hr ⊢;have K1 := η fun W h => pN A c steps W h
 have HR := η hr;have HB0 := η ((Below.refl w w).alloc (νr _) (.cells #[.int .i64 bus, .slice A steps.length c] 133));clear hr;go_enter Tryz.func132, Tryz.ntmps132;by_cases hb : inB bus 6 = true
 ·have hb' := hb;unfold inB at hb';simp only [κb, κe] at hb';have d1 : decide (bus < 0) = false := κf (by omega);have d2 : decide (6 ≤ bus) = false := κf (by omega);replace E : Hid (R = _) := E.out.trans (if_neg (by rw [hb]; simp));clear hb hb';go_wp2_with fail;refine (K1.out _ (HR.out.upto StE.keep ((Below.refl w w).alloc (νr _) _))).mono ?_;rintro e w1 ⟨rfl, hb1⟩;have HB1 := η (HB0.out.trans (hb1.mono (by simp)));clear hb1;go_wp2_with fail;go_ret;exact ⟨zI E.out.symm, HB1.out⟩
 ·have hb' : bus < 0 ∨ (¬ bus < 0 ∧ 6 ≤ bus) := by
   simp [inB] at hb;omega
  have HE : Hid (R = 1) := E.out.trans (if_pos (by simp [hb]));clear hb;rcases hb' with h | ⟨h1, h2⟩
  ·have d1 : decide (bus < 0) = true := κt h;go_wp2_with fail;go_ret;exact ⟨zI HE.out.symm, HB0.out⟩
  ·have d1 : decide (bus < 0) = false := κf h1;have d2 : decide (6 ≤ bus) = true := κt h2;go_wp2_with fail;go_ret;exact ⟨zI HE.out.symm, HB0.out⟩
theorem yD (k x f t : Int) (w : World) : Calls Tryz.prog 71 #[.agg #[.int .u8 k, .int .i64 x, .int .i64 f, .int .i64 t]] w fun e w' => e = .returned (.bool (jA (k, x, f, t))) ∧ Below w w w' := by
 have HB0 := η ((Below.refl w w).alloc (νr _) (.cells #[.int .u8 k, .int .i64 x, .int .i64 f, .int .i64 t] 53));by_cases hk : k = 3
 ·have E : Hid (jA (k, x, f, t) = decide (0 ≤ x ∧ x < 5 ∧ 0 ≤ f ∧ f ≤ t ∧ t < 8)) := by
   show _ = _
   subst hk;rw [Bool.eq_iff_iff];simp [jA, and_assoc]
  have b1 : (k == 3) = true := beq_iff_eq.2 hk;generalize jA (k, x, f, t) = R at *;clear hk;go_enter Tryz.func71, Tryz.ntmps71;go_wp2_with fail
  all_goals
   go_ret;exact ⟨qB (by rw [E.out, Bool.eq_iff_iff]; simp <;> omega), HB0.out⟩
 ·have E : Hid (jA (k, x, f, t) = decide (0 ≤ x ∧ x < 10 ∧ 0 ≤ f ∧ f ≤ t ∧ t < 8)) := by
   show _ = _
   rw [Bool.eq_iff_iff];simp [jA, and_assoc, hk]
  have b1 : (k == 3) = false := βf hk;generalize jA (k, x, f, t) = R at *;clear hk;go_enter Tryz.func71, Tryz.ntmps71;go_wp2_with fail
  all_goals
   go_ret;exact ⟨qB (by rw [E.out, Bool.eq_iff_iff]; simp <;> omega), HB0.out⟩
theorem dK (a n : Int) (w : World) : Calls Tryz.prog 90 #[.int .i64 a, .int .i64 n] w fun e w' => e = .returned (.bool (inB a n)) ∧ Below w w w' := by
 have HB0 := η (Below.refl w w);have E : Hid (inB a n = decide (0 ≤ a ∧ a < n)) := by
  show _ = _
  rw [Bool.eq_iff_iff];simp [inB]
 generalize inB a n = R at *;go_enter Tryz.func90, Tryz.ntmps90;go_wp2_with fail
 all_goals
  go_ret;exact ⟨qB (by rw [E.out, Bool.eq_iff_iff]; simp <;> omega), HB0.out⟩
def PlE (w : World) (n : Int) (e : Ending) (w' : World) : Prop := ∃ p, e = .returned (.tuple #[.int .i64 p, .int .i64 n]) ∧ Below w w w'
theorem PlE.of {w W : World} {p n n' : Int} (h : n' = n) (hb : Below w w W) : PlE w n' (.returned (.tuple #[.int .i64 p, .int .i64 n])) W := ⟨p, by rw [h], hb⟩
theorem rS (A : Option Addr) (c : Nat) (l : List Rt) (n : Int) (w : World) (hr : RowR RtE 3 w w A l) (hl : l.length ≤ 1000000) :
  Calls Tryz.prog 40 #[.slice A l.length c, .int .i64 n] w (PlE w (vJ n l)) := by
 have HR := η hr;have HB0 := η (Below.refl w w);clear hr;by_cases h8 : 8 < l.length
 ·have E : Hid (vJ n l = 5) := if_pos h8;have e3 : decide ((8 : Int) < (l.length : Int)) = true := κt (by omega);clear h8;go_enter Tryz.func40, Tryz.ntmps40;go_wp2_with fail;go_ret2;exact PlE.of E.out HB0.out
 have e3 : decide ((8 : Int) < (l.length : Int)) = false := κf (by omega);have E : Hid (vJ n l = if l.all (rtOk n) then 0 else 1) := if_neg h8;generalize vJ n l = R at *;clear h8;go_enter Tryz.func40, Tryz.ntmps40;go_wp2_with fail;go_loopg [4, 5, 6, 7, 13] l.length (fun g s4 s5 s6 s7 s13 wr => ∃ k : Nat, k + g = l.length ∧ s13 = .int .i64 (k : Int) ∧ (l.take k).all (rtOk n) = true ∧ Below w w wr)
 case atStart => exact ⟨0, by omega, rfl, rfl, HB0.out⟩
 case round =>
  clear HB0 e3;obtain ⟨k, hkg, rfl, hs, hb⟩ := hrel;have HS := η hs;have HB := η hb;clear hs hb;cases gk with
  | zero =>
   obtain rfl : k = l.length := by omega
   have HE : Hid (R = 0) := by
    have h := HS.out;rw [List.take_length] at h;show _ = _
    rw [E.out, if_pos h]
   clear hkg HS HR E;go_wp2_with fail
   try rw [κx]
   go_ret2;exact PlE.of HE.out HB.out
  | succ g =>
   have hk : k < l.length := by omega
   have HG := η hkg;clear hkg;obtain ⟨b, off, cc, rfl, hbl, hcn, hce, hcc⟩ := HR.out.at_ k (0, 0, 0) hk;rw [show cc = rtC (l.getD k (0, 0, 0)) from hce] at hcc;have f0 : wr.cell? ⟨b, off + k * 3, none⟩ = some (.int .i64 (l.getD k (0, 0, 0)).1) := (HB.out.cell (p := ⟨b, off + k * 3, none⟩) hbl).trans (hcc 0 _ rfl);have f1 : wr.cell? ⟨b, off + k * 3 + 1, none⟩ = some (.int .i64 (l.getD k (0, 0, 0)).2.1) := (HB.out.cell (p := ⟨b, off + k * 3 + 1, none⟩) hbl).trans (hcc 1 _ rfl);have f2 : wr.cell? ⟨b, off + k * 3 + 2, none⟩ = some (.int .i64 (l.getD k (0, 0, 0)).2.2) := (HB.out.cell (p := ⟨b, off + k * 3 + 2, none⟩) hbl).trans (hcc 2 _ rfl);have hz := HB.out.size;have HYes : Hid (rtOk n (l.getD k (0, 0, 0)) = true → (l.take (k + 1)).all (rtOk n) = true) := fun h => yW _ _ _ _ hk HS.out h
   have HNo : Hid (rtOk n (l.getD k (0, 0, 0)) = false → R = 1) := fun h => by rw [E.out, iE _ _ _ _ hk h]; rfl
   clear hcc hce hcn HS;cases hx : l.getD k (0, 0, 0) with
   | mk rf rest =>
   obtain ⟨rt, rq⟩ := rest;rw [hx] at f0 f1 f2 HYes HNo;clear hx;have HD : Hid (rtOk n (rf, rt, rq) = (inB rf n && inB rt n && decide (0 ≤ rq) && decide (rq ≤ 1000000))) := rfl;generalize rtOk n (rf, rt, rq) = ok at *;dsimp only at f0 f1 f2;have K1 := η fun W => dK rf n W
   have K2 := η fun W => dK rt n W
   have HB1 := η (HB.out.alloc (by omega) (.cells #[.int .i64 rf, .int .i64 rt, .int .i64 rq] 51));cases h1 : inB rf n with
   | false =>
    rw [h1] at K1 HD;have HE : Hid (R = 1) := HNo.out HD.out;clear h1 HNo HYes HD E;go_wp2_with fail;refine (K1.out _).mono ?_;rintro e w1 ⟨rfl, hb1⟩;have HB2 := η (HB1.out.trans (hb1.mono (by simp; omega)));clear hb1;go_wp2_with fail
    try rw [κx]
    go_ret2;exact PlE.of HE.out HB2.out
   | true =>
    rw [h1] at K1 HD;clear h1;go_wp2_with fail;refine (K1.out _).mono ?_;rintro e w1 ⟨rfl, hb1⟩;have HX1 := η ((Box.new wr #[.int .i64 rf, .int .i64 rt, .int .i64 rq] 51).up hb1 (by simp));have HB2 := η (HB1.out.trans (hb1.mono (by simp; omega)));have hlt : wr < w1.heap.size := HX1.out.lt (by simp);clear hb1 HB1;obtain ⟨q0, s0, q1, s1, q2, s2⟩ := sqX3 HX1.out;cases h2 : inB rt n with
    | false =>
     rw [h2] at K2 HD;have HE : Hid (R = 1) := HNo.out HD.out;clear h2 HNo HYes HD E;go_wp2_with fail;refine (K2.out _).mono ?_;rintro e w2 ⟨rfl, hb1⟩;have HB3 := η (HB2.out.trans (hb1.mono (by omega)));clear hb1;go_wp2_with fail
     try rw [κx]
     go_ret2;exact PlE.of HE.out HB3.out
    | true =>
     rw [h2] at K2 HD;clear h2;go_wp2_with fail;refine (K2.out _).mono ?_;rintro e w2 ⟨rfl, hb1⟩;have HX2 := η (HX1.out.up hb1 hlt);have HB3 := η (HB2.out.trans (hb1.mono (by omega)));clear hb1 q0 q1 q2 s0 s1 s2;obtain ⟨q0, s0, q1, s1, q2, s2⟩ := sqX3 HX2.out;by_cases h3 : rq < 0
     ·have d1 : decide (rq < 0) = true := κt h3;have HE : Hid (R = 1) := HNo.out (HD.out.trans (by simp; omega));clear h3 HNo HYes HD E;go_wp2_with fail
      try rw [κx]
      go_ret2;exact PlE.of HE.out HB3.out
     ·have d1 : decide (rq < 0) = false := κf h3;by_cases h4 : 1000000 < rq
      ·have d2 : decide (1000000 < rq) = true := κt h4;have HE : Hid (R = 1) := HNo.out (HD.out.trans (by simp; omega));clear h3 h4 HNo HYes HD E;go_wp2_with fail
       try rw [κx]
       go_ret2;exact PlE.of HE.out HB3.out
      ·have d2 : decide (1000000 < rq) = false := κf h4;have HY := η (HYes.out (HD.out.trans (by simp; omega)));clear h3 h4 HNo HYes HD;go_wp2_with fail;go_roundg g
       case measure => omega
       case rel => exact ⟨k + 1, by have := HG.out; omega, by go_num, HY.out, HB3.out⟩
def ErR (a b : Int) : Prop := (a ≠ -1 ∧ b = a) ∨ (a = -1 ∧ b ≠ 0 ∧ b ≠ 8)
def ParE {α : Type} (E : Enc α) (r : Int × α × Int) (w : World) (e : Ending) (w' : World) : Prop :=
 Below w w w' ∧ ∃ cells er, e = .returned (.tuple #[.agg cells.toArray, .int .i64 r.2.2, .int .i64 er]) ∧ E w' w cells r.2.1 ∧ ErR r.1 er
theorem zC {B g : Nat} {a w w' : World} (h : Below B a w) (k : w.grownBy w' (some g)) (hg : B ≤ g) (hB : B ≤ w) : Below B a w' :=
 h.grown k hB (fun j hj => by injection hj with hj; omega)
theorem RdR.set {w : World} {b : Nat} {s : Bytes} {rd : Rd} (h : RdR w b s rd) {p : Addr} (hp : p.block ≠ b) (v : Value) : RdR (w.setCell p v) b s rd := by
 obtain ⟨i, er, h1, h2⟩ := h;exact ⟨i, er, h1.other hp v, h2⟩
theorem zAh (f : Int → Int → Bool) : ∀ (l : List St) (pv : Option Int), stGo f pv l ≠ -1 := by
 intro l
 induction l with
 | nil => intro pv; simp [stGo]
 | cons x l ih =>
  intro pv;rw [stGo];split
  ·decide
  ·split
   ·decide
   ·exact ih _
theorem gO (f : Int → Int → Bool) (l : List St) : zU f l ≠ -1 := by
 unfold zU;split
 ·decide
 ·split
  ·decide
  ·exact zAh f l none
theorem iB (n : Int) (b : Bd) : bidE n b ≠ -1 := by
 unfold bidE;split
 ·decide
 ·exact gO _ _
theorem aR (n : Int) (u : Un) : unitE n u ≠ -1 := by
 unfold unitE;split
 ·decide
 ·split
  ·exact gO _ _
  ·split <;> decide
theorem RdR.start (w : World) (b : Nat) (s : Bytes) (i : Int) (hi : -9223372036854775808 ≤ i ∧ i ≤ 9223372036854775807) (h : Box w b [.string (bstr s), .int .i64 i, .int .i64 0]) : RdR w b s ⟨i, 0⟩ :=
 ⟨i, 0, h, fun _ => rfl, (fun h => by cases h), fun _ => ⟨rfl, hi⟩⟩
theorem lJ (s : Bytes) (i : Int) (w : World) (hs : SlOk s) (hl : s.length ≤ 1000000) (hi : -9223372036854775808 ≤ i ∧ i ≤ 9223372036854775807) :
  Calls Tryz.prog 116 #[.string (bstr s), .int .i64 i] w (ParE BdO (bidP s i) w) := by
 have KT := η fun k rd W hk hR => kZ (w + 1) s k rd W hs hl hk hR
 have KW := η fun y rd W hR => nD (w + 1) s y rd W hs hl hR
 have KI := η fun rd W hR => kF (w + 1) s rd W hs hl hR
 have KL := η fun rd W hR => pZ (w + 1) s rd W hs hl hR
 have E : Hid (bidR s i = (⟨(rInt s (rWord s [98, 105, 100] (rTok s 1 ⟨i, 0⟩))).1, (zX s (fuel s) (rInt s (rWord s [98, 105, 100] (rTok s 1 ⟨i, 0⟩))).2).1⟩, rTok s 2 (zX s (fuel s) (rInt s (rWord s [98, 105, 100] (rTok s 1 ⟨i, 0⟩))).2).2)) := rfl;have EP : Hid (bidP s i = fin bd0 (bidE 6) (bidR s i)) := rfl;generalize bidP s i = RP at *;generalize bidR s i = R at *;have HX : Hid (Box ((w.alloc (.cells #[.int .i64 0, .slice none 0 0] 133)).alloc (.cells #[.string (bstr s), .int .i64 i, .int .i64 0] 176)) w [.int .i64 0, .slice none 0 0]) := (Box.new w #[.int .i64 0, .slice none 0 0] 133).alloc (by simp) _;have HR : Hid (RdR ((w.alloc (.cells #[.int .i64 0, .slice none 0 0] 133)).alloc (.cells #[.string (bstr s), .int .i64 i, .int .i64 0] 176)) (w + 1) s ⟨i, 0⟩) := by
  show RdR _ _ _ _
  refine RdR.start _ _ _ _ hi ?_;have := Box.new (w.alloc (.cells #[.int .i64 0, .slice none 0 0] 133)) #[.string (bstr s), .int .i64 i, .int .i64 0] 176;simpa using this
 have HB : Hid (Below w w ((w.alloc (.cells #[.int .i64 0, .slice none 0 0] 133)).alloc (.cells #[.string (bstr s), .int .i64 i, .int .i64 0] 176))) := (βA _).alloc (by simp) _;have hzz : w + 1 < ((w.alloc (.cells #[.int .i64 0, .slice none 0 0] 133)).alloc (.cells #[.string (bstr s), .int .i64 i, .int .i64 0] 176)).heap.size := by simp
 clear hs hi;go_enter Tryz.func116, Tryz.ntmps116;obtain ⟨q0, s0, q1, s1⟩ := sqX2 HX.out;go_wp2_with fail;refine (KT.out 1 _ _ (by decide) HR.out).mono ?_;rintro e w1 ⟨rfl, hR, hg⟩;have HX1 := η (HX.out.grown hg (by omega) (by omega));have HB1 := η (zC HB.out hg (by omega) (by omega));have hz1 : w + 1 < w1.heap.size := νl hzz hg.size;replace HR := η hR;clear HX HB hzz hR hg;have HX := HX1;have HB := HB1;have hzz := hz1;clear HX1 HB1 hz1;generalize rTok s 1 ⟨i, 0⟩ = rd1 at *;clear q0 q1 s0 s1;obtain ⟨q0, s0, q1, s1⟩ := sqX2 HX.out;go_wp2_with fail;refine (KW.out [98, 105, 100] _ _ HR.out).mono ?_;rintro e w2 ⟨rfl, hR, hg⟩;have HX2 := η (HX.out.grown hg (by omega) (by omega));have HB2 := η (zC HB.out hg (by omega) (by omega));have hz2 : w + 1 < w2.heap.size := νl hzz hg.size;replace HR := η hR;clear HX HB hzz hR hg;have HX := HX2;have HB := HB2;have hzz := hz2;clear HX2 HB2 hz2;generalize rWord s [98, 105, 100] rd1 = rd2 at *;clear q0 q1 s0 s1;obtain ⟨q0, s0, q1, s1⟩ := sqX2 HX.out;go_wp2_with fail;refine (KI.out _ _ HR.out).mono ?_;rintro e w3 ⟨rfl, hR, hg⟩;have HX3 := η (HX.out.grown hg (by omega) (by omega));have HB3 := η (zC HB.out hg (by omega) (by omega));have hz3 : w + 1 < w3.heap.size := νl hzz hg.size;replace HR := η hR;clear HX HB hzz hR hg;have HX := HX3;have HB := HB3;have hzz := hz3;clear HX3 HB3 hz3;generalize rInt s rd2 = ri3 at *;obtain ⟨n3, rd3⟩ := ri3;dsimp only at E HR ⊢;clear q0 q1 s0 s1;obtain ⟨q0, s0, q1, s1⟩ := sqX2 HX.out;replace HR := η (HR.out.set (p := ⟨w, 0, none⟩) (by simp) (.int .i64 n3));replace HX := η (HX.out.set1 0 (by simp) (.int .i64 n3));replace HX : Hid (Box (w3.setCell ⟨w, 0, none⟩ (.int .i64 n3)) w [.int .i64 n3, .slice none 0 0]) := HX.out;replace HB := η (HB.out.setCell (p := ⟨w, 0, none⟩) (νr _) (.int .i64 n3));have hzp : w + 1 < (w3.setCell ⟨w, 0, none⟩ (.int .i64 n3)).heap.size := by simp; omega
 clear hzz;have hzz := hzp;clear hzp;go_wp2_with fail;refine (KL.out _ _ HR.out).mono ?_;rintro e w4 ⟨v, rfl, hrow, hlen4, hR, hg⟩;have HW4 := η (RowO.mono StE.own hrow (base' := w + 2) (by omega));clear hrow;have HX4 := η (HX.out.grown hg (by omega) (by omega));have HB4 := η (zC HB.out hg (by omega) (by omega));have hz4 : w + 1 < w4.heap.size := νl hzz hg.size;replace HR := η hR;clear HX HB hzz hR hg;have HX := HX4;have HB := HB4;have hzz := hz4;clear HX4 HB4 hz4;generalize zX s (fuel s) rd3 = rl4 at *;obtain ⟨l4, rd4⟩ := rl4;dsimp only at E HR HW4 hlen4 ⊢;obtain ⟨A4, c4, rfl, _⟩ : ∃ A c, v = .slice A l4.length c ∧ l4.length ≤ c := by obtain ⟨_, _, _, _, ho⟩ := HW4.out; exact zQ ho
 clear q0 q1 s0 s1;obtain ⟨q0, s0, q1, s1⟩ := sqX2 HX.out;replace HR := η (HR.out.set (p := ⟨w, 1, none⟩) (by simp) (.slice A4 l4.length c4));replace HX := η (HX.out.set1 1 (by simp) (.slice A4 l4.length c4));replace HX : Hid (Box (w4.setCell ⟨w, 1, none⟩ (.slice A4 l4.length c4)) w [.int .i64 n3, .slice A4 l4.length c4]) := HX.out;replace HB := η (HB.out.setCell (p := ⟨w, 1, none⟩) (νr _) (.slice A4 l4.length c4));replace HW4 := η (HW4.out.set StE.own (g := w) (by omega) [.slice A4 l4.length c4] 1);have hzp : w + 1 < (w4.setCell ⟨w, 1, none⟩ (.slice A4 l4.length c4)).heap.size := by simp; omega
 clear hzz;have hzz := hzp;clear hzp;go_wp2_with fail;refine (KT.out 2 _ _ (by decide) HR.out).mono ?_;rintro e w5 ⟨rfl, hR, hg⟩;have HX5 := η (HX.out.grown hg (by omega) (by omega));have HB5 := η (zC HB.out hg (by omega) (by omega));replace HW4 := η (HW4.out.grown StE.own hg (by omega));have hz5 : w + 1 < w5.heap.size := νl hzz hg.size;replace HR := η hR;clear HX HB hzz hR hg;have HX := HX5;have HB := HB5;have hzz := hz5;clear HX5 HB5 hz5;generalize rTok s 2 rd4 = rd5 at *;clear q0 q1 s0 s1;obtain ⟨q0, s0, q1, s1⟩ := sqX2 HX.out;obtain ⟨i', er, hB, h0, h1, h2, h3⟩ := HR.out.er;have HRB := η hB;obtain ⟨u0, v0, u1, v1, u2, v2⟩ := sqX3 hB;have hz1 : w + 1 < w5.heap.size := hzz;have hz0 : w < w5.heap.size := by omega
 clear hB;by_cases he : rd5.e = 0
 ·obtain rfl : er = 0 := h0.2 he;have hp' := (h3 he).1;subst hp';have HE := η he;clear h0 h1 h2 h3 he;obtain ⟨A', c', hv, hc, hr⟩ := HW4.out.read (E' := StE) (fun _ _ h => h);injection hv with hv1 hv2 hv3
  subst hv1 hv3;have KC := η (uY ⟨n3, l4⟩ A4 c4 w5 hr);clear hr hc;go_wp2_with fail;refine KC.out.mono ?_;rintro e wc ⟨rfl, hbc⟩;have HXc := η (HX.out.up hbc hz0);have HRc := η (HRB.out.up hbc hz1);have HBc := η (HB.out.trans (hbc.mono (κl hz0)));have HW4c := η (HW4.out.below StE.own hbc);have hzc0 : w < wc.heap.size := νl hz0 hbc.size;have hzc1 : w + 1 < wc.heap.size := νl hz1 hbc.size;clear q0 q1 s0 s1 u0 u1 u2 v0 v1 v2 HX HRB HB hz0 hz1 hzz hbc KC;have hz0 := hzc0;have hz1 := hzc1;obtain ⟨q0, s0, q1, s1⟩ := sqX2 HXc.out;obtain ⟨u0, v0, u1, v1, u2, v2⟩ := sqX3 HRc.out;by_cases hk : bidE 6 (⟨n3, l4⟩) = 0
  ·have EE : RP = (0, ⟨n3, l4⟩, rd5.i) := by rw [EP.out, E.out]; simp only [fin, HE.out, hk]; rfl
   rw [hk];go_wp2_with fail;refine zM (X := Unit) (w0 := wc) [5] (fun jq => [0, 0, 0, 0, 0, 1, 1, 1].getD jq 0) (fun jq => [0, 1, 1, 1, 1, 0, 1, 1].getD jq 0) (fun _ => [(4, .pointer (some ⟨w, 0, none⟩)), (7, .pointer (some ⟨w + 1, 0, none⟩)), (43, .agg #[.int .i64 n3, .slice A4 l4.length c4]), (44, .pointer (some ⟨w + 1, 0, none⟩)), (45, .pointer (some ⟨w + 1, 0, none⟩)), (46, .pointer (some ⟨w + 1, 1, none⟩)), (47, .int .i64 rd5.i), (5, .int .i64 rd5.i), (6, .int .i64 0)]) (fun _ => []) [4, 7] (fun t _ W => match t with | 0 => Below wc wc W | _ => ∃ W0, Below wc wc W0 ∧ W = W0.setCells w 0 [.int .i64 n3, .slice A4 l4.length c4]) () (Below.refl _ _).drew ?_ ?_ ?_
   ·intro T x t W hT hI htl;simp only [zA, and_true] at hT;rcases t with _ | _ | t
    ·skip
     replace hI : Below wc wc W := hI;have hsz := hI.size;have hlt : w < W.heap.size := by omega
     have c0 := (HXc.out.up hI hz0).c 0 _ rfl;have g0 := (HXc.out.up hI hz0).f 0 (by simp);have c1 := (HXc.out.up hI hz0).c 1 _ rfl;have g1 := (HXc.out.up hI hz0).f 1 (by simp);have c1z4 := (HRc.out.up hI hz1).c 1 _ rfl;have g1z4 : w + 1 < W.heap.size := νl hz1 hI.size
     repeat' first | exact AllI.nil | apply AllI.cons
     all_goals intro hn hl hu
     all_goals first | exact absurd hn (by decide) | exact absurd hl (by decide) | exact absurd hu (by decide) | (refine rdT ?_; simp [go_sem, EvT, hT, c0, g0, c1, g1, hlt, c1z4, g1z4, valT])
    ·skip
     obtain ⟨W0, hI0, rfl⟩ : ∃ W0, Below wc wc W0 ∧ W = W0.setCells w 0 [.int .i64 n3, .slice A4 l4.length c4] := hI;have c1 := ((HRc.out.up hI0 hz1).others (b' := w) (by omega) 0 [.int .i64 n3, .slice A4 l4.length c4]).c 1 _ rfl;have g1 : w + 1 < (W0.setCells w 0 [.int .i64 n3, .slice A4 l4.length c4]).heap.size := by rw [zE]; exact νl hz1 hI0.size
     generalize W0.setCells w 0 [.int .i64 n3, .slice A4 l4.length c4] = W0 at *;have hI := hI0
     repeat' first | exact AllI.nil | apply AllI.cons
     all_goals intro hn hl hu
     all_goals first | exact absurd hn (by decide) | exact absurd hl (by decide) | exact absurd hu (by decide) | (refine rdT ?_; simp [go_sem, EvT, hT, c1, g1, valT])
    ·exact absurd htl (by simp)
   ·intro T k x W o hk ho hT hI;simp only [zA, and_true] at hT;rcases k with _ | k
    ·cases ho;replace hI : Below wc wc W := hI;have hsz := hI.size;have hlt : w < W.heap.size := by omega
     have c0 := (HXc.out.up hI hz0).c 0 _ rfl;have g0 := (HXc.out.up hI hz0).f 0 (by simp);have c1 := (HXc.out.up hI hz0).c 1 _ rfl;have g1 := (HXc.out.up hI hz0).f 1 (by simp);refine chT_s (W' := ((W.setCell ⟨w, 0, none⟩ (.int .i64 n3)).setCell ⟨w, 1, none⟩ (.slice A4 l4.length c4))) ?_ (⟨W, hI, rfl⟩);clear hI;simp [go_sem, EvT, hT, c0, g0, c1, g1, hlt]
    ·exact absurd hk (by simp)
   intro x wx hI;simp (decide := true) only [putT, valT, look, Act.put, σi, σo, σs, Nat.reduceAdd, if_true, if_false];replace hI : (fun t _ W => match t with | 0 => Below wc wc W | _ => ∃ W0, Below wc wc W0 ∧ W = W0.setCells w 0 [.int .i64 n3, .slice A4 l4.length c4]) 1 x wx := hI
   (try dsimp only at hI)
   obtain ⟨W0, hb0, rfl⟩ : ∃ W0, Below wc wc W0 ∧ wx = W0.setCells w 0 [.int .i64 n3, .slice A4 l4.length c4] := hI;have HXw := η ((HXc.out.up hb0 hz0).sets (vs' := [.int .i64 n3, .slice A4 l4.length c4]) rfl);have HBw := η (zD (HBc.out.trans (hb0.mono (κl hz0))) (νr w) [.int .i64 n3, .slice A4 l4.length c4] 0);have HW4w := η ((HW4c.out.below StE.own hb0).set StE.own (g := w) (by omega) [.int .i64 n3, .slice A4 l4.length c4] 0);have hlt : w < (W0.setCells w 0 [.int .i64 n3, .slice A4 l4.length c4]).heap.size := by rw [zE]; exact νl hz0 hb0.size
   generalize W0.setCells w 0 [.int .i64 n3, .slice A4 l4.length c4] = wz at *;clear hb0 q0 q1 s0 s1 u0 u1 u2 v0 v1 v2;obtain ⟨q0, s0, q1, s1⟩ := sqX2 HXw.out;go_wp2_with fail;exact κr (v := .tuple #[.agg #[.int .i64 n3, .slice A4 l4.length c4], .int .i64 rd5.i, .int .i64 0]) (by simp [results, Tryz.results116, go_sem, q0, q1, hlt]) rfl (by rw [EE]; exact ⟨HBw.out, _, 0, rfl, ⟨_, rfl, HW4w.out.mono StE.own (by omega)⟩, .inl ⟨show (0 : Int) ≠ -1 by decide, rfl⟩⟩)
  ·have EE : RP = (bidE 6 (⟨n3, l4⟩), bd0, 0) := by rw [EP.out, E.out]; simp only [fin, HE.out]; rw [if_neg (by simp), if_pos hk]
   have ec : Hid (bidE 6 (⟨n3, l4⟩) ≠ -1) := iB _ _;generalize bidE 6 (⟨n3, l4⟩) = rc at *;have e1 : (rc == 0) = false := βf hk;have e2 : (rc != 0) = true := βt hk;have HZ := η (HXc.out.sets (vs' := [.int .i64 0, .slice none 0 0]) rfl);have HBz := η (zD HBc.out (νr w) [.int .i64 0, .slice none 0 0] 0);have hlt : w < (wc.setCells w 0 [.int .i64 0, .slice none 0 0]).heap.size := by rw [zE]; exact hz0
   go_wp2_with fail;rw [show ((wc.setCell ⟨w, 0, none⟩ (.int .i64 0)).setCell ⟨w, 1, none⟩ (.slice none 0 0)) = wc.setCells w 0 [.int .i64 0, .slice none 0 0] from rfl];generalize wc.setCells w 0 [.int .i64 0, .slice none 0 0] = wz at *;clear q0 q1 s0 s1 u0 u1 u2 v0 v1 v2;obtain ⟨q0, s0, q1, s1⟩ := sqX2 HZ.out;exact κr (v := .tuple #[.agg #[.int .i64 0, .slice none 0 0], .int .i64 0, .int .i64 rc]) (by simp [results, Tryz.results116, go_sem, q0, q1, hlt]) rfl (by rw [EE]; exact ⟨HBz.out, _, rc, rfl, ⟨_, rfl, RowO.nil_ _ _ _ _ _⟩, .inl ⟨ec.out, rfl⟩⟩)
 ·have EE : RP = (rd5.e, bd0, 0) := by rw [EP.out, E.out]; simp only [fin]; rw [if_pos he]
  have hne : er ≠ 0 := fun h => he (h0.1 h)
  have e1 : (er == 0) = false := βf hne;have e2 : (er != 0) = true := βt hne;have HER : Hid (ErR rd5.e er) := by show ErR _ _; by_cases h : rd5.e = -1; exact .inr ⟨h, h2 h⟩; exact .inl ⟨h, h1 h⟩
  clear h0 h1 h2 h3 he hne;go_wp2_with fail;refine zM (X := Unit) (w0 := w5) [5] (fun jq => [0, 0, 0, 0, 0, 1, 1, 1].getD jq 0) (fun jq => [0, 1, 1, 1, 1, 0, 1, 1].getD jq 0) (fun _ => [(7, .pointer (some ⟨w + 1, 0, none⟩)), (4, .pointer (some ⟨w, 0, none⟩)), (32, .agg #[.int .i64 0, .slice none 0 0]), (33, .pointer (some ⟨w + 1, 0, none⟩)), (34, .pointer (some ⟨w + 1, 0, none⟩)), (35, .pointer (some ⟨w + 1, 2, none⟩)), (36, .int .i64 er), (5, .int .i64 0), (6, .int .i64 er)]) (fun _ => []) [7, 4] (fun t _ W => match t with | 0 => Below w5 w5 W | _ => ∃ W0, Below w5 w5 W0 ∧ W = W0.setCells w 0 [.int .i64 0, .slice none 0 0]) () (Below.refl _ _).drew ?_ ?_ ?_
  ·intro T x t W hT hI htl;simp only [zA, and_true] at hT;rcases t with _ | _ | t
   ·skip
    replace hI : Below w5 w5 W := hI;have c2 := (HRB.out.up hI hz1).c 2 _ rfl;have g2 : w + 1 < W.heap.size := νl hz1 hI.size
    repeat' first | exact AllI.nil | apply AllI.cons
    all_goals intro hn hl hu
    all_goals first | exact absurd hn (by decide) | exact absurd hl (by decide) | exact absurd hu (by decide) | (refine rdT ?_; simp [go_sem, EvT, hT, c2, g2, valT])
   ·skip
    obtain ⟨W0, hI0, rfl⟩ : ∃ W0, Below w5 w5 W0 ∧ W = W0.setCells w 0 [.int .i64 0, .slice none 0 0] := hI;have c2 := ((HRB.out.up hI0 hz1).others (b' := w) (by omega) 0 [.int .i64 0, .slice none 0 0]).c 2 _ rfl;have g2 : w + 1 < (W0.setCells w 0 [.int .i64 0, .slice none 0 0]).heap.size := by rw [zE]; exact νl hz1 hI0.size
    generalize W0.setCells w 0 [.int .i64 0, .slice none 0 0] = W0 at *;have hI := hI0
    repeat' first | exact AllI.nil | apply AllI.cons
    all_goals intro hn hl hu
    all_goals first | exact absurd hn (by decide) | exact absurd hl (by decide) | exact absurd hu (by decide) | (refine rdT ?_; simp [go_sem, EvT, hT, c2, g2, valT])
   ·exact absurd htl (by simp)
  ·intro T k x W o hk ho hT hI;simp only [zA, and_true] at hT;rcases k with _ | k
   ·cases ho;replace hI : Below w5 w5 W := hI;have hsz := hI.size;have hlt : w < W.heap.size := by omega
    have c0 := (HX.out.up hI hz0).c 0 _ rfl;have g0 := (HX.out.up hI hz0).f 0 (by simp);have c1 := (HX.out.up hI hz0).c 1 _ rfl;have g1 := (HX.out.up hI hz0).f 1 (by simp);refine chT_s (W' := ((W.setCell ⟨w, 0, none⟩ (.int .i64 0)).setCell ⟨w, 1, none⟩ (.slice none 0 0))) ?_ (⟨W, hI, rfl⟩);clear hI;simp [go_sem, EvT, hT, c0, g0, c1, g1, hlt]
   ·exact absurd hk (by simp)
  intro x wx hI;simp (decide := true) only [putT, valT, look, Act.put, σi, σo, σs, Nat.reduceAdd, if_true, if_false];replace hI : (fun t _ W => match t with | 0 => Below w5 w5 W | _ => ∃ W0, Below w5 w5 W0 ∧ W = W0.setCells w 0 [.int .i64 0, .slice none 0 0]) 1 x wx := hI
  (try dsimp only at hI)
  obtain ⟨W0, hb0, rfl⟩ : ∃ W0, Below w5 w5 W0 ∧ wx = W0.setCells w 0 [.int .i64 0, .slice none 0 0] := hI;have HXw := η ((HX.out.up hb0 hz0).sets (vs' := [.int .i64 0, .slice none 0 0]) rfl);have HBw := η (zD (HB.out.trans (hb0.mono (κl hz0))) (νr w) [.int .i64 0, .slice none 0 0] 0);have hlt : w < (W0.setCells w 0 [.int .i64 0, .slice none 0 0]).heap.size := by rw [zE]; exact νl hz0 hb0.size
  generalize W0.setCells w 0 [.int .i64 0, .slice none 0 0] = wz at *;clear hb0 q0 q1 s0 s1 u0 u1 u2 v0 v1 v2;obtain ⟨q0, s0, q1, s1⟩ := sqX2 HXw.out;go_wp2_with fail;exact κr (v := .tuple #[.agg #[.int .i64 0, .slice none 0 0], .int .i64 0, .int .i64 er]) (by simp [results, Tryz.results116, go_sem, q0, q1, hlt]) rfl (by rw [EE]; exact ⟨HBw.out, _, er, rfl, ⟨_, rfl, RowO.nil_ _ _ _ _ _⟩, HER.out⟩)
end Go.Proofs.YtkfhpefmmhljmaaGreatDoor
