/- Texts in one: CkF, CpC. -/
import Derived.Test.YtkfhpefmmhljmaaGreatDoorQ26
import Derived.Test.YtkfhpefmmhljmaaGreatDoorQ19
import Derived.Test.YtkfhpefmmhljmaaGreatDoorQ28
import Derived.Test.YtkfhpefmmhljmaaGreatDoorQ24
import Derived.Test.YtkfhpefmmhljmaaGreatDoorQ23
set_option linter.unusedVariables false
set_option linter.unusedSimpArgs false
set_option maxRecDepth 100000
/- CkF -/
namespace Go.Proofs.YtkfhpefmmhljmaaGreatDoor
open Go.RowKit
set_option maxHeartbeats 2000000 in
theorem checkBid_any (b : Bd) (A : Option Addr) (c : Nat) (w : World) (hr : RowR StE 2 w w.heap.size A b.steps) :
  Calls Tryz.prog 132 #[.agg #[.int .i64 b.bus, .slice A b.steps.length c]] w (ErrE w (bidE 6 b)) := by
 obtain ⟨bus, steps⟩ := b;have E : Hid (bidE 6 ⟨bus, steps⟩ = if !inB bus 6 then 1 else stepsE falls steps) := rfl;generalize bidE 6 ⟨bus, steps⟩ = R at *;dsimp only at hr ⊢;have K1 := Lib.hid fun W h => fall_any A c steps W h
 have HR := Lib.hid hr;have HB0 := Lib.hid ((Below.refl w.heap.size w).alloc (Nat.le_refl _) (.cells #[.int .i64 bus, .slice A steps.length c] 133));clear hr;go_enter Tryz.func132, Tryz.ntmps132;by_cases hb : inB bus 6 = true
 ·have hb' := hb;unfold inB at hb';simp only [Bool.and_eq_true, decide_eq_true_eq] at hb';have d1 : decide (bus < 0) = false := decide_eq_false (by omega);have d2 : decide (6 ≤ bus) = false := decide_eq_false (by omega);replace E : Hid (R = _) := E.out.trans (if_neg (by rw [hb]; simp));clear hb hb';go_wp2_with fail;refine (K1.out _ (HR.out.upto StE.keep ((Below.refl w.heap.size w).alloc (Nat.le_refl _) _))).mono ?_;rintro e w1 ⟨rfl, hb1⟩;have HB1 := Lib.hid (HB0.out.trans (hb1.mono (by simp)));clear hb1;go_wp2_with fail;go_ret;exact ⟨ret_int E.out.symm, HB1.out⟩
 ·have hb' : bus < 0 ∨ (¬ bus < 0 ∧ 6 ≤ bus) := by
   simp [inB] at hb;omega
  have HE : Hid (R = 1) := E.out.trans (if_pos (by simp [hb]));clear hb;rcases hb' with h | ⟨h1, h2⟩
  ·have d1 : decide (bus < 0) = true := decide_eq_true h;go_wp2_with fail;go_ret;exact ⟨ret_int HE.out.symm, HB0.out⟩
  ·have d1 : decide (bus < 0) = false := decide_eq_false h1;have d2 : decide (6 ≤ bus) = true := decide_eq_true h2;go_wp2_with fail;go_ret;exact ⟨ret_int HE.out.symm, HB0.out⟩
set_option maxHeartbeats 4000000 in
theorem valid_any (k x f t : Int) (w : World) : Calls Tryz.prog 71 #[.agg #[.int .u8 k, .int .i64 x, .int .i64 f, .int .i64 t]] w fun e w' => e = .returned (.bool (ogValid (k, x, f, t))) ∧ Below w.heap.size w w' := by
 have HB0 := Lib.hid ((Below.refl w.heap.size w).alloc (Nat.le_refl _) (.cells #[.int .u8 k, .int .i64 x, .int .i64 f, .int .i64 t] 53));by_cases hk : k = 3
 ·have E : Hid (ogValid (k, x, f, t) = decide (0 ≤ x ∧ x < 5 ∧ 0 ≤ f ∧ f ≤ t ∧ t < 8)) := by
   show _ = _
   subst hk;rw [Bool.eq_iff_iff];simp [ogValid, and_assoc]
  have b1 : (k == 3) = true := beq_iff_eq.2 hk;generalize ogValid (k, x, f, t) = R at *;clear hk;go_enter Tryz.func71, Tryz.ntmps71;go_wp2_with fail
  all_goals
   go_ret;exact ⟨ret_bool (by rw [E.out, Bool.eq_iff_iff]; simp <;> omega), HB0.out⟩
 ·have E : Hid (ogValid (k, x, f, t) = decide (0 ≤ x ∧ x < 10 ∧ 0 ≤ f ∧ f ≤ t ∧ t < 8)) := by
   show _ = _
   rw [Bool.eq_iff_iff];simp [ogValid, and_assoc, hk]
  have b1 : (k == 3) = false := beq_eq_false_iff_ne.2 hk;generalize ogValid (k, x, f, t) = R at *;clear hk;go_enter Tryz.func71, Tryz.ntmps71;go_wp2_with fail
  all_goals
   go_ret;exact ⟨ret_bool (by rw [E.out, Bool.eq_iff_iff]; simp <;> omega), HB0.out⟩
theorem exists_any (a n : Int) (w : World) : Calls Tryz.prog 90 #[.int .i64 a, .int .i64 n] w fun e w' => e = .returned (.bool (inB a n)) ∧ Below w.heap.size w w' := by
 have HB0 := Lib.hid (Below.refl w.heap.size w);have E : Hid (inB a n = decide (0 ≤ a ∧ a < n)) := by
  show _ = _
  rw [Bool.eq_iff_iff];simp [inB]
 generalize inB a n = R at *;go_enter Tryz.func90, Tryz.ntmps90;go_wp2_with fail
 all_goals
  go_ret;exact ⟨ret_bool (by rw [E.out, Bool.eq_iff_iff]; simp <;> omega), HB0.out⟩
def PlE (w : World) (n : Int) (e : Ending) (w' : World) : Prop := ∃ p, e = .returned (.tuple #[.int .i64 p, .int .i64 n]) ∧ Below w.heap.size w w'
theorem PlE.of {w W : World} {p n n' : Int} (h : n' = n) (hb : Below w.heap.size w W) : PlE w n' (.returned (.tuple #[.int .i64 p, .int .i64 n])) W := ⟨p, by rw [h], hb⟩
set_option maxHeartbeats 8000000 in
theorem right_any (A : Option Addr) (c : Nat) (l : List Rt) (n : Int) (w : World) (hr : RowR RtE 3 w w.heap.size A l) (hl : l.length ≤ 1000000) :
  Calls Tryz.prog 40 #[.slice A l.length c, .int .i64 n] w (PlE w (rightsE n l)) := by
 have HR := Lib.hid hr;have HB0 := Lib.hid (Below.refl w.heap.size w);clear hr;by_cases h8 : 8 < l.length
 ·have E : Hid (rightsE n l = 5) := if_pos h8;have e3 : decide ((8 : Int) < (l.length : Int)) = true := decide_eq_true (by omega);clear h8;go_enter Tryz.func40, Tryz.ntmps40;go_wp2_with fail;go_ret2;exact PlE.of E.out HB0.out
 have e3 : decide ((8 : Int) < (l.length : Int)) = false := decide_eq_false (by omega);have E : Hid (rightsE n l = if l.all (rtOk n) then 0 else 1) := if_neg h8;generalize rightsE n l = R at *;clear h8;go_enter Tryz.func40, Tryz.ntmps40;go_wp2_with fail;go_loopg [4, 5, 6, 7, 13] l.length (fun g s4 s5 s6 s7 s13 wr => ∃ k : Nat, k + g = l.length ∧ s13 = .int .i64 (k : Int) ∧ (l.take k).all (rtOk n) = true ∧ Below w.heap.size w wr)
 case atStart => exact ⟨0, by omega, rfl, rfl, HB0.out⟩
 case round =>
  clear HB0 e3;obtain ⟨k, hkg, rfl, hs, hb⟩ := hrel;have HS := Lib.hid hs;have HB := Lib.hid hb;clear hs hb;cases gk with
  | zero =>
   obtain rfl : k = l.length := by omega
   have HE : Hid (R = 0) := by
    have h := HS.out;rw [List.take_length] at h;show _ = _
    rw [E.out, if_pos h]
   clear hkg HS HR E;go_wp2_with fail
   try rw [Exit.noGoto_ret]
   go_ret2;exact PlE.of HE.out HB.out
  | succ g =>
   have hk : k < l.length := by omega
   have HG := Lib.hid hkg;clear hkg;obtain ⟨b, off, cc, rfl, hbl, hcn, hce, hcc⟩ := HR.out.at_ k (0, 0, 0) hk;rw [show cc = rtC (l.getD k (0, 0, 0)) from hce] at hcc;have f0 : wr.cell? ⟨b, off + k * 3, none⟩ = some (.int .i64 (l.getD k (0, 0, 0)).1) := (HB.out.cell (p := ⟨b, off + k * 3, none⟩) hbl).trans (hcc 0 _ rfl);have f1 : wr.cell? ⟨b, off + k * 3 + 1, none⟩ = some (.int .i64 (l.getD k (0, 0, 0)).2.1) := (HB.out.cell (p := ⟨b, off + k * 3 + 1, none⟩) hbl).trans (hcc 1 _ rfl);have f2 : wr.cell? ⟨b, off + k * 3 + 2, none⟩ = some (.int .i64 (l.getD k (0, 0, 0)).2.2) := (HB.out.cell (p := ⟨b, off + k * 3 + 2, none⟩) hbl).trans (hcc 2 _ rfl);have hz := HB.out.size;have HYes : Hid (rtOk n (l.getD k (0, 0, 0)) = true → (l.take (k + 1)).all (rtOk n) = true) := fun h => all_take_succ _ _ _ _ hk HS.out h
   have HNo : Hid (rtOk n (l.getD k (0, 0, 0)) = false → R = 1) := fun h => by rw [E.out, all_not _ _ _ _ hk h]; rfl
   clear hcc hce hcn HS;cases hx : l.getD k (0, 0, 0) with
   | mk rf rest =>
   obtain ⟨rt, rq⟩ := rest;rw [hx] at f0 f1 f2 HYes HNo;clear hx;have HD : Hid (rtOk n (rf, rt, rq) = (inB rf n && inB rt n && decide (0 ≤ rq) && decide (rq ≤ 1000000))) := rfl;generalize rtOk n (rf, rt, rq) = ok at *;dsimp only at f0 f1 f2;have K1 := Lib.hid fun W => exists_any rf n W
   have K2 := Lib.hid fun W => exists_any rt n W
   have HB1 := Lib.hid (HB.out.alloc (by omega) (.cells #[.int .i64 rf, .int .i64 rt, .int .i64 rq] 51));cases h1 : inB rf n with
   | false =>
    rw [h1] at K1 HD;have HE : Hid (R = 1) := HNo.out HD.out;clear h1 HNo HYes HD E;go_wp2_with fail;refine (K1.out _).mono ?_;rintro e w1 ⟨rfl, hb1⟩;have HB2 := Lib.hid (HB1.out.trans (hb1.mono (by simp; omega)));clear hb1;go_wp2_with fail
    try rw [Exit.noGoto_ret]
    go_ret2;exact PlE.of HE.out HB2.out
   | true =>
    rw [h1] at K1 HD;clear h1;go_wp2_with fail;refine (K1.out _).mono ?_;rintro e w1 ⟨rfl, hb1⟩;have HX1 := Lib.hid ((Box.new wr #[.int .i64 rf, .int .i64 rt, .int .i64 rq] 51).up hb1 (by simp));have HB2 := Lib.hid (HB1.out.trans (hb1.mono (by simp; omega)));have hlt : wr.heap.size < w1.heap.size := HX1.out.lt (by simp);clear hb1 HB1;obtain ⟨q0, s0, q1, s1, q2, s2⟩ := sqX3 HX1.out;cases h2 : inB rt n with
    | false =>
     rw [h2] at K2 HD;have HE : Hid (R = 1) := HNo.out HD.out;clear h2 HNo HYes HD E;go_wp2_with fail;refine (K2.out _).mono ?_;rintro e w2 ⟨rfl, hb1⟩;have HB3 := Lib.hid (HB2.out.trans (hb1.mono (by omega)));clear hb1;go_wp2_with fail
     try rw [Exit.noGoto_ret]
     go_ret2;exact PlE.of HE.out HB3.out
    | true =>
     rw [h2] at K2 HD;clear h2;go_wp2_with fail;refine (K2.out _).mono ?_;rintro e w2 ⟨rfl, hb1⟩;have HX2 := Lib.hid (HX1.out.up hb1 hlt);have HB3 := Lib.hid (HB2.out.trans (hb1.mono (by omega)));clear hb1 q0 q1 q2 s0 s1 s2;obtain ⟨q0, s0, q1, s1, q2, s2⟩ := sqX3 HX2.out;by_cases h3 : rq < 0
     ·have d1 : decide (rq < 0) = true := decide_eq_true h3;have HE : Hid (R = 1) := HNo.out (HD.out.trans (by simp; omega));clear h3 HNo HYes HD E;go_wp2_with fail
      try rw [Exit.noGoto_ret]
      go_ret2;exact PlE.of HE.out HB3.out
     ·have d1 : decide (rq < 0) = false := decide_eq_false h3;by_cases h4 : 1000000 < rq
      ·have d2 : decide (1000000 < rq) = true := decide_eq_true h4;have HE : Hid (R = 1) := HNo.out (HD.out.trans (by simp; omega));clear h3 h4 HNo HYes HD E;go_wp2_with fail
       try rw [Exit.noGoto_ret]
       go_ret2;exact PlE.of HE.out HB3.out
      ·have d2 : decide (1000000 < rq) = false := decide_eq_false h4;have HY := Lib.hid (HYes.out (HD.out.trans (by simp; omega)));clear h3 h4 HNo HYes HD;go_wp2_with fail;go_roundg g
       case measure => omega
       case rel => exact ⟨k + 1, by have := HG.out; omega, by go_num, HY.out, HB3.out⟩
end Go.Proofs.YtkfhpefmmhljmaaGreatDoor
/- CpC -/
namespace Go.Proofs.YtkfhpefmmhljmaaGreatDoor
open Go.RowKit
set_option maxRecDepth 100000
def ErR (a b : Int) : Prop := (a ≠ -1 ∧ b = a) ∨ (a = -1 ∧ b ≠ 0 ∧ b ≠ 8)
def ParE {α : Type} (E : Enc α) (r : Int × α × Int) (w : World) (e : Ending) (w' : World) : Prop :=
 Below w.heap.size w w' ∧ ∃ cells er, e = .returned (.tuple #[.agg cells.toArray, .int .i64 r.2.2, .int .i64 er]) ∧ E w' w.heap.size cells r.2.1 ∧ ErR r.1 er
theorem below_grown {B g : Nat} {a w w' : World} (h : Below B a w) (k : w.grownBy w' (some g)) (hg : B ≤ g) (hB : B ≤ w.heap.size) : Below B a w' :=
 h.grown k hB (fun j hj => by injection hj with hj; omega)
theorem RdR.set {w : World} {b : Nat} {s : Bytes} {rd : Rd} (h : RdR w b s rd) {p : Addr} (hp : p.block ≠ b) (v : Value) : RdR (w.setCell p v) b s rd := by
 obtain ⟨i, er, h1, h2⟩ := h;exact ⟨i, er, h1.other hp v, h2⟩
theorem stGo_ne (f : Int → Int → Bool) : ∀ (l : List St) (pv : Option Int), stGo f pv l ≠ -1 := by
 intro l
 induction l with
 | nil => intro pv; simp [stGo]
 | cons x l ih =>
  intro pv;rw [stGo];split
  ·decide
  ·split
   ·decide
   ·exact ih _
theorem stepsE_ne (f : Int → Int → Bool) (l : List St) : stepsE f l ≠ -1 := by
 unfold stepsE;split
 ·decide
 ·split
  ·decide
  ·exact stGo_ne f l none
theorem bidE_ne (n : Int) (b : Bd) : bidE n b ≠ -1 := by
 unfold bidE;split
 ·decide
 ·exact stepsE_ne _ _
theorem unitE_ne (n : Int) (u : Un) : unitE n u ≠ -1 := by
 unfold unitE;split
 ·decide
 ·split
  ·exact stepsE_ne _ _
  ·split <;> decide
theorem RdR.start (w : World) (b : Nat) (s : Bytes) (i : Int) (hi : -9223372036854775808 ≤ i ∧ i ≤ 9223372036854775807) (h : Box w b [.string (bstr s), .int .i64 i, .int .i64 0]) : RdR w b s ⟨i, 0⟩ :=
 ⟨i, 0, h, fun _ => rfl, (fun h => by cases h), fun _ => ⟨rfl, hi⟩⟩
set_option maxHeartbeats 8000000 in
theorem pbid_any (s : Bytes) (i : Int) (w : World) (hs : SlOk s) (hl : s.length ≤ 1000000) (hi : -9223372036854775808 ≤ i ∧ i ≤ 9223372036854775807) :
  Calls Tryz.prog 116 #[.string (bstr s), .int .i64 i] w (ParE BdO (bidP s i) w) := by
 have KT := Lib.hid fun k rd W hk hR => bExpect_any (w.heap.size + 1) s k rd W hs hl hk hR
 have KW := Lib.hid fun y rd W hR => bWord_any (w.heap.size + 1) s y rd W hs hl hR
 have KI := Lib.hid fun rd W hR => bInteger_any (w.heap.size + 1) s rd W hs hl hR
 have KL := Lib.hid fun rd W hR => slist_any (w.heap.size + 1) s rd W hs hl hR
 have E : Hid (bidR s i = (⟨(rInt s (rWord s [98, 105, 100] (rTok s 1 ⟨i, 0⟩))).1, (stepsP s (fuel s) (rInt s (rWord s [98, 105, 100] (rTok s 1 ⟨i, 0⟩))).2).1⟩, rTok s 2 (stepsP s (fuel s) (rInt s (rWord s [98, 105, 100] (rTok s 1 ⟨i, 0⟩))).2).2)) := rfl;have EP : Hid (bidP s i = fin bd0 (bidE 6) (bidR s i)) := rfl;generalize bidP s i = RP at *;generalize bidR s i = R at *;have HX : Hid (Box ((w.alloc (.cells #[.int .i64 0, .slice none 0 0] 133)).alloc (.cells #[.string (bstr s), .int .i64 i, .int .i64 0] 176)) w.heap.size [.int .i64 0, .slice none 0 0]) := (Box.new w #[.int .i64 0, .slice none 0 0] 133).alloc (by simp) _;have HR : Hid (RdR ((w.alloc (.cells #[.int .i64 0, .slice none 0 0] 133)).alloc (.cells #[.string (bstr s), .int .i64 i, .int .i64 0] 176)) (w.heap.size + 1) s ⟨i, 0⟩) := by
  show RdR _ _ _ _
  refine RdR.start _ _ _ _ hi ?_;have := Box.new (w.alloc (.cells #[.int .i64 0, .slice none 0 0] 133)) #[.string (bstr s), .int .i64 i, .int .i64 0] 176;simpa using this
 have HB : Hid (Below w.heap.size w ((w.alloc (.cells #[.int .i64 0, .slice none 0 0] 133)).alloc (.cells #[.string (bstr s), .int .i64 i, .int .i64 0] 176))) := ((Below.refl _ _).alloc (Nat.le_refl _) _).alloc (by simp) _;have hzz : w.heap.size + 1 < ((w.alloc (.cells #[.int .i64 0, .slice none 0 0] 133)).alloc (.cells #[.string (bstr s), .int .i64 i, .int .i64 0] 176)).heap.size := by simp
 clear hs hi;go_enter Tryz.func116, Tryz.ntmps116;obtain ⟨q0, s0, q1, s1⟩ := sqX2 HX.out;go_wp2_with fail;refine (KT.out 1 _ _ (by decide) HR.out).mono ?_;rintro e w1 ⟨rfl, hR, hg⟩;have HX1 := Lib.hid (HX.out.grown hg (by omega) (by omega));have HB1 := Lib.hid (below_grown HB.out hg (by omega) (by omega));have hz1 : w.heap.size + 1 < w1.heap.size := Nat.lt_of_lt_of_le hzz hg.size;replace HR := Lib.hid hR;clear HX HB hzz hR hg;have HX := HX1;have HB := HB1;have hzz := hz1;clear HX1 HB1 hz1;generalize rTok s 1 ⟨i, 0⟩ = rd1 at *;clear q0 q1 s0 s1;obtain ⟨q0, s0, q1, s1⟩ := sqX2 HX.out;go_wp2_with fail;refine (KW.out [98, 105, 100] _ _ HR.out).mono ?_;rintro e w2 ⟨rfl, hR, hg⟩;have HX2 := Lib.hid (HX.out.grown hg (by omega) (by omega));have HB2 := Lib.hid (below_grown HB.out hg (by omega) (by omega));have hz2 : w.heap.size + 1 < w2.heap.size := Nat.lt_of_lt_of_le hzz hg.size;replace HR := Lib.hid hR;clear HX HB hzz hR hg;have HX := HX2;have HB := HB2;have hzz := hz2;clear HX2 HB2 hz2;generalize rWord s [98, 105, 100] rd1 = rd2 at *;clear q0 q1 s0 s1;obtain ⟨q0, s0, q1, s1⟩ := sqX2 HX.out;go_wp2_with fail;refine (KI.out _ _ HR.out).mono ?_;rintro e w3 ⟨rfl, hR, hg⟩;have HX3 := Lib.hid (HX.out.grown hg (by omega) (by omega));have HB3 := Lib.hid (below_grown HB.out hg (by omega) (by omega));have hz3 : w.heap.size + 1 < w3.heap.size := Nat.lt_of_lt_of_le hzz hg.size;replace HR := Lib.hid hR;clear HX HB hzz hR hg;have HX := HX3;have HB := HB3;have hzz := hz3;clear HX3 HB3 hz3;generalize rInt s rd2 = ri3 at *;obtain ⟨n3, rd3⟩ := ri3;dsimp only at E HR ⊢;clear q0 q1 s0 s1;obtain ⟨q0, s0, q1, s1⟩ := sqX2 HX.out;replace HR := Lib.hid (HR.out.set (p := ⟨w.heap.size, 0, none⟩) (by simp) (.int .i64 n3));replace HX := Lib.hid (HX.out.set1 0 (by simp) (.int .i64 n3));replace HX : Hid (Box (w3.setCell ⟨w.heap.size, 0, none⟩ (.int .i64 n3)) w.heap.size [.int .i64 n3, .slice none 0 0]) := HX.out;replace HB := Lib.hid (HB.out.setCell (p := ⟨w.heap.size, 0, none⟩) (Nat.le_refl _) (.int .i64 n3));have hzp : w.heap.size + 1 < (w3.setCell ⟨w.heap.size, 0, none⟩ (.int .i64 n3)).heap.size := by simp; omega
 clear hzz;have hzz := hzp;clear hzp;go_wp2_with fail;refine (KL.out _ _ HR.out).mono ?_;rintro e w4 ⟨v, rfl, hrow, hlen4, hR, hg⟩;have HW4 := Lib.hid (RowO.mono StE.own hrow (base' := w.heap.size + 2) (by omega));clear hrow;have HX4 := Lib.hid (HX.out.grown hg (by omega) (by omega));have HB4 := Lib.hid (below_grown HB.out hg (by omega) (by omega));have hz4 : w.heap.size + 1 < w4.heap.size := Nat.lt_of_lt_of_le hzz hg.size;replace HR := Lib.hid hR;clear HX HB hzz hR hg;have HX := HX4;have HB := HB4;have hzz := hz4;clear HX4 HB4 hz4;generalize stepsP s (fuel s) rd3 = rl4 at *;obtain ⟨l4, rd4⟩ := rl4;dsimp only at E HR HW4 hlen4 ⊢;obtain ⟨A4, c4, rfl, _⟩ : ∃ A c, v = .slice A l4.length c ∧ l4.length ≤ c := by obtain ⟨_, _, _, _, ho⟩ := HW4.out; exact ownsRow_slice ho
 clear q0 q1 s0 s1;obtain ⟨q0, s0, q1, s1⟩ := sqX2 HX.out;replace HR := Lib.hid (HR.out.set (p := ⟨w.heap.size, 1, none⟩) (by simp) (.slice A4 l4.length c4));replace HX := Lib.hid (HX.out.set1 1 (by simp) (.slice A4 l4.length c4));replace HX : Hid (Box (w4.setCell ⟨w.heap.size, 1, none⟩ (.slice A4 l4.length c4)) w.heap.size [.int .i64 n3, .slice A4 l4.length c4]) := HX.out;replace HB := Lib.hid (HB.out.setCell (p := ⟨w.heap.size, 1, none⟩) (Nat.le_refl _) (.slice A4 l4.length c4));replace HW4 := Lib.hid (HW4.out.set StE.own (g := w.heap.size) (by omega) [.slice A4 l4.length c4] 1);have hzp : w.heap.size + 1 < (w4.setCell ⟨w.heap.size, 1, none⟩ (.slice A4 l4.length c4)).heap.size := by simp; omega
 clear hzz;have hzz := hzp;clear hzp;go_wp2_with fail;refine (KT.out 2 _ _ (by decide) HR.out).mono ?_;rintro e w5 ⟨rfl, hR, hg⟩;have HX5 := Lib.hid (HX.out.grown hg (by omega) (by omega));have HB5 := Lib.hid (below_grown HB.out hg (by omega) (by omega));replace HW4 := Lib.hid (HW4.out.grown StE.own hg (by omega));have hz5 : w.heap.size + 1 < w5.heap.size := Nat.lt_of_lt_of_le hzz hg.size;replace HR := Lib.hid hR;clear HX HB hzz hR hg;have HX := HX5;have HB := HB5;have hzz := hz5;clear HX5 HB5 hz5;generalize rTok s 2 rd4 = rd5 at *;clear q0 q1 s0 s1;obtain ⟨q0, s0, q1, s1⟩ := sqX2 HX.out;obtain ⟨i', er, hB, h0, h1, h2, h3⟩ := HR.out.er;have HRB := Lib.hid hB;obtain ⟨u0, v0, u1, v1, u2, v2⟩ := sqX3 hB;have hz1 : w.heap.size + 1 < w5.heap.size := hzz;have hz0 : w.heap.size < w5.heap.size := by omega
 clear hB;by_cases he : rd5.e = 0
 ·obtain rfl : er = 0 := h0.2 he;have hp' := (h3 he).1;subst hp';have HE := Lib.hid he;clear h0 h1 h2 h3 he;obtain ⟨A', c', hv, hc, hr⟩ := HW4.out.read (E' := StE) (fun _ _ h => h);injection hv with hv1 hv2 hv3
  subst hv1 hv3;have KC := Lib.hid (checkBid_any ⟨n3, l4⟩ A4 c4 w5 hr);clear hr hc;go_wp2_with fail;refine KC.out.mono ?_;rintro e wc ⟨rfl, hbc⟩;have HXc := Lib.hid (HX.out.up hbc hz0);have HRc := Lib.hid (HRB.out.up hbc hz1);have HBc := Lib.hid (HB.out.trans (hbc.mono (Nat.le_of_lt hz0)));have HW4c := Lib.hid (HW4.out.below StE.own hbc);have hzc0 : w.heap.size < wc.heap.size := Nat.lt_of_lt_of_le hz0 hbc.size;have hzc1 : w.heap.size + 1 < wc.heap.size := Nat.lt_of_lt_of_le hz1 hbc.size;clear q0 q1 s0 s1 u0 u1 u2 v0 v1 v2 HX HRB HB hz0 hz1 hzz hbc KC;have hz0 := hzc0;have hz1 := hzc1;obtain ⟨q0, s0, q1, s1⟩ := sqX2 HXc.out;obtain ⟨u0, v0, u1, v1, u2, v2⟩ := sqX3 HRc.out;by_cases hk : bidE 6 (⟨n3, l4⟩) = 0
  ·have EE : RP = (0, ⟨n3, l4⟩, rd5.i) := by rw [EP.out, E.out]; simp only [fin, HE.out, hk]; rfl
   rw [hk];go_wp2_with fail;refine region_chain (X := Unit) (w0 := wc) [5] (fun jq => [0, 0, 0, 0, 0, 1, 1, 1].getD jq 0) (fun jq => [0, 1, 1, 1, 1, 0, 1, 1].getD jq 0) (fun _ x jq => (match jq with | 0 => .agg #[.int .i64 n3, .slice A4 l4.length c4] | 1 => .pointer (some ⟨w.heap.size + 1, 0, none⟩) | 2 => .pointer (some ⟨w.heap.size + 1, 0, none⟩) | 3 => .pointer (some ⟨w.heap.size + 1, 1, none⟩) | 4 => .int .i64 rd5.i | 5 => undef | 6 => .int .i64 rd5.i | 7 => .int .i64 0 | _ => undef)) (fun t _ W => match t with | 0 => Below wc.heap.size wc W | _ => ∃ W0, Below wc.heap.size wc W0 ∧ W = W0.setCells w.heap.size 0 [.int .i64 n3, .slice A4 l4.length c4]) () (by kernel_rfl) (by kernel_rfl) (by kernel_rfl) (Below.refl _ _).drew ?_ ?_ ?_
   ·intro iq oq ho hnc aq W t x hI htl hcl hub hdep hrest hgd;have hdep := @sqD _ _ _ hdep;have hgd := @sqG _ _ _ _ hgd;have hc := sqC aq;rcases iq with _|_|_|_|_|_|_|_|iq
    ·cases ho;have r4 : aq.eval (.tmp 4) = .pointer (some ⟨w.heap.size, 0, none⟩) := hrest 4 (by kernel_rfl);clear hrest hdep hgd;refine sqJ ?_;have ht : t = 0 := by have h1 : 0 ≤ t := hcl; have h2 : t ≤ 0 := hub; omega
     clear hcl hub;rcases ht with rfl
     ·skip
      replace hI : Below wc.heap.size wc W := hI;have hsz := hI.size;have hlt : w.heap.size < W.heap.size := by omega
      have c0 := (HXc.out.up hI hz0).c 0 _ rfl;have g0 := (HXc.out.up hI hz0).f 0 (by simp);have c1 := (HXc.out.up hI hz0).c 1 _ rfl;have g1 := (HXc.out.up hI hz0).f 1 (by simp);clear hI htl;generalize aq.eval = ρ at *;simp [go_sem, r4, c0, g0, c1, g1, hlt]
    ·cases ho;refine sqJ ?_;simp [go_sem, hrest 7 (by kernel_rfl)]
    ·cases ho;refine sqJ ?_;simp [go_sem, hdep ⟨1, .data⟩]
    ·cases ho;refine sqJ ?_;simp [go_sem, hdep ⟨2, .data⟩]
    ·cases ho;clear hrest;have d3 : aq.eval (.tmp 46) = .pointer (some ⟨w.heap.size + 1, 1, none⟩) := hdep ⟨3, .data⟩;clear hdep hgd;refine sqJ ?_;have ht : t = 0 ∨ t = 1 := by have h1 : 0 ≤ t := hcl; have h2 : t ≤ 1 := hub; omega
     clear hcl hub;rcases ht with rfl | rfl
     ·skip
      replace hI : Below wc.heap.size wc W := hI;have c1 := (HRc.out.up hI hz1).c 1 _ rfl;have g1 : w.heap.size + 1 < W.heap.size := Nat.lt_of_lt_of_le hz1 hI.size;clear hI htl;generalize aq.eval = ρ at *;simp [go_sem, d3, c1, g1]
     ·skip
      obtain ⟨W0, hI0, rfl⟩ : ∃ W0, Below wc.heap.size wc W0 ∧ W = W0.setCells w.heap.size 0 [.int .i64 n3, .slice A4 l4.length c4] := hI;have c1 := ((HRc.out.up hI0 hz1).others (b' := w.heap.size) (by omega) 0 [.int .i64 n3, .slice A4 l4.length c4]).c 1 _ rfl;have g1 : w.heap.size + 1 < (W0.setCells w.heap.size 0 [.int .i64 n3, .slice A4 l4.length c4]).heap.size := by rw [size_sets]; exact Nat.lt_of_lt_of_le hz1 hI0.size
      generalize W0.setCells w.heap.size 0 [.int .i64 n3, .slice A4 l4.length c4] = W0 at *;have hI := hI0;clear hI htl;generalize aq.eval = ρ at *;simp [go_sem, d3, c1, g1]
    ·exact absurd rfl (hnc 0 (by decide))
    ·cases ho;refine sqJ ?_;simp [go_sem, hdep ⟨4, .data⟩]
    ·cases ho;refine sqJ ?_;simp [go_sem, hc]
    ·simp at ho
   ·intro k oq hk ho aq W x hI hdep hrest;have hc := sqC aq;have hfn := sqF aq;rcases k with _ | k
    ·cases ho;have r4 : aq.eval (.tmp 4) = .pointer (some ⟨w.heap.size, 0, none⟩) := hrest 4 (by kernel_rfl);clear hrest;have d0 : aq.eval (.tmp 43) = .agg #[.int .i64 n3, .slice A4 l4.length c4] := hdep ⟨0, .data⟩ (by simp) rfl _ _ rfl rfl;clear hdep;replace hI : Below wc.heap.size wc W := hI;have hsz := hI.size;have hlt : w.heap.size < W.heap.size := by omega
     have c0 := (HXc.out.up hI hz0).c 0 _ rfl;have g0 := (HXc.out.up hI hz0).f 0 (by simp);have c1 := (HXc.out.up hI hz0).c 1 _ rfl;have g1 := (HXc.out.up hI hz0).f 1 (by simp);refine ⟨by simp [Region.wanted], fun K Q hK => ?_⟩;refine wp_of_skip (w' := ((W.setCell ⟨w.heap.size, 0, none⟩ (.int .i64 n3)).setCell ⟨w.heap.size, 1, none⟩ (.slice A4 l4.length c4))) ?_ (hK _ _ () (⟨W, hI, rfl⟩) (fun d h => by cases h) (fun j hj hc => by rcases j with _ | _ | _ | _ | _ | _ | _ | _ | j <;> first | rfl | exact absurd hc (by decide)));clear hI hK;generalize aq.eval = ρ at *;simp [go_sem, d0, r4, c0, g0, c1, g1, hlt]
    ·exact absurd hk (by simp)
   intro x wx hI;simp only [putAll, Act.put, List.setIfInBounds_toArray, List.set_cons_zero, List.set_cons_succ, Nat.reduceAdd];replace hI : (fun t _ W => match t with | 0 => Below wc.heap.size wc W | _ => ∃ W0, Below wc.heap.size wc W0 ∧ W = W0.setCells w.heap.size 0 [.int .i64 n3, .slice A4 l4.length c4]) 1 x wx := hI
   (try dsimp only at hI)
   obtain ⟨W0, hb0, rfl⟩ : ∃ W0, Below wc.heap.size wc W0 ∧ wx = W0.setCells w.heap.size 0 [.int .i64 n3, .slice A4 l4.length c4] := hI;have HXw := Lib.hid ((HXc.out.up hb0 hz0).sets (vs' := [.int .i64 n3, .slice A4 l4.length c4]) rfl);have HBw := Lib.hid (below_sets (HBc.out.trans (hb0.mono (Nat.le_of_lt hz0))) (Nat.le_refl w.heap.size) [.int .i64 n3, .slice A4 l4.length c4] 0);have HW4w := Lib.hid ((HW4c.out.below StE.own hb0).set StE.own (g := w.heap.size) (by omega) [.int .i64 n3, .slice A4 l4.length c4] 0);have hlt : w.heap.size < (W0.setCells w.heap.size 0 [.int .i64 n3, .slice A4 l4.length c4]).heap.size := by rw [size_sets]; exact Nat.lt_of_lt_of_le hz0 hb0.size
   generalize W0.setCells w.heap.size 0 [.int .i64 n3, .slice A4 l4.length c4] = wz at *;clear hb0 q0 q1 s0 s1 u0 u1 u2 v0 v1 v2;obtain ⟨q0, s0, q1, s1⟩ := sqX2 HXw.out;go_wp2_with fail;exact bodyPost_ret (v := .tuple #[.agg #[.int .i64 n3, .slice A4 l4.length c4], .int .i64 rd5.i, .int .i64 0]) (by simp [results, Tryz.results116, go_sem, q0, q1, hlt]) rfl (by rw [EE]; exact ⟨HBw.out, _, 0, rfl, ⟨_, rfl, HW4w.out.mono StE.own (by omega)⟩, .inl ⟨show (0 : Int) ≠ -1 by decide, rfl⟩⟩)
  ·have EE : RP = (bidE 6 (⟨n3, l4⟩), bd0, 0) := by rw [EP.out, E.out]; simp only [fin, HE.out]; rw [if_neg (by simp), if_pos hk]
   have ec : Hid (bidE 6 (⟨n3, l4⟩) ≠ -1) := bidE_ne _ _;generalize bidE 6 (⟨n3, l4⟩) = rc at *;have e1 : (rc == 0) = false := beq_eq_false_iff_ne.2 hk;have e2 : (rc != 0) = true := bne_iff_ne.2 hk;have HZ := Lib.hid (HXc.out.sets (vs' := [.int .i64 0, .slice none 0 0]) rfl);have HBz := Lib.hid (below_sets HBc.out (Nat.le_refl w.heap.size) [.int .i64 0, .slice none 0 0] 0);have hlt : w.heap.size < (wc.setCells w.heap.size 0 [.int .i64 0, .slice none 0 0]).heap.size := by rw [size_sets]; exact hz0
   go_wp2_with fail;rw [show ((wc.setCell ⟨w.heap.size, 0, none⟩ (.int .i64 0)).setCell ⟨w.heap.size, 1, none⟩ (.slice none 0 0)) = wc.setCells w.heap.size 0 [.int .i64 0, .slice none 0 0] from rfl];generalize wc.setCells w.heap.size 0 [.int .i64 0, .slice none 0 0] = wz at *;clear q0 q1 s0 s1 u0 u1 u2 v0 v1 v2;obtain ⟨q0, s0, q1, s1⟩ := sqX2 HZ.out;exact bodyPost_ret (v := .tuple #[.agg #[.int .i64 0, .slice none 0 0], .int .i64 0, .int .i64 rc]) (by simp [results, Tryz.results116, go_sem, q0, q1, hlt]) rfl (by rw [EE]; exact ⟨HBz.out, _, rc, rfl, ⟨_, rfl, RowO.nil_ _ _ _ _ _⟩, .inl ⟨ec.out, rfl⟩⟩)
 ·have EE : RP = (rd5.e, bd0, 0) := by rw [EP.out, E.out]; simp only [fin]; rw [if_pos he]
  have hne : er ≠ 0 := fun h => he (h0.1 h)
  have e1 : (er == 0) = false := beq_eq_false_iff_ne.2 hne;have e2 : (er != 0) = true := bne_iff_ne.2 hne;have HER : Hid (ErR rd5.e er) := by show ErR _ _; by_cases h : rd5.e = -1; exact .inr ⟨h, h2 h⟩; exact .inl ⟨h, h1 h⟩
  clear h0 h1 h2 h3 he hne;go_wp2_with fail;refine region_chain (X := Unit) (w0 := w5) [5] (fun jq => [0, 0, 0, 0, 0, 1, 1, 1].getD jq 0) (fun jq => [0, 1, 1, 1, 1, 0, 1, 1].getD jq 0) (fun _ x jq => (match jq with | 0 => .agg #[.int .i64 0, .slice none 0 0] | 1 => .pointer (some ⟨w.heap.size + 1, 0, none⟩) | 2 => .pointer (some ⟨w.heap.size + 1, 0, none⟩) | 3 => .pointer (some ⟨w.heap.size + 1, 2, none⟩) | 4 => .int .i64 er | 5 => undef | 6 => .int .i64 0 | 7 => .int .i64 er | _ => undef)) (fun t _ W => match t with | 0 => Below w5.heap.size w5 W | _ => ∃ W0, Below w5.heap.size w5 W0 ∧ W = W0.setCells w.heap.size 0 [.int .i64 0, .slice none 0 0]) () (by kernel_rfl) (by kernel_rfl) (by kernel_rfl) (Below.refl _ _).drew ?_ ?_ ?_
  ·intro iq oq ho hnc aq W t x hI htl hcl hub hdep hrest hgd;have hdep := @sqD _ _ _ hdep;have hgd := @sqG _ _ _ _ hgd;have hc := sqC aq;rcases iq with _|_|_|_|_|_|_|_|iq
   ·cases ho;refine sqJ ?_;simp [go_sem]
   ·cases ho;refine sqJ ?_;simp [go_sem, hrest 7 (by kernel_rfl)]
   ·cases ho;refine sqJ ?_;simp [go_sem, hdep ⟨1, .data⟩]
   ·cases ho;refine sqJ ?_;simp [go_sem, hdep ⟨2, .data⟩]
   ·cases ho;clear hrest;have d3 : aq.eval (.tmp 35) = .pointer (some ⟨w.heap.size + 1, 2, none⟩) := hdep ⟨3, .data⟩;clear hdep hgd;refine sqJ ?_;have ht : t = 0 ∨ t = 1 := by have h1 : 0 ≤ t := hcl; have h2 : t ≤ 1 := hub; omega
    clear hcl hub;rcases ht with rfl | rfl
    ·skip
     replace hI : Below w5.heap.size w5 W := hI;have c2 := (HRB.out.up hI hz1).c 2 _ rfl;have g2 : w.heap.size + 1 < W.heap.size := Nat.lt_of_lt_of_le hz1 hI.size;clear hI htl;generalize aq.eval = ρ at *;simp [go_sem, d3, c2, g2]
    ·skip
     obtain ⟨W0, hI0, rfl⟩ : ∃ W0, Below w5.heap.size w5 W0 ∧ W = W0.setCells w.heap.size 0 [.int .i64 0, .slice none 0 0] := hI;have c2 := ((HRB.out.up hI0 hz1).others (b' := w.heap.size) (by omega) 0 [.int .i64 0, .slice none 0 0]).c 2 _ rfl;have g2 : w.heap.size + 1 < (W0.setCells w.heap.size 0 [.int .i64 0, .slice none 0 0]).heap.size := by rw [size_sets]; exact Nat.lt_of_lt_of_le hz1 hI0.size
     generalize W0.setCells w.heap.size 0 [.int .i64 0, .slice none 0 0] = W0 at *;have hI := hI0;clear hI htl;generalize aq.eval = ρ at *;simp [go_sem, d3, c2, g2]
   ·exact absurd rfl (hnc 0 (by decide))
   ·cases ho;refine sqJ ?_;simp [go_sem, hc]
   ·cases ho;refine sqJ ?_;simp [go_sem, hdep ⟨4, .data⟩]
   ·simp at ho
  ·intro k oq hk ho aq W x hI hdep hrest;have hc := sqC aq;have hfn := sqF aq;rcases k with _ | k
   ·cases ho;have r4 : aq.eval (.tmp 4) = .pointer (some ⟨w.heap.size, 0, none⟩) := hrest 4 (by kernel_rfl);clear hrest;have d0 : aq.eval (.tmp 32) = .agg #[.int .i64 0, .slice none 0 0] := hdep ⟨0, .data⟩ (by simp) rfl _ _ rfl rfl;clear hdep;replace hI : Below w5.heap.size w5 W := hI;have hsz := hI.size;have hlt : w.heap.size < W.heap.size := by omega
    have c0 := (HX.out.up hI hz0).c 0 _ rfl;have g0 := (HX.out.up hI hz0).f 0 (by simp);have c1 := (HX.out.up hI hz0).c 1 _ rfl;have g1 := (HX.out.up hI hz0).f 1 (by simp);refine ⟨by simp [Region.wanted], fun K Q hK => ?_⟩;refine wp_of_skip (w' := ((W.setCell ⟨w.heap.size, 0, none⟩ (.int .i64 0)).setCell ⟨w.heap.size, 1, none⟩ (.slice none 0 0))) ?_ (hK _ _ () (⟨W, hI, rfl⟩) (fun d h => by cases h) (fun j hj hc => by rcases j with _ | _ | _ | _ | _ | _ | _ | _ | j <;> first | rfl | exact absurd hc (by decide)));clear hI hK;generalize aq.eval = ρ at *;simp [go_sem, d0, r4, c0, g0, c1, g1, hlt]
   ·exact absurd hk (by simp)
  intro x wx hI;simp only [putAll, Act.put, List.setIfInBounds_toArray, List.set_cons_zero, List.set_cons_succ, Nat.reduceAdd];replace hI : (fun t _ W => match t with | 0 => Below w5.heap.size w5 W | _ => ∃ W0, Below w5.heap.size w5 W0 ∧ W = W0.setCells w.heap.size 0 [.int .i64 0, .slice none 0 0]) 1 x wx := hI
  (try dsimp only at hI)
  obtain ⟨W0, hb0, rfl⟩ : ∃ W0, Below w5.heap.size w5 W0 ∧ wx = W0.setCells w.heap.size 0 [.int .i64 0, .slice none 0 0] := hI;have HXw := Lib.hid ((HX.out.up hb0 hz0).sets (vs' := [.int .i64 0, .slice none 0 0]) rfl);have HBw := Lib.hid (below_sets (HB.out.trans (hb0.mono (Nat.le_of_lt hz0))) (Nat.le_refl w.heap.size) [.int .i64 0, .slice none 0 0] 0);have hlt : w.heap.size < (W0.setCells w.heap.size 0 [.int .i64 0, .slice none 0 0]).heap.size := by rw [size_sets]; exact Nat.lt_of_lt_of_le hz0 hb0.size
  generalize W0.setCells w.heap.size 0 [.int .i64 0, .slice none 0 0] = wz at *;clear hb0 q0 q1 s0 s1 u0 u1 u2 v0 v1 v2;obtain ⟨q0, s0, q1, s1⟩ := sqX2 HXw.out;go_wp2_with fail;exact bodyPost_ret (v := .tuple #[.agg #[.int .i64 0, .slice none 0 0], .int .i64 0, .int .i64 er]) (by simp [results, Tryz.results116, go_sem, q0, q1, hlt]) rfl (by rw [EE]; exact ⟨HBw.out, _, er, rfl, ⟨_, rfl, RowO.nil_ _ _ _ _ _⟩, HER.out⟩)
end Go.Proofs.YtkfhpefmmhljmaaGreatDoor
