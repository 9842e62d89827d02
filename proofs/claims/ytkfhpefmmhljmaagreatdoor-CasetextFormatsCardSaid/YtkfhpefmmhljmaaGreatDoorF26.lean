/- Texts in one: CkF, CkG. -/
import Derived.Test.YtkfhpefmmhljmaaGreatDoorF25
set_option linter.unusedVariables false
set_option linter.unusedSimpArgs false
set_option maxHeartbeats 16000000
set_option maxRecDepth 100000
namespace Go.Proofs.YtkfhpefmmhljmaaGreatDoor
open Go.RowKit
theorem yT (b : Bd) (A : Option Addr) (c : Nat) (w : World) (hr : RowR StE 2 w w A b.steps) :
  Calls Tryz.prog 132 #[.agg #[.int .i64 b.bus, .slice A b.steps.length c]] w (ErrE w (bidE 6 b)) := by
 obtain ⟨bus, steps⟩ := b;have E : Hid (bidE 6 ⟨bus, steps⟩ = if !inB bus 6 then 1 else zP falls steps) := rfl;generalize bidE 6 ⟨bus, steps⟩ = R at *;dsimp only at hr ⊢;have K1 := η fun W h => fW A c steps W h
 have HR := η hr;have HB0 := η ((Below.refl w w).alloc (νr _) (.cells #[.int .i64 bus, .slice A steps.length c] 133));clear hr;go_enter Tryz.func132, Tryz.ntmps132;by_cases hb : inB bus 6 = true
 ·have hb' := hb;unfold inB at hb';simp only [κb, κe] at hb';have d1 : decide (bus < 0) = false := κf (by omega);have d2 : decide (6 ≤ bus) = false := κf (by omega);replace E : Hid (R = _) := E.out.trans (if_neg (by rw [hb]; simp));clear hb hb';go_wp2_with fail;refine (K1.out _ (HR.out.upto StE.keep ((Below.refl w w).alloc (νr _) _))).mono ?_;rintro e w1 ⟨rfl, hb1⟩;have HB1 := η (HB0.out.trans (hb1.mono (by simp)));clear hb1;go_wp2_with fail;go_ret;exact ⟨zC E.out.symm, HB1.out⟩
 ·have hb' : bus < 0 ∨ (¬ bus < 0 ∧ 6 ≤ bus) := by
   simp [inB] at hb;omega
  have HE : Hid (R = 1) := E.out.trans (if_pos (by simp [hb]));clear hb;rcases hb' with h | ⟨h1, h2⟩
  ·have d1 : decide (bus < 0) = true := κt h;go_wp2_with fail;go_ret;exact ⟨zC HE.out.symm, HB0.out⟩
  ·have d1 : decide (bus < 0) = false := κf h1;have d2 : decide (6 ≤ bus) = true := κt h2;go_wp2_with fail;go_ret;exact ⟨zC HE.out.symm, HB0.out⟩
theorem kJ (k x f t : Int) (w : World) : Calls Tryz.prog 71 #[.agg #[.int .u8 k, .int .i64 x, .int .i64 f, .int .i64 t]] w fun e w' => e = .returned (.bool (qG (k, x, f, t))) ∧ Below w w w' := by
 have HB0 := η ((Below.refl w w).alloc (νr _) (.cells #[.int .u8 k, .int .i64 x, .int .i64 f, .int .i64 t] 53));by_cases hk : k = 3
 ·have E : Hid (qG (k, x, f, t) = decide (0 ≤ x ∧ x < 5 ∧ 0 ≤ f ∧ f ≤ t ∧ t < 8)) := by
   show _ = _
   subst hk;rw [Bool.eq_iff_iff];simp [qG, and_assoc]
  have b1 : (k == 3) = true := beq_iff_eq.2 hk;generalize qG (k, x, f, t) = R at *;clear hk;go_enter Tryz.func71, Tryz.ntmps71;go_wp2_with fail
  all_goals
   go_ret;exact ⟨zU (by rw [E.out, Bool.eq_iff_iff]; simp <;> omega), HB0.out⟩
 ·have E : Hid (qG (k, x, f, t) = decide (0 ≤ x ∧ x < 10 ∧ 0 ≤ f ∧ f ≤ t ∧ t < 8)) := by
   show _ = _
   rw [Bool.eq_iff_iff];simp [qG, and_assoc, hk]
  have b1 : (k == 3) = false := βf hk;generalize qG (k, x, f, t) = R at *;clear hk;go_enter Tryz.func71, Tryz.ntmps71;go_wp2_with fail
  all_goals
   go_ret;exact ⟨zU (by rw [E.out, Bool.eq_iff_iff]; simp <;> omega), HB0.out⟩
theorem gY (a n : Int) (w : World) : Calls Tryz.prog 90 #[.int .i64 a, .int .i64 n] w fun e w' => e = .returned (.bool (inB a n)) ∧ Below w w w' := by
 have HB0 := η (Below.refl w w);have E : Hid (inB a n = decide (0 ≤ a ∧ a < n)) := by
  show _ = _
  rw [Bool.eq_iff_iff];simp [inB]
 generalize inB a n = R at *;go_enter Tryz.func90, Tryz.ntmps90;go_wp2_with fail
 all_goals
  go_ret;exact ⟨zU (by rw [E.out, Bool.eq_iff_iff]; simp <;> omega), HB0.out⟩
def PlE (w : World) (n : Int) (e : Ending) (w' : World) : Prop := ∃ p, e = .returned (.tuple #[.int .i64 p, .int .i64 n]) ∧ Below w w w'
theorem PlE.of {w W : World} {p n n' : Int} (h : n' = n) (hb : Below w w W) : PlE w n' (.returned (.tuple #[.int .i64 p, .int .i64 n])) W := ⟨p, by rw [h], hb⟩
theorem cB (A : Option Addr) (c : Nat) (l : List Rt) (n : Int) (w : World) (hr : RowR RtE 3 w w A l) (hl : l.length ≤ 1000000) :
  Calls Tryz.prog 40 #[.slice A l.length c, .int .i64 n] w (PlE w (jF n l)) := by
 have HR := η hr;have HB0 := η (Below.refl w w);clear hr;by_cases h8 : 8 < l.length
 ·have E : Hid (jF n l = 5) := if_pos h8;have e3 : decide ((8 : Int) < (l.length : Int)) = true := κt (by omega);clear h8;go_enter Tryz.func40, Tryz.ntmps40;go_wp2_with fail;go_ret2;exact PlE.of E.out HB0.out
 have e3 : decide ((8 : Int) < (l.length : Int)) = false := κf (by omega);have E : Hid (jF n l = if l.all (rtOk n) then 0 else 1) := if_neg h8;generalize jF n l = R at *;clear h8;go_enter Tryz.func40, Tryz.ntmps40;go_wp2_with fail;go_loopg [4, 5, 6, 7, 13] l.length (fun g s4 s5 s6 s7 s13 wr => ∃ k : Nat, k + g = l.length ∧ s13 = .int .i64 (k : Int) ∧ (l.take k).all (rtOk n) = true ∧ Below w w wr)
 case atStart => exact ⟨0, by omega, rfl, rfl, HB0.out⟩
 case round =>
  clear HB0 e3;obtain ⟨k, hkg, rfl, hs, hb⟩ := hrel;have HS := η hs;have HB := η hb;clear hs hb;cases gk with
  | zero =>
   obtain rfl : k = l.length := by omega
   have HE : Hid (R = 0) := by
    have h := HS.out;rw [List.take_length] at h;show _ = _
    rw [E.out, if_pos h]
   clear hkg HS HR E;go_wp2_with fail
   try rw [κx]
   go_ret2;exact PlE.of HE.out HB.out
  | succ g =>
   have hk : k < l.length := by omega
   have HG := η hkg;clear hkg;obtain ⟨b, off, cc, rfl, hbl, hcn, hce, hcc⟩ := HR.out.at_ k (0, 0, 0) hk;rw [show cc = rtC (l.getD k (0, 0, 0)) from hce] at hcc;have f0 : wr.cell? ⟨b, off + k * 3, none⟩ = some (.int .i64 (l.getD k (0, 0, 0)).1) := (HB.out.cell (p := ⟨b, off + k * 3, none⟩) hbl).trans (hcc 0 _ rfl);have f1 : wr.cell? ⟨b, off + k * 3 + 1, none⟩ = some (.int .i64 (l.getD k (0, 0, 0)).2.1) := (HB.out.cell (p := ⟨b, off + k * 3 + 1, none⟩) hbl).trans (hcc 1 _ rfl);have f2 : wr.cell? ⟨b, off + k * 3 + 2, none⟩ = some (.int .i64 (l.getD k (0, 0, 0)).2.2) := (HB.out.cell (p := ⟨b, off + k * 3 + 2, none⟩) hbl).trans (hcc 2 _ rfl);have hz := HB.out.size;have HYes : Hid (rtOk n (l.getD k (0, 0, 0)) = true → (l.take (k + 1)).all (rtOk n) = true) := fun h => jV _ _ _ _ hk HS.out h
   have HNo : Hid (rtOk n (l.getD k (0, 0, 0)) = false → R = 1) := fun h => by rw [E.out, fZ _ _ _ _ hk h]; rfl
   clear hcc hce hcn HS;cases hx : l.getD k (0, 0, 0) with
   | mk rf rest =>
   obtain ⟨rt, rq⟩ := rest;rw [hx] at f0 f1 f2 HYes HNo;clear hx;have HD : Hid (rtOk n (rf, rt, rq) = (inB rf n && inB rt n && decide (0 ≤ rq) && decide (rq ≤ 1000000))) := rfl;generalize rtOk n (rf, rt, rq) = ok at *;dsimp only at f0 f1 f2;have K1 := η fun W => gY rf n W
   have K2 := η fun W => gY rt n W
   have HB1 := η (HB.out.alloc (by omega) (.cells #[.int .i64 rf, .int .i64 rt, .int .i64 rq] 51));cases h1 : inB rf n with
   | false =>
    rw [h1] at K1 HD;have HE : Hid (R = 1) := HNo.out HD.out;clear h1 HNo HYes HD E;go_wp2_with fail;refine (K1.out _).mono ?_;rintro e w1 ⟨rfl, hb1⟩;have HB2 := η (HB1.out.trans (hb1.mono (by simp; omega)));clear hb1;go_wp2_with fail
    try rw [κx]
    go_ret2;exact PlE.of HE.out HB2.out
   | true =>
    rw [h1] at K1 HD;clear h1;go_wp2_with fail;refine (K1.out _).mono ?_;rintro e w1 ⟨rfl, hb1⟩;have HX1 := η ((Box.new wr #[.int .i64 rf, .int .i64 rt, .int .i64 rq] 51).up hb1 (by simp));have HB2 := η (HB1.out.trans (hb1.mono (by simp; omega)));have hlt : wr < w1.heap.size := HX1.out.lt (by simp);clear hb1 HB1;obtain ⟨q0, s0, q1, s1, q2, s2⟩ := sqX3 HX1.out;cases h2 : inB rt n with
    | false =>
     rw [h2] at K2 HD;have HE : Hid (R = 1) := HNo.out HD.out;clear h2 HNo HYes HD E;go_wp2_with fail;refine (K2.out _).mono ?_;rintro e w2 ⟨rfl, hb1⟩;have HB3 := η (HB2.out.trans (hb1.mono (by omega)));clear hb1;go_wp2_with fail
     try rw [κx]
     go_ret2;exact PlE.of HE.out HB3.out
    | true =>
     rw [h2] at K2 HD;clear h2;go_wp2_with fail;refine (K2.out _).mono ?_;rintro e w2 ⟨rfl, hb1⟩;have HX2 := η (HX1.out.up hb1 hlt);have HB3 := η (HB2.out.trans (hb1.mono (by omega)));clear hb1 q0 q1 q2 s0 s1 s2;obtain ⟨q0, s0, q1, s1, q2, s2⟩ := sqX3 HX2.out;by_cases h3 : rq < 0
     ·have d1 : decide (rq < 0) = true := κt h3;have HE : Hid (R = 1) := HNo.out (HD.out.trans (by simp; omega));clear h3 HNo HYes HD E;go_wp2_with fail
      try rw [κx]
      go_ret2;exact PlE.of HE.out HB3.out
     ·have d1 : decide (rq < 0) = false := κf h3;by_cases h4 : 1000000 < rq
      ·have d2 : decide (1000000 < rq) = true := κt h4;have HE : Hid (R = 1) := HNo.out (HD.out.trans (by simp; omega));clear h3 h4 HNo HYes HD E;go_wp2_with fail
       try rw [κx]
       go_ret2;exact PlE.of HE.out HB3.out
      ·have d2 : decide (1000000 < rq) = false := κf h4;have HY := η (HYes.out (HD.out.trans (by simp; omega)));clear h3 h4 HNo HYes HD;go_wp2_with fail;go_roundg g
       case measure => omega
       case rel => exact ⟨k + 1, by have := HG.out; omega, by go_num, HY.out, HB3.out⟩
theorem xI {α : Type} {f : α → Int} {l : List α} {k : Nat} (d : α) (hk : k < l.length) : fstE f (l.drop k) = if f (l.getD k d) ≠ 0 then f (l.getD k d) else fstE f (l.drop (k + 1)) := by
 rw [List.drop_eq_getElem_cons hk, ← zM l k d hk, fstE]
theorem vW {α : Type} (f : α → Int) (l : List α) : fstE f (l.drop l.length) = 0 := by rw [List.drop_length]; rfl
theorem yV (a b : List Bd) (k : Nat) (h : k < a.length) (h' : k < b.length) : (a.zip b).getD k (bd0, bd0) = (a.getD k bd0, b.getD k bd0) := by
 rw [zM _ _ _ (by rw [List.length_zip]; omega), zM _ _ _ h, zM _ _ _ h', List.getElem_zip]
theorem vL {w w' : World} {B : Nat} {A : Option Addr} {l : List Bd} (h : RowR BdR 2 w B A l) (hb : ∀ p : Addr, p.block < B → w'.cell? p = w.cell? p) (k : Nat) (hk : k < l.length) :
  ∃ b off A' c', A = some ⟨b, off, none⟩ ∧ b < B ∧ w'.cell? ⟨b, off + k * 2, none⟩ = some (.int .i64 (l.getD k bd0).bus) ∧ w'.cell? ⟨b, off + k * 2 + 1, none⟩ = some (.slice A' (l.getD k bd0).steps.length c') ∧ RowR StE 2 w' B A' (l.getD k bd0).steps := by
 obtain ⟨b, off, cc, rfl, hbl, hcn, ⟨A', c', he, _, hr⟩, hcc⟩ := h.at_ k bd0 hk;rw [he] at hcc;exact ⟨b, off, A', c', rfl, hbl, (hb _ hbl).trans (hcc 0 _ rfl), (hb _ hbl).trans (hcc 1 _ rfl), hr.keep StE.keep hb (νr _)⟩
theorem pM (w : World) (o o' : Obj) : Below w w ((w.alloc o).alloc o') := (βA _).alloc (by simp) _
theorem xW {α : Type} {l : List α} {k : Nat} (d : α) (hk : k < l.length) : l.getD k d ∈ l := by rw [zM l k d hk]; exact List.getElem_mem hk
theorem sR (h f : Hr) (A A1 A2 A3 : Option Addr) (c c1 c2 c3 : Nat) (n : Int) (w : World) (hr : RowR BdR 2 w w A h.bids) (hr1 : RowR BdR 2 w w A1 h.real) (hr2 : RowR BdR 2 w w A2 f.bids) :
  Calls Tryz.prog 38 #[.agg #[.slice A h.bids.length c, .slice A1 h.real.length c1, .int .i64 h.need], .agg #[.slice A2 f.bids.length c2, .slice A3 f.real.length c3, .int .i64 f.need], .int .i64 n] w (ErrE w (hourE n f h)) := by
 have HR := η hr;have HR1 := η hr1;have HR2 := η hr2;have E : Hid (hourE n f h = if 6 < h.bids.length then 5
  else if fstE (bidE n) h.bids ≠ 0 then fstE (bidE n) h.bids
  else if h.real.length ≠ h.bids.length then 3
  else if fstE realE (h.real.zip h.bids) ≠ 0 then fstE realE (h.real.zip h.bids)
  else if h.need < 0 ∨ 1000000 < h.need then 1
  else if h.bids.length ≠ f.bids.length then 3
  else fstE busNe (h.bids.zip f.bids)) := rfl
 have KF := η fun A c l W hr => fW A c l W hr
 generalize hourE n f h = R at *;have HB0 := η (pM w (.cells #[.slice A h.bids.length c, .slice A1 h.real.length c1, .int .i64 h.need] 49) (.cells #[.slice A2 f.bids.length c2, .slice A3 f.real.length c3, .int .i64 f.need] 49));have HXh : Hid (Box ((w.alloc (.cells #[.slice A h.bids.length c, .slice A1 h.real.length c1, .int .i64 h.need] 49)).alloc (.cells #[.slice A2 f.bids.length c2, .slice A3 f.real.length c3, .int .i64 f.need] 49)) w [.slice A h.bids.length c, .slice A1 h.real.length c1, .int .i64 h.need]) := (Box.new w #[.slice A h.bids.length c, .slice A1 h.real.length c1, .int .i64 h.need] 49).alloc (by simp) _;have HXf : Hid (Box ((w.alloc (.cells #[.slice A h.bids.length c, .slice A1 h.real.length c1, .int .i64 h.need] 49)).alloc (.cells #[.slice A2 f.bids.length c2, .slice A3 f.real.length c3, .int .i64 f.need] 49)) (w + 1) [.slice A2 f.bids.length c2, .slice A3 f.real.length c3, .int .i64 f.need]) := by
  have := Box.new (w.alloc (.cells #[.slice A h.bids.length c, .slice A1 h.real.length c1, .int .i64 h.need] 49)) #[.slice A2 f.bids.length c2, .slice A3 f.real.length c3, .int .i64 f.need] 49;show Box _ _ _
  simpa using this
 clear hr hr1 hr2;go_enter Tryz.func38, Tryz.ntmps38;by_cases h6 : 6 < h.bids.length
 ·have HE : Hid (R = 5) := E.out.trans (if_pos h6);have d1 : decide ((6 : Int) < (h.bids.length : Int)) = true := κt (by omega);clear h6 E;go_wp2_with fail;go_ret;exact ⟨zC HE.out.symm, HB0.out⟩
 have d1 : decide ((6 : Int) < (h.bids.length : Int)) = false := κf (by omega);replace E : Hid (R = _) := E.out.trans (if_neg h6);have hl1 : h.bids.length ≤ 1000000 := by omega
 clear h6;go_wp2_with fail;go_loopg [6, 8, 9, 22] h.bids.length (fun g s6 s8 s9 s22 wr => ∃ k : Nat, k + g = h.bids.length ∧ s22 = .int .i64 (k : Int) ∧ fstE (bidE n) h.bids = fstE (bidE n) (h.bids.drop k) ∧ Below (w + 2) ((w.alloc (.cells #[.slice A h.bids.length c, .slice A1 h.real.length c1, .int .i64 h.need] 49)).alloc (.cells #[.slice A2 f.bids.length c2, .slice A3 f.real.length c3, .int .i64 f.need] 49)) wr)
 case atStart => exact ⟨0, by omega, rfl, rfl, Below.refl _ _⟩
 case round =>
  obtain ⟨k, hkg, rfl, hs, hb⟩ := hrel;have HB : Hid (Below w w wr) := HB0.out.trans (hb.mono (by omega));have HBW := η hb;have hzz : w + 2 ≤ wr.heap.size := by have := hb.size; simpa using this
  have HS := η hs;clear hs d1;cases gk with
  | succ g =>
   have hk : k < h.bids.length := by omega
   have HG := η hkg;clear hkg hb;have HS2 : Hid (fstE (bidE n) h.bids = _) := HS.out.trans (xI bd0 hk);obtain ⟨b, off, A', c', rfl, hbl, f0, f1, hrs⟩ := vL HR.out (fun p hp => HB.out.cell hp) k hk;have HRS := η hrs;have HBD : Hid (bidE n (h.bids.getD k bd0) = if !inB (h.bids.getD k bd0).bus n then 1 else zP falls (h.bids.getD k bd0).steps) := rfl;clear hrs HS;generalize bidE n (h.bids.getD k bd0) = bv at *;generalize (h.bids.getD k bd0).bus = bus at *;generalize (h.bids.getD k bd0).steps = steps at *;have K1 := η fun W hr => KF.out A' c' steps W hr
   have HB1 := η (HB.out.alloc (by omega) (.cells #[.int .i64 bus, .slice A' steps.length c'] 133));have HBW1 := η (HBW.out.alloc (by omega) (.cells #[.int .i64 bus, .slice A' steps.length c'] 133));by_cases hi : inB bus n = true
   ·have hb' := hi;unfold inB at hb';simp only [κb, κe] at hb';have d1 : decide (bus < 0) = false := κf (by omega);have d2 : decide (n ≤ bus) = false := κf (by omega);replace HBD : Hid (bv = _) := HBD.out.trans (if_neg (by rw [hi]; simp));clear hi hb';go_wp2_with fail;refine (K1.out _ ((HRS.out.keep (w' := wr) StE.keep (fun _ _ => rfl) HB.out.size).upto StE.keep ((Below.refl wr wr).alloc (νr _) _))).mono ?_;rintro e w3 ⟨rfl, hb3⟩;have HB2 := η (HB1.out.trans (hb3.mono (by simp; omega)));have HBW2 := η (HBW1.out.trans (hb3.mono (by simp; omega)));clear hb3 K1;by_cases hv : bv = 0
    ·have HF : Hid (fstE (bidE n) h.bids = _) := HS2.out.trans (if_neg (fun hh => hh hv));rw [← HBD.out, hv];clear HS2 hv;go_wp2_with fail;go_roundg g
     case measure => omega
     case rel => exact ⟨k + 1, by have := HG.out; omega, by go_num, HF.out, HBW2.out⟩
    ·have HF : Hid (fstE (bidE n) h.bids = bv) := HS2.out.trans (if_pos hv);have HE : Hid (R = bv) := E.out.trans (by rw [HF.out, if_pos hv]);rw [← HBD.out];have e0 : (bv == 0) = false := βf hv;have e1 : (bv != 0) = true := βt hv;clear HS2 HF hv HBD E;go_wp2_with fail
     try rw [κx]
     go_ret;exact ⟨zC HE.out.symm, HB2.out⟩
   ·have hb' : bus < 0 ∨ (¬ bus < 0 ∧ n ≤ bus) := by
     simp [inB] at hi;omega
    have hv : bv = 1 := HBD.out.trans (if_pos (by simp [hi]));have HF : Hid (fstE (bidE n) h.bids = 1) := by
     show _ = _
     rw [HS2.out, if_pos (by rw [hv]; decide), hv]
    have HE : Hid (R = 1) := E.out.trans (by rw [HF.out]; rfl);clear hi hv HS2 HF HBD E;rcases hb' with h1 | ⟨h1, h2⟩
    ·have d1 : decide (bus < 0) = true := κt h1;go_wp2_with fail
     try rw [κx]
     go_ret;exact ⟨zC HE.out.symm, HB1.out⟩
    ·have d1 : decide (bus < 0) = false := κf h1;have d2 : decide (n ≤ bus) = true := κt h2;go_wp2_with fail
     try rw [κx]
     go_ret;exact ⟨zC HE.out.symm, HB1.out⟩
  | zero =>
   obtain rfl : k = h.bids.length := by omega
   have h0 : fstE (bidE n) h.bids = 0 := HS.out.trans (vW _ _);replace E : Hid (R = _) := E.out.trans (if_neg (fun hh => hh h0));have HXh1 := η (HXh.out.up hb (by omega));have HXf1 := η (HXf.out.up hb (by omega));clear hkg hb h0 HS HXh HXf HB0;obtain ⟨q0, s0, q1, s1, q2, s2⟩ := sqX3 HXh1.out;obtain ⟨g0, y0, g1, y1, g2, y2⟩ := sqX3 HXf1.out;clear s0 s1 s2 y0 y1 y2;by_cases hlen : h.real.length = h.bids.length
   ·replace E : Hid (R = _) := E.out.trans (if_neg (fun hh => hh hlen));have e1 : ((h.real.length : Int) != (h.bids.length : Int)) = false := by rw [hlen]; simp
    have HLN := η hlen;have hl2 : h.real.length ≤ 1000000 := by omega
    clear hlen;obtain ⟨wo, rfl⟩ : ∃ wo : World, wo = wr := ⟨_, rfl⟩;go_wp2_with fail;clear e1 hzz;go_loopg [6, 10, 11, 12, 52] h.real.length (fun g s6 s10 s11 s12 s52 wx => ∃ k : Nat, k + g = h.real.length ∧ s52 = .int .i64 (k : Int) ∧ fstE realE (h.real.zip h.bids) = fstE realE ((h.real.zip h.bids).drop k) ∧ Below (w + 2) wo wx)
    case atStart => exact ⟨0, by omega, rfl, rfl, Below.refl _ _⟩
    case round =>
     obtain ⟨k, hkg, rfl, hs, hb⟩ := hrel;have HB2 : Hid (Below w w wr) := HB.out.trans (hb.mono (by omega));have HXh2 := η (HXh1.out.up hb (by omega));have HXf2 := η (HXf1.out.up hb (by omega));have hlth : w < wr.heap.size := HXh2.out.lt (by simp);have HBO := η hb;have HS := η hs;clear hs hb q0 q1 q2 g0 g1 g2;obtain ⟨q0, s0, q1, s1, q2, s2⟩ := sqX3 HXh2.out;obtain ⟨g0, y0, g1, y1, g2, y2⟩ := sqX3 HXf2.out;clear s0 s1 s2 y0 y1 y2;cases gk with
     | succ g =>
      have hk : k < h.real.length := by omega
      have HG := η hkg;clear hkg;have hkb : k < h.bids.length := by have := HLN.out; omega
      have hkz : k < (h.real.zip h.bids).length := by rw [List.length_zip]; omega
      have HS2 : Hid (fstE realE (h.real.zip h.bids) = if realE (h.real.getD k bd0, h.bids.getD k bd0) ≠ 0 then realE (h.real.getD k bd0, h.bids.getD k bd0) else fstE realE ((h.real.zip h.bids).drop (k + 1))) := by
       show _ = _
       rw [HS.out, xI (bd0, bd0) hkz, yV _ _ _ hk hkb]
      obtain ⟨b, off, A', c', rfl, hbl, f0, f1, hrs⟩ := vL HR1.out (fun p hp => HB2.out.cell hp) k hk;obtain ⟨b', off', A'', c'', rfl, hbl', f2, f3, _⟩ := vL HR.out (fun p hp => HB2.out.cell hp) k hkb;have HRS := η hrs;have HBD : Hid (realE (h.real.getD k bd0, h.bids.getD k bd0) = if (h.real.getD k bd0).bus ≠ (h.bids.getD k bd0).bus then 3 else zP falls (h.real.getD k bd0).steps) := rfl;clear hrs HS f3;generalize realE (h.real.getD k bd0, h.bids.getD k bd0) = bv at *;generalize (h.real.getD k bd0).bus = bus at *;generalize (h.bids.getD k bd0).bus = bush at *;generalize (h.real.getD k bd0).steps = steps at *;have K1 := η fun W hr => KF.out A' c' steps W hr
      have HB3 := η (HB2.out.alloc (by omega) (.cells #[.int .i64 bus, .slice A' steps.length c'] 133));have HBO3 := η (HBO.out.alloc (by have := HXf2.out.lt (by simp); omega) (.cells #[.int .i64 bus, .slice A' steps.length c'] 133));have hkl : (k : Int) < (h.bids.length : Int) := by omega
      have hbl2 : b' < wr := νl hbl' HB2.out.size;have hbl1 : b < wr := νl hbl HB2.out.size;go_wp2_with fail;by_cases hi : bus = bush
      ·subst hi;replace HBD : Hid (bv = _) := HBD.out.trans (if_neg (fun hh => hh rfl));refine zE (w0 := (wr.alloc (.cells #[.int .i64 bus, .slice A' steps.length c'] 133))) [(3, .pointer (some ⟨w, 0, none⟩)), (10, .int .i64 (k : Int)), (11, .pointer (some ⟨wr, 0, none⟩)), (57, .pointer (some ⟨wr, 0, none⟩)), (58, .int .i64 bus), (59, .pointer (some ⟨w, 0, none⟩)), (60, .slice (some ⟨b', off', none⟩) h.bids.length c), (61, .int .i64 (k : Int)), (62, .pointer (some ⟨b', off' + k * 2, none⟩)), (63, .pointer (some ⟨b', off' + k * 2, none⟩)), (64, .int .i64 bus), (65, .bool false)] [] [3, 10, 11] ?_ ?_
       ·intro T hT W hI;simp only [zA, and_true] at hT;have l0 : W.cell? ⟨wr, 0, none⟩ = some (.int .i64 bus) := (hI.cell (p := ⟨wr, 0, none⟩) (by simp)).trans (by simp);have l1 : W.cell? ⟨w, 0, none⟩ = _ := (hI.cell (p := ⟨w, 0, none⟩) (by simp; omega)).trans (zK _ q0);have l2 : W.cell? ⟨b', off' + k * 2, none⟩ = _ := (hI.cell (p := ⟨b', off' + k * 2, none⟩) (by simp; omega)).trans (zK _ f2)
        repeat' first | exact AllO.nil | apply AllO.cons
        all_goals try ((first | refine oV ?_ | refine oN ?_ | refine oG (t := by simp only [hT]) (h := ?_)); simp [go_sem, EvT, hT, l0, l1, hkl, l2, valT]; done)
       intro wx hb;simp (decide := true) only [putT, valT, look, Act.put, σi, σo, σs, Nat.reduceAdd, if_true, if_false];have HB4 := η (HB3.out.trans (hb.mono (by simp; omega)));have HBO4 := η (HBO3.out.trans (hb.mono (by have := HXf2.out.lt (by simp); simp; omega)));have HXB := η ((Box.new wr #[.int .i64 bus, .slice A' steps.length c'] 133).up hb (by simp));have hltx : wr < wx.heap.size := HXB.out.lt (by simp);clear hb;obtain ⟨u0, v0, u1, v1⟩ := sqX2 HXB.out;clear v0 v1;go_wp2_with fail;refine (K1.out _ (HRS.out.keep (w' := wx) StE.keep (fun p hp => (HB4.out.cell hp).trans (HB2.out.cell hp).symm) HB4.out.size)).mono ?_;rintro e w4 ⟨rfl, hb4⟩;have HB5 := βT HB4 hb4;have HBO5 := η (HBO4.out.trans (hb4.mono (by have := HXf2.out.lt (by simp); omega)));clear hb4 K1;by_cases hv : bv = 0
       ·have HF : Hid (fstE realE (h.real.zip h.bids) = _) := HS2.out.trans (if_neg (fun hh => hh hv));rw [← HBD.out, hv];clear HS2 hv;go_wp2_with fail;go_roundg g
        case measure => omega
        case rel => exact ⟨k + 1, by have := HG.out; omega, by go_num, HF.out, HBO5.out⟩
       ·have HF : Hid (fstE realE (h.real.zip h.bids) = bv) := HS2.out.trans (if_pos hv);have HE : Hid (R = bv) := E.out.trans (by rw [HF.out, if_pos hv]);rw [← HBD.out];have e0 : (bv == 0) = false := βf hv;have e1 : (bv != 0) = true := βt hv;clear HS2 HF hv HBD E;go_wp2_with fail
        try rw [κx]
        go_ret;exact ⟨zC HE.out.symm, HB5.out⟩
      ·have hne : (bus != bush) = true := βt hi;have hne2 : (bus == bush) = false := βf hi;have hv : bv = 3 := HBD.out.trans (if_pos hi);have HF : Hid (fstE realE (h.real.zip h.bids) = 3) := by
        show _ = _
        rw [HS2.out, if_pos (by rw [hv]; decide), hv]
       have HE : Hid (R = 3) := E.out.trans (by rw [HF.out]; rfl);clear hi hv HS2 HF HBD E;refine zE (w0 := (wr.alloc (.cells #[.int .i64 bus, .slice A' steps.length c'] 133))) [(3, .pointer (some ⟨w, 0, none⟩)), (10, .int .i64 (k : Int)), (11, .pointer (some ⟨wr, 0, none⟩)), (57, .pointer (some ⟨wr, 0, none⟩)), (58, .int .i64 bus), (59, .pointer (some ⟨w, 0, none⟩)), (60, .slice (some ⟨b', off', none⟩) h.bids.length c), (61, .int .i64 (k : Int)), (62, .pointer (some ⟨b', off' + k * 2, none⟩)), (63, .pointer (some ⟨b', off' + k * 2, none⟩)), (64, .int .i64 bush), (65, .bool true)] [] [3, 10, 11] ?_ ?_
       ·intro T hT W hI;simp only [zA, and_true] at hT;have l0 : W.cell? ⟨wr, 0, none⟩ = some (.int .i64 bus) := (hI.cell (p := ⟨wr, 0, none⟩) (by simp)).trans (by simp);have l1 : W.cell? ⟨w, 0, none⟩ = _ := (hI.cell (p := ⟨w, 0, none⟩) (by simp; omega)).trans (zK _ q0);have l2 : W.cell? ⟨b', off' + k * 2, none⟩ = _ := (hI.cell (p := ⟨b', off' + k * 2, none⟩) (by simp; omega)).trans (zK _ f2)
        repeat' first | exact AllO.nil | apply AllO.cons
        all_goals try ((first | refine oV ?_ | refine oN ?_ | refine oG (t := by simp only [hT]) (h := ?_)); simp [go_sem, EvT, hT, l0, l1, hkl, l2, hne, valT]; done)
       intro wx hb;simp (decide := true) only [putT, valT, look, Act.put, σi, σo, σs, Nat.reduceAdd, if_true, if_false];have HB4 := η (HB3.out.trans (hb.mono (by simp; omega)));clear hb;go_wp2_with fail
       try rw [κx]
       go_ret;exact ⟨zC HE.out.symm, HB4.out⟩
     | zero =>
      obtain rfl : k = h.real.length := by omega
      have h0 : fstE realE (h.real.zip h.bids) = 0 := by
       have e := HS.out;rwa [List.drop_eq_nil_of_le (by rw [List.length_zip]; omega)] at e
      replace E : Hid (R = _) := E.out.trans (if_neg (fun hh => hh h0));clear hkg h0 HS;by_cases hn : h.need < 0 ∨ 1000000 < h.need
      ·have HE : Hid (R = 1) := E.out.trans (if_pos hn);clear E;have hn' : decide (h.need < 0) = true ∨ (decide (h.need < 0) = false ∧ decide (1000000 < h.need) = true) := by
        by_cases hh : h.need < 0
        ·exact .inl (κt hh)
        ·exact .inr ⟨κf hh, κt (by omega)⟩
       clear hn;rcases hn' with d1 | ⟨d1, d2⟩
       all_goals
        go_wp2_with fail;go_ret;exact ⟨zC HE.out.symm, HB2.out⟩
      replace E : Hid (R = _) := E.out.trans (if_neg hn);have d1 : decide (h.need < 0) = false := κf (by omega);have d2 : decide (1000000 < h.need) = false := κf (by omega);clear hn;by_cases hlf : h.bids.length = f.bids.length
      ·replace E : Hid (R = _) := E.out.trans (if_neg (fun hh => hh hlf));have HLF := η hlf;have e1 : ((h.bids.length : Int) != (f.bids.length : Int)) = false := by rw [hlf]; simp
       obtain ⟨wy, rfl⟩ : ∃ wy : World, wy = wr := ⟨_, rfl⟩;clear hlf;go_wp2_with fail;clear e1 d1 d2;go_loopg [6, 13, 14, 91] h.bids.length (fun g s6 s13 s14 s91 wx => ∃ k : Nat, k + g = h.bids.length ∧ s91 = .int .i64 (k : Int) ∧ fstE busNe (h.bids.zip f.bids) = fstE busNe ((h.bids.zip f.bids).drop k) ∧ Below (w + 2) wy wx)
       case atStart => exact ⟨0, by omega, rfl, rfl, Below.refl _ _⟩
       case round =>
        obtain ⟨k, hkg, rfl, hs, hb⟩ := hrel;have HB3 : Hid (Below w w wr) := HB2.out.trans (hb.mono (by omega));have HXh3 := η (HXh2.out.up hb (by omega));have HXf3 := η (HXf2.out.up hb (by omega));have hlth3 : w < wr.heap.size := HXh3.out.lt (by simp);have hltf3 : w + 1 < wr.heap.size := HXf3.out.lt (by simp);have HBO3 := η hb;have HS := η hs;clear hs hb q0 q1 q2 g0 g1 g2;obtain ⟨q0, s0, q1, s1, q2, s2⟩ := sqX3 HXh3.out;obtain ⟨g0, y0, g1, y1, g2, y2⟩ := sqX3 HXf3.out;clear s0 s1 s2 y0 y1 y2;cases gk with
        | zero =>
         obtain rfl : k = h.bids.length := by omega
         have h0 : fstE busNe (h.bids.zip f.bids) = 0 := by
          have e := HS.out;rwa [List.drop_eq_nil_of_le (by rw [List.length_zip]; omega)] at e
         have HE : Hid (R = 0) := E.out.trans h0;clear hkg h0 HS E;go_wp2_with fail
         try rw [κx]
         go_ret;exact ⟨zC HE.out.symm, HB3.out⟩
        | succ g =>
         have hk : k < h.bids.length := by omega
         have HG := η hkg;clear hkg;have hkf : k < f.bids.length := by have := HLF.out; omega
         have hkz : k < (h.bids.zip f.bids).length := by rw [List.length_zip]; omega
         have HS2 : Hid (fstE busNe (h.bids.zip f.bids) = if busNe (h.bids.getD k bd0, f.bids.getD k bd0) ≠ 0 then busNe (h.bids.getD k bd0, f.bids.getD k bd0) else fstE busNe ((h.bids.zip f.bids).drop (k + 1))) := by
          show _ = _
          rw [HS.out, xI (bd0, bd0) hkz, yV _ _ _ hk hkf]
         obtain ⟨b, off, A', c', rfl, hbl, f0, f1, _⟩ := vL HR.out (fun p hp => HB3.out.cell hp) k hk;obtain ⟨b', off', A'', c'', rfl, hbl', f2, f3, _⟩ := vL HR2.out (fun p hp => HB3.out.cell hp) k hkf;have HBD : Hid (busNe (h.bids.getD k bd0, f.bids.getD k bd0) = if (h.bids.getD k bd0).bus ≠ (f.bids.getD k bd0).bus then 3 else 0) := rfl;clear HS f3;generalize busNe (h.bids.getD k bd0, f.bids.getD k bd0) = bv at *;generalize (h.bids.getD k bd0).bus = bus at *;generalize (f.bids.getD k bd0).bus = busf at *;generalize (h.bids.getD k bd0).steps = steps at *;have HB4 := η (HB3.out.alloc (by omega) (.cells #[.int .i64 bus, .slice A' steps.length c'] 133));have HBO4 := η (HBO3.out.alloc (by omega) (.cells #[.int .i64 bus, .slice A' steps.length c'] 133));have hkl : (k : Int) < (f.bids.length : Int) := by omega
         have hbl2 : b' < wr := νl hbl' HB3.out.size;have hbl1 : b < wr := νl hbl HB3.out.size;go_wp2_with fail;by_cases hi : bus = busf
         ·subst hi;have hv : bv = 0 := HBD.out.trans (if_neg (fun hh => hh rfl));have HF : Hid (fstE busNe (h.bids.zip f.bids) = _) := HS2.out.trans (if_neg (fun hh => hh hv));clear HS2 HBD hv;refine zE (w0 := (wr.alloc (.cells #[.int .i64 bus, .slice A' steps.length c'] 133))) [(4, .pointer (some ⟨w + 1, 0, none⟩)), (13, .int .i64 (k : Int)), (14, .pointer (some ⟨wr, 0, none⟩)), (96, .pointer (some ⟨wr, 0, none⟩)), (97, .int .i64 bus), (98, .pointer (some ⟨w + 1, 0, none⟩)), (99, .slice (some ⟨b', off', none⟩) f.bids.length c2), (100, .int .i64 (k : Int)), (101, .pointer (some ⟨b', off' + k * 2, none⟩)), (102, .pointer (some ⟨b', off' + k * 2, none⟩)), (103, .int .i64 bus), (104, .bool false)] [] [4, 13, 14] ?_ ?_
          ·intro T hT W hI;simp only [zA, and_true] at hT;have l0 : W.cell? ⟨wr, 0, none⟩ = some (.int .i64 bus) := (hI.cell (p := ⟨wr, 0, none⟩) (by simp)).trans (by simp);have l1 : W.cell? ⟨w + 1, 0, none⟩ = _ := (hI.cell (p := ⟨w + 1, 0, none⟩) (by simp; omega)).trans (zK _ g0);have l2 : W.cell? ⟨b', off' + k * 2, none⟩ = _ := (hI.cell (p := ⟨b', off' + k * 2, none⟩) (by simp; omega)).trans (zK _ f2)
           repeat' first | exact AllO.nil | apply AllO.cons
           all_goals try ((first | refine oV ?_ | refine oN ?_ | refine oG (t := by simp only [hT]) (h := ?_)); simp [go_sem, EvT, hT, l0, l1, hkl, l2, valT]; done)
          intro wx hb;simp (decide := true) only [putT, valT, look, Act.put, σi, σo, σs, Nat.reduceAdd, if_true, if_false];have HBO5 := η (HBO4.out.trans (hb.mono (by simp; omega)));clear hb;go_wp2_with fail;go_roundg g
          case measure => omega
          case rel => exact ⟨k + 1, by have := HG.out; omega, by go_num, HF.out, HBO5.out⟩
         ·have hne : (bus != busf) = true := βt hi;have hne2 : (bus == busf) = false := βf hi;have hv : bv = 3 := HBD.out.trans (if_pos hi);have HF : Hid (fstE busNe (h.bids.zip f.bids) = 3) := by
           show _ = _
           rw [HS2.out, if_pos (by rw [hv]; decide), hv]
          have HE : Hid (R = 3) := E.out.trans HF.out;clear hi hv HS2 HF HBD E;refine zE (w0 := (wr.alloc (.cells #[.int .i64 bus, .slice A' steps.length c'] 133))) [(4, .pointer (some ⟨w + 1, 0, none⟩)), (13, .int .i64 (k : Int)), (14, .pointer (some ⟨wr, 0, none⟩)), (96, .pointer (some ⟨wr, 0, none⟩)), (97, .int .i64 bus), (98, .pointer (some ⟨w + 1, 0, none⟩)), (99, .slice (some ⟨b', off', none⟩) f.bids.length c2), (100, .int .i64 (k : Int)), (101, .pointer (some ⟨b', off' + k * 2, none⟩)), (102, .pointer (some ⟨b', off' + k * 2, none⟩)), (103, .int .i64 busf), (104, .bool true)] [] [4, 13, 14] ?_ ?_
          ·intro T hT W hI;simp only [zA, and_true] at hT;have l0 : W.cell? ⟨wr, 0, none⟩ = some (.int .i64 bus) := (hI.cell (p := ⟨wr, 0, none⟩) (by simp)).trans (by simp);have l1 : W.cell? ⟨w + 1, 0, none⟩ = _ := (hI.cell (p := ⟨w + 1, 0, none⟩) (by simp; omega)).trans (zK _ g0);have l2 : W.cell? ⟨b', off' + k * 2, none⟩ = _ := (hI.cell (p := ⟨b', off' + k * 2, none⟩) (by simp; omega)).trans (zK _ f2)
           repeat' first | exact AllO.nil | apply AllO.cons
           all_goals try ((first | refine oV ?_ | refine oN ?_ | refine oG (t := by simp only [hT]) (h := ?_)); simp [go_sem, EvT, hT, l0, l1, hkl, l2, hne, valT]; done)
          intro wx hb;simp (decide := true) only [putT, valT, look, Act.put, σi, σo, σs, Nat.reduceAdd, if_true, if_false];have HB5 := η (HB4.out.trans (hb.mono (by simp; omega)));clear hb;go_wp2_with fail
          try rw [κx]
          go_ret;exact ⟨zC HE.out.symm, HB5.out⟩
      ·have HE : Hid (R = 3) := E.out.trans (if_pos hlf);have e1 : ((h.bids.length : Int) != (f.bids.length : Int)) = true := βt (by omega);have e2 : ((h.bids.length : Int) == (f.bids.length : Int)) = false := βf (by omega);clear hlf E;go_wp2_with fail;go_ret;exact ⟨zC HE.out.symm, HB2.out⟩
   ·have HE : Hid (R = 3) := E.out.trans (if_pos hlen);have e1 : ((h.real.length : Int) != (h.bids.length : Int)) = true := βt (by omega);have e2 : ((h.real.length : Int) == (h.bids.length : Int)) = false := βf (by omega);clear hlen E;go_wp2_with fail;go_ret;exact ⟨zC HE.out.symm, HB.out⟩
end Go.Proofs.YtkfhpefmmhljmaaGreatDoor
