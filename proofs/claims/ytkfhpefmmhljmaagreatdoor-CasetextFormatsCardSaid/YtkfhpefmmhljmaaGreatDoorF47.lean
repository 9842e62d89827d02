/- Texts in one: FrA, FrM. -/
import Derived.Test.YtkfhpefmmhljmaaGreatDoorF46
set_option linter.unusedVariables false
set_option linter.unusedSimpArgs false
set_option maxHeartbeats 16000000
set_option maxRecDepth 100000
namespace Go.Proofs.YtkfhpefmmhljmaaGreatDoor
open Go.RowKit
theorem dL (A : Option Addr) (c : Nat) (l : List Rt) (n : Int) (w : World) (hr : RowR RtE 3 w w A l) (hl : l.length ≤ 1000000) :
  Calls Tryz.prog 77 #[.slice A l.length c, .int .i64 n] w (PlE w (jF n l)) := by
 have HR := η hr;have HB0 := η (Below.refl w w);clear hr;by_cases h8 : 8 < l.length
 ·have E : Hid (jF n l = 5) := if_pos h8;have e3 : decide ((8 : Int) < (l.length : Int)) = true := κt (by omega);clear h8;go_enter Tryz.func77, Tryz.ntmps77;go_wp2_with fail;go_ret2;exact PlE.of E.out HB0.out
 have e3 : decide ((8 : Int) < (l.length : Int)) = false := κf (by omega);have E : Hid (jF n l = if l.all (rtOk n) then 0 else 1) := if_neg h8;generalize jF n l = R at *;clear h8;go_enter Tryz.func77, Tryz.ntmps77;go_wp2_with fail;go_loopg [4, 5, 6] l.length (fun g s4 s5 s6 wr => ∃ k : Nat, k + g = l.length ∧ s6 = .int .i64 (k : Int) ∧ (l.take k).all (rtOk n) = true ∧ Below w w wr)
 case atStart => exact ⟨0, by omega, rfl, rfl, HB0.out⟩
 case round =>
  clear HB0 e3;obtain ⟨k, hkg, rfl, hs, hb⟩ := hrel;have HS := η hs;have HB := η hb;clear hs hb;cases gk with
  | zero =>
   obtain rfl : k = l.length := by omega
   have HE : Hid (R = 0) := by
    have h := HS.out;rw [List.take_length] at h;show _ = _
    rw [E.out, if_pos h]
   clear hkg HS HR E;go_wp2_with fail
   try rw [κx]
   go_ret2;exact PlE.of HE.out HB.out
  | succ g =>
   have hk : k < l.length := by omega
   have HG := η hkg;clear hkg;obtain ⟨b, off, cc, rfl, hbl, hcn, hce, hcc⟩ := HR.out.at_ k (0, 0, 0) hk;rw [show cc = rtC (l.getD k (0, 0, 0)) from hce] at hcc;have f0 : wr.cell? ⟨b, off + k * 3, none⟩ = some (.int .i64 (l.getD k (0, 0, 0)).1) := (HB.out.cell (p := ⟨b, off + k * 3, none⟩) hbl).trans (hcc 0 _ rfl);have f1 : wr.cell? ⟨b, off + k * 3 + 1, none⟩ = some (.int .i64 (l.getD k (0, 0, 0)).2.1) := (HB.out.cell (p := ⟨b, off + k * 3 + 1, none⟩) hbl).trans (hcc 1 _ rfl);have f2 : wr.cell? ⟨b, off + k * 3 + 2, none⟩ = some (.int .i64 (l.getD k (0, 0, 0)).2.2) := (HB.out.cell (p := ⟨b, off + k * 3 + 2, none⟩) hbl).trans (hcc 2 _ rfl);have hz := HB.out.size;have HYes : Hid (rtOk n (l.getD k (0, 0, 0)) = true → (l.take (k + 1)).all (rtOk n) = true) := fun h => jV _ _ _ _ hk HS.out h
   have HNo : Hid (rtOk n (l.getD k (0, 0, 0)) = false → R = 1) := fun h => by rw [E.out, fZ _ _ _ _ hk h]; rfl
   clear hcc hce hcn HS;cases hx : l.getD k (0, 0, 0) with
   | mk rf rest =>
   obtain ⟨rt, rq⟩ := rest;rw [hx] at f0 f1 f2 HYes HNo;clear hx;have HD : Hid (rtOk n (rf, rt, rq) = decide (0 ≤ rf ∧ rf < n ∧ 0 ≤ rt ∧ rt < n ∧ 0 ≤ rq ∧ rq ≤ 1000000)) := by
    show _ = _
    rw [Bool.eq_iff_iff];simp [rtOk, inB, and_assoc]
   generalize rtOk n (rf, rt, rq) = ok at *;dsimp only at f0 f1 f2;have HB1 := η (HB.out.alloc (by omega) (.cells #[.int .i64 rf, .int .i64 rt, .int .i64 rq] 51));clear E;go_wp2_with fail
   all_goals first
    | (go_ret2; exact PlE.of (HNo.out (HD.out.trans (κf (by omega)))) HB1.out)
    | skip
   go_roundg g
   case measure => omega
   case rel => exact ⟨k + 1, by have := HG.out; omega, by go_num, HYes.out (HD.out.trans (κt (by omega))), HB1.out⟩
theorem dK (k x f t lines units hours : Int) (w : World) : Calls Tryz.prog 139 #[.agg #[.int .u8 k, .int .i64 x, .int .i64 f, .int .i64 t], .int .i64 lines, .int .i64 units, .int .i64 hours] w (ErrE w (ogWr lines units hours (k, x, f, t))) := by
 have HB0 := η ((Below.refl w w).alloc (νr _) (.cells #[.int .u8 k, .int .i64 x, .int .i64 f, .int .i64 t] 53));have E : Hid (ogWr lines units hours (k, x, f, t) = if k ≠ 1 ∧ k ≠ 2 ∧ k ≠ 3 then 12 else if x < 0 ∨ (if k = 3 then units else lines) ≤ x ∨ f < 0 ∨ t < f ∨ hours ≤ t then 1 else 0) := rfl;generalize ogWr lines units hours (k, x, f, t) = R at *;by_cases hk : k ≠ 1 ∧ k ≠ 2 ∧ k ≠ 3
 ·obtain ⟨h1, h2, h3⟩ := hk;have HE : Hid (R = 12) := E.out.trans (if_pos ⟨h1, h2, h3⟩);have b1 : (k != 1) = true := βt h1;have b2 : (k != 2) = true := βt h2;have b3 : (k != 3) = true := βt h3;clear E h1 h2 h3;go_enter Tryz.func139, Tryz.ntmps139;go_wp2_with fail;go_ret;exact ⟨zC HE.out.symm, HB0.out⟩
 have E1 : Hid (R = if x < 0 ∨ (if k = 3 then units else lines) ≤ x ∨ f < 0 ∨ t < f ∨ hours ≤ t then 1 else 0) := E.out.trans (if_neg hk);clear E;have hk' : k = 1 ∨ k = 2 ∨ k = 3 := by omega
 clear hk;rcases hk' with rfl | rfl | rfl
 all_goals
  simp only [show ((1 : Int) = 3) = False by simp, show ((2 : Int) = 3) = False by simp, if_true, if_false] at E1;go_enter Tryz.func139, Tryz.ntmps139;go_wp2_with fail
  all_goals
   go_ret
   first
    | exact ⟨zC ((E1.out.trans (if_pos (by omega))).symm), HB0.out⟩
    | exact ⟨zC ((E1.out.trans (if_neg (by omega))).symm), HB0.out⟩
theorem pU (lines units hours : Int) (A : Option Addr) (c : Nat) (l : List Og) (w : World) (hl : OgsR w w A l) (hm : l.length ≤ 1000000) :
  Calls Tryz.prog 76 #[.slice A l.length c, .int .i64 lines, .int .i64 units, .int .i64 hours] w (PlE w (qV lines units hours l)) := by
 have HL := η hl;have HB0 := η (Below.refl w w);clear hl;by_cases h16 : 16 < l.length
 ·have E : Hid (qV lines units hours l = 5) := by
   show (ogChk lines units hours l).2 = 5
   rw [ogChk, if_pos h16]
  have b2 : decide ((16 : Int) < (l.length : Int)) = true := κt (by omega);go_enter Tryz.func76, Tryz.ntmps76;go_wp2_with fail;go_ret2;exact PlE.of E.out HB0.out
 have b2 : decide ((16 : Int) < (l.length : Int)) = false := κf (by omega);have E : Hid (qV lines units hours l = (chkG (ogWr lines units hours) l 0).2) := by
  show (ogChk lines units hours l).2 = _
  rw [ogChk, if_neg h16]
 generalize qV lines units hours l = R at *;clear h16;have KW := η fun k x f t W => dK k x f t lines units hours W
 generalize ogWr lines units hours = f at *;go_enter Tryz.func76, Tryz.ntmps76;go_wp2_with fail;go_loopg [8, 9, 10, 11] l.length (fun g s8 s9 s10 s11 wr => ∃ k : Nat, k + g = l.length ∧ s10 = .int .i64 (k : Int) ∧ chkG f l 0 = chkG f (l.drop k) k ∧ Below w w wr)
 case atStart => exact ⟨0, by omega, rfl, by rw [List.drop_zero], HB0.out⟩
 case round =>
  clear HB0 b2;obtain ⟨k, hkg, rfl, hd, hb⟩ := hrel;have HD := η hd;have HB := η hb;clear hd hb;cases gk with
  | zero =>
   obtain rfl : k = l.length := by omega
   have HE : Hid (R = 0) := by
    show _ = _
    rw [E.out, HD.out, List.drop_length, chkG]
   clear hkg HD HL E;go_wp2_with fail;go_ret2;exact PlE.of HE.out HB.out
  | succ g =>
   have hk : k < l.length := by omega
   have HG := η hkg;clear hkg;obtain ⟨b, off, rfl, hbl, hc⟩ := HL.out (by omega);obtain ⟨e0, e1, e2, e3⟩ := hc k hk;have f0 := (HB.out.cell (p := ⟨b, off + k * 4, none⟩) hbl).trans e0;have f1 := (HB.out.cell (p := ⟨b, off + k * 4 + 1, none⟩) hbl).trans e1;have f2 := (HB.out.cell (p := ⟨b, off + k * 4 + 2, none⟩) hbl).trans e2;have f3 := (HB.out.cell (p := ⟨b, off + k * 4 + 3, none⟩) hbl).trans e3;clear e0 e1 e2 e3 hc;have HIT : Hid (f (l.getD k (0, 0, 0, 0)) = 0 → chkG f l 0 = chkG f (l.drop (k + 1)) (k + 1)) := fun h => HD.out.trans (nR hk h)
   have MISS : Hid (f (l.getD k (0, 0, 0, 0)) ≠ 0 → R = f (l.getD k (0, 0, 0, 0))) := fun h => by rw [E.out, HD.out, pK hk h]
   obtain ⟨⟨ok, ox, of', ot⟩, hgl⟩ : ∃ o, l.getD k (0, 0, 0, 0) = o := ⟨_, rfl⟩;rw [hgl] at f0 f1 f2 f3 HIT MISS;clear hgl;simp only at f0 f1 f2 f3;have KW1 := η fun W => KW.out ok ox of' ot W
   generalize f (ok, ox, of', ot) = er at *;go_wp2_with fail;refine (KW1.out _).mono ?_;rintro e w1 ⟨rfl, hb1⟩;have HB1 := βT HB hb1;clear hb1 KW1 HB;by_cases he : er = 0
   ·have HI := η (HIT.out he);clear HIT MISS;subst he;go_wp2_with fail;go_roundg g
    case measure => omega
    case rel => exact ⟨k + 1, by have := HG.out; omega, by go_num, HI.out, HB1.out⟩
   ·have d1 : (er != 0) = true := βt he;have HM := η (MISS.out he);clear he MISS HIT;go_wp2_with fail;go_ret2;exact PlE.of HM.out HB1.out
theorem gP (nb : Int) (A : Option Addr) (c : Nat) (ls : List Ln) (w : World) (hl : qM w w A ls) :
  Calls Tryz.prog 73 #[.agg #[.int .i64 nb, .slice A ls.length c]] w (ErrE w (zX nb ls)) := by
 have HL := η hl;have HB0 := η ((Below.refl w w).alloc (νr _) (.cells #[.int .i64 nb, .slice A ls.length c] 24));clear hl;have E : Hid (zX nb ls = if nb < 1 ∨ 6 < nb then 1 else if 10 < ls.length then 5 else if ls.all (jA nb) then 0 else 1) := rfl;generalize zX nb ls = R at *;by_cases h1 : nb < 1 ∨ 6 < nb
 ·have HE := η (E.out.trans (if_pos h1));clear E;go_enter Tryz.func73, Tryz.ntmps73;go_wp2_with fail
  all_goals first
   | (go_ret; exact ⟨zC HE.out.symm, HB0.out⟩)
   | (exfalso; omega)
 replace E := η (E.out.trans (if_neg h1));have d1 : decide (nb < 1) = false := κf (by omega);have d2 : decide (6 < nb) = false := κf (by omega);clear h1;by_cases h2 : 10 < ls.length
 ·have HE := η (E.out.trans (if_pos h2));have d3 : decide ((10 : Int) < (ls.length : Int)) = true := κt (by omega);clear E h2;go_enter Tryz.func73, Tryz.ntmps73;go_wp2_with fail;go_ret;exact ⟨zC HE.out.symm, HB0.out⟩
 replace E := η (E.out.trans (if_neg h2));have d3 : decide ((10 : Int) < (ls.length : Int)) = false := κf (by omega);have hm : ls.length ≤ 10 := by omega
 go_enter Tryz.func73, Tryz.ntmps73;go_wp2_with fail;go_loopg [2, 3, 4] ls.length (fun g s2 s3 s4 wr => ∃ k : Nat, k + g = ls.length ∧ s3 = .int .i64 (k : Int) ∧ (ls.take k).all (jA nb) = true ∧ Box wr w [.int .i64 nb, .slice A ls.length c] ∧ w < wr.heap.size ∧ Below w w wr)
 case atStart => exact ⟨0, by omega, rfl, rfl, Box.new w #[.int .i64 nb, .slice A ls.length c] 24, by simp, HB0.out⟩
 case round =>
  clear HB0 d3 d1 d2 h2;obtain ⟨k, hkg, rfl, hs, hx, hlt, hb⟩ := hrel;have HS := η hs;have HX := η hx;have HB := η hb;have c0 := hx.c 0 _ rfl;have c1 := hx.c 1 _ rfl;clear hs hb hx;cases gk with
  | zero =>
   obtain rfl : k = ls.length := by omega
   have HE : Hid (R = 0) := by
    have h := HS.out;rw [List.take_length] at h;show _ = _
    rw [E.out, if_pos h]
   clear hkg HS HL E;go_wp2_with fail;go_ret;exact ⟨zC HE.out.symm, HB.out⟩
  | succ g =>
   have hk : k < ls.length := by omega
   have HG := η hkg;clear hkg;obtain ⟨b, off, rfl, hbl, hc⟩ := HL.out (by omega);obtain ⟨e0, e1, e2, e3⟩ := hc k (by omega);have f0 := (HB.out.cell (p := ⟨b, off + k * 4, none⟩) hbl).trans e0;have f1 := (HB.out.cell (p := ⟨b, off + k * 4 + 1, none⟩) hbl).trans e1;have f2 := (HB.out.cell (p := ⟨b, off + k * 4 + 2, none⟩) hbl).trans e2;have f3 := (HB.out.cell (p := ⟨b, off + k * 4 + 3, none⟩) hbl).trans e3;clear e0 e1 e2 e3 hc;have HYes : Hid (jA nb (ls.getD k (0, 0, 0, 0)) = true → (ls.take (k + 1)).all (jA nb) = true) := fun h => jV _ _ _ _ hk HS.out h
   have HNo : Hid (jA nb (ls.getD k (0, 0, 0, 0)) = false → R = 1) := fun h => by rw [E.out, fZ _ _ _ _ hk h]; rfl
   clear HS E;obtain ⟨⟨lf, lt, lx, lc⟩, hgl⟩ : ∃ o, ls.getD k (0, 0, 0, 0) = o := ⟨_, rfl⟩;rw [hgl] at f0 f1 f2 f3 HYes HNo;clear hgl;simp only at f0 f1 f2 f3;have HD : Hid (jA nb (lf, lt, lx, lc) = decide (0 ≤ lf ∧ lf < nb ∧ 0 ≤ lt ∧ lt < nb ∧ lf ≠ lt ∧ 1 ≤ lx ∧ lx ≤ 1000 ∧ 0 ≤ lc ∧ lc ≤ 1000000)) := by
    show _ = _
    rw [Bool.eq_iff_iff];simp only [jA, chk, κb, κe, bne_iff_ne];constructor <;> (intro h; omega)
   generalize jA nb (lf, lt, lx, lc) = ok at *;have HB1 := η (HB.out.alloc (by omega) (.cells #[.int .i64 lf, .int .i64 lt, .int .i64 lx, .int .i64 lc] 127));have HX1 := η (HX.out.up ((Below.refl wr wr).alloc (νr _) (.cells #[.int .i64 lf, .int .i64 lt, .int .i64 lx, .int .i64 lc] 127)) hlt);go_wp2_with fail
   all_goals first
    | (go_ret; exact ⟨zC (HNo.out (HD.out.trans (κf (by omega)))).symm, HB.out.alloc (by omega) _⟩)
    | skip
   go_roundg g
   case measure => omega
   case rel => exact ⟨k + 1, by have := HG.out; omega, by go_num, HYes.out (HD.out.trans (κt (by omega))), HX1.out, by simp; omega, HB1.out⟩
set_option maxHeartbeats 4000000
theorem dZ {x : Ln} (h : small x.1 ∧ small x.2.1 ∧ small x.2.2.1 ∧ small x.2.2.2) : (lineS x).length ≤ 55 := by
 have h1 := zN h.1;have h2 := zN h.2.1;have h3 := zN h.2.2.1;have h4 := zN h.2.2.2;unfold lineS;simp only [κa, κc, κn];omega
theorem rZ (buses : Int) (lines : List Ln) (A : Option Addr) (c : Nat) (w : World) (hr : qM w w A lines) (hok : zX buses lines = 0) :
  Calls Tryz.prog 78 #[.agg #[.int .i64 buses, .slice A lines.length c]] w (StrE w (netS ⟨buses, lines⟩)) := by
 obtain ⟨hb1, hb6, hll, hsm⟩ := xC hok;have hbs : small buses := by unfold small; omega
 have HR := η hr;have HS := η hsm;have KN := η fun n W h => xK n W h
 have K0 := η fun W => xK buses W hbs
 have HB0 : Hid (Below w w (w.alloc (.cells #[.int .i64 buses, .slice A lines.length c] 24))) := (Below.refl w w).alloc (νr _) _;have HX0 : Hid (Box (w.alloc (.cells #[.int .i64 buses, .slice A lines.length c] 24)) w [.int .i64 buses, .slice A lines.length c]) := Box.new w #[.int .i64 buses, .slice A lines.length c] _;have hz0 : w < (w.alloc (.cells #[.int .i64 buses, .slice A lines.length c] 24)).heap.size := by simp
 have h1 := zN hbs;obtain ⟨t0, ht0⟩ : ∃ t, t = numS buses := ⟨_, rfl⟩;rw [← ht0] at K0 h1;have ep0 : ∀ W : World, (Op.stringOp .add ⟨#[40, 110, 101, 116]⟩ (bstr t0)).run Tryz.prog W = .ok (.string (bstr ([40, 110, 101, 116] ++ t0))) W := fun W => zF [40, 110, 101, 116] t0 W (by simp only [κc, κn]; omega)
 have ER : Hid (netS ⟨buses, lines⟩ = [40, 110, 101, 116] ++ t0 ++ lines.flatMap lineS ++ [41]) := by show _ = _; rw [ht0]; rfl
 generalize netS ⟨buses, lines⟩ = R at *;have hT0 : ([40, 110, 101, 116] ++ t0).length ≤ 16 := by simp only [κa, κc, κn]; omega
 generalize hu0 : [40, 110, 101, 116] ++ t0 = u0 at *;clear hr hok hsm hbs ht0 hb1 hb6 h1 hu0;go_enter Tryz.func78, Tryz.ntmps78;go_wp2_with fail;refine (K0.out _).mono ?_;rintro e w1 ⟨rfl, hb1⟩;have HX1 := η (HX0.out.up hb1 hz0);have HB1 := η (HB0.out.trans (hb1.mono (κl hz0)));have hz1 : w < w1.heap.size := HX1.out.lt (by simp);clear hb1 HX0 HB0 K0 hz0;go_wp2_with fail;clear ep0;go_loopg [3, 4, 5] lines.length (fun g s3 s4 s5 wr => ∃ k : Nat, k + g = lines.length ∧ s4 = .int .i64 (k : Int) ∧ s3 = .string (bstr (u0 ++ (lines.take k).flatMap lineS)) ∧ Below (w + 1) w1 wr)
 case atStart => exact ⟨0, by omega, rfl, by simp, Below.refl _ _⟩
 case round =>
  obtain ⟨k, hkg, rfl, rfl, hb⟩ := hrel;have HB := η (HB1.out.trans (hb.mono (by omega)));have HX := η (HX1.out.up hb (by omega));have HBO := η hb;have hzr : w < wr.heap.size := HX.out.lt (by simp);clear hb;have q0 := HX.out.c 0 _ rfl;have q1 := HX.out.c 1 _ rfl;have h0 := kX (f := lineS) (l := lines.take k) (m := 55) fun x hx => dZ (HS.out x (List.mem_of_mem_take hx))
  rw [κk] at h0;have hq : (u0 ++ (lines.take k).flatMap lineS).length ≤ 566 := by rw [κa]; omega
  cases gk with
  | zero =>
   obtain rfl : k = lines.length := by omega
   rw [List.take_length] at hq ⊢;have ER2 : Hid (R = (u0 ++ lines.flatMap lineS) ++ [41]) := by show _ = _; rw [ER.out]
   generalize u0 ++ lines.flatMap lineS = s at *;have ep := fun W => zF s [41] W (by simp only [κc, κn]; omega)
   rw [show bstr [41] = ⟨#[41]⟩ from rfl] at ep;clear hkg h0 hq ER;go_wp2_with fail
   try rw [κx]
   go_ret;exact ⟨xG ER2.out.symm, HB.out⟩
  | succ g =>
   have hk : k < lines.length := by omega
   have HG := η hkg;clear hkg;obtain ⟨b, off, rfl, hbl, hcc⟩ := HR.out (by omega);obtain ⟨g0, g1, g2, g3⟩ := hcc k hk;have f0 := (HB.out.cell (p := ⟨b, off + k * 4, none⟩) hbl).trans g0;have f1 := (HB.out.cell (p := ⟨b, off + k * 4 + 1, none⟩) hbl).trans g1;have f2 := (HB.out.cell (p := ⟨b, off + k * 4 + 2, none⟩) hbl).trans g2;have f3 := (HB.out.cell (p := ⟨b, off + k * 4 + 3, none⟩) hbl).trans g3;have hsm := HS.out (lines.getD k (0, 0, 0, 0)) (xW _ hk);have HT : Hid (u0 ++ (lines.take (k + 1)).flatMap lineS = (u0 ++ (lines.take k).flatMap lineS) ++ lineS (lines.getD k (0, 0, 0, 0))) := by show _ = _; rw [hM lineS (0, 0, 0, 0) hk, κq]
   clear hcc g0 g1 g2 g3 h0;generalize u0 ++ (lines.take k).flatMap lineS = s at *;obtain ⟨⟨n1, n2, n3, n4⟩, hx⟩ : ∃ x, lines.getD k (0, 0, 0, 0) = x := ⟨_, rfl⟩;rw [hx] at f0 f1 f2 f3 hsm HT;clear hx;dsimp only at f0 f1 f2 f3 hsm;obtain ⟨m1, m2, m3, m4⟩ := hsm;have K1 := η fun W => KN.out n1 W m1
   have h1 := zN m1;obtain ⟨t1, ht1⟩ : ∃ t, t = numS n1 := ⟨_, rfl⟩;rw [← ht1] at K1 h1;have K2 := η fun W => KN.out n2 W m2
   have h2 := zN m2;obtain ⟨t2, ht2⟩ : ∃ t, t = numS n2 := ⟨_, rfl⟩;rw [← ht2] at K2 h2;have K3 := η fun W => KN.out n3 W m3
   have h3 := zN m3;obtain ⟨t3, ht3⟩ : ∃ t, t = numS n3 := ⟨_, rfl⟩;rw [← ht3] at K3 h3;have K4 := η fun W => KN.out n4 W m4
   have h4 := zN m4;obtain ⟨t4, ht4⟩ : ∃ t, t = numS n4 := ⟨_, rfl⟩;rw [← ht4] at K4 h4;obtain ⟨s1, hs1⟩ : ∃ x, x = s ++ [32, 40, 108, 105, 110, 101] := ⟨_, rfl⟩;have qs1 : s1.length ≤ 572 := by rw [hs1]; simp only [κa, κc, κn]; omega
   have es1 : ∀ W : World, (Op.stringOp .add (bstr s) ⟨#[32, 40, 108, 105, 110, 101]⟩).run Tryz.prog W = .ok (.string (bstr s1)) W := fun W => by rw [hs1]; exact zF (s) ([32, 40, 108, 105, 110, 101]) W (by (try simp only [κc, κn]); omega)
   obtain ⟨s2, hs2⟩ : ∃ x, x = s1 ++ t1 := ⟨_, rfl⟩;have qs2 : s2.length ≤ 584 := by rw [hs2]; simp only [κa, κc, κn]; omega
   have es2 : ∀ W : World, (Op.stringOp .add (bstr s1) (bstr t1)).run Tryz.prog W = .ok (.string (bstr s2)) W := fun W => by rw [hs2]; exact zF (s1) (t1) W (by (try simp only [κc, κn]); omega)
   obtain ⟨s3, hs3⟩ : ∃ x, x = s2 ++ t2 := ⟨_, rfl⟩;have qs3 : s3.length ≤ 596 := by rw [hs3]; simp only [κa, κc, κn]; omega
   have es3 : ∀ W : World, (Op.stringOp .add (bstr s2) (bstr t2)).run Tryz.prog W = .ok (.string (bstr s3)) W := fun W => by rw [hs3]; exact zF (s2) (t2) W (by (try simp only [κc, κn]); omega)
   obtain ⟨s4, hs4⟩ : ∃ x, x = s3 ++ t3 := ⟨_, rfl⟩;have qs4 : s4.length ≤ 608 := by rw [hs4]; simp only [κa, κc, κn]; omega
   have es4 : ∀ W : World, (Op.stringOp .add (bstr s3) (bstr t3)).run Tryz.prog W = .ok (.string (bstr s4)) W := fun W => by rw [hs4]; exact zF (s3) (t3) W (by (try simp only [κc, κn]); omega)
   obtain ⟨s5, hs5⟩ : ∃ x, x = s4 ++ t4 := ⟨_, rfl⟩;have qs5 : s5.length ≤ 620 := by rw [hs5]; simp only [κa, κc, κn]; omega
   have es5 : ∀ W : World, (Op.stringOp .add (bstr s4) (bstr t4)).run Tryz.prog W = .ok (.string (bstr s5)) W := fun W => by rw [hs5]; exact zF (s4) (t4) W (by (try simp only [κc, κn]); omega)
   obtain ⟨s6, hs6⟩ : ∃ x, x = s5 ++ [41] := ⟨_, rfl⟩;have qs6 : s6.length ≤ 621 := by rw [hs6]; simp only [κa, κc, κn]; omega
   have es6 : ∀ W : World, (Op.stringOp .add (bstr s5) ⟨#[41]⟩).run Tryz.prog W = .ok (.string (bstr s6)) W := fun W => by rw [hs6]; exact zF (s5) ([41]) W (by (try simp only [κc, κn]); omega)
   have HT2 : Hid (u0 ++ (lines.take (k + 1)).flatMap lineS = s6) := by
    show _ = _
    rw [HT.out, hs6, hs5, hs4, hs3, hs2, hs1, ht4, ht3, ht2, ht1];simp [lineS]
   have hkl : (k : Int) < (lines.length : Int) := by omega
   clear HT hs1 hs2 hs3 hs4 hs5 hs6 qs1 qs2 qs3 qs4 qs5 qs6 ht1 ht2 ht3 ht4 hq h1 h2 h3 h4 m1 m2 m3 m4;have HY : Hid (Box (wr.alloc (.cells #[.int .i64 n1, .int .i64 n2, .int .i64 n3, .int .i64 n4] 127)) wr [.int .i64 n1, .int .i64 n2, .int .i64 n3, .int .i64 n4]) := Box.new wr #[.int .i64 n1, .int .i64 n2, .int .i64 n3, .int .i64 n4] _;have hzy : wr < (wr.alloc (.cells #[.int .i64 n1, .int .i64 n2, .int .i64 n3, .int .i64 n4] 127)).heap.size := by simp
   have HBO2 := η (HBO.out.alloc (by omega) (.cells #[.int .i64 n1, .int .i64 n2, .int .i64 n3, .int .i64 n4] 127));go_wp2_with fail;refine zE (w0 := (wr.alloc (.cells #[.int .i64 n1, .int .i64 n2, .int .i64 n3, .int .i64 n4] 127))) [(3, .string (bstr s)), (5, .pointer (some ⟨wr, 0, none⟩)), (22, .string (bstr s)), (23, .string (bstr s1)), (24, .pointer (some ⟨wr, 0, none⟩)), (25, .int .i64 n1), (26, .string (bstr t1)), (27, .string (bstr s2)), (28, .pointer (some ⟨wr, 1, none⟩)), (29, .int .i64 n2), (30, .string (bstr t2)), (31, .string (bstr s3)), (32, .pointer (some ⟨wr, 2, none⟩)), (33, .int .i64 n3), (34, .string (bstr t3)), (35, .string (bstr s4)), (36, .pointer (some ⟨wr, 3, none⟩)), (37, .int .i64 n4), (38, .string (bstr t4)), (39, .string (bstr s5)), (40, .string (bstr s6))] [(3, .string (bstr s6))] [3, 5] ?_ ?_
   ·intro T hT W hI;simp only [zA, and_true] at hT;have hy := HY.out.up hI hzy;have c0 := hy.c 0 _ rfl;have c1 := hy.c 1 _ rfl;have c2 := hy.c 2 _ rfl;have c3 := hy.c 3 _ rfl
    repeat' first | exact AllO.nil | apply AllO.cons
    all_goals try ((first | refine oV ?_ | refine oN ?_ | refine oG (t := by simp only [hT]) (h := ?_)); simp [go_sem, EvT, hT, c0, c1, c2, c3, es1, es2, es3, es4, es5, es6, valT]; done)
    ·refine opT_r (zO 140 #[.int .i64 n1] (by simp [go_sem, EvT, hT, c0, c1, c2, c3, es1, es2, es3, es4, es5, es6]) ?_);simp only [valT, hT];exact K1.out W
    ·refine opT_r (zO 140 #[.int .i64 n2] (by simp [go_sem, EvT, hT, c0, c1, c2, c3, es1, es2, es3, es4, es5, es6]) ?_);simp only [valT, hT];exact K2.out W
    ·refine opT_r (zO 140 #[.int .i64 n3] (by simp [go_sem, EvT, hT, c0, c1, c2, c3, es1, es2, es3, es4, es5, es6]) ?_);simp only [valT, hT];exact K3.out W
    ·refine opT_r (zO 140 #[.int .i64 n4] (by simp [go_sem, EvT, hT, c0, c1, c2, c3, es1, es2, es3, es4, es5, es6]) ?_);simp only [valT, hT];exact K4.out W
   intro wx hbx;simp (decide := true) only [putT, valT, look, Act.put, σi, σo, σs, Nat.reduceAdd, if_true, if_false];have HBO3 := η (HBO2.out.trans (hbx.mono (by omega)));clear hbx f0 f1 f2 f3 K1 K2 K3 K4 es1 es2 es3 es4 es5 es6;go_wp2_with fail;go_roundg g
   case measure => omega
   case rel => exact ⟨k + 1, by have := HG.out; omega, by go_num, by rw [HT2.out], HBO3.out⟩
theorem cM (buses : Int) (lines : List Ln) (A : Option Addr) (c : Nat) (w : World) (hr : qM w w A lines) (hok : zX buses lines = 0) :
  Calls Tryz.prog 31 #[.agg #[.int .i64 buses, .slice A lines.length c]] w (TxtE w (netS ⟨buses, lines⟩)) := by
 have HR := η hr;have K1 := η fun W h => gP buses A c lines W h
 have K2 := η fun W h => rZ buses lines A c W h hok
 rw [hok] at K1;have HB0 : Hid (Below w w (w.alloc (.cells #[.int .i64 buses, .slice A lines.length c] 24))) := (Below.refl w w).alloc (νr _) _;have HX0 : Hid (Box (w.alloc (.cells #[.int .i64 buses, .slice A lines.length c] 24)) w [.int .i64 buses, .slice A lines.length c]) := Box.new w #[.int .i64 buses, .slice A lines.length c] _;generalize netS ⟨buses, lines⟩ = R at *;clear hr hok;go_enter Tryz.func31, Tryz.ntmps31;go_wp2_with fail;refine (K1.out _ (HR.out.upto HB0.out)).mono ?_;rintro e w1 ⟨rfl, hb1⟩;have HX1 := η (HX0.out.up hb1 (by simp));have HB1 := η (HB0.out.trans (hb1.mono (by simp)));have hz1 : w < w1.heap.size := HX1.out.lt (by simp);have q0 := HX1.out.c 0 _ rfl;have q1 := HX1.out.c 1 _ rfl;clear hb1 HX0 HB0 K1;go_wp2_with fail;refine (K2.out _ (HR.out.upto HB1.out)).mono ?_;rintro e w2 ⟨rfl, hb2⟩;have HB2 := βT HB1 hb2;clear hb2;go_wp2_with fail;go_ret2;exact ⟨rfl, HB2.out⟩
def tQ : Array Value := #[.string ⟨#[]⟩, .string ⟨#[112, 108, 97, 110]⟩, .string ⟨#[108, 111, 115, 115]⟩, .string ⟨#[116, 114, 105, 112]⟩]
theorem aH (w : World) : Calls Tryz.prog 146 #[] w fun e w' => e = .returned (.slice (some ⟨w, 0, none⟩) 4 4) ∧ w' = w.alloc (.cells tQ 9) := by
 go_enter Tryz.func146, Tryz.ntmps146;go_wp2_with fail;go_ret;exact ⟨rfl, rfl⟩
theorem aI (k x f t : Int) (w : World) (h : qG (k, x, f, t) = true) : Calls Tryz.prog 84 #[.agg #[.int .u8 k, .int .i64 x, .int .i64 f, .int .i64 t]] w fun e w' => e = .returned (.bool true) ∧ Below w w w' := by
 have HB0 := η ((Below.refl w w).alloc (νr _) (.cells #[.int .u8 k, .int .i64 x, .int .i64 f, .int .i64 t] 53));have E : 0 ≤ x ∧ x < (if k = 3 then 5 else 10) ∧ 0 ≤ f ∧ f ≤ t ∧ t < 8 := by simpa [qG, and_assoc] using h
 have d1 : decide (0 ≤ x) = true := κt E.1;have d2 : decide (0 ≤ f) = true := κt E.2.2.1;have d3 : decide (f ≤ t) = true := κt E.2.2.2.1;have d4 : decide (t < 8) = true := κt E.2.2.2.2;have E2 := E.2.1;clear E h;by_cases hk : k = 3
 ·rw [if_pos hk] at E2;have b1 : (k == 3) = true := beq_iff_eq.2 hk;have d5 : decide (x < 5) = true := κt E2;clear hk E2;go_enter Tryz.func84, Tryz.ntmps84;go_wp2_with fail;go_ret;exact ⟨rfl, HB0.out⟩
 ·rw [if_neg hk] at E2;have b1 : (k == 3) = false := βf hk;have d5 : decide (x < 10) = true := κt E2;clear hk E2;go_enter Tryz.func84, Tryz.ntmps84;go_wp2_with fail;go_ret;exact ⟨rfl, HB0.out⟩
theorem cK (kn : Nat) (x f t : Int) (w : World) (hk : 1 ≤ kn ∧ kn ≤ 3) (hs : small x ∧ small f ∧ small t) :
  Calls Tryz.prog 85 #[.agg #[.int .u8 kn, .int .i64 x, .int .i64 f, .int .i64 t]] w (StrE w (outS (kn, x, f, t))) := by
 have K1 := η fun W => xK x W hs.1
 have K2 := η fun W => xK f W hs.2.1
 have K3 := η fun W => xK t W hs.2.2
 have h1 := zN hs.1;have h2 := zN hs.2.1;have h3 := zN hs.2.2;obtain ⟨kw, hkw⟩ : ∃ y, y = kindW kn := ⟨_, rfl⟩;have h4 : kw.length ≤ 4 := by rw [hkw]; unfold kindW; (repeat' split) <;> simp
 have HC : Hid (∀ W : World, (W.alloc (.cells tQ 9)).cell? ⟨W, kn, none⟩ = some (.string (bstr kw))) := fun W => by
  rw [qP _ _ _ _ _ rfl, hkw];rcases (by omega : kn = 1 ∨ kn = 2 ∨ kn = 3) with rfl | rfl | rfl <;> rfl
 obtain ⟨t1, ht1⟩ : ∃ y, y = numS x := ⟨_, rfl⟩;obtain ⟨t2, ht2⟩ : ∃ y, y = numS f := ⟨_, rfl⟩;obtain ⟨t3, ht3⟩ : ∃ y, y = numS t := ⟨_, rfl⟩;rw [← ht1] at K1 h1;rw [← ht2] at K2 h2;rw [← ht3] at K3 h3;obtain ⟨s1, hs1⟩ : ∃ x, x = [40] ++ kw := ⟨_, rfl⟩;have qs1 : s1.length ≤ 5 := by rw [hs1]; simp only [κa, κc, κn]; omega
 have es1 : ∀ W : World, (Op.stringOp .add ⟨#[40]⟩ (bstr kw)).run Tryz.prog W = .ok (.string (bstr s1)) W := fun W => by rw [hs1]; exact zF ([40]) (kw) W (by (try simp only [κc, κn]); omega)
 obtain ⟨s2, hs2⟩ : ∃ x, x = s1 ++ t1 := ⟨_, rfl⟩;have qs2 : s2.length ≤ 17 := by rw [hs2]; simp only [κa, κc, κn]; omega
 have es2 : ∀ W : World, (Op.stringOp .add (bstr s1) (bstr t1)).run Tryz.prog W = .ok (.string (bstr s2)) W := fun W => by rw [hs2]; exact zF (s1) (t1) W (by (try simp only [κc, κn]); omega)
 obtain ⟨s3, hs3⟩ : ∃ x, x = s2 ++ t2 := ⟨_, rfl⟩;have qs3 : s3.length ≤ 29 := by rw [hs3]; simp only [κa, κc, κn]; omega
 have es3 : ∀ W : World, (Op.stringOp .add (bstr s2) (bstr t2)).run Tryz.prog W = .ok (.string (bstr s3)) W := fun W => by rw [hs3]; exact zF (s2) (t2) W (by (try simp only [κc, κn]); omega)
 obtain ⟨s4, hs4⟩ : ∃ x, x = s3 ++ t3 := ⟨_, rfl⟩;have qs4 : s4.length ≤ 41 := by rw [hs4]; simp only [κa, κc, κn]; omega
 have es4 : ∀ W : World, (Op.stringOp .add (bstr s3) (bstr t3)).run Tryz.prog W = .ok (.string (bstr s4)) W := fun W => by rw [hs4]; exact zF (s3) (t3) W (by (try simp only [κc, κn]); omega)
 obtain ⟨s5, hs5⟩ : ∃ x, x = s4 ++ [41] := ⟨_, rfl⟩;have qs5 : s5.length ≤ 42 := by rw [hs5]; simp only [κa, κc, κn]; omega
 have es5 : ∀ W : World, (Op.stringOp .add (bstr s4) ⟨#[41]⟩).run Tryz.prog W = .ok (.string (bstr s5)) W := fun W => by rw [hs5]; exact zF (s4) ([41]) W (by (try simp only [κc, κn]); omega)
 have ER : Hid (outS (kn, x, f, t) = s5) := by
  show _ = _
  rw [hs5, hs4, hs3, hs2, hs1, ht3, ht2, ht1, hkw];simp [outS]
 generalize outS (kn, x, f, t) = R at *;clear hs1 hs2 hs3 hs4 hs5 qs1 qs2 qs3 qs4 qs5 ht1 ht2 ht3 hkw h1 h2 h3 h4 hs;obtain ⟨W0, hW0⟩ : ∃ W0, W0 = w.alloc (.cells #[.int .u8 kn, .int .i64 x, .int .i64 f, .int .i64 t] 53) := ⟨_, rfl⟩;have HB0 : Hid (Below w w W0) := by show Below _ _ _; rw [hW0]; exact (Below.refl w w).alloc (νr _) _
 have HX0 : Hid (Box W0 w [.int .u8 kn, .int .i64 x, .int .i64 f, .int .i64 t]) := by show Box _ _ _; rw [hW0]; exact Box.new w #[.int .u8 kn, .int .i64 x, .int .i64 f, .int .i64 t] _
 have hz0 : w < W0.heap.size := by rw [hW0]; simp
 have hk3 : (kn : Int) < 4 := by omega
 have hk4 : kn < 4 := by omega
 go_enter Tryz.func85, Tryz.ntmps85;go_wp2_with fail;rw [← hW0];clear hW0;refine zL (X := Nat) (w0 := W0) [0, 8, 12, 16] (fun jq => [1, 0, 0, 1, 1, 1, 0, 0, 2, 2, 0, 0, 3, 3, 0, 0, 4, 4, 4, 4].getD jq 0) (fun jq => [0, 4, 4, 4, 4, 4, 1, 1, 1, 4, 2, 2, 2, 4, 3, 3, 3, 4, 4, 4].getD jq 0) (fun y => [(1, .pointer (some ⟨w, 0, none⟩)), (3, .slice (some ⟨y, 0, none⟩) 4 4), (4, .pointer (some ⟨w, 0, none⟩)), (5, .int .u8 kn), (6, .pointer (some ⟨y, kn, none⟩)), (7, .string (bstr kw)), (8, .string (bstr s1)), (9, .pointer (some ⟨w, 1, none⟩)), (10, .int .i64 x), (11, .string (bstr t1)), (12, .string (bstr s2)), (13, .pointer (some ⟨w, 2, none⟩)), (14, .int .i64 f), (15, .string (bstr t2)), (16, .string (bstr s3)), (17, .pointer (some ⟨w, 3, none⟩)), (18, .int .i64 t), (19, .string (bstr t3)), (20, .string (bstr s4)), (21, .string (bstr s5))]) (fun _ => [(2, .string (bstr s5))]) [1] (fun t y W => match t with | 0 => Below W0 W0 W | _ => Below W0 W0 W ∧ y < W ∧ W.cell? ⟨y, kn, none⟩ = some (.string (bstr kw))) 0 (Below.refl _ _).drew ?_ ?_ ?_
 ·intro T y t W hT hI htl;simp only [zA, and_true] at hT;rcases t with _ | t
  ·replace hI : Below W0 W0 W := hI;have hx := HX0.out.up hI hz0;have l0 := hx.c 0 _ rfl;have l1 := hx.c 1 _ rfl;have l2 := hx.c 2 _ rfl;have l3 := hx.c 3 _ rfl
   repeat' first | exact AllI.nil | apply AllI.cons
   all_goals intro hn hl hu
   all_goals first | exact absurd hn (by decide) | exact absurd hl (by decide) | exact absurd hu (by decide) | (refine rdT ?_; simp [go_sem, EvT, hT, l0, l1, l2, l3, hk3, hk4, es1, es2, es3, es4, es5, valT])
  ·obtain ⟨hI, hyz, hyc⟩ : Below W0 W0 W ∧ y < W ∧ W.cell? ⟨y, kn, none⟩ = some (.string (bstr kw)) := hI;have hx := HX0.out.up hI hz0;have l0 := hx.c 0 _ rfl;have l1 := hx.c 1 _ rfl;have l2 := hx.c 2 _ rfl;have l3 := hx.c 3 _ rfl;rcases t with _ | _ | _ | _ | t
   rotate_left 4
   ·exact absurd htl (by simp)
   all_goals
    repeat' first | exact AllI.nil | apply AllI.cons
    all_goals intro hn hl hu
    all_goals first | exact absurd hn (by decide) | exact absurd hl (by decide) | exact absurd hu (by decide) | (refine rdT ?_; simp [go_sem, EvT, hT, l0, l1, l2, l3, hk3, hk4, es1, es2, es3, es4, es5, hyc, valT])
 ·intro T k y W o hk ho hT hI;simp only [zA, and_true] at hT;rcases k with _ | k
  ·cases ho;replace hI : Below W0 W0 W := hI;exact chT_c (d := 3) 146 #[] (by simp [go_sem, EvT, hT]) ((aH W).mono fun e w' ⟨he, hw⟩ => ⟨_, he, W, rfl, by rw [hw]; exact ⟨hI.alloc hI.size _, by simp, HC.out W⟩⟩)
  ·obtain ⟨hI, hyz, hyc⟩ : Below W0 W0 W ∧ y < W ∧ W.cell? ⟨y, kn, none⟩ = some (.string (bstr kw)) := hI;have hF : ∀ W', Below W W W' → Below W0 W0 W' ∧ y < W' ∧ W'.cell? ⟨y, kn, none⟩ = some (.string (bstr kw)) := fun W' hb => ⟨hI.trans (hb.mono hI.size), νl hyz hb.size, (hb.cell (p := ⟨y, kn, none⟩) hyz).trans hyc⟩
   rcases k with _ | _ | _ | k
   ·cases ho;exact chT_k (d := 11) 140 #[.int .i64 x] (by simp [go_sem, EvT, hT]) ((K1.out W).mono fun e w' ⟨he, hb⟩ => ⟨_, he, rfl, hF _ hb⟩)
   ·cases ho;exact chT_k (d := 15) 140 #[.int .i64 f] (by simp [go_sem, EvT, hT]) ((K2.out W).mono fun e w' ⟨he, hb⟩ => ⟨_, he, rfl, hF _ hb⟩)
   ·cases ho;exact chT_k (d := 19) 140 #[.int .i64 t] (by simp [go_sem, EvT, hT]) ((K3.out W).mono fun e w' ⟨he, hb⟩ => ⟨_, he, rfl, hF _ hb⟩)
   ·exact absurd hk (by simp)
 intro y wx hI;simp (decide := true) only [putT, valT, look, Act.put, σi, σo, σs, Nat.reduceAdd, if_true, if_false];have HB2 := η (HB0.out.trans ((show Below W0 W0 wx ∧ _ from hI).1.mono (κl hz0)));clear hI;go_wp2_with fail;go_ret;exact ⟨xG ER.out.symm, HB2.out⟩
theorem cL (k x f t : Int) (w : World) (hk : k = 1 ∨ k = 2 ∨ k = 3) (hv : qG (k, x, f, t) = true) :
  Calls Tryz.prog 35 #[.agg #[.int .u8 k, .int .i64 x, .int .i64 f, .int .i64 t]] w (TxtE w (outS (k, x, f, t))) := by
 obtain ⟨kn, rfl⟩ : ∃ kn : Nat, k = kn := ⟨k.toNat, by omega⟩;have hs : small x ∧ small f ∧ small t := by
  have h := hv;unfold qG at h;simp only [κb, κe] at h;unfold small;split at h <;> omega
 have K1 := η fun W => aI kn x f t W hv
 have K2 := η fun W => cK kn x f t W (by omega) hs
 have HB0 : Hid (Below w w (w.alloc (.cells #[.int .u8 kn, .int .i64 x, .int .i64 f, .int .i64 t] 53))) := (Below.refl w w).alloc (νr _) _;have HX0 : Hid (Box (w.alloc (.cells #[.int .u8 kn, .int .i64 x, .int .i64 f, .int .i64 t] 53)) w [.int .u8 kn, .int .i64 x, .int .i64 f, .int .i64 t]) := Box.new w #[.int .u8 kn, .int .i64 x, .int .i64 f, .int .i64 t] _;have d1 : decide ((kn : Int) < 1) = false := κf (by omega);have d2 : decide ((3 : Int) < (kn : Int)) = false := κf (by omega);have d3 : ¬ kn < 1 := by omega
 have d4 : ¬ 3 < kn := by omega
 have d5 : kn ≠ 0 := by omega
 generalize outS (↑kn, x, f, t) = R at *;clear hk hv hs;go_enter Tryz.func35, Tryz.ntmps35;go_wp2_with fail;refine (K1.out _).mono ?_;rintro e w1 ⟨rfl, hb1⟩;have HX1 := η (HX0.out.up hb1 (by simp));have HB1 := η (HB0.out.trans (hb1.mono (by simp)));have hz1 : w < w1.heap.size := HX1.out.lt (by simp);clear hb1 HX0 HB0 K1;have q0 := HX1.out.c 0 _ rfl;have q1 := HX1.out.c 1 _ rfl;have q2 := HX1.out.c 2 _ rfl;have q3 := HX1.out.c 3 _ rfl;go_wp2_with fail;refine (K2.out w1).mono ?_;rintro e w2 ⟨rfl, hb2⟩;have HB2 := βT HB1 hb2;clear hb2;go_wp2_with fail;go_ret2;exact ⟨rfl, HB2.out⟩
end Go.Proofs.YtkfhpefmmhljmaaGreatDoor
