/- Texts in one: FrH, FrI, FrJ. -/
import Derived.Test.YtkfhpefmmhljmaaGreatDoorF43
set_option linter.unusedVariables false
set_option linter.unusedSimpArgs false
set_option maxHeartbeats 16000000
set_option maxRecDepth 100000
namespace Go.Proofs.YtkfhpefmmhljmaaGreatDoor
open Go.RowKit
set_option maxHeartbeats 8000000
theorem oL : (Tryz.prog.info? 3).map (fun i => (i.zero, i.size, i.bytes)) = some (some (.int .i64 0), 1, 8) := by kernel_rfl
theorem sV {ws : List Int} {k : Nat} (hk : k < ws.length) : hlv (ws.take (k + 1)) = hlv (ws.take k) ++ [ws.getD k 0 % 65536, ws.getD k 0 / 65536] := by
 unfold hlv;rw [κs hk, List.flatMap_append, zM ws k 0 hk];simp
theorem fU (ws : List Int) : (hlv ws).length = ws.length * 2 := by
 induction ws with
 | nil => rfl
 | cons x l ih => show (_ :: _ :: hlv l).length = _; simp [ih]; omega
theorem oB : Tryz.prog.underlying 210 = some (.slice 3) := Tryz.underlying210
theorem vZ (A : Option Addr) (c : Nat) (ws : List Int) (w : World) (h : WrdR w w A ws) (hl : ws.length ≤ 2) (hw : Words ws) : Calls Tryz.prog 141 #[.slice A ws.length c] w (HlE w (trimL (hlv ws))) := by
 obtain ⟨i0, hi, hz0, hz1, hz2⟩ := info_parts oL;have H := η h;have HW := η hw;have HB0 := η (Below.refl w w);clear h hw;go_enter Tryz.func141, Tryz.ntmps141;go_wp2_with fail;go_loopg [3, 4] ws.length (fun g s3 s4 wr => ∃ k : Nat, k + g = ws.length ∧ s4 = .int .i64 (k : Int) ∧ wr.ownsRow w 3 1 s3 (k * 2) ((hlv (ws.take k)).map (Value.int .i64)) ∧ Below w w wr)
 case atStart => exact ⟨0, by omega, rfl, World.ownsRow_nil _ _ _ _, HB0.out⟩
 case round =>
  clear HB0;obtain ⟨k, hkg, rfl, hown, hb⟩ := hrel;have HB := η hb;have HO := η hown;obtain ⟨A3, c3, rfl, hc3⟩ := zR hown;clear hb hown;cases gk with
  | zero =>
   obtain rfl : k = ws.length := by omega
   have e := HO.out;rw [List.take_length, ← fU] at e;obtain ⟨A4, c4, he4, hr4⟩ := dP e;injection he4 with ha hb' hc'
   subst ha; subst hc';have KT := η (uO A3 c3 (hlv ws) wr hr4 (by rw [fU]; omega) (by rw [fU]; exact hc3));rw [fU] at KT;clear e hr4 HO hb' hkg;go_wp2_with fail;refine KT.out.mono ?_;rintro e w1 ⟨A1, c1, rfl, hc, hr, hb1⟩;have HB1 := βT HB hb1;have HR := η hr;clear hr hb1;go_wp2_with fail
   try rw [κx]
   go_ret;exact ⟨A1, c1, rfl, hc, HR.out, HB1.out⟩
  | succ g =>
   have hk : k < ws.length := by omega
   have HG := η hkg;clear hkg;obtain ⟨b, off, rfl, hbl, hcc⟩ := H.out (by omega);have f0 := (HB.out.cell (p := ⟨b, off + k, none⟩) hbl).trans (hcc k hk);have hx := HW.out (ws.getD k 0) (by rw [zM ws k 0 hk]; exact List.getElem_mem hk);have HT := η (sV hk);have hbw : b < wr := νl hbl HB.out.size;clear hcc;generalize ws.getD k 0 = y at *;have hkr : (k : Int) < (ws.length : Int) := by omega
   have p1 : IntKind.i64.wrap (y % 65536) = y % 65536 := IntWalk.i64_in _ (by omega);have p2 : IntKind.i64.wrap (y / 65536) = y / 65536 := IntWalk.i64_in _ (by omega);have t1 : y.tmod 65536 = y % 65536 := Int.tmod_eq_emod_of_nonneg hx.1;have t2 : y.tdiv 65536 = y / 65536 := Int.tdiv_eq_ediv_of_nonneg hx.1;have p3 : IntKind.u32.wrap (y / 65536) = y / 65536 := IntWalk.u32_in _ (by omega);have hy := hx.1;have hy2 := hx.2;clear hx;go_wp2_with fail;refine zL (X := Nat × Value) (w0 := wr) [13, 14] (fun jq => [0, 0, 0, 0, 0, 0, 0, 0, 0, 0, 0, 0, 0, 1, 2, 2].getD jq 0) (fun jq => [1, 0, 0, 0, 0, 0, 0, 0, 0, 0, 0, 0, 0, 0, 1, 2].getD jq 0) (fun x => [(3, .slice A3 (k * 2) c3), (0, .slice (some ⟨b, off, none⟩) ws.length c), (4, .int .i64 (k : Int)), (11, .slice A3 (k * 2) c3), (12, .slice (some ⟨b, off, none⟩) ws.length c), (13, .int .i64 (k : Int)), (14, .pointer (some ⟨b, off + k, none⟩)), (15, .int .u32 y), (16, .int .u32 (y % 65536)), (17, .int .i64 (y % 65536)), (18, .slice (some ⟨b, off, none⟩) ws.length c), (19, .int .i64 (k : Int)), (20, .pointer (some ⟨b, off + k, none⟩)), (21, .int .u32 y), (22, .int .u32 (y / 65536)), (23, .int .i64 (y / 65536)), (24, .slice (some ⟨x.1, 0, none⟩) 2 2), (25, x.2)]) (fun x => [(3, x.2)]) [3, 0, 4] (fun t x W => match t with | 0 => Below wr wr W | 1 => ∃ W0, Below wr wr W0 ∧ W = W0.alloc (.cells #[.int .i64 (y % 65536), .int .i64 (y / 65536)] 3) ∧ x.1 = W0.heap.size | _ => W.ownsRow w 3 1 x.2 (k * 2 + 2) ((hlv (ws.take k)).map (Value.int .i64) ++ [.int .i64 (y % 65536), .int .i64 (y / 65536)]) ∧ Below w wr W) (0, undef) (Below.refl _ _).drew ?_ ?_ ?_
   ·intro T x t W hT hI htl;simp only [zA, and_true] at hT;rcases t with _ | _ | _ | t
    ·replace hI : Below wr wr W := hI;have l0 := (hI.cell (p := ⟨b, off + k, none⟩) hbw).trans f0
     repeat' first | exact AllI.nil | apply AllI.cons
     all_goals intro hn hl hu
     all_goals first | exact absurd hn (by decide) | exact absurd hl (by decide) | exact absurd hu (by decide) | (refine rdT ?_; simp [go_sem, EvT, hT, l0, hkr, hk, t1, t2, p1, p2, p3, valT])
    ·repeat' first | exact AllI.nil | apply AllI.cons
     all_goals intro hn hl hu
     all_goals first | exact absurd hn (by decide) | exact absurd hl (by decide) | exact absurd hu (by decide) | (refine rdT ?_; simp [go_sem, EvT, hT, valT])
    ·repeat' first | exact AllI.nil | apply AllI.cons
     all_goals intro hn hl hu
     all_goals first | exact absurd hn (by decide) | exact absurd hl (by decide) | exact absurd hu (by decide) | (refine rdT ?_; simp [go_sem, EvT, hT, valT])
    ·exact absurd htl (by simp)
   ·intro T j x W o hj ho hT hI;simp only [zA, and_true] at hT;rcases j with _ | _ | j
    ·cases ho;replace hI : Below wr wr W := hI;exact chT_v (d := 24) (W' := W.alloc (.cells #[.int .i64 (y % 65536), .int .i64 (y / 65536)] 3)) (W, x.2) (by simp [go_sem, EvT, hT, valT, look]) ⟨W, hI, rfl, rfl⟩
    ·cases ho;obtain ⟨W0, hb0, rfl, hx1⟩ : ∃ W0, Below wr wr W0 ∧ W = W0.alloc (.cells #[.int .i64 (y % 65536), .int .i64 (y / 65536)] 3) ∧ x.1 = W0.heap.size := hI;have ho2 := (kT HO.out hb0).alloc (.cells #[.int .i64 (y % 65536), .int .i64 (y / 65536)] 3);have hbz : w ≤ W0.heap.size := Nat.le_trans HB.out.size hb0.size;obtain ⟨v', w', hrun, h2, h3, h4⟩ := run_append_own (P := Tryz.prog) (W0.alloc (.cells #[.int .i64 (y % 65536), .int .i64 (y / 65536)] 3)) w 210 210 3 i0 _ 1 8 oB hi hz0 hz1 hz2 rfl (by decide) _ _ _ ho2 ⟨W0, 0, none⟩ 2 2 [.int .i64 (y % 65536), .int .i64 (y / 65536)] rfl (zZ _ _ _) (by simp [Value.oneCell']) (by unfold maxLen; omega) (by omega) (by simp; omega);refine chT_v (d := 25) (W' := w') (x.1, v') ?_ ⟨h2, (hb0.mono HB.out.size).trans (zH (kT HO.out hb0) hbz h3)⟩;simp only [execOp, resolve, invoke, builtin, Sem.run_bind, Sem.run_pure, Result.andThen_ok, List.map_toArray, List.map_cons, List.map_nil, EvT, hT, hx1];simp [EvT, hT, hx1, hrun, valT, look]
    ·exact absurd hj (by simp)
   intro x wx hI;simp (decide := true) only [putT, valT, look, Act.put, σi, σo, σs, Nat.reduceAdd, if_true, if_false];obtain ⟨ho3, hb3⟩ : wx.ownsRow w 3 1 x.2 (k * 2 + 2) ((hlv (ws.take k)).map (Value.int .i64) ++ [.int .i64 (y % 65536), .int .i64 (y / 65536)]) ∧ Below w wr wx := hI;have HO3 := η ho3;have HB3 := η (HB.out.trans hb3);clear ho3 hb3 hI HO HB f0;go_wp2_with fail;go_roundg g
   case measure => omega
   case rel => exact ⟨k + 1, by have := HG.out; omega, by go_num, by rw [HT.out, List.map_append, Nat.succ_mul]; exact HO3.out, HB3.out⟩
set_option maxHeartbeats 8000000
def ZvR (w : World) (a0 a1 : Value) (ng : Bool) (v : Int) : Prop := ∃ A c, a0 = .bool ng ∧ a1 = .slice A (wD v).length c ∧ WrdR w w A (wD v)
def ZvE (w : World) (ng : Bool) (v : Int) (e : Ending) (w' : World) : Prop := ∃ a0 a1, e = .returned (.agg #[a0, a1]) ∧ ZvR w' a0 a1 ng v ∧ Below w w w'
theorem mY {v : Int} (h : 0 ≤ v) (h2 : v < 4294967296) : Words (wD v) := by
 intro x hx;unfold wD at hx;by_cases h0 : v = 0
 ·rw [if_pos h0] at hx; cases hx
 ·rw [if_neg h0] at hx; simp at hx; omega
theorem bL (v : Int) : (wD v).length ≤ 1 := by unfold wD; split <;> simp
theorem oP {v : Int} (h : 0 ≤ v) (h2 : v < 4294967296) : (hD v).getD 0 0 + (hD v).getD 1 0 * 65536 = v ∧ 0 ≤ (hD v).getD 0 0 ∧ 0 ≤ (hD v).getD 1 0 := by
 rcases xV h h2 with ⟨e', e⟩ | ⟨_, _, e⟩ | ⟨_, _, _, e⟩
 ·rw [e]; simp [e']
 ·rw [e]; simp; omega
 ·rw [e]; simp; omega
theorem iO (ng : Bool) (A : Option Addr) (c : Nat) (v : Int) (w : World) (h : IntsR w w A (hD v)) (hc : (hD v).length ≤ c) (h0 : 0 ≤ v) (h2 : v < 4294967296) : Calls Tryz.prog 191 #[.bool ng, .slice A (hD v).length c] w (ZvE w (ng && decide (v ≠ 0)) v) := by
 obtain ⟨i0, hi, hz0, hz1, hz2⟩ := info_parts eK;have HL := η (pC h0 h2);have KT := η fun W h => uO A c (hD v) W h (by have := HL.out; omega) hc
 rw [lJ h0 h2] at KT;have HG := η (oP h0 h2);have HB0 := η ((Below.refl w w).alloc (νr _) (.cells #[.bool false, .slice none 0 0] 83));have HX0 : Hid (Box (w.alloc (.cells #[.bool false, .slice none 0 0] 83)) w [.bool false, .slice none 0 0]) := Box.new w #[.bool false, .slice none 0 0] _;have H := η h;clear h;obtain ⟨sg, hsg⟩ : ∃ sg, sg = (ng && decide (v ≠ 0)) := ⟨_, rfl⟩;rw [← hsg];have HSG := η hsg;clear hsg;go_enter Tryz.func191, Tryz.ntmps191;go_wp2_with fail;refine (KT.out _ (H.out.upto HB0.out)).mono ?_;rintro e w1 ⟨A1, c1, rfl, hc1, hr1, hb1⟩;have HX1 := η (HX0.out.up hb1 (by simp));have HB1 := η (HB0.out.trans (hb1.mono (by simp)));have HR1 := η hr1;have hlt : w < w1.heap.size := HX1.out.lt (by simp);clear hr1 hb1 HX0 HB0 KT H hc;have KA := η fun i W h hi => cO A1 c1 (hD v) i W h (by have := HL.out; omega) hi
 go_wp2_with fail;go_loopg [5, 6] (1 : Nat) (fun g s5 s6 wr => ((g = 1 ∧ v ≠ 0 ∧ s6 = .int .i64 0 ∧ s5 = .slice none 0 0) ∨ (∃ A c i, s5 = .slice A (wD v).length c ∧ WrdR wr wr A (wD v) ∧ s6 = .int .i64 i ∧ ((hD v).length : Int) ≤ i)) ∧ Below w1 w1 wr)
 case atStart =>
  refine ⟨?_, Below.refl _ _⟩;by_cases hv : v = 0
  ·refine .inr ⟨none, 0, 0, by unfold wD; rw [if_pos hv]; rfl, by unfold wD; rw [if_pos hv]; exact WrdR.nil_, rfl, ?_⟩;rw [HL.out.2.2 hv]; decide
  ·exact .inl ⟨rfl, hv, rfl, rfl⟩
 case round =>
  obtain ⟨hor, hb⟩ := hrel;have HXr := η (HX1.out.up hb hlt);have HBr := βT HB1 hb;have HRr := η (HR1.out.upto hb);have HBO := η hb;clear hb;rcases hor with ⟨rfl, hv, rfl, rfl⟩ | ⟨A2, c2, i, rfl, hr, rfl, hi⟩
  ·have d1 : decide ((0 : Int) < ((hD v).length : Int)) = true := κt (by have := HL.out; omega);have hv' := hv;have d2 : 0 < (hD v).length := by have := HL.out; omega
   go_wp2_with fail;refine (KA.out 0 _ HRr.out (by decide)).mono ?_;rintro e w2 ⟨rfl, hb2⟩;have HR2 := η (HRr.out.upto hb2);have HBO2 := βT HBO hb2;clear hb2;obtain ⟨x0, hx0⟩ : ∃ x, x = (hD v).getD 0 0 := ⟨_, rfl⟩;obtain ⟨x1, hx1⟩ : ∃ x, x = (hD v).getD 1 0 := ⟨_, rfl⟩;have hg := HG.out;rw [← hx0, ← hx1] at hg;rw [← hx0];have K1 := η fun W h => KA.out 1 W h (by decide)
   rw [← hx1] at K1;have p0 : IntKind.u32.wrap x0 = x0 := IntWalk.u32_in _ (by omega);have p1 : IntKind.u32.wrap x1 = x1 := IntWalk.u32_in _ (by omega);have p2 : IntKind.u32.wrap (x1 * 65536) = x1 * 65536 := IntWalk.u32_in _ (by omega);have p3 : IntKind.u32.wrap (x0 + x1 * 65536) = v := by rw [hg.1]; exact IntWalk.u32_in _ (by omega)
   clear hg hx0 hx1;go_wp2_with fail;refine (K1.out _ HR2.out).mono ?_;rintro e w3 ⟨rfl, hb3⟩;have HBO3 := βT HBO2 hb3;clear hb3;go_wp2_with (at_builtin; refine wpList_append_own _ rfl _ _ 81 rfl w3 192 i0 (.int .u32 0) 1 4 Tryz.underlying81 hi hz0 hz1 hz2 rfl (by decide) _ _ _ rfl (World.ownsRow_nil _ _ _ _) ⟨w3, 0, none⟩ 1 1 [.int .u32 v] rfl rfl (cell_one_new _ _ _) (by simp [Value.oneCell']) (by unfold maxLen; omega) (by omega) (by simp) ?_; intro v' w4 hown' hgrow _);have hb4 := zH (e := 192) (size := 1) (World.ownsRow_nil _ _ _ _) (νr _) hgrow;have HBO4 := βT HBO3 hb4;have hO : w4.ownsRow w3 192 1 v' [v].length ([v].map wV) := by simpa [wV] using hown'
   obtain ⟨A4, c4, rfl, _⟩ := zR hO;have HW4 := η (cU hO);clear hO hown' hgrow hb4;go_wp2_with fail;go_roundg 0
   case measure => omega
   case rel => exact ⟨.inr ⟨A4, c4, 2, by unfold wD; rw [if_neg hv'], by unfold wD; rw [if_neg hv']; exact HW4.out, by go_num, by have := HL.out; omega⟩, HBO4.out⟩
  ·have d1 : decide (i < ((hD v).length : Int)) = false := κf (by omega);have HW := η hr;have hlr : w < wr.heap.size := HXr.out.lt (by simp);obtain ⟨q0, s0, q1, s1⟩ := sqX2 HXr.out;have hwl := bL v;have hF : ∀ nb, nb = sg → ZvE w sg v (.returned (.agg #[.bool nb, .slice A2 (wD v).length c2])) ((wr.setCell ⟨w, 0, none⟩ (.bool nb)).setCell ⟨w, 1, none⟩ (.slice A2 (wD v).length c2)) := fun nb hnb => by
    subst hnb;exact ⟨_, _, rfl, ⟨A2, c2, rfl, rfl, (HW.out.sets HXr.out (vs' := [.bool nb, .slice A2 (wD v).length c2]) (by simp) (by simp)).more (B' := (wr.setCells w 0 [.bool nb, .slice A2 (wD v).length c2]).heap.size) (by rw [zG]; exact νr _)⟩, (HBr.out.setCell (p := ⟨w, 0, none⟩) (νr _) _).setCell (p := ⟨w, 1, none⟩) (νr _) _⟩
   have HF := η hF;have HV : Hid (sg = (ng && decide (0 < (wD v).length))) := by
    show _ = _
    rw [HSG.out];unfold wD;by_cases h : v = 0 <;> simp [h]
   obtain ⟨m, hm⟩ : ∃ m, m = (wD v).length := ⟨_, rfl⟩;rw [← hm] at HF hwl HV ⊢;clear hr HX1 HB1 HR1 hF hm;cases ng with
   | false =>
    go_wp2_with fail
    try rw [κx]
    exact κr (v := .agg #[.bool false, .slice A2 m c2]) (by simp [results, Tryz.results191, go_sem, q0, q1, s0, s1]) rfl (HF.out false (by rw [HV.out]; rfl))
   | true =>
    obtain ⟨nb, hnb⟩ : ∃ nb, decide (0 < m) = nb := ⟨_, rfl⟩;have hnb2 : decide ((0 : Int) < (m : Int)) = nb := by rw [← hnb, Bool.eq_iff_iff]; simp
    go_wp2_with fail
    try rw [κx]
    exact κr (v := .agg #[.bool nb, .slice A2 m c2]) (by simp [results, Tryz.results191, go_sem, q0, q1, s0, s1, hnb]) rfl (by have h := HF.out nb (by rw [HV.out, hnb]; rfl); simpa only [hnb] using h)
set_option maxHeartbeats 4000000
def HpE (w : World) (l m : List Int) (e : Ending) (w' : World) : Prop := ∃ A c A' c', e = .returned (.tuple #[.slice A l.length c, .slice A' m.length c']) ∧ l.length ≤ c ∧ m.length ≤ c' ∧ IntsR w' w' A l ∧ IntsR w' w' A' m ∧ Below w w w'
theorem sA (A A' : Option Addr) (c c' : Nat) (x : Int) (w : World) (h : IntsR w w A (hD x)) (h' : IntsR w w A' [10]) (h0 : 0 ≤ x) (h2 : x < 4294967296) :
  Calls Tryz.prog 142 #[.slice A (hD x).length c, .slice A' 1 c'] w (HpE w (hD (x / 10)) (hD (x % 10))) := by
 have HL := η (pC h0 h2);have KS := η fun W h => gT A c (hD x) W h HL.out.1 (hD_in h0 h2)
 have KT := η fun W h => gT A' c' [10] W h (by simp) (by simp)
 rw [oO h0 h2] at KS;rw [show hvl [10] = 10 from rfl] at KT;rw [show [(10 : Int)].length = 1 from rfl] at KT;have KQ := η fun W => dN (x / 10) W (by omega) (by omega)
 have KR := η fun W => dN (x % 10) W (by omega) (by omega)
 have t1 : x.tdiv 10 = x / 10 := Int.tdiv_eq_ediv_of_nonneg h0;have t2 : x.tmod 10 = x % 10 := Int.tmod_eq_emod_of_nonneg h0;have p1 : IntKind.i64.wrap (x / 10) = x / 10 := IntWalk.i64_in _ (by omega);have HA := η h;have HA' := η h';have d1 : decide (((hD x).length : Int) ≤ 3) = true := κt (by have := HL.out; omega);have d2 : (hD x).length ≤ 3 := by have := HL.out; omega
 clear h h' h0 h2;obtain ⟨q, hq⟩ : ∃ q, q = x / 10 := ⟨_, rfl⟩;obtain ⟨r, hr⟩ : ∃ r, r = x % 10 := ⟨_, rfl⟩;rw [← hq] at t1 p1 KQ ⊢;rw [← hr] at t2 KR ⊢;clear hq hr;go_enter Tryz.func142, Tryz.ntmps142;go_wp2_with fail;refine (KS.out _ HA.out).mono ?_;rintro e w1 ⟨rfl, hb1⟩;have HB1 := η hb1;clear hb1;go_wp2_with fail;refine (KT.out _ (HA'.out.upto HB1.out)).mono ?_;rintro e w2 ⟨rfl, hb2⟩;have HB2 := βT HB1 hb2;clear hb2;go_wp2_with fail;refine (KQ.out _).mono ?_;rintro e w3 ⟨A3, c3, rfl, hc3, hr3, hb3⟩;have HB3 := βT HB2 hb3;have HR3 := η hr3;clear hb3 hr3;go_wp2_with fail;refine (KS.out _ (HA.out.upto HB3.out)).mono ?_;rintro e w4 ⟨rfl, hb4⟩;have HB4 := βT HB3 hb4;have HR4 := η (HR3.out.upto hb4);clear hb4;go_wp2_with fail;refine (KT.out _ (HA'.out.upto HB4.out)).mono ?_;rintro e w5 ⟨rfl, hb5⟩;have HB5 := βT HB4 hb5;have HR5 := η (HR4.out.upto hb5);clear hb5;go_wp2_with fail;refine (KR.out _).mono ?_;rintro e w6 ⟨A6, c6, rfl, hc6, hr6, hb6⟩;have HB6 := βT HB5 hb6;have HR6 := η (HR5.out.upto hb6);have HS6 := η hr6;clear hb6 hr6;go_wp2_with fail;go_ret2;exact ⟨A3, c3, A6, c6, rfl, hc3, hc6, HR6.out, HS6.out, HB6.out⟩
theorem aJ (ng : Bool) (A : Option Addr) (c : Nat) (v : Int) (w : World) (h : WrdR w w A [v, 0]) (h0 : 0 ≤ v) (h2 : v < 4294967296) :
  Calls Tryz.prog 145 #[.agg #[.bool ng, .slice A 2 c]] w (ZvE w (ng && decide (v ≠ 0)) v) := by
 have KH := η fun W h => vZ A c [v, 0] W h (by simp) (by intro x hx; simp at hx; omega)
 rw [bP h0 h2] at KH;rw [show [v, (0 : Int)].length = 2 from rfl] at KH;have KO := η fun A c W h hc => iO ng A c v W h hc h0 h2
 obtain ⟨sg, hsg⟩ : ∃ sg, sg = (ng && decide (v ≠ 0)) := ⟨_, rfl⟩;rw [← hsg] at KO ⊢;have HA := η h;clear h hsg;obtain ⟨W0, hW0⟩ : ∃ W0, W0 = (w.alloc (.cells #[.bool ng, .slice A 2 c] 83)).alloc (.cells #[.bool false, .slice none 0 0] 83) := ⟨_, rfl⟩;have HB0 : Hid (Below w w W0) := by show Below _ _ _; rw [hW0]; exact ((Below.refl w w).alloc (νr _) _).alloc (by simp) _
 have HX0 : Hid (Box W0 w [.bool ng, .slice A 2 c]) := by show Box _ _ _; rw [hW0]; exact (Box.new w #[.bool ng, .slice A 2 c] _).alloc (by simp) _
 have HY0 : Hid (Box W0 (w + 1) [.bool false, .slice none 0 0]) := by
  have := Box.new (w.alloc (.cells #[.bool ng, .slice A 2 c] 83)) #[.bool false, .slice none 0 0] 83;show Box _ _ _
  rw [hW0];simpa using this
 have hz0 : W0.heap.size = w.heap.size + 2 := by rw [hW0]; simp
 go_enter Tryz.func145, Tryz.ntmps145;go_wp2_with fail;rw [← hW0];clear hW0;refine zL (X := Option Addr × Nat × Value × Value) (w0 := W0) [4, 5, 6] (fun jq => [0, 0, 0, 0, 1, 2, 3].getD jq 0) (fun jq => [1, 1, 0, 0, 0, 1, 2].getD jq 0) (fun x => [(1, .pointer (some ⟨w, 0, none⟩)), (2, .pointer (some ⟨w + 1, 0, none⟩)), (3, .pointer (some ⟨w, 0, none⟩)), (4, .bool ng), (5, .pointer (some ⟨w, 1, none⟩)), (6, .slice A 2 c), (7, .slice x.1 (hD v).length x.2.1), (8, .agg #[x.2.2.1, x.2.2.2])]) (fun _ => []) [1, 2] (fun t x W => match t with | 0 => Below W0 W0 W | 1 => (hD v).length ≤ x.2.1 ∧ IntsR W W x.1 (hD v) ∧ Below W0 W0 W | 2 => ZvR W x.2.2.1 x.2.2.2 sg v ∧ Below W0 W0 W | _ => ∃ W1, ZvR W1 x.2.2.1 x.2.2.2 sg v ∧ Below W0 W0 W1 ∧ W = (W1.setCell ⟨w + 1, 0, none⟩ x.2.2.1).setCell ⟨w + 1, 1, none⟩ x.2.2.2) (none, 0, undef, undef) (Below.refl _ _).drew ?_ ?_ ?_
 ·intro T x t W hT hI htl;simp only [zA, and_true] at hT;rcases t with _ | _ | _ | _ | t
  ·replace hI : Below W0 W0 W := hI;have hx := HX0.out.up hI (by omega);have l0 := hx.c 0 _ rfl;have l1 := hx.c 1 _ rfl
   repeat' first | exact AllI.nil | apply AllI.cons
   all_goals intro hn hl hu
   all_goals first | exact absurd hn (by decide) | exact absurd hl (by decide) | exact absurd hu (by decide) | (refine rdT ?_; simp [go_sem, EvT, hT, l0, l1, valT])
  ·replace hI : (hD v).length ≤ x.2.1 ∧ IntsR W W x.1 (hD v) ∧ Below W0 W0 W := hI;have hx := HX0.out.up hI.2.2 (by omega);have l0 := hx.c 0 _ rfl;have l1 := hx.c 1 _ rfl
   repeat' first | exact AllI.nil | apply AllI.cons
   all_goals intro hn hl hu
   all_goals first | exact absurd hn (by decide) | exact absurd hl (by decide) | exact absurd hu (by decide) | (refine rdT ?_; simp [go_sem, EvT, hT, l0, l1, valT])
  ·exact noI
  ·exact noI
  ·exact absurd htl (by simp)
 ·intro T k x W o hk ho hT hI;simp only [zA, and_true] at hT;rcases k with _ | _ | _ | k
  ·cases ho;replace hI : Below W0 W0 W := hI;exact chT_c (d := 7) 141 #[.slice A 2 c] (by simp [go_sem, EvT, hT]) ((KH.out W (HA.out.upto (HB0.out.trans (hI.mono (by omega))))).mono fun e w' ⟨A1, c1, he, hc, hr, hb⟩ => ⟨_, he, (A1, c1, x.2.2.1, x.2.2.2), rfl, hc, hr, hI.trans (hb.mono hI.size)⟩)
  ·cases ho;replace hI : (hD v).length ≤ x.2.1 ∧ IntsR W W x.1 (hD v) ∧ Below W0 W0 W := hI;exact .inr ⟨191, #[.bool ng, .slice x.1 (hD v).length x.2.1], by simp [go_sem, EvT, hT], (KO.out x.1 x.2.1 W hI.2.1 hI.1).mono fun e w' ⟨a0, a1, he, hz, hb⟩ => ⟨_, he, (x.1, x.2.1, a0, a1), (fun d' hd' => by cases hd'; rfl), ⟨hz, hI.2.2.trans (hb.mono hI.2.2.size)⟩, agree (by repeat' first | exact AllD.nil | refine AllD.cons rfl ?_)⟩⟩
  ·cases ho;replace hI : ZvR W x.2.2.1 x.2.2.2 sg v ∧ Below W0 W0 W := hI;have hx := HY0.out.up hI.2 (by omega);have l0 := hx.c 0 _ rfl;have l1 := hx.c 1 _ rfl;have s0 := hx.f 0 (by simp);have s1 := hx.f 1 (by simp);refine chT_s (W' := (W.setCell ⟨w + 1, 0, none⟩ x.2.2.1).setCell ⟨w + 1, 1, none⟩ x.2.2.2) ?_ ⟨W, hI.1, hI.2, rfl⟩;obtain ⟨A1, c1, e0, e1, _⟩ := hI.1;clear hI;simp [go_sem, EvT, hT, e0, e1, l0, l1, s0, s1]
  ·exact absurd hk (by simp)
 intro x wx hI;simp (decide := true) only [putT, valT, look, Act.put, σi, σo, σs, Nat.reduceAdd, if_true, if_false];obtain ⟨W1, hz, hb, rfl⟩ : ∃ W1, ZvR W1 x.2.2.1 x.2.2.2 sg v ∧ Below W0 W0 W1 ∧ wx = (W1.setCell ⟨w + 1, 0, none⟩ x.2.2.1).setCell ⟨w + 1, 1, none⟩ x.2.2.2 := hI;obtain ⟨A1, c1, e0, e1, hr⟩ := hz;rw [e0, e1];have HY1 := η (HY0.out.up hb (by omega));have HB1 := η (HB0.out.trans (hb.mono (by omega)));have HF : Hid (ZvE w sg v (.returned (.agg #[.bool sg, .slice A1 (wD v).length c1])) ((W1.setCell ⟨w + 1, 0, none⟩ (.bool sg)).setCell ⟨w + 1, 1, none⟩ (.slice A1 (wD v).length c1))) :=
  ⟨_, _, rfl, ⟨A1, c1, rfl, rfl, (hr.sets HY1.out (vs' := [.bool sg, .slice A1 (wD v).length c1]) (by simp) (by simp)).more (B' := (W1.setCells (w + 1) 0 [.bool sg, .slice A1 (wD v).length c1]).heap.size) (by rw [zG]; exact νr _)⟩, (HB1.out.setCell (p := ⟨w + 1, 0, none⟩) (by simp) _).setCell (p := ⟨w + 1, 1, none⟩) (by simp) _⟩
 clear hb hr KH KO;obtain ⟨q0, s0, q1, s1⟩ := sqX2 HY1.out;go_wp2_with fail;exact κr (v := .agg #[.bool sg, .slice A1 (wD v).length c1]) (by simp [results, Tryz.results145, go_sem, q0, q1, s0, s1]) rfl HF.out
theorem uR (n : Int) (w : World) (h0 : -4294967296 < n) (h1 : n < 4294967296) : Calls Tryz.prog 82 #[.int .i64 n] w (ZvE w (decide (n < 0)) n.natAbs) := by
 have hb0 : Below w w (w.alloc (.cells #[.bool false, .slice none 0 0] 83)) := βA _;obtain ⟨v, hv⟩ : ∃ v : Int, v = n.natAbs := ⟨_, rfl⟩;obtain ⟨ng, hng⟩ : ∃ ng, ng = decide (n < 0) := ⟨_, rfl⟩;have hsg : (ng && decide (v ≠ 0)) = ng := by
  rw [hng, Bool.eq_iff_iff];simp;omega
 obtain ⟨W0, hW0⟩ : ∃ W0, W0 = w.alloc (.cells #[.bool false, .slice none 0 0] 83) := ⟨_, rfl⟩;have hz0 : W0.heap.size = w.heap.size + 1 := by rw [hW0]; simp
 have HY0 : Hid (Box W0 w [.bool false, .slice none 0 0]) := by show Box _ _ _; rw [hW0]; exact Box.new w #[.bool false, .slice none 0 0] _
 have HB0 : Hid (Below w w W0) := by show Below _ _ _; rw [hW0]; exact hb0
 have HB1 : Hid (Below w w (W0.alloc (.cells #[.int .u32 v, .int .u32 0] 192))) := HB0.out.alloc (by omega) _;have HX1 : Hid (Box (W0.alloc (.cells #[.int .u32 v, .int .u32 0] 192)) w [.bool false, .slice none 0 0]) := HY0.out.alloc (by omega) _;have hw : WrdR (W0.alloc (.cells #[.int .u32 v, .int .u32 0] 192)) (W0.alloc (.cells #[.int .u32 v, .int .u32 0] 192)).heap.size (some ⟨W0, 0, none⟩) [v, 0] := by
  have := WrdR.lit W0 192 [v, 0] #[.int .u32 v, .int .u32 0] rfl;simpa using this
 have K := η (aJ ng (some ⟨W0, 0, none⟩) 2 v _ hw (by omega) (by omega));rw [hsg, hz0] at K;rw [← hng, ← hv];have HV := η hv;have HN := η hng;have p5 : v.tmod 4294967296 = v := by rw [Int.tmod_eq_emod_of_nonneg (by omega)]; omega
 have p6 : v.tdiv 4294967296 = 0 := by rw [Int.tdiv_eq_ediv_of_nonneg (by omega)]; omega
 have p5' : v % 4294967296 = v := by omega
 have p6' : v / 4294967296 = 0 := by omega
 have p7 : IntKind.u32.wrap v = v := IntWalk.u32_in _ (by omega);have p8 : IntKind.u32.wrap 0 = 0 := by decide
 have p9 : IntKind.u64.wrap 0 = 0 := by decide
 have hend : ∀ w1 a0 a1, ZvR w1 a0 a1 ng v → Below (W0.alloc (.cells #[.int .u32 v, .int .u32 0] 192)).heap.size (W0.alloc (.cells #[.int .u32 v, .int .u32 0] 192)) w1 → ZvE w ng v (.returned (.agg #[a0, a1])) ((w1.setCell ⟨w, 0, none⟩ a0).setCell ⟨w, 1, none⟩ a1) := fun w1 a0 a1 ⟨A1, c1, e0, e1, hr⟩ hb => by
  subst e0; subst e1;have hy := HX1.out.up hb (by simp; omega);exact ⟨_, _, rfl, ⟨A1, c1, rfl, rfl, (hr.sets hy (vs' := [.bool ng, .slice A1 (wD v).length c1]) (by simp) (by simp)).more (B' := (w1.setCells w 0 [.bool ng, .slice A1 (wD v).length c1]).heap.size) (by rw [zG]; exact νr _)⟩, ((HB1.out.trans (hb.mono (by simp; omega))).setCell (p := ⟨w, 0, none⟩) (νr _) _).setCell (p := ⟨w, 1, none⟩) (νr _) _⟩
 have HE := η hend;clear hend hw hsg hb0;by_cases hn : n < 0
 ·have e1 : decide (n < 0) = true := κt hn;have e2 : IntKind.u64.wrap n = n + 18446744073709551616 := by show n % 18446744073709551616 = _; omega
  have e3 : IntKind.u64.wrap (-(n + 18446744073709551616)) = v := by show (-(n + 18446744073709551616)) % 18446744073709551616 = _; omega
  obtain rfl : ng = true := hng.trans e1;clear hn h0 h1 hng hv HN;go_enter Tryz.func82, Tryz.ntmps82;go_wp2_with fail;rw [← hW0];refine K.out.mono ?_;rintro e w1 ⟨a0, a1, rfl, hz, hb⟩;have HF := η (HE.out w1 a0 a1 hz hb);obtain ⟨A1, c1, rfl, rfl, _⟩ := hz;have HY1 := η (HX1.out.up hb (by simp; omega));clear hb K HE hW0;obtain ⟨q0, s0, q1, s1⟩ := sqX2 HY1.out;go_wp2_with fail;exact κr (v := .agg #[.bool true, .slice A1 (wD v).length c1]) (by simp [results, Tryz.results82, go_sem, q0, q1, s0, s1]) rfl HF.out
 ·have e1 : decide (n < 0) = false := κf hn;have e2 : IntKind.u64.wrap n = v := by show n % 18446744073709551616 = _; omega
  obtain rfl : ng = false := hng.trans e1;clear hn h0 h1 hng hv HN;go_enter Tryz.func82, Tryz.ntmps82;go_wp2_with fail;rw [← hW0];refine K.out.mono ?_;rintro e w1 ⟨a0, a1, rfl, hz, hb⟩;have HF := η (HE.out w1 a0 a1 hz hb);obtain ⟨A1, c1, rfl, rfl, _⟩ := hz;have HY1 := η (HX1.out.up hb (by simp; omega));clear hb K HE hW0;obtain ⟨q0, s0, q1, s1⟩ := sqX2 HY1.out;go_wp2_with fail;exact κr (v := .agg #[.bool false, .slice A1 (wD v).length c1]) (by simp [results, Tryz.results82, go_sem, q0, q1, s0, s1]) rfl HF.out
theorem cJ (ng : Bool) (A : Option Addr) (c : Nat) (v : Int) (w : World) (h : WrdR w w A (wD v)) (h0 : 0 ≤ v) (h2 : v < 4294967296) (hs : v = 0 → ng = false) :
  Calls Tryz.prog 144 #[.agg #[.bool ng, .slice A (wD v).length c]] w fun e w' => ∃ s : Int, e = .returned (.int .i64 s) ∧ decide (s < 0) = ng ∧ Below w w w' := by
 have KH := η fun W h => vZ A c (wD v) W h (by have := bL v; omega) (mY h0 h2)
 rw [nC h0 h2] at KH;have HL := η (pC h0 h2);have HA := η h;have HB0 := η ((Below.refl w w).alloc (νr _) (.cells #[.bool ng, .slice A (wD v).length c] 83));have HX0 : Hid (Box (w.alloc (.cells #[.bool ng, .slice A (wD v).length c] 83)) w [.bool ng, .slice A (wD v).length c]) := Box.new w #[.bool ng, .slice A (wD v).length c] _;clear h;go_enter Tryz.func144, Tryz.ntmps144;go_wp2_with fail;refine (KH.out _ (HA.out.upto HB0.out)).mono ?_;rintro e w1 ⟨A1, c1, rfl, hc1, hr1, hb1⟩;have HX1 := η (HX0.out.up hb1 (by simp));have HB1 := η (HB0.out.trans (hb1.mono (by simp)));have hlt : w < w1.heap.size := HX1.out.lt (by simp);have q0 := HX1.out.c 0 _ rfl;clear hr1 hb1 HX0 HB0 KH;by_cases hv : v = 0
 ·have e0 : (hD v).length = 0 := HL.out.2.2 hv;have hng := hs hv;rw [e0];clear hv hs e0;go_wp2_with fail;go_ret;exact ⟨0, rfl, by rw [hng]; rfl, HB1.out⟩
 ·have e0 : 0 < (hD v).length := by have := HL.out; omega
  have e1 : (((hD v).length : Int) == 0) = false := βf (by omega);have e2 : (hD v).length ≠ 0 := by omega
  clear hv hs;cases ng with
  | true =>
   go_wp2_with fail;go_ret;exact ⟨-1, rfl, rfl, HB1.out⟩
  | false =>
   go_wp2_with fail;go_ret;exact ⟨1, rfl, rfl, HB1.out⟩
end Go.Proofs.YtkfhpefmmhljmaaGreatDoor
