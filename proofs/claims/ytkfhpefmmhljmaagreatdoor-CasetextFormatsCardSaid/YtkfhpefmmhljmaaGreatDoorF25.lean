/- Texts in one: CkD, CkE. -/
import Derived.Test.YtkfhpefmmhljmaaGreatDoorF13
set_option linter.unusedVariables false
set_option linter.unusedSimpArgs false
set_option maxHeartbeats 16000000
set_option maxRecDepth 100000
namespace Go.Proofs.YtkfhpefmmhljmaaGreatDoor
open Go.RowKit
attribute [local go_sem] gK
def pvK (l : List St) (k : Nat) : Option Int := if k = 0 then none else some (l.getD (k - 1) (0, 0)).2
theorem fF {f : Int → Int → Bool} {l : List St} {k : Nat} (hk : k < l.length) : stGo f (pvK l k) (l.drop k) = (if !stOk (l.getD k (0, 0)) then 1 else if (pvK l k).any (fun p => !f p (l.getD k (0, 0)).2) then 3 else stGo f (pvK l (k + 1)) (l.drop (k + 1))) := by
 rw [List.drop_eq_getElem_cons hk, ← zM l k (0, 0) hk, stGo];rfl
theorem yW (f : Int → Int → Bool) (l : List St) (pv : Option Int) : stGo f pv (l.drop l.length) = 0 := by rw [List.drop_length]; rfl
theorem bT {q p : Int} (h : stOk (q, p) = false) : q < 1 ∨ (¬ q < 1 ∧ 1000000 < q) ∨ (¬ q < 1 ∧ ¬ 1000000 < q ∧ p < -1000000) ∨ (¬ q < 1 ∧ ¬ 1000000 < q ∧ ¬ p < -1000000 ∧ 1000000 < p) := by
 unfold stOk at h;simp only [Bool.and_eq_false_iff, decide_eq_false_iff_not] at h;omega
theorem fE {q p : Int} (h : stOk (q, p) = true) : 1 ≤ q ∧ q ≤ 1000000 ∧ -1000000 ≤ p ∧ p ≤ 1000000 := by
 unfold stOk at h;simp only [κb, κe] at h;omega
def ErrE (w : World) (n : Int) (e : Ending) (w' : World) : Prop := e = .returned (.int .i64 n) ∧ Below w w w'
theorem rise1 (a b : Int) (w : World) : Calls Tryz.prog 192 #[.int .i64 a, .int .i64 b] w fun e w' => e = .returned (.bool (rises a b)) ∧ w' = w := by
 unfold rises;go_enter Tryz.func192, Tryz.ntmps192;go_wp2_with fail;go_ret;exact ⟨rfl, rfl⟩
def riseV : Value := .agg #[.func (.func 192) #[] #[]]
theorem iL (w : World) : Calls Tryz.prog 153 #[] w fun e w' => e = .returned riseV ∧ Below w w w' := by
 go_enter Tryz.func153, Tryz.ntmps153;go_wp2_with fail;refine κr (v := riseV) (by simp [results, Tryz.results153, go_sem, riseV]) rfl ⟨rfl, βA _⟩
theorem aC (A : Option Addr) (c : Nat) (l : List St) (w : World) (hr : RowR StE 2 w w A l) :
  Calls Tryz.prog 154 #[riseV, .slice A l.length c] w (ErrE w (zP rises l)) := by
 have HR := η hr;have HB0 := η ((Below.refl w w).alloc (νr _) (.cells #[.func (.func 192) #[] #[]] 221));unfold riseV;clear hr;by_cases h0 : l.length = 0
 ·have E : Hid (zP rises l = 4) := if_pos h0;have e0 : ((l.length : Int) == 0) = true := by rw [h0]; rfl
  clear h0;go_enter Tryz.func154, Tryz.ntmps154;go_wp2_with fail;go_ret;exact ⟨zC E.out.symm, HB0.out⟩
 have e0 : ((l.length : Int) == 0) = false := βf (by omega);by_cases h3 : 3 < l.length
 ·have E : Hid (zP rises l = 5) := by show _ = _; unfold zP; rw [if_neg h0, if_pos h3]
  have e3 : decide ((3 : Int) < (l.length : Int)) = true := κt (by omega);clear h0 h3;go_enter Tryz.func154, Tryz.ntmps154;go_wp2_with fail;go_ret;exact ⟨zC E.out.symm, HB0.out⟩
 have e3 : decide ((3 : Int) < (l.length : Int)) = false := κf (by omega);have E : Hid (zP rises l = stGo rises none l) := by show _ = _; unfold zP; rw [if_neg h0, if_neg h3]
 generalize zP rises l = R at *;have hl : l.length ≤ 1000000 := by omega
 clear h0 h3;go_enter Tryz.func154, Tryz.ntmps154;go_wp2_with fail;go_loopg [4, 5, 6, 15] l.length (fun g s4 s5 s6 s15 wr => ∃ k : Nat, k + g = l.length ∧ s15 = .int .i64 (k : Int) ∧ stGo rises none l = stGo rises (pvK l k) (l.drop k) ∧ wr.cell? ⟨w, 0, none⟩ = some (.func (.func 192) #[] #[]) ∧ w < wr.heap.size ∧ Below w w wr)
 case atStart => exact ⟨0, by omega, rfl, rfl, by simp, by simp, HB0.out⟩
 case round =>
  clear HB0 e0 e3;obtain ⟨k, hkg, rfl, hs, c0, hbw, hb⟩ := hrel;have HS := η (E.out.trans hs);have HB := η hb;clear hs hb;cases gk with
  | zero =>
   obtain rfl : k = l.length := by omega
   have HE : Hid (R = 0) := HS.out.trans (yW _ _ _);clear hkg HS HR c0;go_wp2_with fail
   try rw [κx]
   go_ret;exact ⟨zC HE.out.symm, HB.out⟩
  | succ g =>
   have hk : k < l.length := by omega
   have HG := η hkg;clear hkg;have HS2 := η (HS.out.trans (fF hk));obtain ⟨b, off, cc, rfl, hbl, hcn, hce, hcc⟩ := HR.out.at_ k (0, 0) hk;have hcc' := hcc;rw [show cc = stC (l.getD k (0, 0)) from hce] at hcc;have f0 := (HB.out.cell (p := ⟨b, off + k * 2, none⟩) hbl).trans (hcc 0 _ rfl);have f1 := (HB.out.cell (p := ⟨b, off + k * 2 + 1, none⟩) hbl).trans (hcc 1 _ rfl);clear hcc hcc' hce hcn HS;cases hx : l.getD k (0, 0) with
   | mk q p =>
   rw [hx] at f0 f1 HS2;have HX := η hx;clear hx;have f0' : wr.cell? ⟨b, off + k * 2, none⟩ = some (.int .i64 q) := f0;have f1' : wr.cell? ⟨b, off + k * 2 + 1, none⟩ = some (.int .i64 p) := f1;clear f0 f1;cases hok : stOk (q, p) with
   | false =>
    have HE : Hid (R = 1) := HS2.out.trans (if_pos (by rw [hok]; rfl));have hno := bT hok;clear hok HS2;rcases hno with h | ⟨h1, h2⟩ | ⟨h1, h2, h3⟩ | ⟨h1, h2, h3, h4⟩
    ·have d1 : decide (q < 1) = true := κt h;go_wp2_with fail
     try rw [κx]
     go_ret;exact ⟨zC HE.out.symm, HB.out.alloc (by omega) _⟩
    ·have d1 : decide (q < 1) = false := κf h1;have d2 : decide (1000000 < q) = true := κt h2;go_wp2_with fail
     try rw [κx]
     go_ret;exact ⟨zC HE.out.symm, HB.out.alloc (by omega) _⟩
    ·have d1 : decide (q < 1) = false := κf h1;have d2 : decide (1000000 < q) = false := κf h2;have d3 : decide (p < -1000000) = true := κt h3;go_wp2_with fail
     try rw [κx]
     go_ret;exact ⟨zC HE.out.symm, HB.out.alloc (by omega) _⟩
    ·have d1 : decide (q < 1) = false := κf h1;have d2 : decide (1000000 < q) = false := κf h2;have d3 : decide (p < -1000000) = false := κf h3;have d4 : decide (1000000 < p) = true := κt h4;go_wp2_with fail
     try rw [κx]
     go_ret;exact ⟨zC HE.out.symm, HB.out.alloc (by omega) _⟩
   | true =>
    replace HS2 : Hid (R = _) := HS2.out.trans (if_neg (by rw [hok]; simp));have hy := fE hok;have d1 : decide (q < 1) = false := κf (by omega);have d2 : decide (1000000 < q) = false := κf (by omega);have d3 : decide (p < -1000000) = false := κf (by omega);have d4 : decide (1000000 < p) = false := κf (by omega);clear hok hy;cases k with
    | zero =>
     replace HS2 : Hid (R = _) := HS2.out.trans (if_neg (by simp [pvK]));have k0 : decide ((0 : Int) < ((0 : Nat) : Int)) = false := by decide
     have g0 : wr.cell? ⟨b, off, none⟩ = some (.int .i64 q) := by simpa using f0'
     have g1 : wr.cell? ⟨b, off + 1, none⟩ = some (.int .i64 p) := by simpa using f1'
     clear f0' f1';go_wp2_with fail;refine zE (w0 := (wr.alloc (.cells #[.int .i64 q, .int .i64 p] 205))) [(5, .int .i64 0), (38, .int .i64 0), (39, .bool false), (40, .bool false), (41, undef), (42, undef), (43, undef), (44, undef), (45, undef), (46, undef), (47, undef), (48, undef), (49, undef), (50, undef), (51, undef), (52, undef), (53, .bool false)] [] [5] ?_ ?_
     ·intro T hT W hI;simp only [zA, and_true] at hT
      repeat' first | exact AllO.nil | apply AllO.cons
      all_goals try ((first | refine oV ?_ | refine oN ?_ | refine oG (t := by simp only [hT]) (h := ?_)); simp [go_sem, EvT, hT, valT]; done)
      all_goals try (exact opT_s true (t := by simp only [hT]) (n := by decide) (e := by simp [valT, hT]))
      all_goals try (exact opT_s false (t := by simp only [hT]) (n := by decide) (e := by simp [valT, hT]))
     intro wx hb;simp (decide := true) only [putT, valT, look, Act.put, σi, σo, σs, Nat.reduceAdd, if_true, if_false];have HB1 := η ((HB.out.alloc (by omega) (.cells #[.int .i64 q, .int .i64 p] 205)).trans (hb.mono (by simp; omega)));have c1 : wx.cell? ⟨w, 0, none⟩ = some (.func (.func 192) #[] #[]) := (hb.cell (p := ⟨w, 0, none⟩) (by simp; omega)).trans (zK _ c0);have hbw2 : w < wx.heap.size := by have := hb.size; simp at this; omega
     clear hb;go_wp2_with fail;go_roundg g
     case measure => omega
     case rel => exact ⟨1, by have := HG.out; omega, by go_num, E.out.symm.trans HS2.out, c1, hbw2, HB1.out⟩
    | succ k =>
     obtain ⟨b', off', cc', hA', _, _, hce', hcc'⟩ := HR.out.at_ k (0, 0) (by omega);obtain ⟨rfl, rfl⟩ : b' = b ∧ off' = off := by injection hA' with h; injection h with h1 h2; exact ⟨h1.symm, h2.symm⟩
     rw [show cc' = stC (l.getD k (0, 0)) from hce'] at hcc';have f2 := (HB.out.cell (p := ⟨b', off' + k * 2 + 1, none⟩) hbl).trans (hcc' 1 _ rfl);have HPV : Hid (pvK l (k + 1) = some (l.getD k (0, 0)).2) := if_neg (by omega);replace f2 : wr.cell? ⟨b', off' + k * 2 + 1, none⟩ = some (.int .i64 (l.getD k (0, 0)).2) := f2;clear hcc' hce' hA';generalize (l.getD k (0, 0)).2 = pp at *;replace HS2 : Hid (R = if (rises pp p) = true then stGo rises (pvK l (k + 1 + 1)) (l.drop (k + 1 + 1)) else 3) := by
      show _ = _
      rw [HS2.out, HPV.out];cases hh : rises pp p <;> simp [hh]
     clear HPV;have KC : ∀ W, Calls Tryz.prog 192 #[.int .i64 pp, .int .i64 p] W fun e w' => e = .returned (.bool (rises pp p)) ∧ Below W W w' := fun W => (rise1 pp p W).mono fun e w' ⟨he, hw⟩ => ⟨he, by rw [hw]; exact Below.refl _ _⟩
     have k0 : decide ((0 : Int) < ((k + 1 : Nat) : Int)) = true := κt (by omega);have k1 : IntKind.i64.wrap (((k + 1 : Nat) : Int) - 1) = (k : Int) := by rw [IntWalk.i64_in _ (by omega)]; omega
     have k2 : (k : Int) < (l.length : Int) := by omega
     have k3 : IntKind.i64.wrap (k : Int) = (k : Int) := IntWalk.i64_in _ (by omega);have hbl2 : b' < wr := νl hbl HB.out.size;cases hf : rises pp p with
     | true =>
      rw [hf] at KC HS2;replace HS2 : Hid (R = _) := HS2.out.trans (if_pos rfl);clear hf;go_wp2_with fail;refine zE (w0 := (wr.alloc (.cells #[.int .i64 q, .int .i64 p] 205))) [(1, .slice (some ⟨b', off', none⟩) l.length c), (2, .pointer (some ⟨w, 0, none⟩)), (5, .int .i64 ((k + 1 : Nat) : Int)), (6, .pointer (some ⟨wr, 0, none⟩)), (38, .int .i64 ((k + 1 : Nat) : Int)), (39, .bool true), (40, .bool true), (41, .pointer (some ⟨w, 0, none⟩)), (42, .func (.func 192) #[] #[]), (43, .slice (some ⟨b', off', none⟩) l.length c), (44, .int .i64 ((k + 1 : Nat) : Int)), (45, .int .i64 (k : Int)), (46, .pointer (some ⟨b', off' + k * 2, none⟩)), (47, .pointer (some ⟨b', off' + k * 2 + 1, none⟩)), (48, .int .i64 pp), (49, .pointer (some ⟨wr, 1, none⟩)), (50, .int .i64 p), (51, .bool true), (52, .bool false), (53, .bool false)] [] [1, 2, 5, 6] ?_ ?_
      ·intro T hT W hI;simp only [zA, and_true] at hT;have l0 : W.cell? ⟨w, 0, none⟩ = _ := (hI.cell (p := ⟨w, 0, none⟩) (by simp; omega)).trans (zK _ c0);have l1 : W.cell? ⟨b', off' + k * 2 + 1, none⟩ = _ := (hI.cell (p := ⟨b', off' + k * 2 + 1, none⟩) (by simp; omega)).trans (zK _ f2);have l2 : W.cell? ⟨wr, 1, none⟩ = some (.int .i64 p) := (hI.cell (p := ⟨wr, 1, none⟩) (by simp)).trans (by simp)
       repeat' first | exact AllO.nil | apply AllO.cons
       all_goals try ((first | refine oV ?_ | refine oN ?_ | refine oG (t := by simp only [hT]) (h := ?_)); simp [go_sem, EvT, hT, k0, l0, k1, k3, k2, l1, l2, valT]; done)
       ·refine opT_g (t := by simp only [hT]) (h := zO 192 #[.int .i64 pp, .int .i64 p] (by simp [go_sem, EvT, hT, k0, l0, k1, k3, k2, l1, l2]) ?_);simp only [valT, hT];exact KC W
      intro wx hb;simp (decide := true) only [putT, valT, look, Act.put, σi, σo, σs, Nat.reduceAdd, if_true, if_false];have HB1 := η ((HB.out.alloc (by omega) (.cells #[.int .i64 q, .int .i64 p] 205)).trans (hb.mono (by simp; omega)));have c1 : wx.cell? ⟨w, 0, none⟩ = some (.func (.func 192) #[] #[]) := (hb.cell (p := ⟨w, 0, none⟩) (by simp; omega)).trans (zK _ c0);have hbw2 : w < wx.heap.size := by have := hb.size; simp at this; omega
      clear hb;go_wp2_with fail;go_roundg g
      case measure => omega
      case rel => exact ⟨k + 1 + 1, by have := HG.out; omega, by go_num, E.out.symm.trans HS2.out, c1, hbw2, HB1.out⟩
     | false =>
      rw [hf] at KC HS2;replace HS2 : Hid (R = _) := HS2.out.trans (if_neg (by simp));clear hf;go_wp2_with fail;refine zE (w0 := (wr.alloc (.cells #[.int .i64 q, .int .i64 p] 205))) [(1, .slice (some ⟨b', off', none⟩) l.length c), (2, .pointer (some ⟨w, 0, none⟩)), (5, .int .i64 ((k + 1 : Nat) : Int)), (6, .pointer (some ⟨wr, 0, none⟩)), (38, .int .i64 ((k + 1 : Nat) : Int)), (39, .bool true), (40, .bool true), (41, .pointer (some ⟨w, 0, none⟩)), (42, .func (.func 192) #[] #[]), (43, .slice (some ⟨b', off', none⟩) l.length c), (44, .int .i64 ((k + 1 : Nat) : Int)), (45, .int .i64 (k : Int)), (46, .pointer (some ⟨b', off' + k * 2, none⟩)), (47, .pointer (some ⟨b', off' + k * 2 + 1, none⟩)), (48, .int .i64 pp), (49, .pointer (some ⟨wr, 1, none⟩)), (50, .int .i64 p), (51, .bool false), (52, .bool true), (53, .bool true)] [] [1, 2, 5, 6] ?_ ?_
      ·intro T hT W hI;simp only [zA, and_true] at hT;have l0 : W.cell? ⟨w, 0, none⟩ = _ := (hI.cell (p := ⟨w, 0, none⟩) (by simp; omega)).trans (zK _ c0);have l1 : W.cell? ⟨b', off' + k * 2 + 1, none⟩ = _ := (hI.cell (p := ⟨b', off' + k * 2 + 1, none⟩) (by simp; omega)).trans (zK _ f2);have l2 : W.cell? ⟨wr, 1, none⟩ = some (.int .i64 p) := (hI.cell (p := ⟨wr, 1, none⟩) (by simp)).trans (by simp)
       repeat' first | exact AllO.nil | apply AllO.cons
       all_goals try ((first | refine oV ?_ | refine oN ?_ | refine oG (t := by simp only [hT]) (h := ?_)); simp [go_sem, EvT, hT, k0, l0, k1, k3, k2, l1, l2, valT]; done)
       ·refine opT_g (t := by simp only [hT]) (h := zO 192 #[.int .i64 pp, .int .i64 p] (by simp [go_sem, EvT, hT, k0, l0, k1, k3, k2, l1, l2]) ?_);simp only [valT, hT];exact KC W
      intro wx hb;simp (decide := true) only [putT, valT, look, Act.put, σi, σo, σs, Nat.reduceAdd, if_true, if_false];have HB1 := η ((HB.out.alloc (by omega) (.cells #[.int .i64 q, .int .i64 p] 205)).trans (hb.mono (by simp; omega)));clear hb;go_wp2_with fail
      try rw [κx]
      go_ret;exact ⟨zC HS2.out.symm, HB1.out⟩
theorem nH (A : Option Addr) (c : Nat) (l : List St) (w : World) (hr : RowR StE 2 w w A l) :
  Calls Tryz.prog 87 #[.slice A l.length c] w (ErrE w (zP rises l)) := by
 have K1 := η fun W => iL W
 have K2 := η fun W h => aC A c l W h
 have HR := η hr;clear hr;go_enter Tryz.func87, Tryz.ntmps87;go_wp2_with fail;refine (K1.out _).mono ?_;rintro e w1 ⟨rfl, hb1⟩;have HR1 := η (HR.out.upto StE.keep hb1);have HB := η hb1;clear hb1;go_wp2_with fail;refine (K2.out _ HR1.out).mono ?_;rintro e w2 ⟨rfl, hb2⟩;go_wp2_with fail;go_ret;exact ⟨rfl, HB.out.trans (hb2.mono HB.out.size)⟩
theorem fall1 (a b : Int) (w : World) : Calls Tryz.prog 193 #[.int .i64 a, .int .i64 b] w fun e w' => e = .returned (.bool (falls a b)) ∧ w' = w := by
 unfold falls;go_enter Tryz.func193, Tryz.ntmps193;go_wp2_with fail;go_ret;exact ⟨rfl, rfl⟩
def fallV : Value := .agg #[.func (.func 193) #[] #[]]
theorem lM (w : World) : Calls Tryz.prog 156 #[] w fun e w' => e = .returned fallV ∧ Below w w w' := by
 go_enter Tryz.func156, Tryz.ntmps156;go_wp2_with fail;refine κr (v := fallV) (by simp [results, Tryz.results156, go_sem, fallV]) rfl ⟨rfl, βA _⟩
theorem bD (A : Option Addr) (c : Nat) (l : List St) (w : World) (hr : RowR StE 2 w w A l) :
  Calls Tryz.prog 154 #[fallV, .slice A l.length c] w (ErrE w (zP falls l)) := by
 have HR := η hr;have HB0 := η ((Below.refl w w).alloc (νr _) (.cells #[.func (.func 193) #[] #[]] 221));unfold fallV;clear hr;by_cases h0 : l.length = 0
 ·have E : Hid (zP falls l = 4) := if_pos h0;have e0 : ((l.length : Int) == 0) = true := by rw [h0]; rfl
  clear h0;go_enter Tryz.func154, Tryz.ntmps154;go_wp2_with fail;go_ret;exact ⟨zC E.out.symm, HB0.out⟩
 have e0 : ((l.length : Int) == 0) = false := βf (by omega);by_cases h3 : 3 < l.length
 ·have E : Hid (zP falls l = 5) := by show _ = _; unfold zP; rw [if_neg h0, if_pos h3]
  have e3 : decide ((3 : Int) < (l.length : Int)) = true := κt (by omega);clear h0 h3;go_enter Tryz.func154, Tryz.ntmps154;go_wp2_with fail;go_ret;exact ⟨zC E.out.symm, HB0.out⟩
 have e3 : decide ((3 : Int) < (l.length : Int)) = false := κf (by omega);have E : Hid (zP falls l = stGo falls none l) := by show _ = _; unfold zP; rw [if_neg h0, if_neg h3]
 generalize zP falls l = R at *;have hl : l.length ≤ 1000000 := by omega
 clear h0 h3;go_enter Tryz.func154, Tryz.ntmps154;go_wp2_with fail;go_loopg [4, 5, 6, 15] l.length (fun g s4 s5 s6 s15 wr => ∃ k : Nat, k + g = l.length ∧ s15 = .int .i64 (k : Int) ∧ stGo falls none l = stGo falls (pvK l k) (l.drop k) ∧ wr.cell? ⟨w, 0, none⟩ = some (.func (.func 193) #[] #[]) ∧ w < wr.heap.size ∧ Below w w wr)
 case atStart => exact ⟨0, by omega, rfl, rfl, by simp, by simp, HB0.out⟩
 case round =>
  clear HB0 e0 e3;obtain ⟨k, hkg, rfl, hs, c0, hbw, hb⟩ := hrel;have HS := η (E.out.trans hs);have HB := η hb;clear hs hb;cases gk with
  | zero =>
   obtain rfl : k = l.length := by omega
   have HE : Hid (R = 0) := HS.out.trans (yW _ _ _);clear hkg HS HR c0;go_wp2_with fail
   try rw [κx]
   go_ret;exact ⟨zC HE.out.symm, HB.out⟩
  | succ g =>
   have hk : k < l.length := by omega
   have HG := η hkg;clear hkg;have HS2 := η (HS.out.trans (fF hk));obtain ⟨b, off, cc, rfl, hbl, hcn, hce, hcc⟩ := HR.out.at_ k (0, 0) hk;have hcc' := hcc;rw [show cc = stC (l.getD k (0, 0)) from hce] at hcc;have f0 := (HB.out.cell (p := ⟨b, off + k * 2, none⟩) hbl).trans (hcc 0 _ rfl);have f1 := (HB.out.cell (p := ⟨b, off + k * 2 + 1, none⟩) hbl).trans (hcc 1 _ rfl);clear hcc hcc' hce hcn HS;cases hx : l.getD k (0, 0) with
   | mk q p =>
   rw [hx] at f0 f1 HS2;have HX := η hx;clear hx;have f0' : wr.cell? ⟨b, off + k * 2, none⟩ = some (.int .i64 q) := f0;have f1' : wr.cell? ⟨b, off + k * 2 + 1, none⟩ = some (.int .i64 p) := f1;clear f0 f1;cases hok : stOk (q, p) with
   | false =>
    have HE : Hid (R = 1) := HS2.out.trans (if_pos (by rw [hok]; rfl));have hno := bT hok;clear hok HS2;rcases hno with h | ⟨h1, h2⟩ | ⟨h1, h2, h3⟩ | ⟨h1, h2, h3, h4⟩
    ·have d1 : decide (q < 1) = true := κt h;go_wp2_with fail
     try rw [κx]
     go_ret;exact ⟨zC HE.out.symm, HB.out.alloc (by omega) _⟩
    ·have d1 : decide (q < 1) = false := κf h1;have d2 : decide (1000000 < q) = true := κt h2;go_wp2_with fail
     try rw [κx]
     go_ret;exact ⟨zC HE.out.symm, HB.out.alloc (by omega) _⟩
    ·have d1 : decide (q < 1) = false := κf h1;have d2 : decide (1000000 < q) = false := κf h2;have d3 : decide (p < -1000000) = true := κt h3;go_wp2_with fail
     try rw [κx]
     go_ret;exact ⟨zC HE.out.symm, HB.out.alloc (by omega) _⟩
    ·have d1 : decide (q < 1) = false := κf h1;have d2 : decide (1000000 < q) = false := κf h2;have d3 : decide (p < -1000000) = false := κf h3;have d4 : decide (1000000 < p) = true := κt h4;go_wp2_with fail
     try rw [κx]
     go_ret;exact ⟨zC HE.out.symm, HB.out.alloc (by omega) _⟩
   | true =>
    replace HS2 : Hid (R = _) := HS2.out.trans (if_neg (by rw [hok]; simp));have hy := fE hok;have d1 : decide (q < 1) = false := κf (by omega);have d2 : decide (1000000 < q) = false := κf (by omega);have d3 : decide (p < -1000000) = false := κf (by omega);have d4 : decide (1000000 < p) = false := κf (by omega);clear hok hy;cases k with
    | zero =>
     replace HS2 : Hid (R = _) := HS2.out.trans (if_neg (by simp [pvK]));have k0 : decide ((0 : Int) < ((0 : Nat) : Int)) = false := by decide
     have g0 : wr.cell? ⟨b, off, none⟩ = some (.int .i64 q) := by simpa using f0'
     have g1 : wr.cell? ⟨b, off + 1, none⟩ = some (.int .i64 p) := by simpa using f1'
     clear f0' f1';go_wp2_with fail;refine zE (w0 := (wr.alloc (.cells #[.int .i64 q, .int .i64 p] 205))) [(5, .int .i64 0), (38, .int .i64 0), (39, .bool false), (40, .bool false), (41, undef), (42, undef), (43, undef), (44, undef), (45, undef), (46, undef), (47, undef), (48, undef), (49, undef), (50, undef), (51, undef), (52, undef), (53, .bool false)] [] [5] ?_ ?_
     ·intro T hT W hI;simp only [zA, and_true] at hT
      repeat' first | exact AllO.nil | apply AllO.cons
      all_goals try ((first | refine oV ?_ | refine oN ?_ | refine oG (t := by simp only [hT]) (h := ?_)); simp [go_sem, EvT, hT, valT]; done)
      all_goals try (exact opT_s true (t := by simp only [hT]) (n := by decide) (e := by simp [valT, hT]))
      all_goals try (exact opT_s false (t := by simp only [hT]) (n := by decide) (e := by simp [valT, hT]))
     intro wx hb;simp (decide := true) only [putT, valT, look, Act.put, σi, σo, σs, Nat.reduceAdd, if_true, if_false];have HB1 := η ((HB.out.alloc (by omega) (.cells #[.int .i64 q, .int .i64 p] 205)).trans (hb.mono (by simp; omega)));have c1 : wx.cell? ⟨w, 0, none⟩ = some (.func (.func 193) #[] #[]) := (hb.cell (p := ⟨w, 0, none⟩) (by simp; omega)).trans (zK _ c0);have hbw2 : w < wx.heap.size := by have := hb.size; simp at this; omega
     clear hb;go_wp2_with fail;go_roundg g
     case measure => omega
     case rel => exact ⟨1, by have := HG.out; omega, by go_num, E.out.symm.trans HS2.out, c1, hbw2, HB1.out⟩
    | succ k =>
     obtain ⟨b', off', cc', hA', _, _, hce', hcc'⟩ := HR.out.at_ k (0, 0) (by omega);obtain ⟨rfl, rfl⟩ : b' = b ∧ off' = off := by injection hA' with h; injection h with h1 h2; exact ⟨h1.symm, h2.symm⟩
     rw [show cc' = stC (l.getD k (0, 0)) from hce'] at hcc';have f2 := (HB.out.cell (p := ⟨b', off' + k * 2 + 1, none⟩) hbl).trans (hcc' 1 _ rfl);have HPV : Hid (pvK l (k + 1) = some (l.getD k (0, 0)).2) := if_neg (by omega);replace f2 : wr.cell? ⟨b', off' + k * 2 + 1, none⟩ = some (.int .i64 (l.getD k (0, 0)).2) := f2;clear hcc' hce' hA';generalize (l.getD k (0, 0)).2 = pp at *;replace HS2 : Hid (R = if (falls pp p) = true then stGo falls (pvK l (k + 1 + 1)) (l.drop (k + 1 + 1)) else 3) := by
      show _ = _
      rw [HS2.out, HPV.out];cases hh : falls pp p <;> simp [hh]
     clear HPV;have KC : ∀ W, Calls Tryz.prog 193 #[.int .i64 pp, .int .i64 p] W fun e w' => e = .returned (.bool (falls pp p)) ∧ Below W W w' := fun W => (fall1 pp p W).mono fun e w' ⟨he, hw⟩ => ⟨he, by rw [hw]; exact Below.refl _ _⟩
     have k0 : decide ((0 : Int) < ((k + 1 : Nat) : Int)) = true := κt (by omega);have k1 : IntKind.i64.wrap (((k + 1 : Nat) : Int) - 1) = (k : Int) := by rw [IntWalk.i64_in _ (by omega)]; omega
     have k2 : (k : Int) < (l.length : Int) := by omega
     have k3 : IntKind.i64.wrap (k : Int) = (k : Int) := IntWalk.i64_in _ (by omega);have hbl2 : b' < wr := νl hbl HB.out.size;cases hf : falls pp p with
     | true =>
      rw [hf] at KC HS2;replace HS2 : Hid (R = _) := HS2.out.trans (if_pos rfl);clear hf;go_wp2_with fail;refine zE (w0 := (wr.alloc (.cells #[.int .i64 q, .int .i64 p] 205))) [(1, .slice (some ⟨b', off', none⟩) l.length c), (2, .pointer (some ⟨w, 0, none⟩)), (5, .int .i64 ((k + 1 : Nat) : Int)), (6, .pointer (some ⟨wr, 0, none⟩)), (38, .int .i64 ((k + 1 : Nat) : Int)), (39, .bool true), (40, .bool true), (41, .pointer (some ⟨w, 0, none⟩)), (42, .func (.func 193) #[] #[]), (43, .slice (some ⟨b', off', none⟩) l.length c), (44, .int .i64 ((k + 1 : Nat) : Int)), (45, .int .i64 (k : Int)), (46, .pointer (some ⟨b', off' + k * 2, none⟩)), (47, .pointer (some ⟨b', off' + k * 2 + 1, none⟩)), (48, .int .i64 pp), (49, .pointer (some ⟨wr, 1, none⟩)), (50, .int .i64 p), (51, .bool true), (52, .bool false), (53, .bool false)] [] [1, 2, 5, 6] ?_ ?_
      ·intro T hT W hI;simp only [zA, and_true] at hT;have l0 : W.cell? ⟨w, 0, none⟩ = _ := (hI.cell (p := ⟨w, 0, none⟩) (by simp; omega)).trans (zK _ c0);have l1 : W.cell? ⟨b', off' + k * 2 + 1, none⟩ = _ := (hI.cell (p := ⟨b', off' + k * 2 + 1, none⟩) (by simp; omega)).trans (zK _ f2);have l2 : W.cell? ⟨wr, 1, none⟩ = some (.int .i64 p) := (hI.cell (p := ⟨wr, 1, none⟩) (by simp)).trans (by simp)
       repeat' first | exact AllO.nil | apply AllO.cons
       all_goals try ((first | refine oV ?_ | refine oN ?_ | refine oG (t := by simp only [hT]) (h := ?_)); simp [go_sem, EvT, hT, k0, l0, k1, k3, k2, l1, l2, valT]; done)
       ·refine opT_g (t := by simp only [hT]) (h := zO 193 #[.int .i64 pp, .int .i64 p] (by simp [go_sem, EvT, hT, k0, l0, k1, k3, k2, l1, l2]) ?_);simp only [valT, hT];exact KC W
      intro wx hb;simp (decide := true) only [putT, valT, look, Act.put, σi, σo, σs, Nat.reduceAdd, if_true, if_false];have HB1 := η ((HB.out.alloc (by omega) (.cells #[.int .i64 q, .int .i64 p] 205)).trans (hb.mono (by simp; omega)));have c1 : wx.cell? ⟨w, 0, none⟩ = some (.func (.func 193) #[] #[]) := (hb.cell (p := ⟨w, 0, none⟩) (by simp; omega)).trans (zK _ c0);have hbw2 : w < wx.heap.size := by have := hb.size; simp at this; omega
      clear hb;go_wp2_with fail;go_roundg g
      case measure => omega
      case rel => exact ⟨k + 1 + 1, by have := HG.out; omega, by go_num, E.out.symm.trans HS2.out, c1, hbw2, HB1.out⟩
     | false =>
      rw [hf] at KC HS2;replace HS2 : Hid (R = _) := HS2.out.trans (if_neg (by simp));clear hf;go_wp2_with fail;refine zE (w0 := (wr.alloc (.cells #[.int .i64 q, .int .i64 p] 205))) [(1, .slice (some ⟨b', off', none⟩) l.length c), (2, .pointer (some ⟨w, 0, none⟩)), (5, .int .i64 ((k + 1 : Nat) : Int)), (6, .pointer (some ⟨wr, 0, none⟩)), (38, .int .i64 ((k + 1 : Nat) : Int)), (39, .bool true), (40, .bool true), (41, .pointer (some ⟨w, 0, none⟩)), (42, .func (.func 193) #[] #[]), (43, .slice (some ⟨b', off', none⟩) l.length c), (44, .int .i64 ((k + 1 : Nat) : Int)), (45, .int .i64 (k : Int)), (46, .pointer (some ⟨b', off' + k * 2, none⟩)), (47, .pointer (some ⟨b', off' + k * 2 + 1, none⟩)), (48, .int .i64 pp), (49, .pointer (some ⟨wr, 1, none⟩)), (50, .int .i64 p), (51, .bool false), (52, .bool true), (53, .bool true)] [] [1, 2, 5, 6] ?_ ?_
      ·intro T hT W hI;simp only [zA, and_true] at hT;have l0 : W.cell? ⟨w, 0, none⟩ = _ := (hI.cell (p := ⟨w, 0, none⟩) (by simp; omega)).trans (zK _ c0);have l1 : W.cell? ⟨b', off' + k * 2 + 1, none⟩ = _ := (hI.cell (p := ⟨b', off' + k * 2 + 1, none⟩) (by simp; omega)).trans (zK _ f2);have l2 : W.cell? ⟨wr, 1, none⟩ = some (.int .i64 p) := (hI.cell (p := ⟨wr, 1, none⟩) (by simp)).trans (by simp)
       repeat' first | exact AllO.nil | apply AllO.cons
       all_goals try ((first | refine oV ?_ | refine oN ?_ | refine oG (t := by simp only [hT]) (h := ?_)); simp [go_sem, EvT, hT, k0, l0, k1, k3, k2, l1, l2, valT]; done)
       ·refine opT_g (t := by simp only [hT]) (h := zO 193 #[.int .i64 pp, .int .i64 p] (by simp [go_sem, EvT, hT, k0, l0, k1, k3, k2, l1, l2]) ?_);simp only [valT, hT];exact KC W
      intro wx hb;simp (decide := true) only [putT, valT, look, Act.put, σi, σo, σs, Nat.reduceAdd, if_true, if_false];have HB1 := η ((HB.out.alloc (by omega) (.cells #[.int .i64 q, .int .i64 p] 205)).trans (hb.mono (by simp; omega)));clear hb;go_wp2_with fail
      try rw [κx]
      go_ret;exact ⟨zC HS2.out.symm, HB1.out⟩
theorem fW (A : Option Addr) (c : Nat) (l : List St) (w : World) (hr : RowR StE 2 w w A l) :
  Calls Tryz.prog 89 #[.slice A l.length c] w (ErrE w (zP falls l)) := by
 have K1 := η fun W => lM W
 have K2 := η fun W h => bD A c l W h
 have HR := η hr;clear hr;go_enter Tryz.func89, Tryz.ntmps89;go_wp2_with fail;refine (K1.out _).mono ?_;rintro e w1 ⟨rfl, hb1⟩;have HR1 := η (HR.out.upto StE.keep hb1);have HB := η hb1;clear hb1;go_wp2_with fail;refine (K2.out _ HR1.out).mono ?_;rintro e w2 ⟨rfl, hb2⟩;go_wp2_with fail;go_ret;exact ⟨rfl, HB.out.trans (hb2.mono HB.out.size)⟩
end Go.Proofs.YtkfhpefmmhljmaaGreatDoor
namespace Go.Proofs.YtkfhpefmmhljmaaGreatDoor
open Go.RowKit
theorem iA {f : Int → Int → Bool} : ∀ {l : List St} {pv : Option Int}, stGo f pv l = 0 → ∀ x ∈ l, stOk x = true := by
 intro l
 induction l with
 | nil => intro pv _ x hx; cases hx
 | cons y l ih =>
  intro pv h x hx;rw [stGo] at h;cases hy : stOk y with
  | false => rw [hy] at h; simp at h
  | true =>
   rw [hy] at h;rw [if_neg (by simp)] at h;split at h
   ·cases h
   ·rcases List.mem_cons.1 hx with rfl | hx
    ·exact hy
    ·exact ih h x hx
theorem dD {f : Int → Int → Bool} {l : List St} (h : zP f l = 0) : 0 < l.length ∧ l.length ≤ 3 ∧ ∀ x ∈ l, stOk x = true := by
 unfold zP at h;split at h
 ·cases h
 ·split at h
  ·cases h
  ·exact ⟨by omega, by omega, iA h⟩
theorem uS (l : List St) (k : Nat) (hk : k < l.length) : qC (l.take (k + 1)) = qC (l.take k) + (l.getD k (0, 0)).1 := by
 unfold qC;rw [κs hk, List.map_append, List.sum_append, zM l k _ hk];simp
theorem kR {l : List St} (h : ∀ x ∈ l, stOk x = true) : 0 ≤ qC l ∧ qC l ≤ l.length * 1000000 := by
 induction l with
 | nil => exact ⟨Int.le_refl _, Int.le_refl _⟩
 | cons x l ih =>
  have h1 := ih fun y hy => h y (by simp [hy])
  have h2 := fE (q := x.1) (p := x.2) (h x (by simp));have h3 : qC (x :: l) = x.1 + qC l := by simp [qC]
  rw [h3, κc];omega
theorem tD (A : Option Addr) (c : Nat) (l : List St) (w : World) (hr : RowR StE 2 w w A l) (hok : zP rises l = 0) :
  Calls Tryz.prog 155 #[.slice A l.length c] w (ErrE w 0) := by
 have K1 := η fun W h => fW A c l W h
 have K2 := fun W h => nH A c l W h
 rw [hok] at K2;have HK2 := η K2;have HR := η hr;clear hr K2;generalize zP falls l = x at *;go_enter Tryz.func155, Tryz.ntmps155;go_wp2_with fail;refine (K1.out _ HR.out).mono ?_;rintro e w1 ⟨rfl, hb1⟩;have HR1 := η (HR.out.upto StE.keep hb1);have HB := η hb1;clear hb1;by_cases h : x = 0
 ·subst h;go_wp2_with fail;go_ret;exact ⟨rfl, HB.out⟩
 ·have e0 : (x == 0) = false := βf h;clear h;go_wp2_with fail;refine (HK2.out _ HR1.out).mono ?_;rintro e w2 ⟨rfl, hb2⟩;go_wp2_with fail;go_ret;exact ⟨rfl, HB.out.trans (hb2.mono HB.out.size)⟩
theorem oC (A : Option Addr) (c : Nat) (l : List St) (w : World) (hr : RowR StE 2 w w A l) (hok : zP rises l = 0) :
  Calls Tryz.prog 88 #[.slice A l.length c] w fun e w' => e = .returned (.int .i64 (qC l)) ∧ Below w w w' := by
 have K1 := η (tD A c l w hr hok);have HO := η (dD hok);have hl : l.length ≤ 1000000 := by have := HO.out.2.1; omega
 have HR := η hr;clear hr hok;go_enter Tryz.func88, Tryz.ntmps88;go_wp2_with fail;refine K1.out.mono ?_;rintro e w1 ⟨rfl, hb1⟩;have HB1 := η hb1;clear hb1 K1;go_wp2_with fail;go_loopg [3, 5, 11] l.length (fun g s3 s5 s11 wr => ∃ k : Nat, k + g = l.length ∧ s11 = .int .i64 (k : Int) ∧ s3 = .int .i64 (qC (l.take k)) ∧ Below w w wr)
 case atStart => exact ⟨0, by omega, rfl, rfl, HB1.out⟩
 case round =>
  obtain ⟨k, hkg, rfl, rfl, hb⟩ := hrel;have HB := η hb;clear hb;cases gk with
  | zero =>
   obtain rfl : k = l.length := by omega
   clear hkg;rw [List.take_length];go_wp2_with fail
   try rw [κx]
   go_ret;exact ⟨rfl, HB.out⟩
  | succ g =>
   have hk : k < l.length := by omega
   have HG := η hkg;clear hkg;obtain ⟨b, off, cc, rfl, hbl, hcn, hce, hcc⟩ := HR.out.at_ k (0, 0) hk;rw [show cc = stC (l.getD k (0, 0)) from hce] at hcc;have f0 : wr.cell? ⟨b, off + k * 2, none⟩ = some (.int .i64 (l.getD k (0, 0)).1) := (HB.out.cell (p := ⟨b, off + k * 2, none⟩) hbl).trans (hcc 0 _ rfl);have f1 : wr.cell? ⟨b, off + k * 2 + 1, none⟩ = some (.int .i64 (l.getD k (0, 0)).2) := (HB.out.cell (p := ⟨b, off + k * 2 + 1, none⟩) hbl).trans (hcc 1 _ rfl);have hz := HB.out.size;have hq := uS l k hk;have hb1 := kR (l := l.take k) fun x hx => HO.out.2.2 x (List.mem_of_mem_take hx)
   have hb2 := kR (l := l.take (k + 1)) fun x hx => HO.out.2.2 x (List.mem_of_mem_take hx)
   have h3 := HO.out.2.1;rw [κk] at hb1 hb2;have p1 : IntKind.i64.wrap (qC (l.take k) + (l.getD k (0, 0)).1) = qC (l.take (k + 1)) := by rw [hq]; exact IntWalk.i64_in _ (by omega)
   clear hcc hce hcn hq hb1 hb2 h3;generalize (l.getD k (0, 0)).1 = q at *;generalize (l.getD k (0, 0)).2 = p at *;generalize hs1 : qC (l.take (k + 1)) = sk1 at *;have HS := η hs1;clear hs1;generalize qC (l.take k) = sk at *;go_wp2_with fail;go_roundg g
   case measure => omega
   case rel => exact ⟨k + 1, by have := HG.out; omega, by go_num, by rw [HS.out], HB.out.alloc (by omega) _⟩
theorem fB (u : Un) (A : Option Addr) (c : Nat) (n : Int) (w : World) (hr : RowR StE 2 w w A u.steps) :
  Calls Tryz.prog 37 #[.agg #[.int .i64 u.bus, .int .i64 u.min, .slice A u.steps.length c, .int .i64 u.up, .int .i64 u.down, .int .i64 u.start, .int .i64 u.idle, .int .i64 u.spin, .int .i64 u.on], .int .i64 n] w (ErrE w (unitE n u)) := by
 obtain ⟨bus, mn, steps, up, down, start, idle, spin, on⟩ := u;have E : Hid (unitE n ⟨bus, mn, steps, up, down, start, idle, spin, on⟩ = if !inB bus n then 1 else if zP rises steps ≠ 0 then zP rises steps else if vB ⟨bus, mn, steps, up, down, start, idle, spin, on⟩ then 0 else 1) := rfl;generalize unitE n ⟨bus, mn, steps, up, down, start, idle, spin, on⟩ = R at *;dsimp only at hr ⊢;have K1 := η fun W h => nH A c steps W h
 have K2 := η fun W h hok => oC A c steps W h hok
 have HR := η hr;have HB0 := η ((Below.refl w w).alloc (νr _) (.cells #[.int .i64 bus, .int .i64 mn, .slice A steps.length c, .int .i64 up, .int .i64 down, .int .i64 start, .int .i64 idle, .int .i64 spin, .int .i64 on] 62));clear hr;go_enter Tryz.func37, Tryz.ntmps37;by_cases hb : inB bus n = true
 ·have hb' := hb;unfold inB at hb';simp only [κb, κe] at hb';have d1 : decide (bus < 0) = false := κf (by omega);have d2 : decide (n ≤ bus) = false := κf (by omega);replace E : Hid (R = _) := E.out.trans (if_neg (by rw [hb]; simp));clear hb hb';go_wp2_with fail;refine (K1.out _ (HR.out.upto StE.keep ((Below.refl w w).alloc (νr _) _))).mono ?_;rintro e w1 ⟨rfl, hb1⟩;have HX1 := η ((Box.new w #[.int .i64 bus, .int .i64 mn, .slice A steps.length c, .int .i64 up, .int .i64 down, .int .i64 start, .int .i64 idle, .int .i64 spin, .int .i64 on] 62).up hb1 (by simp));have HB1 := η (HB0.out.trans (hb1.mono (by simp)));clear hb1 HB0 K1;by_cases hs : zP rises steps = 0
  ·replace E : Hid (R = _) := E.out.trans (if_neg (fun h => h hs));rw [hs];have HS := η hs;clear hs;have hlt : w < w1.heap.size := HX1.out.lt (by simp);obtain ⟨q0, s0, q1, s1, q2, s2, q3, s3, q4, s4, q5, s5, q6, s6, q7, s7, q8, s8⟩ := sqX9 HX1.out;clear s0 s1 s2 s3 s4 s5 s6 s7 s8;by_cases hm : mn < 0
   ·have d3 : decide (mn < 0) = true := κt hm;have HE : Hid (R = 1) := E.out.trans (if_neg (by simp [vB]; omega));clear hm;go_wp2_with fail;refine zE (w0 := w1) [(2, .pointer (some ⟨w, 0, none⟩)), (21, .pointer (some ⟨w, 1, none⟩)), (22, .int .i64 mn), (23, .bool true), (24, .bool true), (25, undef), (26, undef), (27, undef), (28, undef), (29, undef), (30, undef), (31, .bool true)] [] [2] ?_ ?_
    ·intro T hT W hI;simp only [zA, and_true] at hT;have l1 := (hI.cell (p := ⟨w, 1, none⟩) hlt).trans q1
     repeat' first | exact AllO.nil | apply AllO.cons
     all_goals try ((first | refine oV ?_ | refine oN ?_ | refine oG (t := by simp only [hT]) (h := ?_)); simp [go_sem, EvT, hT, l1, d3, valT]; done)
     all_goals try (exact opT_s true (t := by simp only [hT]) (n := by decide) (e := by simp [valT, hT]))
     all_goals try (exact opT_s false (t := by simp only [hT]) (n := by decide) (e := by simp [valT, hT]))
    intro wx hb;simp (decide := true) only [putT, valT, look, Act.put, σi, σo, σs, Nat.reduceAdd, if_true, if_false];have HB2 := βT HB1 hb;clear hb;go_wp2_with fail;go_ret;exact ⟨zC HE.out.symm, HB2.out⟩
   ·have d3 : decide (mn < 0) = false := κf hm;have K3 := η fun W (hb : Below w1 w1 W) => K2.out W (HR.out.upto StE.keep (HB1.out.trans (hb.mono HB1.out.size))) HS.out
    by_cases hq : qC steps < mn
    ·have d4 : decide (qC steps < mn) = true := κt hq;have HE : Hid (R = 1) := E.out.trans (if_neg (by simp [vB]; omega));clear hm hq;go_wp2_with fail;refine zE (w0 := w1) [(2, .pointer (some ⟨w, 0, none⟩)), (21, .pointer (some ⟨w, 1, none⟩)), (22, .int .i64 mn), (23, .bool false), (24, .bool false), (25, .pointer (some ⟨w, 1, none⟩)), (26, .int .i64 mn), (27, .pointer (some ⟨w, 2, none⟩)), (28, .slice A steps.length c), (29, .int .i64 (qC steps)), (30, .bool true), (31, .bool true)] [] [2] ?_ ?_
     ·intro T hT W hI;simp only [zA, and_true] at hT;have l1 := (hI.cell (p := ⟨w, 1, none⟩) hlt).trans q1;have l2 := (hI.cell (p := ⟨w, 2, none⟩) hlt).trans q2
      repeat' first | exact AllO.nil | apply AllO.cons
      all_goals try ((first | refine oV ?_ | refine oN ?_ | refine oG (t := by simp only [hT]) (h := ?_)); simp [go_sem, EvT, hT, l1, d3, l2, d4, valT]; done)
      ·refine opT_g (t := by simp only [hT]) (h := zO 88 #[.slice A steps.length c] (by simp [go_sem, EvT, hT, l1, d3, l2, d4]) ?_);simp only [valT, hT];exact K3.out W hI
     intro wx hb;simp (decide := true) only [putT, valT, look, Act.put, σi, σo, σs, Nat.reduceAdd, if_true, if_false];have HB2 := βT HB1 hb;clear hb;go_wp2_with fail;go_ret;exact ⟨zC HE.out.symm, HB2.out⟩
    ·have d4 : decide (qC steps < mn) = false := κf hq;replace E : Hid (R = if (1 ≤ up ∧ up ≤ 6 ∧ 1 ≤ down ∧ down ≤ 6 ∧ 0 ≤ start ∧ start ≤ 1000000000 ∧ 0 ≤ idle ∧ idle ≤ 1000000000 ∧ 0 ≤ spin ∧ spin ≤ 1000000 ∧ on ≠ 0 ∧ -6 ≤ on ∧ on ≤ 6) then 0 else 1) := by
      show _ = _
      rw [E.out];have h1 : 0 ≤ mn := by omega
      have h2 : mn ≤ qC steps := by omega
      simp [vB, h1, h2, and_assoc]
     clear hm hq;go_wp2_with fail;refine zE (w0 := w1) [(2, .pointer (some ⟨w, 0, none⟩)), (21, .pointer (some ⟨w, 1, none⟩)), (22, .int .i64 mn), (23, .bool false), (24, .bool false), (25, .pointer (some ⟨w, 1, none⟩)), (26, .int .i64 mn), (27, .pointer (some ⟨w, 2, none⟩)), (28, .slice A steps.length c), (29, .int .i64 (qC steps)), (30, .bool false), (31, .bool false)] [] [2] ?_ ?_
     ·intro T hT W hI;simp only [zA, and_true] at hT;have l1 := (hI.cell (p := ⟨w, 1, none⟩) hlt).trans q1;have l2 := (hI.cell (p := ⟨w, 2, none⟩) hlt).trans q2
      repeat' first | exact AllO.nil | apply AllO.cons
      all_goals try ((first | refine oV ?_ | refine oN ?_ | refine oG (t := by simp only [hT]) (h := ?_)); simp [go_sem, EvT, hT, l1, d3, l2, d4, valT]; done)
      ·refine opT_g (t := by simp only [hT]) (h := zO 88 #[.slice A steps.length c] (by simp [go_sem, EvT, hT, l1, d3, l2, d4]) ?_);simp only [valT, hT];exact K3.out W hI
     intro wx hb;simp (decide := true) only [putT, valT, look, Act.put, σi, σo, σs, Nat.reduceAdd, if_true, if_false];have HB2 := βT HB1 hb;have HX2 := η (HX1.out.up hb hlt);clear hb HX1 HB1 d1 d2 d3 d4 K2 K3 HS HR q0 q1 q2 q3 q4 q5 q6 q7 q8;obtain ⟨q0, s0, q1, s1, q2, s2, q3, s3, q4, s4, q5, s5, q6, s6, q7, s7, q8, s8⟩ := sqX9 HX2.out;clear s0 s1 s2 s3 s4 s5 s6 s7 s8;go_wp2_with fail
     all_goals
      go_ret;exact ⟨zC (by rw [E.out]; first | rw [if_pos (by omega)] | rw [if_neg (by omega)]), HB2.out⟩
  ·have HE : Hid (R = zP rises steps) := E.out.trans (if_pos hs);have e0 : (zP rises steps == 0) = false := βf hs;have e1 : (zP rises steps != 0) = true := βt hs;clear hs E;generalize zP rises steps = z at *;go_wp2_with fail;go_ret;exact ⟨zC HE.out.symm, HB1.out⟩
 ·have hb' : bus < 0 ∨ (¬ bus < 0 ∧ n ≤ bus) := by
   simp [inB] at hb;omega
  have HE : Hid (R = 1) := E.out.trans (if_pos (by simp [hb]));clear hb;rcases hb' with h | ⟨h1, h2⟩
  ·have d1 : decide (bus < 0) = true := κt h;go_wp2_with fail;go_ret;exact ⟨zC HE.out.symm, HB0.out⟩
  ·have d1 : decide (bus < 0) = false := κf h1;have d2 : decide (n ≤ bus) = true := κt h2;go_wp2_with fail;go_ret;exact ⟨zC HE.out.symm, HB0.out⟩
end Go.Proofs.YtkfhpefmmhljmaaGreatDoor
