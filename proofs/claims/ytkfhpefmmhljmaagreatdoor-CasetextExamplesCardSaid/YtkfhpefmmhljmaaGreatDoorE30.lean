/- Texts in one: CkF, FmH. -/
import Derived.Test.YtkfhpefmmhljmaaGreatDoorE29
import Derived.Test.YtkfhpefmmhljmaaGreatDoorE28
set_option linter.unusedVariables false
set_option linter.unusedSimpArgs false
set_option maxHeartbeats 16000000
set_option maxRecDepth 100000
namespace Go.Proofs.YtkfhpefmmhljmaaGreatDoor
open Go.RowKit
theorem kV (b : Bd) (A : Option Addr) (c : Nat) (w : World) (hr : RowR StE 2 w w A b.steps) :
  Calls Tryz.prog 132 #[.agg #[.int .i64 b.bus, .slice A b.steps.length c]] w (ErrE w (bidE 6 b)) := by
 obtain ⟨bus, steps⟩ := b;have E : Hid (bidE 6 ⟨bus, steps⟩ = if !inB bus 6 then 1 else zN falls steps) := rfl;generalize bidE 6 ⟨bus, steps⟩ = R at *;dsimp only at hr ⊢;have K1 := η fun W h => gM A c steps W h
 have HR := η hr;have HB0 := η ((Below.refl w w).alloc (νr _) (.cells #[.int .i64 bus, .slice A steps.length c] 133));clear hr;go_enter Tryz.func132, Tryz.ntmps132;by_cases hb : inB bus 6 = true
 ·have hb' := hb;unfold inB at hb';simp only [κb, κe] at hb';have d1 : decide (bus < 0) = false := κf (by omega);have d2 : decide (6 ≤ bus) = false := κf (by omega);replace E : Hid (R = _) := E.out.trans (if_neg (by rw [hb]; simp));clear hb hb';go_wp2_with fail;refine (K1.out _ (HR.out.upto StE.keep ((Below.refl w w).alloc (νr _) _))).mono ?_;rintro e w1 ⟨rfl, hb1⟩;have HB1 := η (HB0.out.trans (hb1.mono (by simp)));clear hb1;go_wp2_with fail;go_ret;exact ⟨zH E.out.symm, HB1.out⟩
 ·have hb' : bus < 0 ∨ (¬ bus < 0 ∧ 6 ≤ bus) := by
   simp [inB] at hb;omega
  have HE : Hid (R = 1) := E.out.trans (if_pos (by simp [hb]));clear hb;rcases hb' with h | ⟨h1, h2⟩
  ·have d1 : decide (bus < 0) = true := κt h;go_wp2_with fail;go_ret;exact ⟨zH HE.out.symm, HB0.out⟩
  ·have d1 : decide (bus < 0) = false := κf h1;have d2 : decide (6 ≤ bus) = true := κt h2;go_wp2_with fail;go_ret;exact ⟨zH HE.out.symm, HB0.out⟩
theorem vQ (k x f t : Int) (w : World) : Calls Tryz.prog 71 #[.agg #[.int .u8 k, .int .i64 x, .int .i64 f, .int .i64 t]] w fun e w' => e = .returned (.bool (qJ (k, x, f, t))) ∧ Below w w w' := by
 have HB0 := η ((Below.refl w w).alloc (νr _) (.cells #[.int .u8 k, .int .i64 x, .int .i64 f, .int .i64 t] 53));by_cases hk : k = 3
 ·have E : Hid (qJ (k, x, f, t) = decide (0 ≤ x ∧ x < 5 ∧ 0 ≤ f ∧ f ≤ t ∧ t < 8)) := by
   show _ = _
   subst hk;rw [Bool.eq_iff_iff];simp [qJ, and_assoc]
  have b1 : (k == 3) = true := beq_iff_eq.2 hk;generalize qJ (k, x, f, t) = R at *;clear hk;go_enter Tryz.func71, Tryz.ntmps71;go_wp2_with fail
  all_goals
   go_ret;exact ⟨zS (by rw [E.out, Bool.eq_iff_iff]; simp <;> omega), HB0.out⟩
 ·have E : Hid (qJ (k, x, f, t) = decide (0 ≤ x ∧ x < 10 ∧ 0 ≤ f ∧ f ≤ t ∧ t < 8)) := by
   show _ = _
   rw [Bool.eq_iff_iff];simp [qJ, and_assoc, hk]
  have b1 : (k == 3) = false := βf hk;generalize qJ (k, x, f, t) = R at *;clear hk;go_enter Tryz.func71, Tryz.ntmps71;go_wp2_with fail
  all_goals
   go_ret;exact ⟨zS (by rw [E.out, Bool.eq_iff_iff]; simp <;> omega), HB0.out⟩
theorem uV (a n : Int) (w : World) : Calls Tryz.prog 90 #[.int .i64 a, .int .i64 n] w fun e w' => e = .returned (.bool (inB a n)) ∧ Below w w w' := by
 have HB0 := η (Below.refl w w);have E : Hid (inB a n = decide (0 ≤ a ∧ a < n)) := by
  show _ = _
  rw [Bool.eq_iff_iff];simp [inB]
 generalize inB a n = R at *;go_enter Tryz.func90, Tryz.ntmps90;go_wp2_with fail
 all_goals
  go_ret;exact ⟨zS (by rw [E.out, Bool.eq_iff_iff]; simp <;> omega), HB0.out⟩
def PlE (w : World) (n : Int) (e : Ending) (w' : World) : Prop := ∃ p, e = .returned (.tuple #[.int .i64 p, .int .i64 n]) ∧ Below w w w'
theorem PlE.of {w W : World} {p n n' : Int} (h : n' = n) (hb : Below w w W) : PlE w n' (.returned (.tuple #[.int .i64 p, .int .i64 n])) W := ⟨p, by rw [h], hb⟩
theorem nJ (A : Option Addr) (c : Nat) (l : List Rt) (n : Int) (w : World) (hr : RowR RtE 3 w w A l) (hl : l.length ≤ 1000000) :
  Calls Tryz.prog 40 #[.slice A l.length c, .int .i64 n] w (PlE w (xL n l)) := by
 have HR := η hr;have HB0 := η (Below.refl w w);clear hr;by_cases h8 : 8 < l.length
 ·have E : Hid (xL n l = 5) := if_pos h8;have e3 : decide ((8 : Int) < (l.length : Int)) = true := κt (by omega);clear h8;go_enter Tryz.func40, Tryz.ntmps40;go_wp2_with fail;go_ret2;exact PlE.of E.out HB0.out
 have e3 : decide ((8 : Int) < (l.length : Int)) = false := κf (by omega);have E : Hid (xL n l = if l.all (rtOk n) then 0 else 1) := if_neg h8;generalize xL n l = R at *;clear h8;go_enter Tryz.func40, Tryz.ntmps40;go_wp2_with fail;go_loopg [4, 5, 6, 7, 13] l.length (fun g s4 s5 s6 s7 s13 wr => ∃ k : Nat, k + g = l.length ∧ s13 = .int .i64 (k : Int) ∧ (l.take k).all (rtOk n) = true ∧ Below w w wr)
 case atStart => exact ⟨0, by omega, rfl, rfl, HB0.out⟩
 case round =>
  clear HB0 e3;obtain ⟨k, hkg, rfl, hs, hb⟩ := hrel;have HS := η hs;have HB := η hb;clear hs hb;cases gk with
  | zero =>
   obtain rfl : k = l.length := by omega
   have HE : Hid (R = 0) := by
    have h := HS.out;rw [List.take_length] at h;show _ = _
    rw [E.out, if_pos h]
   clear hkg HS HR E;go_wp2_with fail
   try rw [κx]
   go_ret2;exact PlE.of HE.out HB.out
  | succ g =>
   have hk : k < l.length := by omega
   have HG := η hkg;clear hkg;obtain ⟨b, off, cc, rfl, hbl, hcn, hce, hcc⟩ := HR.out.at_ k (0, 0, 0) hk;rw [show cc = rtC (l.getD k (0, 0, 0)) from hce] at hcc;have f0 : wr.cell? ⟨b, off + k * 3, none⟩ = some (.int .i64 (l.getD k (0, 0, 0)).1) := (HB.out.cell (p := ⟨b, off + k * 3, none⟩) hbl).trans (hcc 0 _ rfl);have f1 : wr.cell? ⟨b, off + k * 3 + 1, none⟩ = some (.int .i64 (l.getD k (0, 0, 0)).2.1) := (HB.out.cell (p := ⟨b, off + k * 3 + 1, none⟩) hbl).trans (hcc 1 _ rfl);have f2 : wr.cell? ⟨b, off + k * 3 + 2, none⟩ = some (.int .i64 (l.getD k (0, 0, 0)).2.2) := (HB.out.cell (p := ⟨b, off + k * 3 + 2, none⟩) hbl).trans (hcc 2 _ rfl);have hz := HB.out.size;have HYes : Hid (rtOk n (l.getD k (0, 0, 0)) = true → (l.take (k + 1)).all (rtOk n) = true) := fun h => kF _ _ _ _ hk HS.out h
   have HNo : Hid (rtOk n (l.getD k (0, 0, 0)) = false → R = 1) := fun h => by rw [E.out, aW _ _ _ _ hk h]; rfl
   clear hcc hce hcn HS;cases hx : l.getD k (0, 0, 0) with
   | mk rf rest =>
   obtain ⟨rt, rq⟩ := rest;rw [hx] at f0 f1 f2 HYes HNo;clear hx;have HD : Hid (rtOk n (rf, rt, rq) = (inB rf n && inB rt n && decide (0 ≤ rq) && decide (rq ≤ 1000000))) := rfl;generalize rtOk n (rf, rt, rq) = ok at *;dsimp only at f0 f1 f2;have K1 := η fun W => uV rf n W
   have K2 := η fun W => uV rt n W
   have HB1 := η (HB.out.alloc (by omega) (.cells #[.int .i64 rf, .int .i64 rt, .int .i64 rq] 51));cases h1 : inB rf n with
   | false =>
    rw [h1] at K1 HD;have HE : Hid (R = 1) := HNo.out HD.out;clear h1 HNo HYes HD E;go_wp2_with fail;refine (K1.out _).mono ?_;rintro e w1 ⟨rfl, hb1⟩;have HB2 := η (HB1.out.trans (hb1.mono (by simp; omega)));clear hb1;go_wp2_with fail
    try rw [κx]
    go_ret2;exact PlE.of HE.out HB2.out
   | true =>
    rw [h1] at K1 HD;clear h1;go_wp2_with fail;refine (K1.out _).mono ?_;rintro e w1 ⟨rfl, hb1⟩;have HX1 := η ((Box.new wr #[.int .i64 rf, .int .i64 rt, .int .i64 rq] 51).up hb1 (by simp));have HB2 := η (HB1.out.trans (hb1.mono (by simp; omega)));have hlt : wr < w1.heap.size := HX1.out.lt (by simp);clear hb1 HB1;obtain ⟨q0, s0, q1, s1, q2, s2⟩ := sqX3 HX1.out;cases h2 : inB rt n with
    | false =>
     rw [h2] at K2 HD;have HE : Hid (R = 1) := HNo.out HD.out;clear h2 HNo HYes HD E;go_wp2_with fail;refine (K2.out _).mono ?_;rintro e w2 ⟨rfl, hb1⟩;have HB3 := η (HB2.out.trans (hb1.mono (by omega)));clear hb1;go_wp2_with fail
     try rw [κx]
     go_ret2;exact PlE.of HE.out HB3.out
    | true =>
     rw [h2] at K2 HD;clear h2;go_wp2_with fail;refine (K2.out _).mono ?_;rintro e w2 ⟨rfl, hb1⟩;have HX2 := η (HX1.out.up hb1 hlt);have HB3 := η (HB2.out.trans (hb1.mono (by omega)));clear hb1 q0 q1 q2 s0 s1 s2;obtain ⟨q0, s0, q1, s1, q2, s2⟩ := sqX3 HX2.out;by_cases h3 : rq < 0
     ·have d1 : decide (rq < 0) = true := κt h3;have HE : Hid (R = 1) := HNo.out (HD.out.trans (by simp; omega));clear h3 HNo HYes HD E;go_wp2_with fail
      try rw [κx]
      go_ret2;exact PlE.of HE.out HB3.out
     ·have d1 : decide (rq < 0) = false := κf h3;by_cases h4 : 1000000 < rq
      ·have d2 : decide (1000000 < rq) = true := κt h4;have HE : Hid (R = 1) := HNo.out (HD.out.trans (by simp; omega));clear h3 h4 HNo HYes HD E;go_wp2_with fail
       try rw [κx]
       go_ret2;exact PlE.of HE.out HB3.out
      ·have d2 : decide (1000000 < rq) = false := κf h4;have HY := η (HYes.out (HD.out.trans (by simp; omega)));clear h3 h4 HNo HYes HD;go_wp2_with fail;go_roundg g
       case measure => omega
       case rel => exact ⟨k + 1, by have := HG.out; omega, by go_num, HY.out, HB3.out⟩
theorem jW {w w3 : World} {base : Nat} {v v' : Value} {acc : List Tk} {raws : List (List Value)} {cells : List Value} {t : Tk} {tmp : Obj} (r1 : raws.length = acc.length) (r2 : ∀ c ∈ raws, c.length = 6)
  (r3 : ∀ (i : Nat) c x, raws[i]? = some c → acc[i]? = some x → TkO w base c x) (hown : w.ownsRow base 87 6 v acc.length raws.flatten) (hx : TkO w base cells t)
  (hgrow : (w.alloc tmp).grownBy w3 v.ownBlock) (hown' : w3.ownsRow base 87 6 v' (acc.length + 1) (raws.flatten ++ cells)) : RowO TkO 87 6 w3 base v' (acc ++ [t]) := by
 refine RowO.onto (l2 := [t]) (raws2 := [cells]) TkO.own (by decide) r1 r2 (fun i c y h1 h2 => TkO.own.up (r3 i c y h1 h2) (βA _)) (hown.alloc _) rfl (fun c hc => by simp at hc; subst hc; exact hx.six.1) (fun i c y hc hy => ?_) hgrow (by simpa using hown');rcases i with _ | i
 ·simp at hc hy;subst hc;subst hy;exact TkO.own.up hx (βA _)
 ·simp at hc
theorem vU {α : Type} {E : Enc α} {t : TypeId} {n : Nat} {w : World} {base : Nat} {v : Value} {l : List α} (h : RowO E t n w base v l) : ∃ A c, v = .slice A l.length c := by
 obtain ⟨_, _, _, _, ho⟩ := h;obtain ⟨A, c, hv, _⟩ := zQ ho;exact ⟨A, c, hv⟩
theorem dA {w : World} {base : Nat} {e : TypeId} {size : Nat} {A : Option Addr} {m c : Nat} {xs : List Value} (h : w.ownsRow base e size (.slice A m c) m xs) : Src w size A m xs := by
 refine ⟨h.1, fun hm => ?_⟩;rcases h.2 with ⟨_, h0⟩ | ⟨g, cap, cur, hv, _⟩
 ·omega
 ·injection hv with hA _ _
  subst hA;refine ⟨_, rfl, fun j u hu => ?_⟩;have ha : (⟨g, 0, none⟩ : Addr).add j = ⟨g, j, none⟩ := by unfold Addr.add; split <;> simp_all
  have hj : j < m * size := by rw [← h.1]; exact (List.getElem?_eq_some_iff.1 hu).1
  rw [ha, h.cellAt j hj];exact hu
theorem yG {w : World} {base : Nat} {raws : List (List Value)} {l : List Tk} (h1 : raws.length = l.length) (h3 : ∀ (i : Nat) c x, raws[i]? = some c → l[i]? = some x → TkO w base c x) : ∀ u ∈ raws.flatten, u.oneCell' = true := by
 intro u hu;obtain ⟨c, hc, hu⟩ := List.mem_flatten.1 hu;obtain ⟨i, hi, rfl⟩ := List.mem_iff_getElem.1 hc;exact (h3 i _ l[i] (κg hi) (κg (by omega))).six.2 u hu
theorem kM {W w2 : World} {base : Nat} {e : TypeId} {size : Nat} {v : Value} {k : Nat} {xs : List Value} (hrow : W.ownsRow base e size v k xs) (hb : base ≤ W) (hgrow : W.grownBy w2 v.ownBlock) : Below base W w2 :=
 (Below.refl _ _).grown hgrow hb (fun k hk => (hrow.lt k hk).1)
theorem RowR.lit64 (w : World) (t : TypeId) (xs : List Int) (cs : Array Value) (h : cs = (xs.map (Value.int .i64)).toArray) : RowR I64E 1 (w.alloc (.cells cs t)) (w.alloc (.cells cs t)).heap.size (some ⟨w, 0, none⟩) xs := by
 refine ⟨xs.map (fun x => [.int .i64 x]), by simp, fun c hc => ?_, fun i c x hc hx => ?_, fun hn => ⟨_, 0, rfl, by simp, fun i j c v hc hv => ?_⟩⟩
 ·obtain ⟨x, _, rfl⟩ := List.mem_map.1 hc; rfl
 ·rw [List.getElem?_map, hx] at hc;injection hc with hc
  exact hc.symm
 ·rw [qY _ _ _ _ _ rfl, h];rw [List.getElem?_map, Option.map_eq_some_iff] at hc;obtain ⟨x, hx, rfl⟩ := hc;have hj : j = 0 := by have := (List.getElem?_eq_some_iff.1 hv).1; simp at this; exact this
  subst hj;simp at hv;subst hv;simp [hx]
theorem yQ (ls : List Ln) : (ls.flatMap lineT).length = ls.length * 7 := by
 induction ls with
 | nil => rfl
 | cons x l ih => rw [List.flatMap_cons, κa, ih, κc]; simp [lineT]; omega
theorem cN (nb : Int) (A : Option Addr) (c : Nat) (ls : List Ln) (w : World) (hl : RowR LnE 4 w w A ls) (hk : qI nb ls = 0) :
  Calls Tryz.prog 20 #[.agg #[.int .i64 nb, .slice A ls.length c]] w (TxtE w (fmtT (netT ⟨nb, ls⟩))) := by
 obtain ⟨i0, hi, hy0, hy1, hy2⟩ := info_parts yT;have HL := η hl;obtain ⟨h1, h2, h3, h4⟩ := kE hk;have HNB : Hid (small nb) := show small nb by unfold small; omega
 have HLN := η h4;have HSM := η (nV (x := ⟨nb, ls⟩) HNB.out h4);have HLS : Hid (ls.length ≤ 10) := h3;have hlm : ls.length ≤ 10 := h3;have HX : Hid (Box (w.alloc (.cells #[.int .i64 nb, .slice A ls.length c] 24)) w [.int .i64 nb, .slice A ls.length c]) := Box.new w #[.int .i64 nb, .slice A ls.length c] _;have HB : Hid (Below w w (w.alloc (.cells #[.int .i64 nb, .slice A ls.length c] 24))) := βA _;have KC := η (kD nb A c ls (w.alloc (.cells #[.int .i64 nb, .slice A ls.length c] 24)) (RowR.lines (hl.upto LnE.keep HB.out)));rw [hk] at KC;clear hl hk h1 h2 h3 h4;go_enter Tryz.func20, Tryz.ntmps20;go_wp2_with fail;refine KC.out.mono ?_;rintro e w1 ⟨rfl, hb1⟩;have hz1 : w < w1.heap.size := νl (by simp) hb1.size;have HX1 := η (HX.out.up hb1 (by simp));have HB1 := η (HB.out.trans (hb1.mono (by simp)));clear hb1 HX HB KC;obtain ⟨q0, s0, q1, s1⟩ := sqX2 HX1.out;have KG := η (xX [110, 101, 116] (some ⟨w1, 0, none⟩) 1 [nb] (w1.alloc (.cells #[.int .i64 nb] 2)) (RowR.lit64 w1 _ [nb] _ rfl) (by simp) (fun x hx => by simp at hx; subst hx; have := HNB.out; unfold small at this; omega));go_wp2_with fail;refine KG.out.mono ?_;rintro e w2 ⟨v, rfl, hrow, hb2⟩;have hz2 : w < w2.heap.size := νl (by simp; omega) hb2.size;have HX2 := η ((HX1.out.alloc hz1 (.cells #[.int .i64 nb] 2)).up hb2 (by simp; omega));have HB2 := η ((HB1.out.alloc (κl hz1) (.cells #[.int .i64 nb] 2)).trans (hb2.mono (by simp; omega)));have HR2 := η (hrow.mono TkO.own (base' := w + 1) (by simp; omega));clear hrow hb2 HX1 HB1 KG q0 q1 s0 s1;obtain ⟨q0, s0, q1, s1⟩ := sqX2 HX2.out;go_wp2_with fail;go_loopg [5, 20] ls.length (fun gk s5 s20 wr => ∃ k : Nat, k + gk = ls.length ∧ s20 = .int .i64 (k : Int) ∧ RowO TkO 87 6 wr (w + 1) s5 (.op :: .wd [110, 101, 116] :: .nm nb :: (ls.take k).flatMap lineT) ∧ Below w w wr ∧ w < wr.heap.size)
 case atStart => exact ⟨0, by omega, rfl, HR2.out, HB2.out, hz2⟩
 case round =>
  obtain ⟨k, hkg, rfl, hrow, hbl, hzr⟩ := hrel;have HR := η hrow;have HB := η hbl;clear hrow hbl HR2 HB2 HX2 q0 q1 s0 s1;cases gk with
  | zero =>
   obtain rfl : k = ls.length := by omega
   clear hkg;rw [List.take_length] at HR;obtain ⟨acc, hacc⟩ : ∃ acc, acc = Tk.op :: .wd [110, 101, 116] :: .nm nb :: ls.flatMap lineT := ⟨_, rfl⟩;rw [← hacc] at HR;have hlen : acc.length ≤ 100 := by rw [hacc]; have h1 := yQ ls; have h2 := HLS.out; simp only [κc]; omega
   have HNT : Hid (acc ++ [.cl] = netT ⟨nb, ls⟩) := by show _ = _; rw [hacc]; rfl
   clear hacc;obtain ⟨raws, r1, r2, r3, hown⟩ := HR.out;have R1 := η r1;have R2 := η r2;have R3 := η r3;have HX1 := η (show TkO wr (w + 1) _ .cl from rfl);clear r1 r2 r3;go_wp2_with (at_builtin; refine wpList_append_own _ rfl _ _ 124 rfl (w + 1) 87 i0 _ 6 88 Tryz.underlying124 hi hy0 hy1 hy2 rfl (by decide) _ _ _ rfl (hown.alloc _) ⟨wr, 0, none⟩ 1 1 [.int .u8 2, .string ⟨#[]⟩, .bool false, .slice none 0 0, .bool false, .slice none 0 0] rfl rfl (zW _ _ _) (by simp [Value.oneCell']) (by unfold maxLen; omega) (by omega) (by simp; omega) ?_; intro v' w3 hown' hgrow _);have HR3 := η (jW (acc := acc) (t := .cl) R1.out R2.out R3.out hown HX1.out hgrow (by simpa using hown'));have HB3 := η (HB.out.trans ((zF hown hzr hgrow).mono (by omega)));have hz_w3 := hgrow.size
   (try simp at hz_w3)
   clear hown' hgrow hown R1 R2 R3 HX1 HR HB;rw [HNT.out] at HR3;obtain ⟨A3, c3, rfl⟩ := vU HR3.out;have KF := η (jS (w + 1) A3 c3 (netT ⟨nb, ls⟩) w3 HR3.out (fun t ht => (HSM.out t ht).wf) (kA HSM.out (by rw [← HNT.out]; simp; omega)) (by rw [← HNT.out]; simp; omega));go_wp2_with fail;refine KF.out.mono ?_;rintro e w4 ⟨rfl, hb4⟩;have HB4 := βT HB3 hb4;clear KF HR3 HB3 hb4;go_wp2_with fail;go_ret2;exact ⟨rfl, HB4.out⟩
  | succ g =>
   have hk : k < ls.length := by omega
   have HG := η hkg;clear hkg;obtain ⟨b, off, cc, rfl, hb, hc1, hc2, hc3⟩ := (HL.out.up LnE.keep HB.out).at_ k (0, 0, 0, 0) hk;replace hc2 : cc = _ := hc2;subst hc2;have hbw : b < wr := by omega
   have f0 := hc3 0 _ rfl;have f1 := hc3 1 _ rfl;have f2 := hc3 2 _ rfl;have f3 := hc3 3 _ rfl;rw [κz] at f0;have HSL := η (HLN.out (ls.getD k (0, 0, 0, 0)) (by rw [zL ls k _ hk]; exact List.getElem_mem hk));have HT : Hid (ls.take (k + 1) = ls.take k ++ [ls.getD k (0, 0, 0, 0)]) := by show _ = _; rw [κs hk, zL ls k _ hk]
   generalize hxx : ls.getD k (0, 0, 0, 0) = x at *;have HXX := η hxx;clear hc1 hc3 hxx;have HXL : Hid (RowR I64E 1 ((wr.alloc (.cells #[.int .i64 x.1, .int .i64 x.2.1, .int .i64 x.2.2.1, .int .i64 x.2.2.2] 127)).alloc (.cells #[.int .i64 x.1, .int .i64 x.2.1, .int .i64 x.2.2.1, .int .i64 x.2.2.2] 2)) ((wr.alloc (.cells #[.int .i64 x.1, .int .i64 x.2.1, .int .i64 x.2.2.1, .int .i64 x.2.2.2] 127)).alloc (.cells #[.int .i64 x.1, .int .i64 x.2.1, .int .i64 x.2.2.1, .int .i64 x.2.2.2] 2)).heap.size (some ⟨wr + 1, 0, none⟩) [x.1, x.2.1, x.2.2.1, x.2.2.2]) := by
    have := RowR.lit64 (wr.alloc (.cells #[.int .i64 x.1, .int .i64 x.2.1, .int .i64 x.2.2.1, .int .i64 x.2.2.2] 127)) 2 [x.1, x.2.1, x.2.2.1, x.2.2.2] #[.int .i64 x.1, .int .i64 x.2.1, .int .i64 x.2.2.1, .int .i64 x.2.2.2] rfl;show RowR _ _ _ _ _ _
    simpa using this
   have KG := η (xX [108, 105, 110, 101] (some ⟨wr + 1, 0, none⟩) 4 [x.1, x.2.1, x.2.2.1, x.2.2.2] ((wr.alloc (.cells #[.int .i64 x.1, .int .i64 x.2.1, .int .i64 x.2.2.1, .int .i64 x.2.2.2] 127)).alloc (.cells #[.int .i64 x.1, .int .i64 x.2.1, .int .i64 x.2.2.1, .int .i64 x.2.2.2] 2)) HXL.out (by simp) (fun y hy => by have := HSL.out; unfold small at this; simp at hy; omega));have HB5 : Hid (Below w w ((wr.alloc (.cells #[.int .i64 x.1, .int .i64 x.2.1, .int .i64 x.2.2.1, .int .i64 x.2.2.2] 127)).alloc (.cells #[.int .i64 x.1, .int .i64 x.2.1, .int .i64 x.2.2.1, .int .i64 x.2.2.2] 2))) := (HB.out.alloc (κl hzr) _).alloc (by simp; omega) _;have HR5 := η (HR.out.below TkO.own (w' := ((wr.alloc (.cells #[.int .i64 x.1, .int .i64 x.2.1, .int .i64 x.2.2.1, .int .i64 x.2.2.2] 127)).alloc (.cells #[.int .i64 x.1, .int .i64 x.2.1, .int .i64 x.2.2.1, .int .i64 x.2.2.2] 2))) ((βA _).alloc (by simp) _));clear HR HB HXL;go_wp2_with fail;refine KG.out.mono ?_;rintro e w6 ⟨v6, rfl, hrow6, hb6⟩;have hz6 : w < w6.heap.size := νl (by simp; omega) hb6.size;have HR6 := η (HR5.out.below TkO.own hb6);have HB6 := η (HB5.out.trans (hb6.mono (by simp; omega)));have HS6 := η (hrow6.mono TkO.own (base' := w + 1) (by simp; omega));clear hrow6 hb6 HR5 HB5 KG f0 f1 f2 f3;obtain ⟨acc, hacc⟩ : ∃ acc, acc = Tk.op :: .wd [110, 101, 116] :: .nm nb :: (ls.take k).flatMap lineT := ⟨_, rfl⟩;rw [← hacc] at HR6;have hlen : acc.length ≤ 100 := by rw [hacc]; have h1 := yQ (ls.take k); have h2 := HLS.out; rw [κk] at h1; simp only [κc]; omega
   obtain ⟨l2, hl2⟩ : ∃ l2, l2 = Tk.op :: .wd [108, 105, 110, 101] :: [x.1, x.2.1, x.2.2.1, x.2.2.2].map .nm := ⟨_, rfl⟩;rw [← hl2] at HS6;have hlen2 : l2.length ≤ 6 := by rw [hl2]; exact νr _
   obtain ⟨A6, c6, rfl⟩ := vU HS6.out;have HAC : Hid (acc ++ l2 ++ [.cl] = Tk.op :: .wd [110, 101, 116] :: .nm nb :: (ls.take (k + 1)).flatMap lineT) := by show _ = _; rw [hacc, hl2, HT.out, List.flatMap_append]; simp [lineT]
   clear hacc hl2;obtain ⟨raws, r1, r2, r3, hown⟩ := HR6.out;have R1 := η r1;have R2 := η r2;have R3 := η r3;obtain ⟨raws2, s1, s2, s3, hown2⟩ := HS6.out;have S1 := η s1;have S2 := η s2;have S3 := η s3;clear r1 r2 r3 s1 s2 s3;go_upto_region 9 with (at_builtin; refine qP _ rfl _ _ 124 rfl (w + 1) 87 i0 _ 6 88 Tryz.underlying124 hi hy0 hy1 hy2 rfl (by decide) _ _ _ rfl hown A6 (l2).length c6 raws2.flatten rfl (dA hown2) (yG S1.out S3.out) (by unfold maxLen; omega) (by omega) (by omega) ?_; intro v' w7 hown' hgrow _)
   have HR7 := η (RowO.onto (l := acc) (l2 := l2) TkO.own (by decide) R1.out R2.out R3.out hown S1.out S2.out S3.out hgrow hown');have HB7 := η (HB6.out.trans ((kM hown hz6 hgrow).mono (by omega)));have hz_w7 := hgrow.size;clear hown' hgrow hown hown2 R1 R2 R3 S1 S2 S3 HR6 HS6 HB6;have hz7 : w < w7.heap.size := by omega
   obtain ⟨ac2, hac2⟩ : ∃ a, a = acc ++ l2 := ⟨_, rfl⟩;rw [← hac2] at HR7 HAC;have hlen3 : ac2.length ≤ 106 := by rw [hac2]; simp; omega
   clear hac2 hlen hlen2;obtain ⟨raws, r1, r2, r3, hown⟩ := HR7.out;have R1 := η r1;have R2 := η r2;have R3 := η r3;have HX1 := η (show TkO w7 (w + 1) _ .cl from rfl);clear r1 r2 r3;go_wp2_with (at_builtin; refine wpList_append_own _ rfl _ _ 124 rfl (w + 1) 87 i0 _ 6 88 Tryz.underlying124 hi hy0 hy1 hy2 rfl (by decide) _ _ _ rfl (hown.alloc _) ⟨w7, 0, none⟩ 1 1 [.int .u8 2, .string ⟨#[]⟩, .bool false, .slice none 0 0, .bool false, .slice none 0 0] rfl rfl (zW _ _ _) (by simp [Value.oneCell']) (by unfold maxLen; omega) (by omega) (by simp; omega) ?_; intro v' w8 hown' hgrow _);have HR8 := η (jW (acc := ac2) (t := .cl) R1.out R2.out R3.out hown HX1.out hgrow (by simpa using hown'));have HB8 := η (HB7.out.trans ((zF hown hz7 hgrow).mono (by omega)));have hz_w8 := hgrow.size
   (try simp at hz_w8)
   clear hown' hgrow hown R1 R2 R3 HX1 HR7 HB7;rw [HAC.out] at HR8;go_wp2_with fail;go_roundg g
   case measure => omega
   case rel => exact ⟨k + 1, by have := HG.out; omega, by go_num, HR8.out, HB8.out, by omega⟩
end Go.Proofs.YtkfhpefmmhljmaaGreatDoor
