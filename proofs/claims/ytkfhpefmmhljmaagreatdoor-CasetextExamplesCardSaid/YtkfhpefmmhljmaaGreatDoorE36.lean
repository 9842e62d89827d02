/- Texts in one: CpC, CpE. -/
import Derived.Test.YtkfhpefmmhljmaaGreatDoorE30
set_option linter.unusedVariables false
set_option linter.unusedSimpArgs false
set_option maxHeartbeats 16000000
set_option maxRecDepth 100000
namespace Go.Proofs.YtkfhpefmmhljmaaGreatDoor
open Go.RowKit
def ErR (a b : Int) : Prop := (a ≠ -1 ∧ b = a) ∨ (a = -1 ∧ b ≠ 0 ∧ b ≠ 8)
def ParE {α : Type} (E : Enc α) (r : Int × α × Int) (w : World) (e : Ending) (w' : World) : Prop :=
 Below w w w' ∧ ∃ cells er, e = .returned (.tuple #[.agg cells.toArray, .int .i64 r.2.2, .int .i64 er]) ∧ E w' w cells r.2.1 ∧ ErR r.1 er
theorem zC {B g : Nat} {a w w' : World} (h : Below B a w) (k : w.grownBy w' (some g)) (hg : B ≤ g) (hB : B ≤ w) : Below B a w' :=
 h.grown k hB (fun j hj => by injection hj with hj; omega)
theorem RdR.set {w : World} {b : Nat} {s : Bytes} {rd : Rd} (h : RdR w b s rd) {p : Addr} (hp : p.block ≠ b) (v : Value) : RdR (w.setCell p v) b s rd := by
 obtain ⟨i, er, h1, h2⟩ := h;exact ⟨i, er, h1.other hp v, h2⟩
theorem eQ (f : Int → Int → Bool) : ∀ (l : List St) (pv : Option Int), stGo f pv l ≠ -1 := by
 intro l
 induction l with
 | nil => intro pv; simp [stGo]
 | cons x l ih =>
  intro pv;rw [stGo];split
  ·decide
  ·split
   ·decide
   ·exact ih _
theorem yJ (f : Int → Int → Bool) (l : List St) : zN f l ≠ -1 := by
 unfold zN;split
 ·decide
 ·split
  ·decide
  ·exact eQ f l none
theorem aT (n : Int) (b : Bd) : bidE n b ≠ -1 := by
 unfold bidE;split
 ·decide
 ·exact yJ _ _
theorem dY (n : Int) (u : Un) : unitE n u ≠ -1 := by
 unfold unitE;split
 ·decide
 ·split
  ·exact yJ _ _
  ·split <;> decide
theorem RdR.start (w : World) (b : Nat) (s : Bytes) (i : Int) (hi : -9223372036854775808 ≤ i ∧ i ≤ 9223372036854775807) (h : Box w b [.string (bstr s), .int .i64 i, .int .i64 0]) : RdR w b s ⟨i, 0⟩ :=
 ⟨i, 0, h, fun _ => rfl, (fun h => by cases h), fun _ => ⟨rfl, hi⟩⟩
theorem bR (s : Bytes) (i : Int) (w : World) (hs : SlOk s) (hl : s.length ≤ 1000000) (hi : -9223372036854775808 ≤ i ∧ i ≤ 9223372036854775807) :
  Calls Tryz.prog 116 #[.string (bstr s), .int .i64 i] w (ParE BdO (bidP s i) w) := by
 have KT := η fun k rd W hk hR => vN (w + 1) s k rd W hs hl hk hR
 have KW := η fun y rd W hR => fR (w + 1) s y rd W hs hl hR
 have KI := η fun rd W hR => xY (w + 1) s rd W hs hl hR
 have KL := η fun rd W hR => gU (w + 1) s rd W hs hl hR
 have E : Hid (bidR s i = (⟨(rInt s (rWord s [98, 105, 100] (rTok s 1 ⟨i, 0⟩))).1, (zZ s (fuel s) (rInt s (rWord s [98, 105, 100] (rTok s 1 ⟨i, 0⟩))).2).1⟩, rTok s 2 (zZ s (fuel s) (rInt s (rWord s [98, 105, 100] (rTok s 1 ⟨i, 0⟩))).2).2)) := rfl;have EP : Hid (bidP s i = fin bd0 (bidE 6) (bidR s i)) := rfl;generalize bidP s i = RP at *;generalize bidR s i = R at *;have HX : Hid (Box ((w.alloc (.cells #[.int .i64 0, .slice none 0 0] 133)).alloc (.cells #[.string (bstr s), .int .i64 i, .int .i64 0] 176)) w [.int .i64 0, .slice none 0 0]) := (Box.new w #[.int .i64 0, .slice none 0 0] 133).alloc (by simp) _;have HR : Hid (RdR ((w.alloc (.cells #[.int .i64 0, .slice none 0 0] 133)).alloc (.cells #[.string (bstr s), .int .i64 i, .int .i64 0] 176)) (w + 1) s ⟨i, 0⟩) := by
  show RdR _ _ _ _
  refine RdR.start _ _ _ _ hi ?_;have := Box.new (w.alloc (.cells #[.int .i64 0, .slice none 0 0] 133)) #[.string (bstr s), .int .i64 i, .int .i64 0] 176;simpa using this
 have HB : Hid (Below w w ((w.alloc (.cells #[.int .i64 0, .slice none 0 0] 133)).alloc (.cells #[.string (bstr s), .int .i64 i, .int .i64 0] 176))) := (βA _).alloc (by simp) _;have hzz : w + 1 < ((w.alloc (.cells #[.int .i64 0, .slice none 0 0] 133)).alloc (.cells #[.string (bstr s), .int .i64 i, .int .i64 0] 176)).heap.size := by simp
 clear hs hi;go_enter Tryz.func116, Tryz.ntmps116;obtain ⟨q0, s0, q1, s1⟩ := sqX2 HX.out;go_wp2_with fail;refine (KT.out 1 _ _ (by decide) HR.out).mono ?_;rintro e w1 ⟨rfl, hR, hg⟩;have HX1 := η (HX.out.grown hg (by omega) (by omega));have HB1 := η (zC HB.out hg (by omega) (by omega));have hz1 : w + 1 < w1.heap.size := νl hzz hg.size;replace HR := η hR;clear HX HB hzz hR hg;have HX := HX1;have HB := HB1;have hzz := hz1;clear HX1 HB1 hz1;generalize rTok s 1 ⟨i, 0⟩ = rd1 at *;clear q0 q1 s0 s1;obtain ⟨q0, s0, q1, s1⟩ := sqX2 HX.out;go_wp2_with fail;refine (KW.out [98, 105, 100] _ _ HR.out).mono ?_;rintro e w2 ⟨rfl, hR, hg⟩;have HX2 := η (HX.out.grown hg (by omega) (by omega));have HB2 := η (zC HB.out hg (by omega) (by omega));have hz2 : w + 1 < w2.heap.size := νl hzz hg.size;replace HR := η hR;clear HX HB hzz hR hg;have HX := HX2;have HB := HB2;have hzz := hz2;clear HX2 HB2 hz2;generalize rWord s [98, 105, 100] rd1 = rd2 at *;clear q0 q1 s0 s1;obtain ⟨q0, s0, q1, s1⟩ := sqX2 HX.out;go_wp2_with fail;refine (KI.out _ _ HR.out).mono ?_;rintro e w3 ⟨rfl, hR, hg⟩;have HX3 := η (HX.out.grown hg (by omega) (by omega));have HB3 := η (zC HB.out hg (by omega) (by omega));have hz3 : w + 1 < w3.heap.size := νl hzz hg.size;replace HR := η hR;clear HX HB hzz hR hg;have HX := HX3;have HB := HB3;have hzz := hz3;clear HX3 HB3 hz3;generalize rInt s rd2 = ri3 at *;obtain ⟨n3, rd3⟩ := ri3;dsimp only at E HR ⊢;clear q0 q1 s0 s1;obtain ⟨q0, s0, q1, s1⟩ := sqX2 HX.out;replace HR := η (HR.out.set (p := ⟨w, 0, none⟩) (by simp) (.int .i64 n3));replace HX := η (HX.out.set1 0 (by simp) (.int .i64 n3));replace HX : Hid (Box (w3.setCell ⟨w, 0, none⟩ (.int .i64 n3)) w [.int .i64 n3, .slice none 0 0]) := HX.out;replace HB := η (HB.out.setCell (p := ⟨w, 0, none⟩) (νr _) (.int .i64 n3));have hzp : w + 1 < (w3.setCell ⟨w, 0, none⟩ (.int .i64 n3)).heap.size := by simp; omega
 clear hzz;have hzz := hzp;clear hzp;go_wp2_with fail;refine (KL.out _ _ HR.out).mono ?_;rintro e w4 ⟨v, rfl, hrow, hlen4, hR, hg⟩;have HW4 := η (RowO.mono StE.own hrow (base' := w + 2) (by omega));clear hrow;have HX4 := η (HX.out.grown hg (by omega) (by omega));have HB4 := η (zC HB.out hg (by omega) (by omega));have hz4 : w + 1 < w4.heap.size := νl hzz hg.size;replace HR := η hR;clear HX HB hzz hR hg;have HX := HX4;have HB := HB4;have hzz := hz4;clear HX4 HB4 hz4;generalize zZ s (fuel s) rd3 = rl4 at *;obtain ⟨l4, rd4⟩ := rl4;dsimp only at E HR HW4 hlen4 ⊢;obtain ⟨A4, c4, rfl, _⟩ : ∃ A c, v = .slice A l4.length c ∧ l4.length ≤ c := by obtain ⟨_, _, _, _, ho⟩ := HW4.out; exact zQ ho
 clear q0 q1 s0 s1;obtain ⟨q0, s0, q1, s1⟩ := sqX2 HX.out;replace HR := η (HR.out.set (p := ⟨w, 1, none⟩) (by simp) (.slice A4 l4.length c4));replace HX := η (HX.out.set1 1 (by simp) (.slice A4 l4.length c4));replace HX : Hid (Box (w4.setCell ⟨w, 1, none⟩ (.slice A4 l4.length c4)) w [.int .i64 n3, .slice A4 l4.length c4]) := HX.out;replace HB := η (HB.out.setCell (p := ⟨w, 1, none⟩) (νr _) (.slice A4 l4.length c4));replace HW4 := η (HW4.out.set StE.own (g := w) (by omega) [.slice A4 l4.length c4] 1);have hzp : w + 1 < (w4.setCell ⟨w, 1, none⟩ (.slice A4 l4.length c4)).heap.size := by simp; omega
 clear hzz;have hzz := hzp;clear hzp;go_wp2_with fail;refine (KT.out 2 _ _ (by decide) HR.out).mono ?_;rintro e w5 ⟨rfl, hR, hg⟩;have HX5 := η (HX.out.grown hg (by omega) (by omega));have HB5 := η (zC HB.out hg (by omega) (by omega));replace HW4 := η (HW4.out.grown StE.own hg (by omega));have hz5 : w + 1 < w5.heap.size := νl hzz hg.size;replace HR := η hR;clear HX HB hzz hR hg;have HX := HX5;have HB := HB5;have hzz := hz5;clear HX5 HB5 hz5;generalize rTok s 2 rd4 = rd5 at *;clear q0 q1 s0 s1;obtain ⟨q0, s0, q1, s1⟩ := sqX2 HX.out;obtain ⟨i', er, hB, h0, h1, h2, h3⟩ := HR.out.er;have HRB := η hB;obtain ⟨u0, v0, u1, v1, u2, v2⟩ := sqX3 hB;have hz1 : w + 1 < w5.heap.size := hzz;have hz0 : w < w5.heap.size := by omega
 clear hB;by_cases he : rd5.e = 0
 ·obtain rfl : er = 0 := h0.2 he;have hp' := (h3 he).1;subst hp';have HE := η he;clear h0 h1 h2 h3 he;obtain ⟨A', c', hv, hc, hr⟩ := HW4.out.read (E' := StE) (fun _ _ h => h);injection hv with hv1 hv2 hv3
  subst hv1 hv3;have KC := η (kV ⟨n3, l4⟩ A4 c4 w5 hr);clear hr hc;go_wp2_with fail;refine KC.out.mono ?_;rintro e wc ⟨rfl, hbc⟩;have HXc := η (HX.out.up hbc hz0);have HRc := η (HRB.out.up hbc hz1);have HBc := η (HB.out.trans (hbc.mono (κl hz0)));have HW4c := η (HW4.out.below StE.own hbc);have hzc0 : w < wc.heap.size := νl hz0 hbc.size;have hzc1 : w + 1 < wc.heap.size := νl hz1 hbc.size;clear q0 q1 s0 s1 u0 u1 u2 v0 v1 v2 HX HRB HB hz0 hz1 hzz hbc KC;have hz0 := hzc0;have hz1 := hzc1;obtain ⟨q0, s0, q1, s1⟩ := sqX2 HXc.out;obtain ⟨u0, v0, u1, v1, u2, v2⟩ := sqX3 HRc.out;by_cases hk : bidE 6 (⟨n3, l4⟩) = 0
  ·have EE : RP = (0, ⟨n3, l4⟩, rd5.i) := by rw [EP.out, E.out]; simp only [fin, HE.out, hk]; rfl
   rw [hk];go_wp2_with fail;refine zK (X := Unit) (w0 := wc) [5] (fun jq => [0, 0, 0, 0, 0, 1, 1, 1].getD jq 0) (fun jq => [0, 1, 1, 1, 1, 0, 1, 1].getD jq 0) (fun _ => [(4, .pointer (some ⟨w, 0, none⟩)), (7, .pointer (some ⟨w + 1, 0, none⟩)), (43, .agg #[.int .i64 n3, .slice A4 l4.length c4]), (44, .pointer (some ⟨w + 1, 0, none⟩)), (45, .pointer (some ⟨w + 1, 0, none⟩)), (46, .pointer (some ⟨w + 1, 1, none⟩)), (47, .int .i64 rd5.i), (5, .int .i64 rd5.i), (6, .int .i64 0)]) (fun _ => []) [4, 7] (fun t _ W => match t with | 0 => Below wc wc W | _ => ∃ W0, Below wc wc W0 ∧ W = W0.setCells w 0 [.int .i64 n3, .slice A4 l4.length c4]) () (Below.refl _ _).drew ?_ ?_ ?_
   ·intro T x t W hT hI htl;simp only [zA, and_true] at hT;rcases t with _ | _ | t
    ·skip
     replace hI : Below wc wc W := hI;have hsz := hI.size;have hlt : w < W.heap.size := by omega
     have c0 := (HXc.out.up hI hz0).c 0 _ rfl;have g0 := (HXc.out.up hI hz0).f 0 (by simp);have c1 := (HXc.out.up hI hz0).c 1 _ rfl;have g1 := (HXc.out.up hI hz0).f 1 (by simp);have c1z4 := (HRc.out.up hI hz1).c 1 _ rfl;have g1z4 : w + 1 < W.heap.size := νl hz1 hI.size
     repeat' first | exact AllI.nil | apply AllI.cons
     all_goals intro hn hl hu
     all_goals first | exact absurd hn (by decide) | exact absurd hl (by decide) | exact absurd hu (by decide) | (refine rdT ?_; simp [go_sem, EvT, hT, c0, g0, c1, g1, hlt, c1z4, g1z4, valT])
    ·skip
     obtain ⟨W0, hI0, rfl⟩ : ∃ W0, Below wc wc W0 ∧ W = W0.setCells w 0 [.int .i64 n3, .slice A4 l4.length c4] := hI;have c1 := ((HRc.out.up hI0 hz1).others (b' := w) (by omega) 0 [.int .i64 n3, .slice A4 l4.length c4]).c 1 _ rfl;have g1 : w + 1 < (W0.setCells w 0 [.int .i64 n3, .slice A4 l4.length c4]).heap.size := by rw [zD]; exact νl hz1 hI0.size
     generalize W0.setCells w 0 [.int .i64 n3, .slice A4 l4.length c4] = W0 at *;have hI := hI0
     repeat' first | exact AllI.nil | apply AllI.cons
     all_goals intro hn hl hu
     all_goals first | exact absurd hn (by decide) | exact absurd hl (by decide) | exact absurd hu (by decide) | (refine rdT ?_; simp [go_sem, EvT, hT, c1, g1, valT])
    ·exact absurd htl (by simp)
   ·intro T k x W o hk ho hT hI;simp only [zA, and_true] at hT;rcases k with _ | k
    ·cases ho;replace hI : Below wc wc W := hI;have hsz := hI.size;have hlt : w < W.heap.size := by omega
     have c0 := (HXc.out.up hI hz0).c 0 _ rfl;have g0 := (HXc.out.up hI hz0).f 0 (by simp);have c1 := (HXc.out.up hI hz0).c 1 _ rfl;have g1 := (HXc.out.up hI hz0).f 1 (by simp);refine chT_s (W' := ((W.setCell ⟨w, 0, none⟩ (.int .i64 n3)).setCell ⟨w, 1, none⟩ (.slice A4 l4.length c4))) ?_ (⟨W, hI, rfl⟩);clear hI;simp [go_sem, EvT, hT, c0, g0, c1, g1, hlt]
    ·exact absurd hk (by simp)
   intro x wx hI;simp (decide := true) only [putT, valT, look, Act.put, σi, σo, σs, Nat.reduceAdd, if_true, if_false];replace hI : (fun t _ W => match t with | 0 => Below wc wc W | _ => ∃ W0, Below wc wc W0 ∧ W = W0.setCells w 0 [.int .i64 n3, .slice A4 l4.length c4]) 1 x wx := hI
   (try dsimp only at hI)
   obtain ⟨W0, hb0, rfl⟩ : ∃ W0, Below wc wc W0 ∧ wx = W0.setCells w 0 [.int .i64 n3, .slice A4 l4.length c4] := hI;have HXw := η ((HXc.out.up hb0 hz0).sets (vs' := [.int .i64 n3, .slice A4 l4.length c4]) rfl);have HBw := η (zE (HBc.out.trans (hb0.mono (κl hz0))) (νr w) [.int .i64 n3, .slice A4 l4.length c4] 0);have HW4w := η ((HW4c.out.below StE.own hb0).set StE.own (g := w) (by omega) [.int .i64 n3, .slice A4 l4.length c4] 0);have hlt : w < (W0.setCells w 0 [.int .i64 n3, .slice A4 l4.length c4]).heap.size := by rw [zD]; exact νl hz0 hb0.size
   generalize W0.setCells w 0 [.int .i64 n3, .slice A4 l4.length c4] = wz at *;clear hb0 q0 q1 s0 s1 u0 u1 u2 v0 v1 v2;obtain ⟨q0, s0, q1, s1⟩ := sqX2 HXw.out;go_wp2_with fail;exact κr (v := .tuple #[.agg #[.int .i64 n3, .slice A4 l4.length c4], .int .i64 rd5.i, .int .i64 0]) (by simp [results, Tryz.results116, go_sem, q0, q1, hlt]) rfl (by rw [EE]; exact ⟨HBw.out, _, 0, rfl, ⟨_, rfl, HW4w.out.mono StE.own (by omega)⟩, .inl ⟨show (0 : Int) ≠ -1 by decide, rfl⟩⟩)
  ·have EE : RP = (bidE 6 (⟨n3, l4⟩), bd0, 0) := by rw [EP.out, E.out]; simp only [fin, HE.out]; rw [if_neg (by simp), if_pos hk]
   have ec : Hid (bidE 6 (⟨n3, l4⟩) ≠ -1) := aT _ _;generalize bidE 6 (⟨n3, l4⟩) = rc at *;have e1 : (rc == 0) = false := βf hk;have e2 : (rc != 0) = true := βt hk;have HZ := η (HXc.out.sets (vs' := [.int .i64 0, .slice none 0 0]) rfl);have HBz := η (zE HBc.out (νr w) [.int .i64 0, .slice none 0 0] 0);have hlt : w < (wc.setCells w 0 [.int .i64 0, .slice none 0 0]).heap.size := by rw [zD]; exact hz0
   go_wp2_with fail;rw [show ((wc.setCell ⟨w, 0, none⟩ (.int .i64 0)).setCell ⟨w, 1, none⟩ (.slice none 0 0)) = wc.setCells w 0 [.int .i64 0, .slice none 0 0] from rfl];generalize wc.setCells w 0 [.int .i64 0, .slice none 0 0] = wz at *;clear q0 q1 s0 s1 u0 u1 u2 v0 v1 v2;obtain ⟨q0, s0, q1, s1⟩ := sqX2 HZ.out;exact κr (v := .tuple #[.agg #[.int .i64 0, .slice none 0 0], .int .i64 0, .int .i64 rc]) (by simp [results, Tryz.results116, go_sem, q0, q1, hlt]) rfl (by rw [EE]; exact ⟨HBz.out, _, rc, rfl, ⟨_, rfl, RowO.nil_ _ _ _ _ _⟩, .inl ⟨ec.out, rfl⟩⟩)
 ·have EE : RP = (rd5.e, bd0, 0) := by rw [EP.out, E.out]; simp only [fin]; rw [if_pos he]
  have hne : er ≠ 0 := fun h => he (h0.1 h)
  have e1 : (er == 0) = false := βf hne;have e2 : (er != 0) = true := βt hne;have HER : Hid (ErR rd5.e er) := by show ErR _ _; by_cases h : rd5.e = -1; exact .inr ⟨h, h2 h⟩; exact .inl ⟨h, h1 h⟩
  clear h0 h1 h2 h3 he hne;go_wp2_with fail;refine zK (X := Unit) (w0 := w5) [5] (fun jq => [0, 0, 0, 0, 0, 1, 1, 1].getD jq 0) (fun jq => [0, 1, 1, 1, 1, 0, 1, 1].getD jq 0) (fun _ => [(7, .pointer (some ⟨w + 1, 0, none⟩)), (4, .pointer (some ⟨w, 0, none⟩)), (32, .agg #[.int .i64 0, .slice none 0 0]), (33, .pointer (some ⟨w + 1, 0, none⟩)), (34, .pointer (some ⟨w + 1, 0, none⟩)), (35, .pointer (some ⟨w + 1, 2, none⟩)), (36, .int .i64 er), (5, .int .i64 0), (6, .int .i64 er)]) (fun _ => []) [7, 4] (fun t _ W => match t with | 0 => Below w5 w5 W | _ => ∃ W0, Below w5 w5 W0 ∧ W = W0.setCells w 0 [.int .i64 0, .slice none 0 0]) () (Below.refl _ _).drew ?_ ?_ ?_
  ·intro T x t W hT hI htl;simp only [zA, and_true] at hT;rcases t with _ | _ | t
   ·skip
    replace hI : Below w5 w5 W := hI;have c2 := (HRB.out.up hI hz1).c 2 _ rfl;have g2 : w + 1 < W.heap.size := νl hz1 hI.size
    repeat' first | exact AllI.nil | apply AllI.cons
    all_goals intro hn hl hu
    all_goals first | exact absurd hn (by decide) | exact absurd hl (by decide) | exact absurd hu (by decide) | (refine rdT ?_; simp [go_sem, EvT, hT, c2, g2, valT])
   ·skip
    obtain ⟨W0, hI0, rfl⟩ : ∃ W0, Below w5 w5 W0 ∧ W = W0.setCells w 0 [.int .i64 0, .slice none 0 0] := hI;have c2 := ((HRB.out.up hI0 hz1).others (b' := w) (by omega) 0 [.int .i64 0, .slice none 0 0]).c 2 _ rfl;have g2 : w + 1 < (W0.setCells w 0 [.int .i64 0, .slice none 0 0]).heap.size := by rw [zD]; exact νl hz1 hI0.size
    generalize W0.setCells w 0 [.int .i64 0, .slice none 0 0] = W0 at *;have hI := hI0
    repeat' first | exact AllI.nil | apply AllI.cons
    all_goals intro hn hl hu
    all_goals first | exact absurd hn (by decide) | exact absurd hl (by decide) | exact absurd hu (by decide) | (refine rdT ?_; simp [go_sem, EvT, hT, c2, g2, valT])
   ·exact absurd htl (by simp)
  ·intro T k x W o hk ho hT hI;simp only [zA, and_true] at hT;rcases k with _ | k
   ·cases ho;replace hI : Below w5 w5 W := hI;have hsz := hI.size;have hlt : w < W.heap.size := by omega
    have c0 := (HX.out.up hI hz0).c 0 _ rfl;have g0 := (HX.out.up hI hz0).f 0 (by simp);have c1 := (HX.out.up hI hz0).c 1 _ rfl;have g1 := (HX.out.up hI hz0).f 1 (by simp);refine chT_s (W' := ((W.setCell ⟨w, 0, none⟩ (.int .i64 0)).setCell ⟨w, 1, none⟩ (.slice none 0 0))) ?_ (⟨W, hI, rfl⟩);clear hI;simp [go_sem, EvT, hT, c0, g0, c1, g1, hlt]
   ·exact absurd hk (by simp)
  intro x wx hI;simp (decide := true) only [putT, valT, look, Act.put, σi, σo, σs, Nat.reduceAdd, if_true, if_false];replace hI : (fun t _ W => match t with | 0 => Below w5 w5 W | _ => ∃ W0, Below w5 w5 W0 ∧ W = W0.setCells w 0 [.int .i64 0, .slice none 0 0]) 1 x wx := hI
  (try dsimp only at hI)
  obtain ⟨W0, hb0, rfl⟩ : ∃ W0, Below w5 w5 W0 ∧ wx = W0.setCells w 0 [.int .i64 0, .slice none 0 0] := hI;have HXw := η ((HX.out.up hb0 hz0).sets (vs' := [.int .i64 0, .slice none 0 0]) rfl);have HBw := η (zE (HB.out.trans (hb0.mono (κl hz0))) (νr w) [.int .i64 0, .slice none 0 0] 0);have hlt : w < (W0.setCells w 0 [.int .i64 0, .slice none 0 0]).heap.size := by rw [zD]; exact νl hz0 hb0.size
  generalize W0.setCells w 0 [.int .i64 0, .slice none 0 0] = wz at *;clear hb0 q0 q1 s0 s1 u0 u1 u2 v0 v1 v2;obtain ⟨q0, s0, q1, s1⟩ := sqX2 HXw.out;go_wp2_with fail;exact κr (v := .tuple #[.agg #[.int .i64 0, .slice none 0 0], .int .i64 0, .int .i64 er]) (by simp [results, Tryz.results116, go_sem, q0, q1, hlt]) rfl (by rw [EE]; exact ⟨HBw.out, _, er, rfl, ⟨_, rfl, RowO.nil_ _ _ _ _ _⟩, HER.out⟩)
def intsP (s : Bytes) : Nat → Rd → List Int × Rd
 | 0, rd => ([], rd)
 | n + 1, rd => ((rInt s rd).1 :: (intsP s n (rInt s rd).2).1, (intsP s n (rInt s rd).2).2)
theorem rP : (Tryz.prog.info? 2).map (fun i => (i.zero, i.size, i.bytes)) = some (some (.int .i64 0), 1, 8) := by kernel_rfl
theorem cA (w : World) (t : TypeId) (n : Nat) : Box (w.alloc (.cells (madeCells #[.int .i64 0] n) t)) w (([] ++ List.replicate n (0 : Int)).map (Value.int .i64)) := by
 have := Box.new w (madeCells #[.int .i64 0] n) t;have e : (madeCells #[Value.int .i64 0] n).toList = ([] ++ List.replicate n (0 : Int)).map (Value.int .i64) := by
  apply List.ext_getElem
  ·simp [madeCells]
  ·intro i h1 h2;simp [madeCells, Nat.mod_one]
 rw [e] at this;exact this
theorem bH (acc : List Int) (g : Nat) (x : Int) : ((acc ++ List.replicate (g + 1) (0 : Int)).map (Value.int .i64)).set acc.length (.int .i64 x) = ((acc ++ [x]) ++ List.replicate g (0 : Int)).map (Value.int .i64) := by
 rw [← List.map_set, List.set_append_right _ _ (νr _), Nat.sub_self, List.replicate_succ, σo, κq];rfl
theorem RdR.set' {w : World} {b : Nat} {s : Bytes} {rd : Rd} (h : RdR w b s rd) {p : Addr} (hp : p.block ≠ b) (v : Value) : RdR (w.setCell p v) b s rd := h.set hp v
theorem mI {a w : World} {b b' : Nat} (h : a.grownBy w (some b)) (hb : a ≤ b') (o : Nat) (v : Value) : a.grownBy (w.setCell ⟨b', o, none⟩ v) (some b) := jU h hb [v] o
def ManyE (b : Nat) (s : Bytes) (n : Nat) (r : List Int × Rd) (w : World) (e : Ending) (w' : World) : Prop :=
 ∃ g, e = .returned (.slice (some ⟨g, 0, none⟩) n n) ∧ w ≤ g ∧ Box w' g (r.1.map (.int .i64)) ∧ RdR w' b s r.2 ∧ w.grownBy w' (some b)
theorem fC (b n : Nat) (s : Bytes) (rd0 : Rd) (w : World) (hs : SlOk s) (hl : s.length ≤ 1000000) (hn : n ≤ 4) (hR : RdR w b s rd0) :
  Calls Tryz.prog 119 #[.pointer (some ⟨b, 0, none⟩), .int .i64 n, .func (.func 104) #[] #[]] w (ManyE b s n (intsP s n rd0) w) := by
 have hmk := fun W => run_make_row' (P := Tryz.prog) 186 2 (.int .i64 0) 8 Tryz.underlying186 rP rfl .i64 .i64 n (by omega) (by omega) W
 have HR0 := η (hR.alloc (.cells (madeCells #[.int .i64 0] n) 2));have HX0 := η (cA w 2 n);have HG0 := η (qU (World.grownBy.refl w (some b)) (.cells (madeCells #[.int .i64 0] n) 2));have hbw := hR.lt;have hzz : w < (w.alloc (.cells (madeCells #[.int .i64 0] n) 2)).heap.size := by simp
 have K1 := η fun rd W hR => kS b s rd W hs hl hR
 generalize hst : intsP s n rd0 = R at *;have HST := η hst;clear hR hs hst;go_enter Tryz.func119, Tryz.ntmps119;go_wp2_with fail;clear hmk;generalize w.alloc (.cells (madeCells #[.int .i64 0] n) 2) = W0 at *;go_loopg [13, 8] n (fun g s13 s8 wr => ∃ rd acc, s13 = .int .i64 (acc.length : Nat) ∧ acc.length + g = n ∧ Box wr w ((acc ++ List.replicate g (0 : Int)).map (Value.int .i64)) ∧ w < wr.heap.size ∧ RdR wr b s rd ∧ w.grownBy wr (some b) ∧ R = (acc ++ (intsP s g rd).1, (intsP s g rd).2))
 case atStart => exact ⟨rd0, [], rfl, by simp, HX0.out, hzz, HR0.out, HG0.out, HST.out.symm⟩
 case round =>
  obtain ⟨rd, acc, rfl, hlen, hX, hzr, hR, hg, hst⟩ := hrel;have HX := η hX;have HR := η hR;have HG := η hg;have HS := η hst;clear hX hR hg hst HX0 HR0 HG0;cases gk with
  | zero =>
   have hd : decide ((acc.length : Int) < (n : Int)) = false := κf (by omega);go_wp2_with fail;go_ret;refine ⟨_, rfl, νr _, ?_, ?_, HG.out⟩
   ·have := HX.out;rw [HS.out];simpa [intsP] using this
   ·rw [HS.out]; exact HR.out
  | succ g =>
   have hd : decide ((acc.length : Int) < (n : Int)) = true := κt (by omega);have K2 := η fun W hR => K1.out rd W hR
   have HI : Hid (intsP s (g + 1) rd = ((rInt s rd).1 :: (intsP s g (rInt s rd).2).1, (intsP s g (rInt s rd).2).2)) := rfl;generalize rInt s rd = sp at *;obtain ⟨q, rd'⟩ := sp;go_wp2_with fail;refine (K2.out _ HR.out).mono ?_;rintro e w3 ⟨rfl, hR3, hg3⟩;have HX3 := η (HX.out.grown hg3 (by omega) hzr);have HG3 := η (zB HG.out hg3);have hz3 : w < w3.heap.size := νl hzr hg3.size;have hlt : acc.length < n := by omega
   have hli : (acc.length : Int) < (n : Int) := by omega
   have hl0 : (0 : Int) ≤ (acc.length : Int) := by omega
   have hl1 : (acc.length : Int) ≤ 4 := by omega
   have c0 : w3.cell? ⟨w, acc.length, none⟩ = some (.int .i64 0) := HX3.out.c acc.length _ (by simp);have f0 : w3.frozen? ⟨w, acc.length, none⟩ = false := HX3.out.f acc.length (by simp);have HX4 := η (HX3.out.set1 acc.length (by simp) (.int .i64 q));have HR4 := η (hR3.set' (p := ⟨w, acc.length, none⟩) (show w ≠ b by omega) (.int .i64 q));have HG4 := η (mI HG3.out (νr _) acc.length (.int .i64 q));clear hR3 hg3 HX HG HR HX3 HG3;go_wp2_with fail;go_roundg g
   case measure => omega
   case rel =>
    refine ⟨rd', acc ++ [q], ?_, ?_, ?_, ?_, HR4.out, HG4.out, ?_⟩
    ·simp
    ·rw [κa, List.length_singleton]; omega
    ·rw [← bH]; exact HX4.out
    ·simpa using hz3
    ·rw [HS.out, HI.out, κq]; rfl
end Go.Proofs.YtkfhpefmmhljmaaGreatDoor
