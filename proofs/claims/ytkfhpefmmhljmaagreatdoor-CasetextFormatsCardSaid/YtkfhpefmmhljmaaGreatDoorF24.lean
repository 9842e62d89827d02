/- Texts in one: CtR, CpA. -/
import Derived.Test.YtkfhpefmmhljmaaGreatDoorF23
set_option linter.unusedVariables false
set_option linter.unusedSimpArgs false
set_option maxHeartbeats 16000000
set_option maxRecDepth 100000
namespace Go.Proofs.YtkfhpefmmhljmaaGreatDoor
open Go.RowKit
theorem vG (b : Nat) (s : ByteArray) (i nx er : Int) (w : World) (hB : Box w b [.string s, .int .i64 i, .int .i64 0]) :
  Calls Tryz.prog 165 #[.pointer (some ⟨b, 0, none⟩), .int .i64 nx, .int .i64 er] w fun e w' => e = .returned (.tuple #[]) ∧ Box w' b [.string s, .int .i64 (mvI er nx i), .int .i64 er] ∧ w.grownBy w' (some b) := by
 have HX := η hB;obtain ⟨q0, s0, q1, s1, q2, s2⟩ := sqX3 hB;clear hB;by_cases h : er = 0
 ·subst h;have HF := η ((HX.out.set1 2 (by simp) (.int .i64 0)).set1 1 (by simp) (.int .i64 nx));go_enter Tryz.func165, Tryz.ntmps165;go_wp2_with fail;exact bodyPost_end (v := .tuple #[]) (by simp [results, Tryz.results165, go_sem]) rfl ⟨rfl, HF.out, qD (p := ⟨b, 1, none⟩) (qD (p := ⟨b, 2, none⟩) (World.grownBy.refl _ _) (.inl rfl) _) (.inl rfl) _⟩
 ·have e0 : (er == 0) = false := βf h;have HM : Hid (mvI er nx i = i) := if_neg h;have HF := η (HX.out.set1 2 (by simp) (.int .i64 er));clear h;go_enter Tryz.func165, Tryz.ntmps165;go_wp2_with fail;exact bodyPost_end (v := .tuple #[]) (by simp [results, Tryz.results165, go_sem]) rfl ⟨rfl, by rw [HM.out]; exact HF.out, qD (p := ⟨b, 2, none⟩) (World.grownBy.refl _ _) (.inl rfl) _⟩
theorem dS (b : Nat) (s : Bytes) (y : Bytes) (rd : Rd) (w : World) (hs : SlOk s) (hl : s.length ≤ 1000000)  (hR : RdR w b s rd) :
  Calls Tryz.prog 103 #[.pointer (some ⟨b, 0, none⟩), .string (bstr y)] w (StepR b s (rWord s y rd) w) := by
 have hR0 := hR;obtain ⟨i, er, hB, h0, h1, h2, h3⟩ := hR.er;have HB := η hB;obtain ⟨q0, s0, q1, s1, q2, s2⟩ := sqX3 hB;by_cases he : rd.e = 0
 ·obtain rfl := h0.2 he;obtain ⟨rfl, hi1, hi2⟩ := h3 he;have E : Hid (rWord s y rd = rMove rd (expW s rd.i y).1 (expW s rd.i y).2) := if_neg (by rw [he]; simp);have K1 := η fun W => xJ s rd.i y W hs ⟨hi1, hi2⟩ hl
  have hlt : b < w := hB.lt (by simp);clear hB hR hR0 h0 h1 h2 h3 he;go_enter Tryz.func103, Tryz.ntmps103;go_wp2_with fail;refine zT (X := Int × Int) (w0 := w) 9 1000 1000 9999 [(0, .pointer (some ⟨b, 0, none⟩)), (1, .string (bstr y)), (12, .pointer (some ⟨b, 0, none⟩)), (13, .pointer (some ⟨b, 0, none⟩)), (14, .pointer (some ⟨b, 0, none⟩)), (15, .string (bstr s)), (16, .pointer (some ⟨b, 0, none⟩)), (17, .pointer (some ⟨b, 0, none⟩)), (18, .pointer (some ⟨b, 1, none⟩)), (19, .int .i64 rd.i), (20, .string (bstr y))] [21, 11, 22, 23, 4, 5] (fun x => [(21, .tuple #[.int .i64 x.1, .int .i64 x.2]), (11, .tuple #[.int .i64 x.1, .int .i64 x.2]), (22, .int .i64 x.1), (23, .int .i64 x.2), (4, .int .i64 x.1), (5, .int .i64 x.2)]) [0, 1] (fun x _ => MvP (expW s rd.i y) x.1 x.2) [] 0 (fun x => []) (fun _ _ _ _ h => h) ?_ ?_ noSt ?_
  ·intro T W hT hI;simp only [zA, and_true] at hT;have c0 := (hI.cell (p := ⟨b, 0, none⟩) hlt).trans q0;have c1 := (hI.cell (p := ⟨b, 1, none⟩) hlt).trans q1
   repeat' first | exact AllI.nil | apply AllI.cons
   all_goals intro hn hm hq
   all_goals first | exact absurd rfl hn | exact absurd rfl hm | exact absurd rfl hq | (refine opN (rdT ?_); simp [go_sem, EvT, hT, c0, c1, valT]; done) | (refine opX fun x hD _ => rdT ?_; simp only [zA, and_true] at hD; simp [go_sem, EvT, hT, c0, c1, hD, valT])
  ·intro T W o ho hT hI;cases ho;simp only [zA, and_true] at hT;exact ⟨101, #[.string (bstr s), .int .i64 rd.i, .string (bstr y)], by simp [go_sem, EvT, hT], (K1.out W).mono fun e w' ⟨hb, nx, er, he, hP⟩ => ⟨(nx, er), he, hP, hb⟩⟩
  intro x g wx hb hP hG;simp (decide := true) only [putT, look, κw, List.nil_append, Act.put, σi, σo, σs, Nat.reduceAdd, if_true, if_false];replace hP : (fun x _ => MvP (expW s rd.i y) x.1 x.2) x wx := hP
  (try dsimp only at hP)
  clear hG;have HBX := η (HB.out.up hb hlt);have HW := η (zJ (b := b) hb);have HP := η hP;have HL := η (fun h => mM s rd.i y h);clear K1 HB hb hP q0 q1 q2 s0 s1 s2;obtain ⟨nx, er⟩ := x;go_wp2_with fail;refine (vG b (bstr s) rd.i nx er _ HBX.out).mono ?_;rintro e w2 ⟨rfl, hB2, hg2⟩;go_wp2_with fail;exact bodyPost_end (v := .tuple #[]) (by simp [results, Tryz.results103, go_sem]) rfl ⟨rfl, by rw [E.out]; exact RdR.move hB2 HP.out HL.out hl, zB HW.out hg2⟩
 ·have E : Hid (rWord s y rd = rd) := if_pos he;have e0 : (er == 0) = false := βf fun h => he (h0.1 h)
  have e1 : (er != 0) = true := βt fun h => he (h0.1 h)
  have HR := η hR0;clear hB hR hR0 h0 h1 h2 h3 he;go_enter Tryz.func103, Tryz.ntmps103;go_wp2_with fail;exact κr (v := .tuple #[]) (by simp [results, Tryz.results103, go_sem]) rfl ⟨rfl, by rw [E.out]; exact HR.out, World.grownBy.refl _ _⟩
theorem yQ (b : Nat) (s : Bytes)  (rd : Rd) (w : World) (hs : SlOk s) (hl : s.length ≤ 1000000)  (hR : RdR w b s rd) :
  Calls Tryz.prog 104 #[.pointer (some ⟨b, 0, none⟩)] w (IntR b s (rInt s rd) w) := by
 have hR0 := hR;obtain ⟨i, er, hB, h0, h1, h2, h3⟩ := hR.er;have HB := η hB;obtain ⟨q0, s0, q1, s1, q2, s2⟩ := sqX3 hB;by_cases he : rd.e = 0
 ·obtain rfl := h0.2 he;obtain ⟨rfl, hi1, hi2⟩ := h3 he;have E : Hid (rInt s rd = ((expI s rd.i).2.1, rMove rd (expI s rd.i).1 (expI s rd.i).2.2)) := if_neg (by rw [he]; simp);have K1 := η fun W => xX s rd.i W hs ⟨hi1, hi2⟩ hl
  have hlt : b < w := hB.lt (by simp);clear hB hR hR0 h0 h1 h2 h3 he;go_enter Tryz.func104, Tryz.ntmps104;go_wp2_with fail;refine zT (X := Int × Int × Int) (w0 := w) 8 1000 1000 9999 [(0, .pointer (some ⟨b, 0, none⟩)), (12, .pointer (some ⟨b, 0, none⟩)), (13, .pointer (some ⟨b, 0, none⟩)), (14, .pointer (some ⟨b, 0, none⟩)), (15, .string (bstr s)), (16, .pointer (some ⟨b, 0, none⟩)), (17, .pointer (some ⟨b, 0, none⟩)), (18, .pointer (some ⟨b, 1, none⟩)), (19, .int .i64 rd.i)] [20, 11, 21, 22, 23, 3, 4, 5] (fun x => [(20, .tuple #[.int .i64 x.1, .int .i64 x.2.1, .int .i64 x.2.2]), (11, .tuple #[.int .i64 x.1, .int .i64 x.2.1, .int .i64 x.2.2]), (21, .int .i64 x.1), (22, .int .i64 x.2.1), (23, .int .i64 x.2.2), (3, .int .i64 x.1), (4, .int .i64 x.2.1), (5, .int .i64 x.2.2)]) [0] (fun x _ => IntP (expI s rd.i) x.1 x.2.1 x.2.2) [] 0 (fun x => []) (fun _ _ _ _ h => h) ?_ ?_ noSt ?_
  ·intro T W hT hI;simp only [zA, and_true] at hT;have c0 := (hI.cell (p := ⟨b, 0, none⟩) hlt).trans q0;have c1 := (hI.cell (p := ⟨b, 1, none⟩) hlt).trans q1
   repeat' first | exact AllI.nil | apply AllI.cons
   all_goals intro hn hm hq
   all_goals first | exact absurd rfl hn | exact absurd rfl hm | exact absurd rfl hq | (refine opN (rdT ?_); simp [go_sem, EvT, hT, c0, c1, valT]; done) | (refine opX fun x hD _ => rdT ?_; simp only [zA, and_true] at hD; simp [go_sem, EvT, hT, c0, c1, hD, valT])
  ·intro T W o ho hT hI;cases ho;simp only [zA, and_true] at hT;exact ⟨166, #[.string (bstr s), .int .i64 rd.i], by simp [go_sem, EvT, hT], (K1.out W).mono fun e w' ⟨hb, n, nx, er, he, hP⟩ => ⟨(n, nx, er), he, hP, hb⟩⟩
  intro x g wx hb hP hG;simp (decide := true) only [putT, look, κw, List.nil_append, Act.put, σi, σo, σs, Nat.reduceAdd, if_true, if_false];replace hP : (fun x _ => IntP (expI s rd.i) x.1 x.2.1 x.2.2) x wx := hP
  (try dsimp only at hP)
  clear hG;have HBX := η (HB.out.up hb hlt);have HW := η (zJ (b := b) hb);have HP := η hP;have HL := η (fun h => mO s rd.i h);clear K1 HB hb hP q0 q1 q2 s0 s1 s2;obtain ⟨n, nx, er⟩ := x;go_wp2_with fail;refine (vG b (bstr s) rd.i nx er _ HBX.out).mono ?_;rintro e w2 ⟨rfl, hB2, hg2⟩;go_wp2_with fail;refine κr (v := .int .i64 n) (by simp [results, Tryz.results104, go_sem]) rfl ⟨by rw [E.out]; exact zC HP.out.1, by rw [E.out]; exact RdR.move (r := ((expI s rd.i).1, (expI s rd.i).2.2)) hB2 HP.out.2 HL.out hl, zB HW.out hg2⟩
 ·have E : Hid (rInt s rd = (0, rd)) := if_pos he;have e0 : (er == 0) = false := βf fun h => he (h0.1 h)
  have e1 : (er != 0) = true := βt fun h => he (h0.1 h)
  have HR := η hR0;clear hB hR hR0 h0 h1 h2 h3 he;go_enter Tryz.func104, Tryz.ntmps104;go_wp2_with fail;exact κr (v := .int .i64 0) (by simp [results, Tryz.results104, go_sem]) rfl ⟨by rw [E.out], by rw [E.out]; exact HR.out, World.grownBy.refl _ _⟩
theorem Box.grown {w w' : World} {g b : Nat} {vs : List Value} (h : Box w g vs) (hg : w.grownBy w' (some b)) (hne : g ≠ b) (hlt : g < w) : Box w' g vs := fun j hj =>
 have hb : w'.heap[g]? = w.heap[g]? := hg.block g hlt (fun e => hne (by injection e))
 ⟨(World.cell?_of_block (a := ⟨g, j, none⟩) hb).trans (h j hj).1, (World.frozen?_of_block (a := ⟨g, j, none⟩) hb).trans (h j hj).2⟩
theorem xB {a w : World} {b b' : Nat} (h : a.grownBy w (some b)) (hb : a ≤ b') : ∀ (vs : List Value) (o : Nat), a.grownBy (w.setCells b' o vs) (some b) := by
 intro vs
 induction vs generalizing w with
 | nil => intro o; exact h
 | cons v r ih => intro o; rw [World.setCells]; exact ih (qD h (p := ⟨b', o, none⟩) (.inr hb) v) _
def TokE (b : Nat) (s : Bytes) (k : Int) (rd : Rd) (w : World) (e : Ending) (w' : World) : Prop := ∃ k' t ng A l c ng' A' l' c', e = .returned (tkV k' t ng A l c ng' A' l' c') ∧
 (rd.e = 0 → (expT s rd.i k).1 = 0 → t = bstr (qY (expT s rd.i k).2.1)) ∧ RdR w' b s (rTok s k rd) ∧ w.grownBy w' (some b)
theorem NextP.tx {r : Int × Tk × Int} {w : World} {k : Int} {t : ByteArray} {n1 n2 : Value} {nx er : Int} (h : NextP r w k t n1 n2 nx er) : r.1 = 0 → t = bstr (qY r.2.1) := fun h0 => by
 rcases h with ⟨h1, h2, h3⟩ | ⟨h1, h2⟩
 ·exact (h3 h0).2.2.1
 ·rw [h1] at h0; cases h0
theorem xU (b : Nat) (s : Bytes) (k : Int) (rd : Rd) (w : World) (hs : SlOk s) (hl : s.length ≤ 1000000) (hk : k ≠ 4) (hR : RdR w b s rd) :
  Calls Tryz.prog 102 #[.pointer (some ⟨b, 0, none⟩), .int .u8 k] w (TokE b s k rd w) := by
 have hR0 := hR;obtain ⟨i, er, hB, h0, h1, h2, h3⟩ := hR.er;have HB := η hB;by_cases he : rd.e = 0
 ·obtain rfl := h0.2 he;obtain ⟨rfl, hi1, hi2⟩ := h3 he;have E : Hid (rTok s k rd = rMove rd (expT s rd.i k).1 (expT s rd.i k).2.2) := if_neg (by rw [he]; simp);have K1 := η fun W => xN s rd.i k W hs ⟨hi1, hi2⟩ hl
  have hblt : b < w := hB.lt (by simp);have hB1 := hB.alloc hblt (.cells #[.int .u8 0, .string ⟨#[]⟩, .bool false, .slice none 0 0, .bool false, .slice none 0 0] 87);have HB1 := η hB1;obtain ⟨q0, s0, q1, s1, q2, s2⟩ := sqX3 hB1;have hlt : b < (w.alloc (.cells #[.int .u8 0, .string ⟨#[]⟩, .bool false, .slice none 0 0, .bool false, .slice none 0 0] 87)).heap.size := by simp; omega
  clear hB hB1 hR hR0 h0 h1 h2 h3 he HB;go_enter Tryz.func102, Tryz.ntmps102;go_wp2_with fail;refine zT (X := TkX) (w0 := (w.alloc (.cells #[.int .u8 0, .string ⟨#[]⟩, .bool false, .slice none 0 0, .bool false, .slice none 0 0] 87))) 9 14 15 5 [(0, .pointer (some ⟨b, 0, none⟩)), (1, .int .u8 k), (15, .pointer (some ⟨b, 0, none⟩)), (16, .pointer (some ⟨b, 0, none⟩)), (17, .pointer (some ⟨b, 0, none⟩)), (18, .string (bstr s)), (19, .pointer (some ⟨b, 0, none⟩)), (20, .pointer (some ⟨b, 0, none⟩)), (21, .pointer (some ⟨b, 1, none⟩)), (22, .int .i64 rd.i), (23, .int .u8 k)] [24, 14, 25, 26, 27, 6, 7] (fun x => [(24, .tuple #[.agg #[.int .u8 x.k, .string x.t, .bool x.ng, .slice x.A x.l x.c, .bool x.ng', .slice x.A' x.l' x.c'], .int .i64 x.nx, .int .i64 x.er]), (14, .tuple #[.agg #[.int .u8 x.k, .string x.t, .bool x.ng, .slice x.A x.l x.c, .bool x.ng', .slice x.A' x.l' x.c'], .int .i64 x.nx, .int .i64 x.er]), (25, .agg #[.int .u8 x.k, .string x.t, .bool x.ng, .slice x.A x.l x.c, .bool x.ng', .slice x.A' x.l' x.c']), (26, .int .i64 x.nx), (27, .int .i64 x.er), (6, .int .i64 x.nx), (7, .int .i64 x.er)]) [0, 1] (fun x _ => MvP ((expT s rd.i k).1, (expT s rd.i k).2.2) x.nx x.er ∧ ((expT s rd.i k).1 = 0 → x.t = bstr (qY (expT s rd.i k).2.1))) [.int .u8 0, .string ⟨#[]⟩, .bool false, .slice none 0 0, .bool false, .slice none 0 0] 87 (fun x => [.int .u8 x.k, .string x.t, .bool x.ng, .slice x.A x.l x.c, .bool x.ng', (Value.slice x.A' x.l' x.c')]) (fun _ _ _ _ h => h) ?_ ?_ ?_ ?_
  ·intro T W hT hI;simp only [zA, and_true] at hT;have c0 := (hI.cell (p := ⟨b, 0, none⟩) hlt).trans q0;have c1 := (hI.cell (p := ⟨b, 1, none⟩) hlt).trans q1
   repeat' first | exact AllI.nil | apply AllI.cons
   all_goals intro hn hm hq
   all_goals first | exact absurd rfl hn | exact absurd rfl hm | exact absurd rfl hq | (refine opN (rdT ?_); simp [go_sem, EvT, hT, c0, c1, valT]; done) | (refine opX fun x hD _ => rdT ?_; simp only [zA, and_true] at hD; simp [go_sem, EvT, hT, c0, c1, hD, valT])
  ·intro T W o ho hT hI;cases ho;simp only [zA, and_true] at hT;exact ⟨121, #[.string (bstr s), .int .i64 rd.i, .int .u8 k], by simp [go_sem, EvT, hT], (K1.out W).mono fun e w' ⟨hb, k', t, ng, A, l, c, ng', A', l', c', nx, er, he, hP, hK⟩ => ⟨⟨k', t, ng, A, l, c, ng', A', l', c', nx, er⟩, he, ⟨hP.mv hK hk, hP.tx⟩, hb⟩⟩
  ·intro _ T x gg W o ho hT hD hgm hP hI h1 h2 hbox htb;cases ho;simp only [zA, and_true] at hT hD;obtain ⟨b0, c0, b1, c1, b2, c2, b3, c3, b4, c4, b5, c5⟩ := sqX6 hbox;refine ⟨?_, hP, rfl⟩;clear hP hI hbox htb;simp [go_sem, EvT, hT, hD, hgm, b0, c0, b1, c1, b2, c2, b3, c3, b4, c4, b5, c5]
   try rfl
  intro x g wx hb hP hG;simp (decide := true) only [putT, look, κw, List.nil_append, Act.put, σi, σo, σs, Nat.reduceAdd, if_true, if_false];replace hP : (fun x _ => MvP ((expT s rd.i k).1, (expT s rd.i k).2.2) x.nx x.er ∧ ((expT s rd.i k).1 = 0 → x.t = bstr (qY (expT s rd.i k).2.1))) x wx := hP
  (try dsimp only at hP)
  obtain ⟨hg1, hg2, hg3⟩ : (w.alloc (.cells #[.int .u8 0, .string ⟨#[]⟩, .bool false, .slice none 0 0, .bool false, .slice none 0 0] 87)).heap.size ≤ g ∧ g < wx ∧ Box wx g [.int .u8 x.k, .string x.t, .bool x.ng, .slice x.A x.l x.c, .bool x.ng', (Value.slice x.A' x.l' x.c')] := ⟨(hG (by decide)).1, (hG (by decide)).2.1, (hG (by decide)).2.2 (by decide)⟩;clear hG;have HBX := η (HB1.out.up hb hlt);have HZ := η ((Box.new w #[.int .u8 0, .string ⟨#[]⟩, .bool false, .slice none 0 0, .bool false, .slice none 0 0] 87).up hb (by simp));have HW := η (zB (zJ (b := b) (βA (.cells #[.int .u8 0, .string ⟨#[]⟩, .bool false, .slice none 0 0, .bool false, .slice none 0 0] 87))) (zJ (b := b) hb));have HP := η hP;have HG := η hg3;have hgs : w + 1 ≤ g := by simpa using hg1
  have hgx := hg2;have hsx : w < wx.heap.size := by omega
  have HL := η (fun h => yI s rd.i k h);clear K1 HB1 hb hg1 hg2 hg3 hP hlt q0 q1 q2 s0 s1 s2;obtain ⟨xk, xt, xng, xA, xl, xc, xng', xA', xl', xc', nx, er⟩ := x;go_wp2_with fail;refine (vG b (bstr s) rd.i nx er _ HBX.out).mono ?_;rintro e w2 ⟨rfl, hB2, hg2⟩;have hG2 := HG.out.grown hg2 (by omega) hgx;have hZ2 := HZ.out.grown hg2 (by omega) hsx;have HX2 := η hB2;have HW2 := η (zB HW.out hg2);have hs2 : w < w2.heap.size := νl hsx hg2.size;obtain ⟨g0, y0, g1, y1, g2, y2, g3, y3, g4, y4, g5, y5⟩ := sqX6 hG2;obtain ⟨q0, s0, q1, s1, q2, s2, q3, s3, q4, s4, q5, s5⟩ := sqX6 hZ2;clear hG2 hB2 hg2 HBX HG HZ HW;go_wp2_with fail;refine κr (v := .agg #[.int .u8 xk, .string xt, .bool xng, .slice xA xl xc, .bool xng', .slice xA' xl' xc']) (by simp [results, Tryz.results102, go_sem, q0, q1, q2, q3, q4, q5]) rfl ⟨xk, xt, xng, xA, xl, xc, xng', xA', xl', xc', rfl, fun _ h => HP.out.2 h, ?_, ?_⟩
  ·rw [E.out];refine RdR.move (i := rd.i) (nx := nx) (er := er) (r := ((expT s rd.i k).1, (expT s rd.i k).2.2)) ?_ HP.out.1 HL.out hl;exact HX2.out.others (b' := w) (by omega) 0 [.int .u8 xk, .string xt, .bool xng, .slice xA xl xc, .bool xng', .slice xA' xl' xc']
  ·exact xB HW2.out (νr _) [.int .u8 xk, .string xt, .bool xng, .slice xA xl xc, .bool xng', .slice xA' xl' xc'] 0
 ·have E : Hid (rTok s k rd = rd) := if_pos he;have e0 : (er == 0) = false := βf fun h => he (h0.1 h)
  have e1 : (er != 0) = true := βt fun h => he (h0.1 h)
  have HR := η (hR0.alloc (.cells #[.int .u8 0, .string ⟨#[]⟩, .bool false, .slice none 0 0, .bool false, .slice none 0 0] 87));have HE := η he;have hblt : b < w := hB.lt (by simp);have hB1 := hB.alloc hblt (.cells #[.int .u8 0, .string ⟨#[]⟩, .bool false, .slice none 0 0, .bool false, .slice none 0 0] 87);obtain ⟨q0, s0, q1, s1, q2, s2⟩ := sqX3 hB;clear hB hB1 hR hR0 h0 h1 h2 h3 he HB;go_enter Tryz.func102, Tryz.ntmps102;go_wp2_with fail;exact κr (v := .agg #[.int .u8 0, .string ⟨#[]⟩, .bool false, .slice none 0 0, .bool false, .slice none 0 0]) (by simp [results, Tryz.results102, go_sem]) rfl ⟨0, ⟨#[]⟩, false, none, 0, 0, false, none, 0, 0, rfl, fun h => absurd h HE.out, by rw [E.out]; exact HR.out, zJ (βA _)⟩
theorem qU {w : World} {b : Nat} {t : TypeId} {n m : Nat} {v : Value} {xs ys : List Value} (h : w.ownsRow b t n v m xs) (k : w.ownsRow b t n v m ys) : xs = ys := by
 rcases h.2 with ⟨rfl, rfl⟩ | ⟨g, cap, cur, rfl, _, hg, _, _, _, hx⟩
 ·rw [List.eq_nil_of_length_eq_zero (show xs.length = 0 by rw [h.1]; omega), List.eq_nil_of_length_eq_zero (show ys.length = 0 by rw [k.1]; omega)]
 ·rcases k.2 with ⟨h1, _⟩ | ⟨g', cap', cur', h1, _, hg', _, _, _, hy⟩
  ·cases h1
  ·injection h1 with h1
   injection h1 with h1
   injection h1 with h1
   subst h1;rw [hg] at hg';injection hg' with hg'
   injection hg' with hc
   rw [← hx, ← hy, hc]
def Adv (rd rd' : Rd) : Prop := rd'.e = 0 → rd.e = 0 ∧ rd.i < rd'.i
theorem Adv.trans {a b c : Rd} (h : Adv a b) (k : Adv b c) : Adv a c := fun h0 => by
 obtain ⟨h1, h2⟩ := k h0;obtain ⟨h3, h4⟩ := h h1;exact ⟨h3, by omega⟩
theorem eD (s : Bytes) (i : Int) (h : (nextT s i).1 = 0) : 0 ≤ i ∧ i < s.length ∧ i < (nextT s i).2.2 := by
 unfold nextT at h ⊢;by_cases h1 : 65536 < s.length
 ·rw [if_pos h1] at h; cases h
 by_cases h2 : i < 0 ∨ (s.length : Int) < i
 ·rw [if_neg h1, if_pos h2] at h; cases h
 rw [if_neg h1, if_neg h2] at h ⊢;have hi := yJ isSep s i.toNat (by omega);by_cases h3 : endF isSep s i.toNat = s.length
 ·rw [if_pos h3] at h; cases h
 rw [if_neg h3] at h ⊢;have hr := yJ isRun s (endF isSep s i.toNat) hi.2;by_cases h4 : s.getD (endF isSep s i.toNat) 0 = 40
 ·rw [if_pos h4]; simp; omega
 rw [if_neg h4] at h ⊢;by_cases h5 : s.getD (endF isSep s i.toNat) 0 = 41
 ·rw [if_pos h5]; simp; omega
 rw [if_neg h5] at h ⊢;have key : ∀ p, allB p (runAt s (endF isSep s i.toNat)) = true → endF isSep s i.toNat < endF isRun s (endF isSep s i.toNat) := fun p hp => by
  refine Nat.lt_of_not_le fun hge => ?_
  have hnil : runAt s (endF isSep s i.toNat) = [] := by
   unfold runAt;rw [show endF isRun s (endF isSep s i.toNat) - endF isSep s i.toNat = 0 by omega];rfl
  rw [hnil] at hp;simp [allB] at hp
 by_cases h6 : allB isLow (runAt s (endF isSep s i.toNat)) = true
 ·rw [if_pos h6];have := key _ h6;simp;omega
 rw [if_neg h6] at h ⊢;by_cases h7 : (!allB isNum (runAt s (endF isSep s i.toNat))) = true
 ·rw [if_pos h7] at h; cases h
 rw [if_neg h7] at h ⊢;have h7' := key isNum (by simpa using h7);by_cases h8 : (runAt s (endF isSep s i.toNat)).any (· == 47) = true
 ·rw [if_pos h8] at h; cases h
 rw [if_neg h8] at h ⊢;by_cases h9 : (pz (runAt s (endF isSep s i.toNat))).1 ≠ 0
 ·rw [if_pos h9] at h; exact absurd h h9
 rw [if_neg h9];simp;omega
theorem lN {s : Bytes} {i k : Int} (h : (expT s i k).1 = 0) : (nextT s i).1 = 0 ∧ expT s i k = nextT s i ∧ qI (nextT s i).2.1 = k := by
 unfold expT at h ⊢;by_cases h1 : (nextT s i).1 = 8
 ·rw [if_pos h1] at h; cases h
 rw [if_neg h1] at h ⊢;by_cases h2 : (nextT s i).1 ≠ 0
 ·rw [if_pos h2] at h; exact absurd h h2
 rw [if_neg h2] at h ⊢;by_cases h3 : qI (nextT s i).2.1 ≠ k
 ·rw [if_pos h3] at h; cases h
 rw [if_neg h3];exact ⟨by simpa using h2, rfl, by simpa using h3⟩
theorem mN {s : Bytes} {i k : Int} (h : (expT s i k).1 = 0) : i < (expT s i k).2.2 := by
 obtain ⟨h1, h2, _⟩ := lN h;rw [h2];exact (eD s i h1).2.2
theorem qJ (s : Bytes) (k : Int) (rd : Rd) : Adv rd (rTok s k rd) := fun h => by
 unfold rTok at h ⊢;by_cases h0 : rd.e ≠ 0
 ·rw [if_pos h0] at h; exact absurd h h0
 rw [if_neg h0] at h ⊢;unfold rMove at h ⊢;by_cases h1 : (expT s rd.i k).1 = 0
 ·rw [if_pos h1];exact ⟨by simpa using h0, mN h1⟩
 ·rw [if_neg h1] at h; exact absurd h h1
theorem kQ (s : Bytes) (y : Bytes) (rd : Rd) : Adv rd (rWord s y rd) := fun h => by
 unfold rWord at h ⊢;by_cases h0 : rd.e ≠ 0
 ·rw [if_pos h0] at h; exact absurd h h0
 rw [if_neg h0] at h ⊢;unfold rMove expW at h ⊢;by_cases h1 : (expT s rd.i 3).1 ≠ 0
 ·rw [if_pos h1, if_neg h1] at h; exact absurd h h1
 rw [if_neg h1] at h ⊢;by_cases h2 : qY (expT s rd.i 3).2.1 ≠ y
 ·rw [if_pos h2, if_neg (by decide)] at h; cases h
 rw [if_neg h2, if_pos rfl];exact ⟨by simpa using h0, mN (by simpa using h1)⟩
theorem zV (s : Bytes) (rd : Rd) : Adv rd (rInt s rd).2 := fun h => by
 unfold rInt at h ⊢;by_cases h0 : rd.e ≠ 0
 ·rw [if_pos h0] at h; exact absurd h h0
 rw [if_neg h0] at h ⊢;dsimp only at h ⊢;unfold rMove expI at h ⊢;by_cases h1 : (expT s rd.i 4).1 ≠ 0
 ·rw [if_pos h1, if_neg h1] at h; exact absurd h h1
 rw [if_neg h1] at h ⊢;by_cases h2 : (!i64In (tkNum (expT s rd.i 4).2.1)) = true
 ·rw [if_pos h2, if_neg (by decide)] at h; cases h
 rw [if_neg h2, if_pos rfl];exact ⟨by simpa using h0, mN (by simpa using h1)⟩
theorem uJ (s : Bytes) (rd : Rd) : Adv rd (stepP s rd).2 := (((qJ s 1 rd).trans (zV s _)).trans (zV s _)).trans (qJ s 2 _)
theorem qH {s : Bytes} {rd : Rd} (h : goOn s rd = true) : rd.e = 0 ∧ peekT s rd.i 1 = true ∧ 0 ≤ rd.i ∧ rd.i < s.length := by
 unfold goOn at h;simp only [κb, κe] at h;have h2 := h.2;unfold peekT at h2;simp only [κb, κe] at h2;have := eD s rd.i h2.1;exact ⟨h.1, h.2, this.1, this.2.1⟩
def StpR (b : Nat) (s : Bytes) (r : St × Rd) (w : World) (e : Ending) (w' : World) : Prop := e = .returned (.agg #[.int .i64 r.1.1, .int .i64 r.1.2]) ∧ RdR w' b s r.2 ∧ w.grownBy w' (some b)
theorem rN (b : Nat) (s : Bytes) (rd : Rd) (w : World) (hs : SlOk s) (hl : s.length ≤ 1000000) (hR : RdR w b s rd) :
  Calls Tryz.prog 112 #[.pointer (some ⟨b, 0, none⟩)] w (StpR b s (stepP s rd) w) := by
 have HR0 := η (hR.alloc (.cells #[.int .i64 0, .int .i64 0] 205));have hlt := hR.lt;have HX0 : Hid (Box (w.alloc (.cells #[.int .i64 0, .int .i64 0] 205)) w [.int .i64 0, .int .i64 0]) := Box.new w #[.int .i64 0, .int .i64 0] 205;have HG0 := η (zJ (b := b) ((Below.refl w w).alloc (νr _) (.cells #[.int .i64 0, .int .i64 0] 205)));have K1 := η fun k rd W hk hR => kG b s k rd W hs hl hk hR
 have K2 := η fun rd W hR => vM b s rd W hs hl hR
 have E : Hid (stepP s rd = (((rInt s (rTok s 1 rd)).1, (rInt s (rInt s (rTok s 1 rd)).2).1), rTok s 2 (rInt s (rInt s (rTok s 1 rd)).2).2)) := rfl;generalize stepP s rd = R at *;clear hR hs;go_enter Tryz.func112, Tryz.ntmps112;go_wp2_with fail;refine (K1.out 1 rd _ (by decide) HR0.out).mono ?_;rintro e w1 ⟨rfl, hR1, hg1⟩;have HR1 := η hR1;have HX1 := η (HX0.out.grown hg1 (by omega) (by simp));have HG1 := η (zB HG0.out hg1);clear hR1 hg1 HX0 HR0;go_wp2_with fail;refine (K2.out _ _ HR1.out).mono ?_;rintro e w2 ⟨rfl, hR2, hg2⟩;have HR2 := η hR2;have HX2 := η (HX1.out.grown hg2 (by omega) (HX1.out.lt (by simp)));have HG2 := η (zB HG1.out hg2);clear hR2 hg2 HX1 HR1 HG1;go_wp2_with fail;refine (K2.out _ _ HR2.out).mono ?_;rintro e w3 ⟨rfl, hR3, hg3⟩;have HR3 := η hR3;have HX3 := η (HX2.out.grown hg3 (by omega) (HX2.out.lt (by simp)));have HG3 := η (zB HG2.out hg3);clear hR3 hg3 HX2 HR2 HG2;go_wp2_with fail;refine (K1.out 2 _ _ (by decide) HR3.out).mono ?_;rintro e w4 ⟨rfl, hR4, hg4⟩;have HR4 := η hR4;have HX4 := η (HX3.out.grown hg4 (by omega) (HX3.out.lt (by simp)));have HG4 := η (zB HG3.out hg4);clear hR4 hg4 HX3 HR3 HG3;obtain ⟨q0, s0, q1, s1⟩ := sqX2 HX4.out;generalize (rInt s (rTok s 1 rd)).1 = q at *;generalize (rInt s (rInt s (rTok s 1 rd)).2).1 = p at *;go_wp2_with fail;refine κr (v := .agg #[.int .i64 q, .int .i64 p]) (by simp [results, Tryz.results112, go_sem, q0, q1]) rfl ⟨by rw [E.out], ?_, xB HG4.out (νr _) [.int .i64 q, .int .i64 p] 0⟩;rw [E.out];obtain ⟨i, er, h1, h2⟩ := HR4.out;exact ⟨i, er, h1.others (b' := w) (by omega) 0 [.int .i64 q, .int .i64 p], h2⟩
end Go.Proofs.YtkfhpefmmhljmaaGreatDoor
