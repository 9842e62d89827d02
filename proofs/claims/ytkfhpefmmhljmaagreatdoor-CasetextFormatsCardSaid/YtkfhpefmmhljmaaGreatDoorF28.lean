/- Texts in one: CpE, CpF. -/
import Derived.Test.YtkfhpefmmhljmaaGreatDoorF27
set_option linter.unusedVariables false
set_option linter.unusedSimpArgs false
set_option maxHeartbeats 16000000
set_option maxRecDepth 100000
namespace Go.Proofs.YtkfhpefmmhljmaaGreatDoor
open Go.RowKit
def intsP (s : Bytes) : Nat → Rd → List Int × Rd
 | 0, rd => ([], rd)
 | n + 1, rd => ((rInt s rd).1 :: (intsP s n (rInt s rd).2).1, (intsP s n (rInt s rd).2).2)
theorem lH : (Tryz.prog.info? 2).map (fun i => (i.zero, i.size, i.bytes)) = some (some (.int .i64 0), 1, 8) := by kernel_rfl
theorem sK (w : World) (t : TypeId) (n : Nat) : Box (w.alloc (.cells (madeCells #[.int .i64 0] n) t)) w (([] ++ List.replicate n (0 : Int)).map (Value.int .i64)) := by
 have := Box.new w (madeCells #[.int .i64 0] n) t;have e : (madeCells #[Value.int .i64 0] n).toList = ([] ++ List.replicate n (0 : Int)).map (Value.int .i64) := by
  apply List.ext_getElem
  ·simp [madeCells]
  ·intro i h1 h2;simp [madeCells, Nat.mod_one]
 rw [e] at this;exact this
theorem rR (acc : List Int) (g : Nat) (x : Int) : ((acc ++ List.replicate (g + 1) (0 : Int)).map (Value.int .i64)).set acc.length (.int .i64 x) = ((acc ++ [x]) ++ List.replicate g (0 : Int)).map (Value.int .i64) := by
 rw [← List.map_set, List.set_append_right _ _ (νr _), Nat.sub_self, List.replicate_succ, σo, κq];rfl
theorem RdR.set' {w : World} {b : Nat} {s : Bytes} {rd : Rd} (h : RdR w b s rd) {p : Addr} (hp : p.block ≠ b) (v : Value) : RdR (w.setCell p v) b s rd := h.set hp v
theorem aZ {a w : World} {b b' : Nat} (h : a.grownBy w (some b)) (hb : a ≤ b') (o : Nat) (v : Value) : a.grownBy (w.setCell ⟨b', o, none⟩ v) (some b) := xB h hb [v] o
def ManyE (b : Nat) (s : Bytes) (n : Nat) (r : List Int × Rd) (w : World) (e : Ending) (w' : World) : Prop :=
 ∃ g, e = .returned (.slice (some ⟨g, 0, none⟩) n n) ∧ w ≤ g ∧ Box w' g (r.1.map (.int .i64)) ∧ RdR w' b s r.2 ∧ w.grownBy w' (some b)
theorem dR (b n : Nat) (s : Bytes) (rd0 : Rd) (w : World) (hs : SlOk s) (hl : s.length ≤ 1000000) (hn : n ≤ 4) (hR : RdR w b s rd0) :
  Calls Tryz.prog 119 #[.pointer (some ⟨b, 0, none⟩), .int .i64 n, .func (.func 104) #[] #[]] w (ManyE b s n (intsP s n rd0) w) := by
 have hmk := fun W => run_make_row' (P := Tryz.prog) 186 2 (.int .i64 0) 8 Tryz.underlying186 lH rfl .i64 .i64 n (by omega) (by omega) W
 have HR0 := η (hR.alloc (.cells (madeCells #[.int .i64 0] n) 2));have HX0 := η (sK w 2 n);have HG0 := η (jE (World.grownBy.refl w (some b)) (.cells (madeCells #[.int .i64 0] n) 2));have hbw := hR.lt;have hzz : w < (w.alloc (.cells (madeCells #[.int .i64 0] n) 2)).heap.size := by simp
 have K1 := η fun rd W hR => yQ b s rd W hs hl hR
 generalize hst : intsP s n rd0 = R at *;have HST := η hst;clear hR hs hst;go_enter Tryz.func119, Tryz.ntmps119;go_wp2_with fail;clear hmk;generalize w.alloc (.cells (madeCells #[.int .i64 0] n) 2) = W0 at *;go_loopg [13, 8] n (fun g s13 s8 wr => ∃ rd acc, s13 = .int .i64 (acc.length : Nat) ∧ acc.length + g = n ∧ Box wr w ((acc ++ List.replicate g (0 : Int)).map (Value.int .i64)) ∧ w < wr.heap.size ∧ RdR wr b s rd ∧ w.grownBy wr (some b) ∧ R = (acc ++ (intsP s g rd).1, (intsP s g rd).2))
 case atStart => exact ⟨rd0, [], rfl, by simp, HX0.out, hzz, HR0.out, HG0.out, HST.out.symm⟩
 case round =>
  obtain ⟨rd, acc, rfl, hlen, hX, hzr, hR, hg, hst⟩ := hrel;have HX := η hX;have HR := η hR;have HG := η hg;have HS := η hst;clear hX hR hg hst HX0 HR0 HG0;cases gk with
  | zero =>
   have hd : decide ((acc.length : Int) < (n : Int)) = false := κf (by omega);go_wp2_with fail;go_ret;refine ⟨_, rfl, νr _, ?_, ?_, HG.out⟩
   ·have := HX.out;rw [HS.out];simpa [intsP] using this
   ·rw [HS.out]; exact HR.out
  | succ g =>
   have hd : decide ((acc.length : Int) < (n : Int)) = true := κt (by omega);have K2 := η fun W hR => K1.out rd W hR
   have HI : Hid (intsP s (g + 1) rd = ((rInt s rd).1 :: (intsP s g (rInt s rd).2).1, (intsP s g (rInt s rd).2).2)) := rfl;generalize rInt s rd = sp at *;obtain ⟨q, rd'⟩ := sp;go_wp2_with fail;refine (K2.out _ HR.out).mono ?_;rintro e w3 ⟨rfl, hR3, hg3⟩;have HX3 := η (HX.out.grown hg3 (by omega) hzr);have HG3 := η (zB HG.out hg3);have hz3 : w < w3.heap.size := νl hzr hg3.size;have hlt : acc.length < n := by omega
   have hli : (acc.length : Int) < (n : Int) := by omega
   have hl0 : (0 : Int) ≤ (acc.length : Int) := by omega
   have hl1 : (acc.length : Int) ≤ 4 := by omega
   have c0 : w3.cell? ⟨w, acc.length, none⟩ = some (.int .i64 0) := HX3.out.c acc.length _ (by simp);have f0 : w3.frozen? ⟨w, acc.length, none⟩ = false := HX3.out.f acc.length (by simp);have HX4 := η (HX3.out.set1 acc.length (by simp) (.int .i64 q));have HR4 := η (hR3.set' (p := ⟨w, acc.length, none⟩) (show w ≠ b by omega) (.int .i64 q));have HG4 := η (aZ HG3.out (νr _) acc.length (.int .i64 q));clear hR3 hg3 HX HG HR HX3 HG3;go_wp2_with fail;go_roundg g
   case measure => omega
   case rel =>
    refine ⟨rd', acc ++ [q], ?_, ?_, ?_, ?_, HR4.out, HG4.out, ?_⟩
    ·simp
    ·rw [κa, List.length_singleton]; omega
    ·rw [← rR]; exact HX4.out
    ·simpa using hz3
    ·rw [HS.out, HI.out, κq]; rfl
def LineE (b : Nat) (s : Bytes) (r : Ln × Rd) (w : World) (e : Ending) (w' : World) : Prop :=
 e = .returned (.agg #[.int .i64 r.1.1, .int .i64 r.1.2.1, .int .i64 r.1.2.2.1, .int .i64 r.1.2.2.2]) ∧ RdR w' b s r.2 ∧ w.grownBy w' (some b)
theorem aT (s : Bytes) (rd : Rd) : ∃ q1 q2 q3 q4 r, intsP s 4 (rWord s [108, 105, 110, 101] (rTok s 1 rd)) = ([q1, q2, q3, q4], r) ∧ lineR s rd = ((q1, q2, q3, q4), rTok s 2 r) := ⟨_, _, _, _, _, rfl, rfl⟩
theorem sM (b : Nat) (s : Bytes) (rd : Rd) (w : World) (hs : SlOk s) (hl : s.length ≤ 1000000) (hR : RdR w b s rd) :
  Calls Tryz.prog 106 #[.pointer (some ⟨b, 0, none⟩)] w (LineE b s (lineR s rd) w) := by
 obtain ⟨n1, n2, n3, n4, r, hq, hE⟩ := aT s rd;have E := η hE;have HQ := η hq;generalize lineR s rd = R at *;have hbw := hR.lt;have HR0 := η (hR.alloc (.cells #[.int .i64 0, .int .i64 0, .int .i64 0, .int .i64 0] 127));have HX0 : Hid (Box (w.alloc (.cells #[.int .i64 0, .int .i64 0, .int .i64 0, .int .i64 0] 127)) w [.int .i64 0, .int .i64 0, .int .i64 0, .int .i64 0]) := Box.new w #[.int .i64 0, .int .i64 0, .int .i64 0, .int .i64 0] 127;have HG0 := η (jE (World.grownBy.refl w (some b)) (.cells #[.int .i64 0, .int .i64 0, .int .i64 0, .int .i64 0] 127));have hz0 : w < (w.alloc (.cells #[.int .i64 0, .int .i64 0, .int .i64 0, .int .i64 0] 127)).heap.size := by simp
 have K1 := η fun k rd W hk hR => xU b s k rd W hs hl hk hR
 have K2 := η fun y rd W hR => dS b s y rd W hs hl hR
 have K3 := η fun rd W hR => dR b 4 s rd W hs hl (by decide) hR
 clear hR hs hE hq;go_enter Tryz.func106, Tryz.ntmps106;go_wp2_with fail;refine (K1.out 1 _ _ (by decide) HR0.out).mono ?_;rintro e w1 ⟨k', t, ng, A, l, c, ng', A', l', c', rfl, _, hR, hg⟩;have HX1 := η (HX0.out.grown hg (by omega) hz0);have HG1 := η (zB HG0.out hg);have hz1 : w < w1.heap.size := νl hz0 hg.size;have HR1 := η hR;clear hR hg HX0 HG0 HR0;go_wp2_with fail;refine (K2.out [108, 105, 110, 101] _ _ HR1.out).mono ?_;rintro e w2 ⟨rfl, hR, hg⟩;have HX2 := η (HX1.out.grown hg (by omega) hz1);have HG2 := η (zB HG1.out hg);have hz2 : w < w2.heap.size := νl hz1 hg.size;have HR2 := η hR;clear hR hg HX1 HG1 HR1;go_wp2_with fail;refine (K3.out _ _ HR2.out).mono ?_;rintro e w3 ⟨g, rfl, hgw, hL, hR, hg⟩;rw [show intsP s 4 (rWord s [108, 105, 110, 101] (rTok s 1 rd)) = _ from HQ.out] at hL hR;have HX3 := η (HX2.out.grown hg (by omega) hz2);have HG3 := η (zB HG2.out hg);have hz3 : w < w3.heap.size := νl hz2 hg.size;have HL3 : Hid (Box w3 g [.int .i64 n1, .int .i64 n2, .int .i64 n3, .int .i64 n4]) := hL;have hg3 : g < w3 := HL3.out.lt (by simp);have HR3 := η hR;have hbg : g ≠ b := by have := HG2.out.size; omega
 clear hR hg hL HX2 HG2 HR2;go_wp2_with fail;refine (K1.out 2 _ _ (by decide) HR3.out).mono ?_;rintro e w4 ⟨k', t, ng, A, l, c, ng', A', l', c', rfl, _, hR, hg⟩;have HX4 := η (HX3.out.grown hg (by omega) hz3);have HG4 := η (zB HG3.out hg);have hz4 : w < w4.heap.size := νl hz3 hg.size;have HL4 := η (HL3.out.grown hg hbg hg3);have hgz : g < w4 := νl hg3 hg.size;have HR4 := η hR;have hb4 : b < w4 := hR.lt;clear hR hg HX3 HG3 HR3 HL3;go_wp2_with fail;refine zL (X := Unit) (w0 := w4) [13] (fun jq => [0, 0, 0, 0, 0, 0, 0, 0, 0, 0, 0, 0, 0, 1].getD jq 0) (fun _ => 0) (fun _ => [(3, .slice (some ⟨g, 0, none⟩) 4 4), (2, .pointer (some ⟨w, 0, none⟩)), (12, .slice (some ⟨g, 0, none⟩) 4 4), (13, .pointer (some ⟨g, 0, none⟩)), (14, .int .i64 n1), (15, .slice (some ⟨g, 0, none⟩) 4 4), (16, .pointer (some ⟨g, 1, none⟩)), (17, .int .i64 n2), (18, .slice (some ⟨g, 0, none⟩) 4 4), (19, .pointer (some ⟨g, 2, none⟩)), (20, .int .i64 n3), (21, .slice (some ⟨g, 0, none⟩) 4 4), (22, .pointer (some ⟨g, 3, none⟩)), (23, .int .i64 n4), (24, .agg #[.int .i64 n1, .int .i64 n2, .int .i64 n3, .int .i64 n4])]) (fun _ => []) [3, 2] (fun t _ W => match t with | 0 => Below w4 w4 W | _ => ∃ W0, Below w4 w4 W0 ∧ W = W0.setCells w 0 [.int .i64 n1, .int .i64 n2, .int .i64 n3, .int .i64 n4]) () (Below.refl _ _).drew ?_ ?_ ?_
 ·intro T x t W hT hI htl;simp only [zA, and_true] at hT;rcases t with _ | _ | t
  ·skip
   replace hI : Below w4 w4 W := hI;have c0 := (HL4.out.up hI hgz).c 0 _ rfl;have hgz2 : g < W := νl hgz hI.size;have c1 := (HL4.out.up hI hgz).c 1 _ rfl;have c2 := (HL4.out.up hI hgz).c 2 _ rfl;have c3 := (HL4.out.up hI hgz).c 3 _ rfl
   repeat' first | exact AllI.nil | apply AllI.cons
   all_goals intro hn hl hu
   all_goals first | exact absurd hn (by decide) | exact absurd hl (by decide) | exact absurd hu (by decide) | (refine rdT ?_; simp [go_sem, EvT, hT, c0, hgz2, c1, c2, c3, valT])
  ·exact noI
  ·exact absurd htl (by simp)
 ·intro T k x W o hk ho hT hI;simp only [zA, and_true] at hT;rcases k with _ | k
  ·cases ho;replace hI : Below w4 w4 W := hI;have hlt2 : w < W.heap.size := νl hz4 hI.size;have c0 := (HX4.out.up hI hz4).c 0 _ rfl;have g0 := (HX4.out.up hI hz4).f 0 (by simp);have c1 := (HX4.out.up hI hz4).c 1 _ rfl;have g1 := (HX4.out.up hI hz4).f 1 (by simp);have c2 := (HX4.out.up hI hz4).c 2 _ rfl;have g2 := (HX4.out.up hI hz4).f 2 (by simp);have c3 := (HX4.out.up hI hz4).c 3 _ rfl;have g3 := (HX4.out.up hI hz4).f 3 (by simp);refine chT_s (W' := ((((W.setCell ⟨w, 0, none⟩ (.int .i64 n1)).setCell ⟨w, 1, none⟩ (.int .i64 n2)).setCell ⟨w, 2, none⟩ (.int .i64 n3)).setCell ⟨w, 3, none⟩ (.int .i64 n4))) ?_ (⟨W, hI, rfl⟩);clear hI;simp [go_sem, EvT, hT, hlt2, c0, g0, c1, g1, c2, g2, c3, g3]
  ·exact absurd hk (by simp)
 intro x wx hI;simp (decide := true) only [putT, valT, look, Act.put, σi, σo, σs, Nat.reduceAdd, if_true, if_false];replace hI : (fun t _ W => match t with | 0 => Below w4 w4 W | _ => ∃ W0, Below w4 w4 W0 ∧ W = W0.setCells w 0 [.int .i64 n1, .int .i64 n2, .int .i64 n3, .int .i64 n4]) 1 x wx := hI
 (try dsimp only at hI)
 obtain ⟨W0, hb0, rfl⟩ : ∃ W0, Below w4 w4 W0 ∧ wx = W0.setCells w 0 [.int .i64 n1, .int .i64 n2, .int .i64 n3, .int .i64 n4] := hI;have HXw := η ((HX4.out.up hb0 hz4).sets (vs' := [.int .i64 n1, .int .i64 n2, .int .i64 n3, .int .i64 n4]) rfl);have HRw : Hid (RdR (W0.setCells w 0 [.int .i64 n1, .int .i64 n2, .int .i64 n3, .int .i64 n4]) b s (rTok s 2 r)) := by
  obtain ⟨i, er, h1, h2⟩ := HR4.out.up hb0 hb4;exact ⟨i, er, h1.others (b' := w) (by omega) 0 _, h2⟩
 have HGw := η (xB (b' := w) (zB HG4.out (zJ (b := b) hb0)) (νr _) [.int .i64 n1, .int .i64 n2, .int .i64 n3, .int .i64 n4] 0);have hlt : w < (W0.setCells w 0 [.int .i64 n1, .int .i64 n2, .int .i64 n3, .int .i64 n4]).heap.size := by rw [zG]; exact νl hz4 hb0.size
 generalize W0.setCells w 0 [.int .i64 n1, .int .i64 n2, .int .i64 n3, .int .i64 n4] = wz at *;clear hb0;obtain ⟨q0, s0, q1, s1, q2, s2, q3, s3⟩ := sqX4 HXw.out;go_wp2_with fail;exact κr (v := .agg #[.int .i64 n1, .int .i64 n2, .int .i64 n3, .int .i64 n4]) (by simp [results, Tryz.results106, go_sem, q0, q1, q2, q3, hlt]) rfl ⟨by rw [E.out], by rw [E.out]; exact HRw.out, HGw.out⟩
def KindE (b : Nat) (s : Bytes) (r : Int × Rd) (w : World) (e : Ending) (w' : World) : Prop := e = .returned (.int .u8 r.1) ∧ RdR w' b s r.2 ∧ w.grownBy w' (some b)
theorem cI {s : Bytes} {k : Int} {rd : Rd} (h : (rTok s k rd).e = 0) : rd.e = 0 ∧ (expT s rd.i k).1 = 0 := by
 unfold rTok at h;by_cases he : rd.e = 0
 ·refine ⟨he, ?_⟩;rw [if_neg (by simp [he])] at h;unfold rMove at h;by_cases h2 : (expT s rd.i k).1 = 0
  ·exact h2
  ·rw [if_neg h2] at h;exact h
 ·rw [if_pos he] at h;exact absurd h he
theorem nK (s : Bytes) (rd : Rd) : kindR s rd = if (rTok s 3 rd).e ≠ 0 then (0, rTok s 3 rd) else if vH (qY (expT s rd.i 3).2.1) = 0 then (0, ⟨(rTok s 3 rd).i, 3⟩) else (vH (qY (expT s rd.i 3).2.1), rTok s 3 rd) := rfl
theorem sO (b : Nat) (s : Bytes) (rd : Rd) (w : World) (hs : SlOk s) (hl : s.length ≤ 1000000) (hR : RdR w b s rd) :
  Calls Tryz.prog 118 #[.pointer (some ⟨b, 0, none⟩)] w (KindE b s (kindR s rd) w) := by
 have HR0 := η hR;have K1 := η fun W hR => xU b s 3 rd W hs hl (by decide) hR
 have E := η (nK s rd);have HOK := η (fun h => cI (s := s) (k := 3) (rd := rd) h);generalize kindR s rd = R at *;clear hR hs hl;go_enter Tryz.func118, Tryz.ntmps118;go_wp2_with fail;refine (K1.out _ HR0.out).mono ?_;rintro e w1 ⟨k', t, ng, A, l, c, ng', A', l', c', rfl, ht, hR, hg⟩;unfold tkV;have HX1 := η (Box.new w1 #[.int .u8 k', .string t, .bool ng, .slice A l c, .bool ng', .slice A' l' c'] 87);have HG1 := η (jE hg (.cells #[.int .u8 k', .string t, .bool ng, .slice A l c, .bool ng', .slice A' l' c'] 87));have HR1 := η (hR.alloc (.cells #[.int .u8 k', .string t, .bool ng, .slice A l c, .bool ng', .slice A' l' c'] 87));have hbw := hR.lt;have HT := η ht;have HRw := η hR;have HGw := η hg;generalize rTok s 3 rd = rd1 at *;clear hR hg HR0 K1 ht;obtain ⟨i, er, hB, h0, h1, h2, h3⟩ := HRw.out.er;have hB2 := hB.alloc hbw (.cells #[.int .u8 k', .string t, .bool ng, .slice A l c, .bool ng', .slice A' l' c'] 87);obtain ⟨q0, s0, q1, s1, q2, s2⟩ := sqX3 hB2;clear hB2;have p0 := HX1.out.c 1 _ rfl;by_cases he : rd1.e = 0
 case neg =>
  have EE : R = (0, rd1) := by rw [E.out, if_pos he]
  have e0 : (er == 0) = false := βf fun h => he (h0.1 h)
  have e1 : (er != 0) = true := βt fun h => he (h0.1 h)
  clear hB h0 h1 h2 h3 he;go_wp2_with fail;exact κr (v := .int .u8 0) (by simp [results, Tryz.results118, go_sem]) rfl ⟨by rw [EE], by rw [EE]; exact HR1.out, HG1.out⟩
 case pos =>
  obtain rfl := h0.2 he;obtain ⟨rfl, hi1, hi2⟩ := h3 he;obtain ⟨ho1, ho2⟩ := HOK.out he;have ht := HT.out ho1 ho2;subst ht;have EE : Hid (R = if vH (qY (expT s rd.i 3).2.1) = 0 then (0, ⟨rd1.i, 3⟩) else (vH (qY (expT s rd.i 3).2.1), rd1)) := by show _ = _; rw [E.out, if_neg (by simp [he])]
  generalize qY (expT s rd.i 3).2.1 = x at *;have HB := η hB;clear hB h0 h1 h2 h3 ho1 ho2 HOK HT E;have e1 : ((bstr x).toList == [112, 108, 97, 110]) = (x == [112, 108, 97, 110]) := by rw [qB]
  cases hp1 : (x == [112, 108, 97, 110]) with
  | true =>
   rw [hp1] at e1;have hx : vH x = 1 := by rw [eq_of_beq hp1]; rfl
   have EF : R = (1, rd1) := by rw [EE.out, hx, if_neg (by decide)]
   go_wp2_with fail;exact κr (v := .int .u8 1) (by simp [results, Tryz.results118, go_sem]) rfl ⟨by rw [EF], by rw [EF]; exact HR1.out, HG1.out⟩
  | false =>
   rw [hp1] at e1;have e2 : ((bstr x).toList == [108, 111, 115, 115]) = (x == [108, 111, 115, 115]) := by rw [qB]
   cases hp2 : (x == [108, 111, 115, 115]) with
   | true =>
    rw [hp2] at e2;have hx : vH x = 2 := by rw [eq_of_beq hp2]; rfl
    have EF : R = (2, rd1) := by rw [EE.out, hx, if_neg (by decide)]
    go_wp2_with fail;exact κr (v := .int .u8 2) (by simp [results, Tryz.results118, go_sem]) rfl ⟨by rw [EF], by rw [EF]; exact HR1.out, HG1.out⟩
   | false =>
    rw [hp2] at e2;have e3 : ((bstr x).toList == [116, 114, 105, 112]) = (x == [116, 114, 105, 112]) := by rw [qB]
    cases hp3 : (x == [116, 114, 105, 112]) with
    | true =>
     rw [hp3] at e3;have hx : vH x = 3 := by rw [eq_of_beq hp3]; rfl
     have EF : R = (3, rd1) := by rw [EE.out, hx, if_neg (by decide)]
     go_wp2_with fail;exact κr (v := .int .u8 3) (by simp [results, Tryz.results118, go_sem]) rfl ⟨by rw [EF], by rw [EF]; exact HR1.out, HG1.out⟩
    | false =>
     rw [hp3] at e3;have hx : vH x = 0 := by unfold vH; rw [if_neg (ne_of_beq_false hp1), if_neg (ne_of_beq_false hp2), if_neg (ne_of_beq_false hp3)]
     have EF : R = (0, ⟨rd1.i, 3⟩) := by rw [EE.out, if_pos hx]
     have HBz := η ((HB.out.set1 2 (by simp) (.int .i64 3)).alloc (by simpa using hbw) (.cells #[.int .u8 k', .string (bstr x), .bool ng, .slice A l c, .bool ng', .slice A' l' c'] 87));have HGz := η (jE (qD (p := ⟨b, 2, none⟩) HGw.out (.inl rfl) (.int .i64 3)) (.cells #[.int .u8 k', .string (bstr x), .bool ng, .slice A l c, .bool ng', .slice A' l' c'] 87));go_wp2_with fail;exact κr (v := .int .u8 0) (by simp [results, Tryz.results118, go_sem]) rfl ⟨by rw [EF], by rw [EF]; exact ⟨rd1.i, 3, HBz.out, fun _ => rfl, (fun h => by cases h), (fun h => by cases h)⟩, HGz.out⟩
end Go.Proofs.YtkfhpefmmhljmaaGreatDoor
