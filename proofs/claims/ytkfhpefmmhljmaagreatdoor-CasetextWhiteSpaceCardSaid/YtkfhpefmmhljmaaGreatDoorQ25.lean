/- Texts in one: CtQ, CpA. -/
import Derived.Test.YtkfhpefmmhljmaaGreatDoorQ22
import Derived.Test.YtkfhpefmmhljmaaGreatDoorQ23
import Derived.Test.YtkfhpefmmhljmaaGreatDoorQ19
import Derived.Test.YtkfhpefmmhljmaaGreatDoorQ9
set_option linter.unusedVariables false
set_option linter.unusedSimpArgs false
set_option maxRecDepth 100000
/- CtQ -/
namespace Go.Proofs.YtkfhpefmmhljmaaGreatDoor
open Go.RowKit
set_option maxHeartbeats 1000000 in
theorem bAdvance_any (b : Nat) (s : ByteArray) (i nx er : Int) (w : World) (hB : Box w b [.string s, .int .i64 i, .int .i64 0]) :
  Calls Tryz.prog 167 #[.pointer (some ⟨b, 0, none⟩), .int .i64 nx, .int .i64 er] w fun e w' => e = .returned (.tuple #[]) ∧ Box w' b [.string s, .int .i64 (mvI er nx i), .int .i64 er] ∧ w.grownBy w' (some b) := by
 have HX := Lib.hid hB;obtain ⟨q0, s0, q1, s1, q2, s2⟩ := sqX3 hB;clear hB;by_cases h : er = 0
 ·subst h;have HF := Lib.hid (HX.out.set1 1 (by simp) (.int .i64 nx));go_enter Tryz.func167, Tryz.ntmps167;go_wp2_with fail;exact bodyPost_end (v := .tuple #[]) (by simp [results, Tryz.results167, go_sem]) rfl ⟨rfl, HF.out, only_setCell (p := ⟨b, 1, none⟩) (World.grownBy.refl _ _) (.inl rfl) _⟩
 ·have e0 : (er == 0) = false := beq_eq_false_iff_ne.2 h;have e1 : (er != 0) = true := bne_iff_ne.2 h;have HM : Hid (mvI er nx i = i) := if_neg h;have HF := Lib.hid (HX.out.set1 2 (by simp) (.int .i64 er));clear h;go_enter Tryz.func167, Tryz.ntmps167;go_wp2_with fail;exact bodyPost_ret (v := .tuple #[]) (by simp [results, Tryz.results167, go_sem]) rfl ⟨rfl, by rw [HM.out]; exact HF.out, only_setCell (p := ⟨b, 2, none⟩) (World.grownBy.refl _ _) (.inl rfl) _⟩
set_option maxHeartbeats 4000000 in
theorem bExpect_any (b : Nat) (s : Bytes) (k : Int) (rd : Rd) (w : World) (hs : SlOk s) (hl : s.length ≤ 1000000) (hk : k ≠ 4) (hR : RdR w b s rd) :
  Calls Tryz.prog 108 #[.pointer (some ⟨b, 0, none⟩), .int .u8 k] w (StepR b s (rTok s k rd) w) := by
 have hR0 := hR;obtain ⟨i, er, hB, h0, h1, h2, h3⟩ := hR.er;have HB := Lib.hid hB;obtain ⟨q0, s0, q1, s1, q2, s2⟩ := sqX3 hB;by_cases he : rd.e = 0
 ·obtain rfl := h0.2 he;obtain ⟨rfl, hi1, hi2⟩ := h3 he;have E : Hid (rTok s k rd = rMove rd (expT s rd.i k).1 (expT s rd.i k).2.2) := if_neg (by rw [he]; simp);have K1 := Lib.hid fun W => expect_any s rd.i k W hs ⟨hi1, hi2⟩ hl
  have hlt : b < w.heap.size := hB.lt (by simp);clear hB hR hR0 h0 h1 h2 h3 he;go_enter Tryz.func108, Tryz.ntmps108;go_wp2_with fail;refine region_tie (X := TkX) (w0 := w) { n := 9, m := 14, q := 15, V := fun ox jq => (match jq with | 0 => .pointer (some ⟨b, 0, none⟩) | 1 => .pointer (some ⟨b, 0, none⟩) | 2 => .pointer (some ⟨b, 0, none⟩) | 3 => .string (bstr s) | 4 => .pointer (some ⟨b, 0, none⟩) | 5 => .pointer (some ⟨b, 0, none⟩) | 6 => .pointer (some ⟨b, 1, none⟩) | 7 => .int .i64 rd.i | 8 => .int .u8 k | 9 => ox.elim undef (fun x => .tuple #[.agg #[.int .u8 x.k, .string x.t, .bool x.ng, .slice x.A x.l x.c, .bool x.ng', .slice x.A' x.l' x.c'], .int .i64 x.nx, .int .i64 x.er]) | 10 => ox.elim undef (fun x => .tuple #[.agg #[.int .u8 x.k, .string x.t, .bool x.ng, .slice x.A x.l x.c, .bool x.ng', .slice x.A' x.l' x.c'], .int .i64 x.nx, .int .i64 x.er]) | 11 => ox.elim undef (fun x => .agg #[.int .u8 x.k, .string x.t, .bool x.ng, .slice x.A x.l x.c, .bool x.ng', .slice x.A' x.l' x.c']) | 12 => ox.elim undef (fun x => .int .i64 x.nx) | 13 => ox.elim undef (fun x => .int .i64 x.er) | 14 => undef | 15 => undef | 16 => ox.elim undef (fun x => .int .i64 x.nx) | 17 => ox.elim undef (fun x => .int .i64 x.er) | _ => undef), dep := fun jq => ([9, 10, 11, 12, 13, 16, 17] : List Nat).contains jq, Post := fun x _ => MvP ((expT s rd.i k).1, (expT s rd.i k).2.2) x.nx x.er, zs := [.int .u8 0, .string ⟨#[]⟩, .bool false, .slice none 0 0, .bool false, .slice none 0 0], S := fun x => [.int .u8 x.k, .string x.t, .bool x.ng, .slice x.A x.l x.c, .bool x.ng', (Value.slice x.A' x.l' x.c')] } (by kernel_rfl) (by kernel_rfl) (by kernel_rfl) ?_ (fun _ _ _ _ h => h) ?_ ?_
  ·intro x jq hd;rcases jq with _ | _ | _ | _ | _ | _ | _ | _ | _ | _ | _ | _ | _ | _ | _ | _ | _ | _ | jq <;> first | rfl | exact absurd (show true = false from hd) (by decide)
  ·intro iq oq ho aq W ox hI hx hpo hdep hrest hgd;have hdep := @sqE _ _ _ _ hdep;have hgd := @sqG _ _ _ _ hgd;have hfn := sqF aq;rcases iq with _|_|_|_|_|_|_|_|_|_|_|_|_|_|_|_|_|_|iq
   ·cases ho;refine sqT 0 9 14 15 ?_;simp [go_sem, hrest 0 (by kernel_rfl)]
   ·cases ho;refine sqT 1 9 14 15 ?_;simp [go_sem, hdep ⟨0, .data⟩ (sqM 0 14)]
   ·cases ho;refine sqT 2 9 14 15 ?_;simp [go_sem, hdep ⟨1, .data⟩ (sqM 1 14)]
   ·cases ho;have c0 := (hI.cell (p := ⟨b, 0, none⟩) hlt).trans q0;refine sqT 3 9 14 15 ?_;simp [go_sem, hdep ⟨2, .data⟩ (sqM 2 14), c0]
   ·cases ho;refine sqT 4 9 14 15 ?_;simp [go_sem, hrest 0 (by kernel_rfl)]
   ·cases ho;refine sqT 5 9 14 15 ?_;simp [go_sem, hdep ⟨4, .data⟩ (sqM 4 14)]
   ·cases ho;refine sqT 6 9 14 15 ?_;simp [go_sem, hdep ⟨5, .data⟩ (sqM 5 14)]
   ·cases ho;have c1 := (hI.cell (p := ⟨b, 1, none⟩) hlt).trans q1;refine sqT 7 9 14 15 ?_;simp [go_sem, hdep ⟨6, .data⟩ (sqM 6 14), c1]
   ·cases ho;refine sqT 8 9 14 15 ?_;simp [go_sem, hrest 1 (by kernel_rfl)]
   ·cases ho;refine ⟨fun _ => ⟨fun _ => ⟨121, #[.string (bstr s), .int .i64 rd.i, .int .u8 k], ?_, (K1.out W).mono fun e w' ⟨hb, k', t, ng, A, l, c, ng', A', l', c', nx, er, he, hP, hK⟩ => ⟨⟨k', t, ng, A, l, c, ng', A', l', c', nx, er⟩, he, hP.mv hK hk, hb⟩⟩, sqN 9 14, sqN 9 15, fun h => absurd rfl h⟩, nofun⟩;simp [go_sem, hdep ⟨3, .data⟩ (sqM 3 14), hdep ⟨7, .data⟩ (sqM 7 14), hdep ⟨8, .data⟩ (sqM 8 14), hfn]
   ·cases ho;obtain ⟨x, rfl⟩ := hx rfl (sqM 10 9);refine sqT 10 9 14 15 ?_;simp [go_sem, hdep ⟨9, .data⟩ (sqM 9 14)]
   ·cases ho;obtain ⟨x, rfl⟩ := hx rfl (sqM 11 9);refine sqT 11 9 14 15 ?_;simp [go_sem, hdep ⟨10, .data⟩ (sqM 10 14)]
   ·cases ho;obtain ⟨x, rfl⟩ := hx rfl (sqM 12 9);refine sqT 12 9 14 15 ?_;simp [go_sem, hdep ⟨10, .data⟩ (sqM 10 14)]
   ·cases ho;obtain ⟨x, rfl⟩ := hx rfl (sqM 13 9);refine sqT 13 9 14 15 ?_;simp [go_sem, hdep ⟨10, .data⟩ (sqM 10 14)]
   ·cases ho;clear hrest hdep hgd;exact ⟨fun _ => ⟨sqN 14 9, fun _ => ⟨_, rfl⟩, sqN 14 15, fun _ h => absurd rfl h⟩, nofun⟩
   ·cases ho;clear hrest;refine ⟨fun _ => ⟨sqN 15 9, sqN 15 14, fun _ x gg hox h1 h2 hbox hgg => ?_, fun _ _ h => absurd rfl h⟩, nofun⟩;subst hox;have d14 : aq.eval (.tmp 4) = .pointer (some ⟨gg, 0, none⟩) := hgg _ _ rfl rfl;have d11 : aq.eval (.tmp 23) = .agg #[.int .u8 x.k, .string x.t, .bool x.ng, .slice x.A x.l x.c, .bool x.ng', .slice x.A' x.l' x.c'] := hdep ⟨11, .data⟩ (sqM 11 14);clear hdep hgd;obtain ⟨b0, c0, b1, c1, b2, c2, b3, c3, b4, c4, b5, c5⟩ := sqX6 hbox;refine ⟨?_, hpo x rfl, rfl⟩;clear hI hpo hx hbox hgg;generalize aq.eval = ρ at *;simp [go_sem, d14, d11, b0, c0, b1, c1, b2, c2, b3, c3, b4, c4, b5, c5]
    try rfl
   ·cases ho;obtain ⟨x, rfl⟩ := hx rfl (sqM 16 9);refine sqT 16 9 14 15 ?_;simp [go_sem, hdep ⟨12, .data⟩ (sqM 12 14)]
   ·cases ho;obtain ⟨x, rfl⟩ := hx rfl (sqM 17 9);refine sqT 17 9 14 15 ?_;simp [go_sem, hdep ⟨13, .data⟩ (sqM 13 14)]
   ·simp at ho
  intro x g wx hb hP hG;simp (decide := true) only [putAll, Act.put, List.setIfInBounds_toArray, List.set_cons_zero, List.set_cons_succ, Nat.reduceAdd, Option.elim, if_true, if_false];replace hP : (fun x _ => MvP ((expT s rd.i k).1, (expT s rd.i k).2.2) x.nx x.er) x wx := hP
  (try dsimp only at hP)
  obtain ⟨hg1, hg2, hg3⟩ : w.heap.size ≤ g ∧ g < wx.heap.size ∧ Box wx g [.int .u8 x.k, .string x.t, .bool x.ng, .slice x.A x.l x.c, .bool x.ng', (Value.slice x.A' x.l' x.c')] := ⟨(hG (show (14 : Nat) < 18 by decide)).1, (hG (show (14 : Nat) < 18 by decide)).2.1, (hG (show (14 : Nat) < 18 by decide)).2.2 (show (15 : Nat) < 18 by decide)⟩;clear hG;have HBX := Lib.hid (HB.out.up hb hlt);have HW := Lib.hid (grown_below (b := b) hb);have HP := Lib.hid hP;have HL := Lib.hid (fun h => expT_le s rd.i k h);clear K1 HB hb hg1 hg2 hg3 hP q0 q1 q2 s0 s1 s2;obtain ⟨xk, xt, xng, xA, xl, xc, xng', xA', xl', xc', nx, er⟩ := x;go_wp2_with fail;refine (bAdvance_any b (bstr s) rd.i nx er _ HBX.out).mono ?_;rintro e w2 ⟨rfl, hB2, hg2⟩;go_wp2_with fail;exact bodyPost_end (v := .tuple #[]) (by simp [results, Tryz.results108, go_sem]) rfl ⟨rfl, by rw [E.out]; exact RdR.move hB2 HP.out HL.out hl, grown_trans HW.out hg2⟩
 ·have E : Hid (rTok s k rd = rd) := if_pos he;have e0 : (er == 0) = false := beq_eq_false_iff_ne.2 fun h => he (h0.1 h)
  have e1 : (er != 0) = true := bne_iff_ne.2 fun h => he (h0.1 h)
  have HR := Lib.hid hR0;clear hB hR hR0 h0 h1 h2 h3 he;go_enter Tryz.func108, Tryz.ntmps108;go_wp2_with fail;exact bodyPost_ret (v := .tuple #[]) (by simp [results, Tryz.results108, go_sem]) rfl ⟨rfl, by rw [E.out]; exact HR.out, World.grownBy.refl _ _⟩
set_option maxHeartbeats 4000000 in
theorem bWord_any (b : Nat) (s : Bytes) (y : Bytes) (rd : Rd) (w : World) (hs : SlOk s) (hl : s.length ≤ 1000000)  (hR : RdR w b s rd) :
  Calls Tryz.prog 109 #[.pointer (some ⟨b, 0, none⟩), .string (bstr y)] w (StepR b s (rWord s y rd) w) := by
 have hR0 := hR;obtain ⟨i, er, hB, h0, h1, h2, h3⟩ := hR.er;have HB := Lib.hid hB;obtain ⟨q0, s0, q1, s1, q2, s2⟩ := sqX3 hB;by_cases he : rd.e = 0
 ·obtain rfl := h0.2 he;obtain ⟨rfl, hi1, hi2⟩ := h3 he;have E : Hid (rWord s y rd = rMove rd (expW s rd.i y).1 (expW s rd.i y).2) := if_neg (by rw [he]; simp);have K1 := Lib.hid fun W => expectWord_any s rd.i y W hs ⟨hi1, hi2⟩ hl
  have hlt : b < w.heap.size := hB.lt (by simp);clear hB hR hR0 h0 h1 h2 h3 he;go_enter Tryz.func109, Tryz.ntmps109;go_wp2_with fail;refine region_tie (X := Int × Int) (w0 := w) { n := 9, m := 1000, q := 1000, V := fun ox jq => (match jq with | 0 => .pointer (some ⟨b, 0, none⟩) | 1 => .pointer (some ⟨b, 0, none⟩) | 2 => .pointer (some ⟨b, 0, none⟩) | 3 => .string (bstr s) | 4 => .pointer (some ⟨b, 0, none⟩) | 5 => .pointer (some ⟨b, 0, none⟩) | 6 => .pointer (some ⟨b, 1, none⟩) | 7 => .int .i64 rd.i | 8 => .string (bstr y) | 9 => ox.elim undef (fun x => .tuple #[.int .i64 x.1, .int .i64 x.2]) | 10 => ox.elim undef (fun x => .tuple #[.int .i64 x.1, .int .i64 x.2]) | 11 => ox.elim undef (fun x => .int .i64 x.1) | 12 => ox.elim undef (fun x => .int .i64 x.2) | 13 => ox.elim undef (fun x => .int .i64 x.1) | 14 => ox.elim undef (fun x => .int .i64 x.2) | _ => undef), dep := fun jq => ([9, 10, 11, 12, 13, 14] : List Nat).contains jq, Post := fun x _ => MvP (expW s rd.i y) x.1 x.2, zs := [], S := fun x => [] } (by kernel_rfl) (by kernel_rfl) (by kernel_rfl) ?_ (fun _ _ _ _ h => h) ?_ ?_
  ·intro x jq hd;rcases jq with _ | _ | _ | _ | _ | _ | _ | _ | _ | _ | _ | _ | _ | _ | _ | jq <;> first | rfl | exact absurd (show true = false from hd) (by decide)
  ·intro iq oq ho aq W ox hI hx hpo hdep hrest hgd;have hdep := @sqE _ _ _ _ hdep;have hfn := sqF aq;rcases iq with _|_|_|_|_|_|_|_|_|_|_|_|_|_|_|iq
   ·cases ho;refine sqT 0 9 1000 1000 ?_;simp [go_sem, hrest 0 (by kernel_rfl)]
   ·cases ho;refine sqT 1 9 1000 1000 ?_;simp [go_sem, hdep ⟨0, .data⟩ (sqM 0 1000)]
   ·cases ho;refine sqT 2 9 1000 1000 ?_;simp [go_sem, hdep ⟨1, .data⟩ (sqM 1 1000)]
   ·cases ho;have c0 := (hI.cell (p := ⟨b, 0, none⟩) hlt).trans q0;refine sqT 3 9 1000 1000 ?_;simp [go_sem, hdep ⟨2, .data⟩ (sqM 2 1000), c0]
   ·cases ho;refine sqT 4 9 1000 1000 ?_;simp [go_sem, hrest 0 (by kernel_rfl)]
   ·cases ho;refine sqT 5 9 1000 1000 ?_;simp [go_sem, hdep ⟨4, .data⟩ (sqM 4 1000)]
   ·cases ho;refine sqT 6 9 1000 1000 ?_;simp [go_sem, hdep ⟨5, .data⟩ (sqM 5 1000)]
   ·cases ho;have c1 := (hI.cell (p := ⟨b, 1, none⟩) hlt).trans q1;refine sqT 7 9 1000 1000 ?_;simp [go_sem, hdep ⟨6, .data⟩ (sqM 6 1000), c1]
   ·cases ho;refine sqT 8 9 1000 1000 ?_;simp [go_sem, hrest 1 (by kernel_rfl)]
   ·cases ho;refine ⟨fun _ => ⟨fun _ => ⟨101, #[.string (bstr s), .int .i64 rd.i, .string (bstr y)], ?_, (K1.out W).mono fun e w' ⟨hb, nx, er, he, hP⟩ => ⟨(nx, er), he, hP, hb⟩⟩, sqN 9 1000, sqN 9 1000, fun h => absurd rfl h⟩, nofun⟩;simp [go_sem, hdep ⟨3, .data⟩ (sqM 3 1000), hdep ⟨7, .data⟩ (sqM 7 1000), hdep ⟨8, .data⟩ (sqM 8 1000), hfn]
   ·cases ho;obtain ⟨x, rfl⟩ := hx rfl (sqM 10 9);refine sqT 10 9 1000 1000 ?_;simp [go_sem, hdep ⟨9, .data⟩ (sqM 9 1000)]
   ·cases ho;obtain ⟨x, rfl⟩ := hx rfl (sqM 11 9);refine sqT 11 9 1000 1000 ?_;simp [go_sem, hdep ⟨10, .data⟩ (sqM 10 1000)]
   ·cases ho;obtain ⟨x, rfl⟩ := hx rfl (sqM 12 9);refine sqT 12 9 1000 1000 ?_;simp [go_sem, hdep ⟨10, .data⟩ (sqM 10 1000)]
   ·cases ho;obtain ⟨x, rfl⟩ := hx rfl (sqM 13 9);refine sqT 13 9 1000 1000 ?_;simp [go_sem, hdep ⟨11, .data⟩ (sqM 11 1000)]
   ·cases ho;obtain ⟨x, rfl⟩ := hx rfl (sqM 14 9);refine sqT 14 9 1000 1000 ?_;simp [go_sem, hdep ⟨12, .data⟩ (sqM 12 1000)]
   ·simp at ho
  intro x g wx hb hP hG;simp (decide := true) only [putAll, Act.put, List.setIfInBounds_toArray, List.set_cons_zero, List.set_cons_succ, Nat.reduceAdd, Option.elim, if_true, if_false];replace hP : (fun x _ => MvP (expW s rd.i y) x.1 x.2) x wx := hP
  (try dsimp only at hP)
  clear hG;have HBX := Lib.hid (HB.out.up hb hlt);have HW := Lib.hid (grown_below (b := b) hb);have HP := Lib.hid hP;have HL := Lib.hid (fun h => expW_le s rd.i y h);clear K1 HB hb hP q0 q1 q2 s0 s1 s2;obtain ⟨nx, er⟩ := x;go_wp2_with fail;refine (bAdvance_any b (bstr s) rd.i nx er _ HBX.out).mono ?_;rintro e w2 ⟨rfl, hB2, hg2⟩;go_wp2_with fail;exact bodyPost_end (v := .tuple #[]) (by simp [results, Tryz.results109, go_sem]) rfl ⟨rfl, by rw [E.out]; exact RdR.move hB2 HP.out HL.out hl, grown_trans HW.out hg2⟩
 ·have E : Hid (rWord s y rd = rd) := if_pos he;have e0 : (er == 0) = false := beq_eq_false_iff_ne.2 fun h => he (h0.1 h)
  have e1 : (er != 0) = true := bne_iff_ne.2 fun h => he (h0.1 h)
  have HR := Lib.hid hR0;clear hB hR hR0 h0 h1 h2 h3 he;go_enter Tryz.func109, Tryz.ntmps109;go_wp2_with fail;exact bodyPost_ret (v := .tuple #[]) (by simp [results, Tryz.results109, go_sem]) rfl ⟨rfl, by rw [E.out]; exact HR.out, World.grownBy.refl _ _⟩
set_option maxHeartbeats 4000000 in
theorem bInteger_any (b : Nat) (s : Bytes)  (rd : Rd) (w : World) (hs : SlOk s) (hl : s.length ≤ 1000000)  (hR : RdR w b s rd) :
  Calls Tryz.prog 110 #[.pointer (some ⟨b, 0, none⟩)] w (IntR b s (rInt s rd) w) := by
 have hR0 := hR;obtain ⟨i, er, hB, h0, h1, h2, h3⟩ := hR.er;have HB := Lib.hid hB;obtain ⟨q0, s0, q1, s1, q2, s2⟩ := sqX3 hB;by_cases he : rd.e = 0
 ·obtain rfl := h0.2 he;obtain ⟨rfl, hi1, hi2⟩ := h3 he;have E : Hid (rInt s rd = ((expI s rd.i).2.1, rMove rd (expI s rd.i).1 (expI s rd.i).2.2)) := if_neg (by rw [he]; simp);have K1 := Lib.hid fun W => expectInt_any s rd.i W hs ⟨hi1, hi2⟩ hl
  have hlt : b < w.heap.size := hB.lt (by simp);clear hB hR hR0 h0 h1 h2 h3 he;go_enter Tryz.func110, Tryz.ntmps110;go_wp2_with fail;refine region_tie (X := Int × Int × Int) (w0 := w) { n := 8, m := 1000, q := 1000, V := fun ox jq => (match jq with | 0 => .pointer (some ⟨b, 0, none⟩) | 1 => .pointer (some ⟨b, 0, none⟩) | 2 => .pointer (some ⟨b, 0, none⟩) | 3 => .string (bstr s) | 4 => .pointer (some ⟨b, 0, none⟩) | 5 => .pointer (some ⟨b, 0, none⟩) | 6 => .pointer (some ⟨b, 1, none⟩) | 7 => .int .i64 rd.i | 8 => ox.elim undef (fun x => .tuple #[.int .i64 x.1, .int .i64 x.2.1, .int .i64 x.2.2]) | 9 => ox.elim undef (fun x => .tuple #[.int .i64 x.1, .int .i64 x.2.1, .int .i64 x.2.2]) | 10 => ox.elim undef (fun x => .int .i64 x.1) | 11 => ox.elim undef (fun x => .int .i64 x.2.1) | 12 => ox.elim undef (fun x => .int .i64 x.2.2) | 13 => ox.elim undef (fun x => .int .i64 x.1) | 14 => ox.elim undef (fun x => .int .i64 x.2.1) | 15 => ox.elim undef (fun x => .int .i64 x.2.2) | _ => undef), dep := fun jq => ([8, 9, 10, 11, 12, 13, 14, 15] : List Nat).contains jq, Post := fun x _ => IntP (expI s rd.i) x.1 x.2.1 x.2.2, zs := [], S := fun x => [] } (by kernel_rfl) (by kernel_rfl) (by kernel_rfl) ?_ (fun _ _ _ _ h => h) ?_ ?_
  ·intro x jq hd;rcases jq with _ | _ | _ | _ | _ | _ | _ | _ | _ | _ | _ | _ | _ | _ | _ | _ | jq <;> first | rfl | exact absurd (show true = false from hd) (by decide)
  ·intro iq oq ho aq W ox hI hx hpo hdep hrest hgd;have hdep := @sqE _ _ _ _ hdep;have hfn := sqF aq;rcases iq with _|_|_|_|_|_|_|_|_|_|_|_|_|_|_|_|iq
   ·cases ho;refine sqT 0 8 1000 1000 ?_;simp [go_sem, hrest 0 (by kernel_rfl)]
   ·cases ho;refine sqT 1 8 1000 1000 ?_;simp [go_sem, hdep ⟨0, .data⟩ (sqM 0 1000)]
   ·cases ho;refine sqT 2 8 1000 1000 ?_;simp [go_sem, hdep ⟨1, .data⟩ (sqM 1 1000)]
   ·cases ho;have c0 := (hI.cell (p := ⟨b, 0, none⟩) hlt).trans q0;refine sqT 3 8 1000 1000 ?_;simp [go_sem, hdep ⟨2, .data⟩ (sqM 2 1000), c0]
   ·cases ho;refine sqT 4 8 1000 1000 ?_;simp [go_sem, hrest 0 (by kernel_rfl)]
   ·cases ho;refine sqT 5 8 1000 1000 ?_;simp [go_sem, hdep ⟨4, .data⟩ (sqM 4 1000)]
   ·cases ho;refine sqT 6 8 1000 1000 ?_;simp [go_sem, hdep ⟨5, .data⟩ (sqM 5 1000)]
   ·cases ho;have c1 := (hI.cell (p := ⟨b, 1, none⟩) hlt).trans q1;refine sqT 7 8 1000 1000 ?_;simp [go_sem, hdep ⟨6, .data⟩ (sqM 6 1000), c1]
   ·cases ho;refine ⟨fun _ => ⟨fun _ => ⟨166, #[.string (bstr s), .int .i64 rd.i], ?_, (K1.out W).mono fun e w' ⟨hb, n, nx, er, he, hP⟩ => ⟨(n, nx, er), he, hP, hb⟩⟩, sqN 8 1000, sqN 8 1000, fun h => absurd rfl h⟩, nofun⟩;simp [go_sem, hdep ⟨3, .data⟩ (sqM 3 1000), hdep ⟨7, .data⟩ (sqM 7 1000), hfn]
   ·cases ho;obtain ⟨x, rfl⟩ := hx rfl (sqM 9 8);refine sqT 9 8 1000 1000 ?_;simp [go_sem, hdep ⟨8, .data⟩ (sqM 8 1000)]
   ·cases ho;obtain ⟨x, rfl⟩ := hx rfl (sqM 10 8);refine sqT 10 8 1000 1000 ?_;simp [go_sem, hdep ⟨9, .data⟩ (sqM 9 1000)]
   ·cases ho;obtain ⟨x, rfl⟩ := hx rfl (sqM 11 8);refine sqT 11 8 1000 1000 ?_;simp [go_sem, hdep ⟨9, .data⟩ (sqM 9 1000)]
   ·cases ho;obtain ⟨x, rfl⟩ := hx rfl (sqM 12 8);refine sqT 12 8 1000 1000 ?_;simp [go_sem, hdep ⟨9, .data⟩ (sqM 9 1000)]
   ·cases ho;obtain ⟨x, rfl⟩ := hx rfl (sqM 13 8);refine sqT 13 8 1000 1000 ?_;simp [go_sem, hdep ⟨10, .data⟩ (sqM 10 1000)]
   ·cases ho;obtain ⟨x, rfl⟩ := hx rfl (sqM 14 8);refine sqT 14 8 1000 1000 ?_;simp [go_sem, hdep ⟨11, .data⟩ (sqM 11 1000)]
   ·cases ho;obtain ⟨x, rfl⟩ := hx rfl (sqM 15 8);refine sqT 15 8 1000 1000 ?_;simp [go_sem, hdep ⟨12, .data⟩ (sqM 12 1000)]
   ·simp at ho
  intro x g wx hb hP hG;simp (decide := true) only [putAll, Act.put, List.setIfInBounds_toArray, List.set_cons_zero, List.set_cons_succ, Nat.reduceAdd, Option.elim, if_true, if_false];replace hP : (fun x _ => IntP (expI s rd.i) x.1 x.2.1 x.2.2) x wx := hP
  (try dsimp only at hP)
  clear hG;have HBX := Lib.hid (HB.out.up hb hlt);have HW := Lib.hid (grown_below (b := b) hb);have HP := Lib.hid hP;have HL := Lib.hid (fun h => expI_le s rd.i h);clear K1 HB hb hP q0 q1 q2 s0 s1 s2;obtain ⟨n, nx, er⟩ := x;go_wp2_with fail;refine (bAdvance_any b (bstr s) rd.i nx er _ HBX.out).mono ?_;rintro e w2 ⟨rfl, hB2, hg2⟩;go_wp2_with fail;refine bodyPost_ret (v := .int .i64 n) (by simp [results, Tryz.results110, go_sem]) rfl ⟨by rw [E.out]; exact ret_int HP.out.1, by rw [E.out]; exact RdR.move (r := ((expI s rd.i).1, (expI s rd.i).2.2)) hB2 HP.out.2 HL.out hl, grown_trans HW.out hg2⟩
 ·have E : Hid (rInt s rd = (0, rd)) := if_pos he;have e0 : (er == 0) = false := beq_eq_false_iff_ne.2 fun h => he (h0.1 h)
  have e1 : (er != 0) = true := bne_iff_ne.2 fun h => he (h0.1 h)
  have HR := Lib.hid hR0;clear hB hR hR0 h0 h1 h2 h3 he;go_enter Tryz.func110, Tryz.ntmps110;go_wp2_with fail;exact bodyPost_ret (v := .int .i64 0) (by simp [results, Tryz.results110, go_sem]) rfl ⟨by rw [E.out], by rw [E.out]; exact HR.out, World.grownBy.refl _ _⟩
end Go.Proofs.YtkfhpefmmhljmaaGreatDoor
/- CpA -/
namespace Go.Proofs.YtkfhpefmmhljmaaGreatDoor
open Go.RowKit
set_option maxRecDepth 100000
theorem ownsRow_uniq {w : World} {b : Nat} {t : TypeId} {n m : Nat} {v : Value} {xs ys : List Value} (h : w.ownsRow b t n v m xs) (k : w.ownsRow b t n v m ys) : xs = ys := by
 rcases h.2 with ⟨rfl, rfl⟩ | ⟨g, cap, cur, rfl, _, hg, _, _, _, hx⟩
 ·rw [List.eq_nil_of_length_eq_zero (show xs.length = 0 by rw [h.1]; omega), List.eq_nil_of_length_eq_zero (show ys.length = 0 by rw [k.1]; omega)]
 ·rcases k.2 with ⟨h1, _⟩ | ⟨g', cap', cur', h1, _, hg', _, _, _, hy⟩
  ·cases h1
  ·injection h1 with h1
   injection h1 with h1
   injection h1 with h1
   subst h1;rw [hg] at hg';injection hg' with hg'
   injection hg' with hc
   rw [← hx, ← hy, hc]
def Adv (rd rd' : Rd) : Prop := rd'.e = 0 → rd.e = 0 ∧ rd.i < rd'.i
theorem Adv.trans {a b c : Rd} (h : Adv a b) (k : Adv b c) : Adv a c := fun h0 => by
 obtain ⟨h1, h2⟩ := k h0;obtain ⟨h3, h4⟩ := h h1;exact ⟨h3, by omega⟩
theorem next_gt (s : Bytes) (i : Int) (h : (nextT s i).1 = 0) : 0 ≤ i ∧ i < s.length ∧ i < (nextT s i).2.2 := by
 unfold nextT at h ⊢;by_cases h1 : 65536 < s.length
 ·rw [if_pos h1] at h; cases h
 by_cases h2 : i < 0 ∨ (s.length : Int) < i
 ·rw [if_neg h1, if_pos h2] at h; cases h
 rw [if_neg h1, if_neg h2] at h ⊢;have hi := endF_le isSep s i.toNat (by omega);by_cases h3 : endF isSep s i.toNat = s.length
 ·rw [if_pos h3] at h; cases h
 rw [if_neg h3] at h ⊢;have hr := endF_le isRun s (endF isSep s i.toNat) hi.2;by_cases h4 : s.getD (endF isSep s i.toNat) 0 = 40
 ·rw [if_pos h4]; simp; omega
 rw [if_neg h4] at h ⊢;by_cases h5 : s.getD (endF isSep s i.toNat) 0 = 41
 ·rw [if_pos h5]; simp; omega
 rw [if_neg h5] at h ⊢;have key : ∀ p, allB p (runAt s (endF isSep s i.toNat)) = true → endF isSep s i.toNat < endF isRun s (endF isSep s i.toNat) := fun p hp => by
  refine Nat.lt_of_not_le fun hge => ?_
  have hnil : runAt s (endF isSep s i.toNat) = [] := by
   unfold runAt;rw [show endF isRun s (endF isSep s i.toNat) - endF isSep s i.toNat = 0 by omega];rfl
  rw [hnil] at hp;simp [allB] at hp
 by_cases h6 : allB isLow (runAt s (endF isSep s i.toNat)) = true
 ·rw [if_pos h6];have := key _ h6;simp;omega
 rw [if_neg h6] at h ⊢;by_cases h7 : (!allB isNum (runAt s (endF isSep s i.toNat))) = true
 ·rw [if_pos h7] at h; cases h
 rw [if_neg h7] at h ⊢;have h7' := key isNum (by simpa using h7);by_cases h8 : (runAt s (endF isSep s i.toNat)).any (· == 47) = true
 ·rw [if_pos h8] at h; cases h
 rw [if_neg h8] at h ⊢;by_cases h9 : (pz (runAt s (endF isSep s i.toNat))).1 ≠ 0
 ·rw [if_pos h9] at h; exact absurd h h9
 rw [if_neg h9];simp;omega
theorem expT_ok {s : Bytes} {i k : Int} (h : (expT s i k).1 = 0) : (nextT s i).1 = 0 ∧ expT s i k = nextT s i ∧ tkKind (nextT s i).2.1 = k := by
 unfold expT at h ⊢;by_cases h1 : (nextT s i).1 = 8
 ·rw [if_pos h1] at h; cases h
 rw [if_neg h1] at h ⊢;by_cases h2 : (nextT s i).1 ≠ 0
 ·rw [if_pos h2] at h; exact absurd h h2
 rw [if_neg h2] at h ⊢;by_cases h3 : tkKind (nextT s i).2.1 ≠ k
 ·rw [if_pos h3] at h; cases h
 rw [if_neg h3];exact ⟨by simpa using h2, rfl, by simpa using h3⟩
theorem expT_gt {s : Bytes} {i k : Int} (h : (expT s i k).1 = 0) : i < (expT s i k).2.2 := by
 obtain ⟨h1, h2, _⟩ := expT_ok h;rw [h2];exact (next_gt s i h1).2.2
theorem rTok_adv (s : Bytes) (k : Int) (rd : Rd) : Adv rd (rTok s k rd) := fun h => by
 unfold rTok at h ⊢;by_cases h0 : rd.e ≠ 0
 ·rw [if_pos h0] at h; exact absurd h h0
 rw [if_neg h0] at h ⊢;unfold rMove at h ⊢;by_cases h1 : (expT s rd.i k).1 = 0
 ·rw [if_pos h1];exact ⟨by simpa using h0, expT_gt h1⟩
 ·rw [if_neg h1] at h; exact absurd h h1
theorem rWord_adv (s : Bytes) (y : Bytes) (rd : Rd) : Adv rd (rWord s y rd) := fun h => by
 unfold rWord at h ⊢;by_cases h0 : rd.e ≠ 0
 ·rw [if_pos h0] at h; exact absurd h h0
 rw [if_neg h0] at h ⊢;unfold rMove expW at h ⊢;by_cases h1 : (expT s rd.i 3).1 ≠ 0
 ·rw [if_pos h1, if_neg h1] at h; exact absurd h h1
 rw [if_neg h1] at h ⊢;by_cases h2 : tkText (expT s rd.i 3).2.1 ≠ y
 ·rw [if_pos h2, if_neg (by decide)] at h; cases h
 rw [if_neg h2, if_pos rfl];exact ⟨by simpa using h0, expT_gt (by simpa using h1)⟩
theorem rInt_adv (s : Bytes) (rd : Rd) : Adv rd (rInt s rd).2 := fun h => by
 unfold rInt at h ⊢;by_cases h0 : rd.e ≠ 0
 ·rw [if_pos h0] at h; exact absurd h h0
 rw [if_neg h0] at h ⊢;dsimp only at h ⊢;unfold rMove expI at h ⊢;by_cases h1 : (expT s rd.i 4).1 ≠ 0
 ·rw [if_pos h1, if_neg h1] at h; exact absurd h h1
 rw [if_neg h1] at h ⊢;by_cases h2 : (!i64In (tkNum (expT s rd.i 4).2.1)) = true
 ·rw [if_pos h2, if_neg (by decide)] at h; cases h
 rw [if_neg h2, if_pos rfl];exact ⟨by simpa using h0, expT_gt (by simpa using h1)⟩
theorem stepP_adv (s : Bytes) (rd : Rd) : Adv rd (stepP s rd).2 := (((rTok_adv s 1 rd).trans (rInt_adv s _)).trans (rInt_adv s _)).trans (rTok_adv s 2 _)
theorem goOn_lt {s : Bytes} {rd : Rd} (h : goOn s rd = true) : rd.e = 0 ∧ peekT s rd.i 1 = true ∧ 0 ≤ rd.i ∧ rd.i < s.length := by
 unfold goOn at h;simp only [Bool.and_eq_true, decide_eq_true_eq] at h;have h2 := h.2;unfold peekT at h2;simp only [Bool.and_eq_true, decide_eq_true_eq] at h2;have := next_gt s rd.i h2.1;exact ⟨h.1, h.2, this.1, this.2.1⟩
def StpR (b : Nat) (s : Bytes) (r : St × Rd) (w : World) (e : Ending) (w' : World) : Prop := e = .returned (.agg #[.int .i64 r.1.1, .int .i64 r.1.2]) ∧ RdR w' b s r.2 ∧ w.grownBy w' (some b)
set_option maxHeartbeats 2000000 in
theorem step_any (b : Nat) (s : Bytes) (rd : Rd) (w : World) (hs : SlOk s) (hl : s.length ≤ 1000000) (hR : RdR w b s rd) :
  Calls Tryz.prog 112 #[.pointer (some ⟨b, 0, none⟩)] w (StpR b s (stepP s rd) w) := by
 have HR0 := Lib.hid (hR.alloc (.cells #[.int .i64 0, .int .i64 0] 205));have hlt := hR.lt;have HX0 : Hid (Box (w.alloc (.cells #[.int .i64 0, .int .i64 0] 205)) w.heap.size [.int .i64 0, .int .i64 0]) := Box.new w #[.int .i64 0, .int .i64 0] 205;have HG0 := Lib.hid (grown_below (b := b) ((Below.refl w.heap.size w).alloc (Nat.le_refl _) (.cells #[.int .i64 0, .int .i64 0] 205)));have K1 := Lib.hid fun k rd W hk hR => bExpect_any b s k rd W hs hl hk hR
 have K2 := Lib.hid fun rd W hR => bInteger_any b s rd W hs hl hR
 have E : Hid (stepP s rd = (((rInt s (rTok s 1 rd)).1, (rInt s (rInt s (rTok s 1 rd)).2).1), rTok s 2 (rInt s (rInt s (rTok s 1 rd)).2).2)) := rfl;generalize stepP s rd = R at *;clear hR hs;go_enter Tryz.func112, Tryz.ntmps112;go_wp2_with fail;refine (K1.out 1 rd _ (by decide) HR0.out).mono ?_;rintro e w1 ⟨rfl, hR1, hg1⟩;have HR1 := Lib.hid hR1;have HX1 := Lib.hid (HX0.out.grown hg1 (by omega) (by simp));have HG1 := Lib.hid (grown_trans HG0.out hg1);clear hR1 hg1 HX0 HR0;go_wp2_with fail;refine (K2.out _ _ HR1.out).mono ?_;rintro e w2 ⟨rfl, hR2, hg2⟩;have HR2 := Lib.hid hR2;have HX2 := Lib.hid (HX1.out.grown hg2 (by omega) (HX1.out.lt (by simp)));have HG2 := Lib.hid (grown_trans HG1.out hg2);clear hR2 hg2 HX1 HR1 HG1;go_wp2_with fail;refine (K2.out _ _ HR2.out).mono ?_;rintro e w3 ⟨rfl, hR3, hg3⟩;have HR3 := Lib.hid hR3;have HX3 := Lib.hid (HX2.out.grown hg3 (by omega) (HX2.out.lt (by simp)));have HG3 := Lib.hid (grown_trans HG2.out hg3);clear hR3 hg3 HX2 HR2 HG2;go_wp2_with fail;refine (K1.out 2 _ _ (by decide) HR3.out).mono ?_;rintro e w4 ⟨rfl, hR4, hg4⟩;have HR4 := Lib.hid hR4;have HX4 := Lib.hid (HX3.out.grown hg4 (by omega) (HX3.out.lt (by simp)));have HG4 := Lib.hid (grown_trans HG3.out hg4);clear hR4 hg4 HX3 HR3 HG3;obtain ⟨q0, s0, q1, s1⟩ := sqX2 HX4.out;generalize (rInt s (rTok s 1 rd)).1 = q at *;generalize (rInt s (rInt s (rTok s 1 rd)).2).1 = p at *;go_wp2_with fail;refine bodyPost_ret (v := .agg #[.int .i64 q, .int .i64 p]) (by simp [results, Tryz.results112, go_sem, q0, q1]) rfl ⟨by rw [E.out], ?_, grown_setsN HG4.out (Nat.le_refl _) [.int .i64 q, .int .i64 p] 0⟩;rw [E.out];obtain ⟨i, er, h1, h2⟩ := HR4.out;exact ⟨i, er, h1.others (b' := w.heap.size) (by omega) 0 [.int .i64 q, .int .i64 p], h2⟩
end Go.Proofs.YtkfhpefmmhljmaaGreatDoor
