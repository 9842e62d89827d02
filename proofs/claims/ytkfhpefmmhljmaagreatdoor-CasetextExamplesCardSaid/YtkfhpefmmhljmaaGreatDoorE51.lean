/- Texts in one: ExP, ExW. -/
import Derived.Test.YtkfhpefmmhljmaaGreatDoorE49
import Derived.Test.YtkfhpefmmhljmaaGreatDoorE50
set_option linter.unusedVariables false
set_option linter.unusedSimpArgs false
set_option maxHeartbeats 16000000
set_option maxRecDepth 100000
namespace Go.Proofs.YtkfhpefmmhljmaaGreatDoor
def fullT : Bytes := [40, 99, 97, 115, 101, 32, 40, 110, 101, 116, 32, 50, 32, 40, 108, 105, 110, 101, 32, 48, 32, 49, 32, 51, 32, 57, 41, 41, 32, 40, 117, 110, 105, 116, 115, 32, 40, 117, 110, 105, 116, 32, 48, 32, 49, 32, 49, 32, 50, 32, 53, 32, 51, 32, 48, 32, 45, 49, 32, 40, 53, 32, 49, 41, 32, 40, 52, 32, 51, 41, 41, 41, 32, 40, 104, 111, 117, 114, 115, 32, 40, 104, 111, 117, 114, 32, 50, 32, 40, 98, 105, 100, 115, 32, 40, 98, 105, 100, 32, 49, 32, 40, 52, 32, 49, 48, 48, 48, 48, 48, 48, 41, 41, 41, 32, 40, 114, 101, 97, 108, 32, 40, 98, 105, 100, 32, 49, 32, 40, 51, 32, 55, 41, 41, 41, 41, 32, 40, 104, 111, 117, 114, 32, 48, 32, 40, 98, 105, 100, 115, 32, 40, 98, 105, 100, 32, 49, 32, 40, 50, 32, 49, 48, 48, 48, 48, 48, 48, 41, 41, 41, 32, 40, 114, 101, 97, 108, 32, 40, 98, 105, 100, 32, 49, 32, 40, 50, 32, 49, 48, 48, 48, 48, 48, 48, 41, 41, 41, 41, 41, 32, 40, 111, 117, 116, 97, 103, 101, 115, 32, 40, 112, 108, 97, 110, 32, 48, 32, 48, 32, 49, 41, 32, 40, 108, 111, 115, 115, 32, 48, 32, 49, 32, 49, 41, 32, 40, 116, 114, 105, 112, 32, 48, 32, 48, 32, 48, 41, 41, 32, 40, 114, 105, 103, 104, 116, 115, 32, 40, 114, 105, 103, 104, 116, 32, 48, 32, 49, 32, 53, 41, 32, 40, 114, 105, 103, 104, 116, 32, 49, 32, 49, 32, 48, 41, 41, 41]
def fullC : Cs := ⟨⟨2, [(0, 1, 3, 9)]⟩, [⟨0, 1, [(5, 1), (4, 3)], 1, 2, 5, 3, 0, -1⟩], [⟨[⟨1, [(4, 1000000)]⟩], [⟨1, [(3, 7)]⟩], 2⟩, ⟨[⟨1, [(2, 1000000)]⟩], [⟨1, [(2, 1000000)]⟩], 0⟩], [(1, 0, 0, 1), (2, 0, 1, 1), (3, 0, 0, 0)], [(0, 1, 5), (1, 1, 0)]⟩
theorem mJ : vF fullT = (0, fullC) := by kernel_rfl
theorem cL : fmtR fullC = (fullT, 0) := by kernel_rfl
def jJ : Bytes := List.replicate 65537 32
def exT : List (Bytes × Int) := [([], 4), ([99, 97, 115, 101], 3), ([40, 99, 97, 115, 101, 115], 3), ([40, 99, 97, 115, 101, 32, 40, 110, 101, 116, 32, 48, 41], 1), ([40, 99, 97, 115, 101, 32, 40, 110, 101, 116, 32, 49, 41, 32, 40, 104, 111, 117, 114, 115], 3), ([40, 99, 97, 115, 101, 32, 40, 110, 101, 116, 32, 49, 41, 32, 40, 117, 110, 105, 116, 115, 41, 32, 40, 104, 111, 117, 114, 115, 32, 40, 104, 111, 117, 114, 32, 120], 3), ([40, 99, 97, 115, 101, 32, 40, 110, 101, 116, 32, 49, 41, 32, 40, 117, 110, 105, 116, 115, 41, 32, 40, 104, 111, 117, 114, 115, 32, 40, 104, 111, 117, 114, 32, 48, 32, 40, 114, 101, 97, 108], 3), ([40, 99, 97, 115, 101, 32, 40, 110, 101, 116, 32, 49, 41, 32, 40, 117, 110, 105, 116, 115, 41, 32, 40, 104, 111, 117, 114, 115, 32, 40, 104, 111, 117, 114, 32, 48, 32, 40, 98, 105, 100, 115, 41, 32, 40, 114, 101, 97, 108, 41, 41, 41, 32, 40, 111, 117, 116, 97, 103, 101, 115, 41, 32, 40, 114, 105, 103, 104, 116, 115, 32, 40, 114, 105, 103, 104, 116, 32, 48, 32, 48, 41, 41, 41], 3), ([40, 99, 97, 115, 101, 32, 40, 110, 101, 116, 32, 49, 41, 32, 40, 117, 110, 105, 116, 115, 41, 32, 40, 104, 111, 117, 114, 115, 32, 40, 104, 111, 117, 114, 32, 48, 32, 40, 98, 105, 100, 115, 41, 32, 40, 114, 101, 97, 108, 41, 41, 41, 32, 40, 111, 117, 116, 97, 103, 101, 115, 41, 32, 40, 114, 105, 103, 104, 116, 115, 41, 41, 41], 6), ([40, 99, 97, 115, 101, 32, 40, 110, 101, 116, 32, 49, 41, 32, 40, 117, 110, 105, 116, 115, 41, 32, 40, 104, 111, 117, 114, 115, 32, 40, 104, 111, 117, 114, 32, 48, 32, 40, 98, 105, 100, 115, 41, 32, 40, 114, 101, 97, 108, 41, 41, 41, 32, 40, 111, 117, 116, 97, 103, 101, 115, 41, 32, 40, 114, 105, 103, 104, 116, 115, 41, 41, 32, 48, 48, 55], 6), ([40, 99, 97, 115, 101, 32, 40, 110, 101, 116, 32, 49, 41, 32, 40, 117, 110, 105, 116, 115, 41, 32, 40, 104, 111, 117, 114, 115, 32, 40, 104, 111, 117, 114, 32, 48, 32, 40, 98, 105, 100, 115, 41, 32, 40, 114, 101, 97, 108, 41, 41, 41, 32, 40, 111, 117, 116, 97, 103, 101, 115, 41, 32, 40, 114, 105, 103, 104, 116, 115, 41, 41, 32, 10, 32], 0), (jJ, 5)]
theorem fV {s : Bytes} {k : Int} {rd : Rd} (h : rd.e ≠ 0) : rTok s k rd = rd := if_pos h
theorem rD {α : Type} {z : α} {p : Int → Int × α × Int} {rd : Rd} (h : rd.e ≠ 0) : oneP z p rd = (z, rd) := if_pos h
theorem bY {α : Type} {s : Bytes} {z : α} {p : Int → Int × α × Int} {rd : Rd} (h : rd.e ≠ 0) : ∀ n, manyP s z p n rd = ([], rd)
 | 0 => rfl
 | n + 1 => by rw [manyP, if_neg (by simp [goOn, h])]
theorem cB {α : Type} {s y : Bytes} {z : α} {p : Int → Int × α × Int} {rd : Rd} (h : rd.e ≠ 0) : listP s y z p rd = ([], rd) := by
 have h1 : rOpen s y rd = rd := by
  unfold rOpen;rw [fV h];exact if_pos h
 unfold listP;simp only [h1, bY h, fV h]
theorem fW : nextT jJ 0 = (5, .op, 0) := if_pos (by unfold jJ; rw [List.length_replicate]; decide)
theorem gT : vF jJ = (5, cs0) := by
 have h1 : rTok jJ 1 ⟨0, 0⟩ = ⟨0, 5⟩ := by
  unfold rTok expT;rw [fW];rfl
 have h2 : caseP jJ 0 = (5, cs0, 0) := by
  have h3 : rOpen jJ [99, 97, 115, 101] ⟨0, 0⟩ = ⟨0, 5⟩ := by
   unfold rOpen;rw [h1];exact if_pos (by decide)
  unfold caseP caseR;simp only [h3, rD (rd := ⟨0, 5⟩) (by decide), cB (rd := ⟨0, 5⟩) (by decide), fV (rd := ⟨0, 5⟩) (by decide)];rfl
 unfold vF;rw [h2];rfl
theorem sN (k : Nat) (h : k < 12) (hk : k ≠ 10) : vF (exT.getD k ([], 0)).1 = ((exT.getD k ([], 0)).2, cs0) ∧ (exT.getD k ([], 0)).2 ≠ 0 ∧ (exT.getD k ([], 0)).2 ≠ -1 ∧ (exT.getD k ([], 0)).1.any (· == 47) = false ∧ (exT.getD k ([], 0)).1.length ≤ 70000 := by
 rcases k with _ | _ | _ | _ | _ | _ | _ | _ | _ | _ | _ | _ | k
 iterate 10 (exact ⟨by kernel_rfl, by decide, by decide, by decide +kernel, by decide +kernel⟩)
 ·exact absurd rfl hk
 ·exact ⟨gT, by decide, by decide, by show jJ.any _ = false; unfold jJ; rw [List.any_replicate]; rfl, by show jJ.length ≤ _; unfold jJ; rw [List.length_replicate]; decide⟩
 ·omega
def offT : Bytes := [120, 32, 40, 99, 97, 115, 101, 32, 40, 110, 101, 116, 32, 49, 41, 32, 40, 117, 110, 105, 116, 115, 41, 32, 40, 104, 111, 117, 114, 115, 32, 40, 104, 111, 117, 114, 32, 48, 32, 40, 98, 105, 100, 115, 41, 32, 40, 114, 101, 97, 108, 41, 41, 41, 32, 40, 111, 117, 116, 97, 103, 101, 115, 41, 32, 40, 114, 105, 103, 104, 116, 115, 41, 41, 121]
theorem bW : caseP offT 2 = (0, x1, 74) := by kernel_rfl
theorem bX : caseP uM (-1) = (1, cs0, 0) := by kernel_rfl
theorem aX : fmtR cs0 = ([], 1) := by kernel_rfl
theorem cP : (exT.getD 10 ([], 0)).2 = 0 ∧ vF (exT.getD 10 ([], 0)).1 = (0, x1) ∧ (exT.getD 10 ([], 0)).1.any (· == 47) = false ∧ (exT.getD 10 ([], 0)).1.length ≤ 70000 := ⟨rfl, by kernel_rfl, by decide +kernel, by decide +kernel⟩
end Go.Proofs.YtkfhpefmmhljmaaGreatDoor
namespace Go.Proofs.YtkfhpefmmhljmaaGreatDoor
open Go.RowKit
theorem gY : ∀ n, Lib.repeatL [32] n = List.replicate n 32
 | 0 => rfl
 | n + 1 => by rw [Lib.repeatL, gY n]; rfl
def gN : List Value := exT.flatMap fun p => [.string (bstr p.1), .int .i64 p.2]
theorem mO (k : Nat) (h : k < 12) : gN[k * 2]? = some (.string (bstr (exT.getD k ([], 0)).1)) ∧ gN[k * 2 + 1]? = some (.int .i64 (exT.getD k ([], 0)).2) := by
 rcases k with _ | _ | _ | _ | _ | _ | _ | _ | _ | _ | _ | _ | k
 iterate 12 exact ⟨rfl, rfl⟩
 omega
theorem fO (w : World) (ht : TabW w) : Calls Tryz.prog 7 #[] w (BoolE true w) := by
 have HT := η ht;clear ht;have KP := η fun W => vB fullT W (jZ (by decide +kernel)) (by decide +kernel)
 rw [mJ] at KP;go_enter Tryz.func7, Tryz.ntmps7;go_wp2_with fail;refine (aV w HT.out).mono ?_;rintro e w1 ⟨rfl, hb1⟩;have HB1 := η hb1;clear hb1;go_wp2_with fail;refine (KP.out w1).mono ?_;rintro e w2 ⟨hb2, cells, er, rfl, hcs, hER⟩;obtain rfl : er = 0 := by rcases hER with ⟨_, h⟩ | ⟨h, _⟩; exact h; exact absurd h (show ¬ (0 : Int) = -1 by decide)
 obtain ⟨D1, d1, D2, d2, D3, d3, D4, d4, D5, d5, hcc⟩ : ∃ D1 d1 D2 d2 D3 d3 D4 d4 D5 d5, cells = [.int .i64 2, .slice D1 1 d1, .slice D2 1 d2, .slice D3 2 d3, .slice D4 3 d4, .slice D5 2 d5] := hcs.form;subst hcc;have HY2 : Hid (Box (w2.alloc (.cells #[.int .i64 2, .slice D1 1 d1, .slice D2 1 d2, .slice D3 2 d3, .slice D4 3 d4, .slice D5 2 d5] 30)) w2 [.int .i64 2, .slice D1 1 d1, .slice D2 1 d2, .slice D3 2 d3, .slice D4 3 d4, .slice D5 2 d5]) := Box.new w2 #[.int .i64 2, .slice D1 1 d1, .slice D2 1 d2, .slice D3 2 d3, .slice D4 3 d4, .slice D5 2 d5] 30;have HB2 := η ((HB1.out.trans (hb2.mono HB1.out.size)).alloc (by have h1 := HB1.out.size; have h2 := hb2.size; omega) (.cells #[.int .i64 2, .slice D1 1 d1, .slice D2 1 d2, .slice D3 2 d3, .slice D4 3 d4, .slice D5 2 d5] 30));have HC2 := η (CsO.own.up hcs (w' := (w2.alloc (.cells #[.int .i64 2, .slice D1 1 d1, .slice D2 1 d2, .slice D3 2 d3, .slice D4 3 d4, .slice D5 2 d5] 30))) (βA _));have hz2 : w2 < (w2.alloc (.cells #[.int .i64 2, .slice D1 1 d1, .slice D2 1 d2, .slice D3 2 d3, .slice D4 3 d4, .slice D5 2 d5] 30)).heap.size := by simp
 clear hcs hb2 hER KP HB1;go_upto_region 4 with fail
 generalize (w2.alloc (.cells #[.int .i64 2, .slice D1 1 d1, .slice D2 1 d2, .slice D3 2 d3, .slice D4 3 d4, .slice D5 2 d5] 30)) = wa at *;generalize w2.heap.size = b2 at *;obtain ⟨B1, e1', B2, e2', B3, e3', B4, e4', B5, e5', hce, r1, r2, r3, r4, r5⟩ := (HC2.out).read;injection hce with g0 hce; clear g0; injection hce with g1 hce; injection hce with g2 hce; injection hce with g3 hce; injection hce with g4 hce; injection hce with g5 hce; clear hce
 injection g1 with a1 m1 b1; subst a1; subst b1; clear m1
 injection g2 with a2 m2 b2; subst a2; subst b2; clear m2
 injection g3 with a3 m3 b3; subst a3; subst b3; clear m3
 injection g4 with a4 m4 b4; subst a4; subst b4; clear m4
 injection g5 with a5 m5 b5; subst a5; subst b5; clear m5
 have KF := η (yZ fullC D1 D2 D3 D4 D5 d1 d2 d3 d4 d5 wa r1 r2 r3 r4 r5 (by decide) (by decide) (HT.out.below HB2.out));rw [cL] at KF;clear r1 r2 r3 r4 r5;obtain ⟨q0, s0, q1, s1, q2, s2, q3, s3, q4, s4, q5, s5⟩ := sqX6 HY2.out;go_wp2_with fail;refine KF.out.mono ?_;rintro e w3 ⟨rfl, hb3⟩;have HY3 := η (HY2.out.up hb3 hz2);have HB3 := βT HB2 hb3;have HC3 := η (CsO.own.up HC2.out hb3);have hz3 : b2 < w3 := νl hz2 hb3.size;clear hb3 HY2 HB2 HC2 hz2 KF q0 q1 q2 q3 q4 q5 s0 s1 s2 s3 s4 s5;obtain ⟨B1, e1', B2, e2', B3, e3', B4, e4', B5, e5', hce, r1, r2, r3, r4, r5⟩ := (HC3.out).read;injection hce with g0 hce; clear g0; injection hce with g1 hce; injection hce with g2 hce; injection hce with g3 hce; injection hce with g4 hce; injection hce with g5 hce; clear hce
 injection g1 with a1 m1 b1; subst a1; subst b1; clear m1
 injection g2 with a2 m2 b2; subst a2; subst b2; clear m2
 injection g3 with a3 m3 b3; subst a3; subst b3; clear m3
 injection g4 with a4 m4 b4; subst a4; subst b4; clear m4
 injection g5 with a5 m5 b5; subst a5; subst b5; clear m5
 obtain ⟨bh, oh, ch, rfl, hbh, _, ⟨_, _, _, _, rfl, _, _, _, _⟩, hh⟩ := r3.at_ 0 hr0 (by decide);obtain ⟨bo, oo, co, rfl, hbo, _, hco, ho⟩ := r4.at_ 1 (0, 0, 0, 0) (by decide);obtain ⟨br, or_, cr, rfl, hbr, _, hcr, hr⟩ := r5.at_ 0 (0, 0, 0) (by decide);replace hco : co = [.int .u8 2, .int .i64 0, .int .i64 1, .int .i64 1] := hco;replace hcr : cr = [.int .i64 0, .int .i64 1, .int .i64 5] := hcr;subst hco hcr;have x0 : w3.cell? ⟨bh, oh + 2, none⟩ = some (.int .i64 2) := hh 2 _ rfl;have o0 : w3.cell? ⟨bo, oo + 4, none⟩ = some (.int .u8 2) := ho 0 _ rfl;have o1 : w3.cell? ⟨bo, oo + 4 + 1, none⟩ = some (.int .i64 0) := ho 1 _ rfl;have o2 : w3.cell? ⟨bo, oo + 4 + 2, none⟩ = some (.int .i64 1) := ho 2 _ rfl;have o3 : w3.cell? ⟨bo, oo + 4 + 3, none⟩ = some (.int .i64 1) := ho 3 _ rfl;have t0 : w3.cell? ⟨br, or_, none⟩ = some (.int .i64 0) := hr 0 _ rfl;have t1 : w3.cell? ⟨br, or_ + 1, none⟩ = some (.int .i64 1) := hr 1 _ rfl;have t2 : w3.cell? ⟨br, or_ + 2, none⟩ = some (.int .i64 5) := hr 2 _ rfl;clear r1 r2 r3 r4 r5 hh ho hr HC3;have hbh : bh < w3 := hbh;have hbo : bo < w3 := hbo;have hbr : br < w3 := hbr;have hes : (bstr fullT).toList = fullT := by rw [qH]
 have n1 := fun a b c W => nD a b c W
 have n2 := fun a b c d W => nE a b c d W
 obtain ⟨q0, s0, q1, s1, q2, s2, q3, s3, q4, s4, q5, s5⟩ := sqX6 HY3.out;go_upto_region 7 with fail
 clear x0 o0 o1 o2 o3 t0 t1 t2 hes n1 n2 HY3 hbh hbo hbr hz3 q0 q1 q2 q3 q4 q5 s0 s1 s2 s3 s4 s5;have KR := η (Tryz.strings_Repeat_main ⟨#[32]⟩ 65537 w3 (by decide) (by decide) (by decide) (by decide));go_wp2_with fail;refine KR.out.mono ?_;rintro e w4 ⟨rfl, hb4⟩;have hsp : (⟨(Lib.repeatL (⟨#[32]⟩ : ByteArray).data.toList 65537).toArray⟩ : ByteArray) = bstr jJ := by show (⟨(Lib.repeatL [32] 65537).toArray⟩ : ByteArray) = _; rw [gY]; rfl
 rw [hsp];have HB4 := βT HB3 hb4;clear hb4 HB3 KR hsp;go_wp2_with fail;generalize hW : w4.alloc _ = wb;have HTB : Hid (Box wb w4 gN) := by show Box _ _ _; rw [← hW]; exact Box.new w4 _ _
 have HBB : Hid (Below w w wb) := by show Below _ _ _; rw [← hW]; exact HB4.out.alloc HB4.out.size _
 have hzb : w4 < wb.heap.size := by rw [← hW]; simp
 have hw4 : w ≤ w4.heap.size := HB4.out.size;clear hW HB4;generalize w4.heap.size = g4 at *;go_loopg [6, 7, 8, 103] 12 (fun gl s6 s7 s8 s103 wr => ∃ k : Nat, k + gl = 12 ∧ s103 = .int .i64 (k : Int) ∧ Box wr g4 gN ∧ Below w w wr)
 case atStart => exact ⟨0, by omega, rfl, HTB.out, HBB.out⟩
 case round =>
  obtain ⟨k, hkg, rfl, hbx, hbl⟩ := hrel;have HTX := η hbx;have HBX := η hbl;clear hbx hbl HTB HBB hzb;have hgw : g4 < wr := HTX.out.lt (by decide);cases gk with
  | zero =>
   obtain rfl : k = 12 := by omega
   have K1 := η (yO offT 2 wr (jZ (by decide +kernel)) (by decide +kernel) (by decide));rw [bW] at K1;have K2 := η fun W => yO uM (-1) W (jZ (by decide +kernel)) (by decide +kernel) (by decide)
   rw [bX] at K2;have K3 := η fun W (hT : TabW W) => yZ cs0 none none none none none 0 0 0 0 0 W RowR.nil_ RowR.nil_ RowR.nil_ RowR.nil_ RowR.nil_ (by decide) (by decide) hT
   rw [aX] at K3;generalize wr = wo at *;go_wp2_with fail;refine K1.out.mono ?_;rintro e w5 ⟨hb5, cells, er, rfl, hcs, hER⟩;obtain rfl : er = 0 := by rcases hER with ⟨_, h⟩ | ⟨h, _⟩; exact h; exact absurd h (show ¬ (0 : Int) = -1 by decide)
   obtain ⟨A1, c1, A2, c2, A3, c3, A4, c4, A5, c5, hcc⟩ : ∃ A1 c1 A2 c2 A3 c3 A4 c4 A5 c5, cells = [.int .i64 1, .slice A1 0 c1, .slice A2 0 c2, .slice A3 1 c3, .slice A4 0 c4, .slice A5 0 c5] := hcs.form;subst hcc;have HB5 := η ((HBX.out.trans (hb5.mono HBX.out.size)).alloc (by have h1 := HBX.out.size; have h2 := hb5.size; omega) (.cells #[.int .i64 1, .slice A1 0 c1, .slice A2 0 c2, .slice A3 1 c3, .slice A4 0 c4, .slice A5 0 c5] 30));clear hb5 hcs hER K1 HBX HTX;go_wp2_with fail;refine (K2.out _).mono ?_;rintro e w6 ⟨hb6, cells, er, rfl, hcs, hER⟩;obtain rfl : er = 1 := by rcases hER with ⟨_, h⟩ | ⟨h, _⟩; exact h; exact absurd h (show ¬ (1 : Int) = -1 by decide)
   obtain ⟨E1, e1, E2, e2, E3, e3, E4, e4, E5, e5, hcc⟩ : ∃ E1 e1 E2 e2 E3 e3 E4 e4 E5 e5, cells = [.int .i64 0, .slice E1 0 e1, .slice E2 0 e2, .slice E3 0 e3, .slice E4 0 e4, .slice E5 0 e5] := hcs.form;subst hcc;have HB6 := η ((HB5.out.trans (hb6.mono HB5.out.size)).alloc (by have h1 := HB5.out.size; have h2 := hb6.size; omega) (.cells #[.int .i64 0, .slice E1 0 e1, .slice E2 0 e2, .slice E3 0 e3, .slice E4 0 e4, .slice E5 0 e5] 30));clear hb6 hcs hER K2 HB5;go_wp2_with fail;refine (K3.out _ (HT.out.below HB6.out)).mono ?_;rintro e w7 ⟨rfl, hb7⟩;have HB7 := βT HB6 hb7;clear hb7 K3 HB6;go_wp2_with fail;go_ret;exact ⟨rfl, HB7.out⟩
  | succ gl =>
   have hk : k < 12 := by omega
   obtain ⟨hc1, hc2⟩ := mO k hk;have c0 := HTX.out.c (k * 2) _ hc1;have c1 := HTX.out.c (k * 2 + 1) _ hc2;have i1 : (k : Int) < 12 := by omega
   clear hc1 hc2;by_cases hk10 : k = 10
   ·subst hk10;obtain ⟨h1, h2, h3, h4⟩ := cP;rw [h1] at c1;generalize (exT.getD 10 ([], 0)).1 = t at *;have KP := η fun W => vB t W (jZ h3) (by omega)
    rw [h2] at KP;clear h1 h2 h3 h4 i1;have hgb : g4 < (wr.alloc (.cells #[.string (bstr t), .int .i64 0] 54)).heap.size := by simp; omega
    have HT5 := η (HTX.out.alloc hgw (.cells #[.string (bstr t), .int .i64 0] 54));have HB5 := η (HBX.out.alloc HBX.out.size (.cells #[.string (bstr t), .int .i64 0] 54));generalize wr = wo at *;go_wp2_with fail;refine (KP.out _).mono ?_;rintro e w5 ⟨hb5, cells, er, rfl, hcs, hER⟩;obtain rfl : er = 0 := by rcases hER with ⟨_, h⟩ | ⟨h, _⟩; exact h; exact absurd h (show ¬ (0 : Int) = -1 by decide)
    obtain ⟨A1, c1, A2, c2, A3, c3, A4, c4, A5, c5, hcc⟩ : ∃ A1 c1 A2 c2 A3 c3 A4 c4 A5 c5, cells = [.int .i64 1, .slice A1 0 c1, .slice A2 0 c2, .slice A3 1 c3, .slice A4 0 c4, .slice A5 0 c5] := hcs.form;subst hcc;have hg5 : g4 < w5 := νl hgb hb5.size;have HT6 := η ((HT5.out.up hb5 hgb).alloc hg5 (.cells #[.int .i64 1, .slice A1 0 c1, .slice A2 0 c2, .slice A3 1 c3, .slice A4 0 c4, .slice A5 0 c5] 30));have HB6 := η ((HB5.out.trans (hb5.mono HB5.out.size)).alloc (by have h1 := HB5.out.size; have h2 := hb5.size; omega) (.cells #[.int .i64 1, .slice A1 0 c1, .slice A2 0 c2, .slice A3 1 c3, .slice A4 0 c4, .slice A5 0 c5] 30));clear hb5 hcs hER KP HB5 HT5;go_wp2_with fail;go_roundg gl
    case measure => omega
    case rel => exact ⟨11, by omega, by go_num, HT6.out, HB6.out⟩
   obtain ⟨h1, h2, h3, h4, h5⟩ := sN k hk hk10;obtain ⟨t, ht⟩ : ∃ t, (exT.getD k ([], 0)).1 = t := ⟨_, rfl⟩;obtain ⟨er, her⟩ : ∃ er, (exT.getD k ([], 0)).2 = er := ⟨_, rfl⟩;rw [ht] at c0 h1 h4 h5;rw [her] at c1 h1 h2 h3;have KR := η fun W => jH t er W (jZ h4) (by omega) h1 h3
   have z0 : (er == 0) = false := βf h2;have hgb : g4 < (wr.alloc (.cells #[.string (bstr t), .int .i64 er] 54)).heap.size := by simp; omega
   have HT5 := η (HTX.out.alloc hgw (.cells #[.string (bstr t), .int .i64 er] 54));have HB5 := η (HBX.out.alloc HBX.out.size (.cells #[.string (bstr t), .int .i64 er] 54));clear ht her h1 h3 h4 h5;generalize wr = wo at *;go_wp2_with fail;refine (KR.out _).mono ?_;rintro e w5 ⟨rfl, hb5⟩;have HT6 := η (HT5.out.up hb5 hgb);have HB6 := βT HB5 hb5;clear hb5 KR HB5 HT5;go_wp2_with fail;go_roundg gl
   case measure => omega
   case rel => exact ⟨k + 1, by omega, by go_num, HT6.out, HB6.out⟩
end Go.Proofs.YtkfhpefmmhljmaaGreatDoor
