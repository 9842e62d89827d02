/- Texts in one: FmR, FmN. -/
import Derived.Test.YtkfhpefmmhljmaaGreatDoorE34
import Derived.Test.YtkfhpefmmhljmaaGreatDoorE42
set_option linter.unusedVariables false
set_option linter.unusedSimpArgs false
set_option maxHeartbeats 16000000
set_option maxRecDepth 100000
namespace Go.Proofs.YtkfhpefmmhljmaaGreatDoor
theorem gL {α : Type} {f : α → Int} : ∀ {l : List α}, fstE f l = 0 → ∀ x ∈ l, f x = 0 := by
 intro l
 induction l with
 | nil => intro _ x hx; cases hx
 | cons a l ih =>
  intro h x hx;rw [fstE] at h;by_cases h1 : f a ≠ 0
  ·rw [if_pos h1] at h; exact absurd h h1
  rw [if_neg h1] at h;rcases List.mem_cons.1 hx with rfl | hx
  ·exact Decidable.not_not.1 h1
  ·exact ih h x hx
theorem cV {f : Og → Int} : ∀ {l : List Og} {i : Nat}, (chkG f l i).2 = 0 → ∀ x ∈ l, f x = 0 := by
 intro l
 induction l with
 | nil => intro _ _ x hx; cases hx
 | cons a l ih =>
  intro i h x hx;rw [chkG] at h;by_cases h1 : f a = 0
  ·rw [if_pos h1] at h;rcases List.mem_cons.1 hx with rfl | hx
   ·exact h1
   ·exact ih h x hx
  ·rw [if_neg h1] at h; exact absurd h h1
structure CsOk (x : Cs) : Prop where
 net : qI x.net.buses x.net.lines = 0
 un : x.units.length ≤ 5
 us : ∀ u ∈ x.units, unitE x.net.buses u = 0
 hn : 0 < x.hours.length ∧ x.hours.length ≤ 8
 hs : ∀ h ∈ x.hours, HrOk x.net.buses h
 on : x.outs.length ≤ 16
 os : ∀ o ∈ x.outs, (o.1 = 1 ∨ o.1 = 2 ∨ o.1 = 3) ∧ qJ o = true
 rn : x.rights.length ≤ 8
 rs : ∀ r ∈ x.rights, RtOk r
theorem eZ {n : Int} : ∀ {real bids : List Bd}, real.length = bids.length → fstE realE (real.zip bids) = 0 → (∀ b ∈ bids, bidE n b = 0) → ∀ b ∈ real, bidE n b = 0 := by
 intro real
 induction real with
 | nil => intro _ _ _ _ b hb; cases hb
 | cons a real ih =>
  intro bids hl hf hb b hm;cases bids with
  | nil => simp at hl
  | cons c bids =>
   rw [List.zip_cons_cons, fstE] at hf;by_cases h1 : realE (a, c) ≠ 0
   ·rw [if_pos h1] at hf; exact absurd hf h1
   rw [if_neg h1] at hf;have h2 : realE (a, c) = 0 := Decidable.not_not.1 h1;rcases List.mem_cons.1 hm with rfl | hm
   ·have hc := hb c (by simp);unfold realE at h2;by_cases h3 : (b, c).1.bus ≠ (b, c).2.bus
    ·rw [if_pos h3] at h2; cases h2
    rw [if_neg h3] at h2;have h3' : b.bus = c.bus := Decidable.not_not.1 h3;unfold bidE at hc ⊢;rw [h3'];cases hi : inB c.bus n with
    | false => rw [hi] at hc; cases hc
    | true => exact h2
   ·exact ih (by simpa using hl) hf (fun d hd => hb d (by simp [hd])) b hm
theorem cJ {n : Int} {f h : Hr} (hh : hourE n f h = 0) : HrOk n h := by
 unfold hourE at hh;by_cases h1 : 6 < h.bids.length
 ·rw [if_pos h1] at hh; cases hh
 rw [if_neg h1] at hh;by_cases h2 : fstE (bidE n) h.bids ≠ 0
 ·rw [if_pos h2] at hh; exact absurd hh h2
 rw [if_neg h2] at hh;by_cases h3 : h.real.length ≠ h.bids.length
 ·rw [if_pos h3] at hh; cases hh
 rw [if_neg h3] at hh;by_cases h4 : fstE realE (h.real.zip h.bids) ≠ 0
 ·rw [if_pos h4] at hh; exact absurd hh h4
 rw [if_neg h4] at hh;by_cases h5 : h.need < 0 ∨ 1000000 < h.need
 ·rw [if_pos h5] at hh; cases hh
 have k2 := gL (Decidable.not_not.1 h2);have k3 := Decidable.not_not.1 h3;exact ⟨k2, eZ k3 (Decidable.not_not.1 h4) k2, by omega, by omega, by unfold small; omega⟩
theorem rT {x : Cs} (h : dayE x = 0) : CsOk x := by
 unfold dayE at h;by_cases h1 : qI x.net.buses x.net.lines ≠ 0
 ·rw [if_pos h1] at h; exact absurd h h1
 rw [if_neg h1] at h;by_cases h2 : 5 < x.units.length
 ·rw [if_pos h2] at h; cases h
 rw [if_neg h2] at h;by_cases h3 : fstE (unitE x.net.buses) x.units ≠ 0
 ·rw [if_pos h3] at h; exact absurd h h3
 rw [if_neg h3] at h;by_cases h4 : x.hours.length = 0
 ·rw [if_pos h4] at h; cases h
 rw [if_neg h4] at h;by_cases h5 : 8 < x.hours.length
 ·rw [if_pos h5] at h; cases h
 rw [if_neg h5] at h;by_cases h6 : fstE (hourE x.net.buses (x.hours.getD 0 hr0)) x.hours ≠ 0
 ·rw [if_pos h6] at h; exact absurd h h6
 rw [if_neg h6] at h;by_cases h7 : xB x.net.lines.length x.units.length x.hours.length x.outs ≠ 0
 ·rw [if_pos h7] at h; exact absurd h h7
 rw [if_neg h7] at h;have k1 := Decidable.not_not.1 h1;have k7 := Decidable.not_not.1 h7;obtain ⟨_, _, hll, _⟩ := kE k1;unfold xB ogChk at k7;by_cases h8 : 16 < x.outs.length
 ·rw [if_pos h8] at k7; cases k7
 rw [if_neg h8] at k7;have k8 := cV k7;unfold xL at h;by_cases h9 : 8 < x.rights.length
 ·rw [if_pos h9] at h; cases h
 rw [if_neg h9] at h;by_cases h10 : x.rights.all (rtOk x.net.buses) = true
 ·refine ⟨k1, by omega, gL (Decidable.not_not.1 h3), by omega, fun y hy => cJ (gL (Decidable.not_not.1 h6) y hy), by omega, fun o ho => ?_, by omega, fun r hr => ?_⟩
  ·have h11 := k8 o ho;unfold ogWr at h11;by_cases h12 : o.1 ≠ 1 ∧ o.1 ≠ 2 ∧ o.1 ≠ 3
   ·rw [if_pos h12] at h11; cases h11
   rw [if_neg h12] at h11;refine ⟨by omega, ?_⟩;unfold qJ;simp only [κb, κe];by_cases hk3 : o.1 = 3
   ·simp only [hk3, if_true] at h11 ⊢;by_cases h13 : o.2.1 < 0 ∨ (x.units.length : Int) ≤ o.2.1 ∨ o.2.2.1 < 0 ∨ o.2.2.2 < o.2.2.1 ∨ (x.hours.length : Int) ≤ o.2.2.2
    ·rw [if_pos h13] at h11; cases h11
    ·omega
   ·simp only [hk3, if_false] at h11 ⊢;by_cases h13 : o.2.1 < 0 ∨ (x.net.lines.length : Int) ≤ o.2.1 ∨ o.2.2.1 < 0 ∨ o.2.2.2 < o.2.2.1 ∨ (x.hours.length : Int) ≤ o.2.2.2
    ·rw [if_pos h13] at h11; cases h11
    ·omega
  ·have h11 := List.all_eq_true.1 h10 r hr;obtain ⟨_, hb6, _, _⟩ := kE k1;unfold rtOk inB at h11;simp only [κb, κe] at h11;unfold RtOk small;omega
 ·rw [if_neg h10] at h; cases h
def caseS (x : Cs) : Bytes := [40, 99, 97, 115, 101, 32] ++ joinS (fmtT (netT x.net)) [listS [117, 110, 105, 116, 115] (x.units.map (fun x => fmtT (unitT x))), listS [104, 111, 117, 114, 115] (x.hours.map hourS), listS [111, 117, 116, 97, 103, 101, 115] (x.outs.map (fun x => fmtT (outT x))), listS [114, 105, 103, 104, 116, 115] (x.rights.map qV)] ++ [41]
def fmtR (x : Cs) : Bytes × Int := if dayE x = 0 then (caseS x, 0) else ([], dayE x)
end Go.Proofs.YtkfhpefmmhljmaaGreatDoor
namespace Go.Proofs.YtkfhpefmmhljmaaGreatDoor
open Go.RowKit
theorem yZ (x : Cs) (A1 A2 A3 A4 A5 : Option Addr) (c1 c2 c3 c4 c5 : Nat) (w : World)
  (h1 : RowR LnE 4 w w A1 x.net.lines) (h2 : RowR UnR 9 w w A2 x.units) (h3 : RowR HrR 3 w w A3 x.hours) (h4 : RowR OgE' 4 w w A4 x.outs) (h5 : RowR RtE 3 w w A5 x.rights) (ho : x.outs.length ≤ 1000000) (hr : x.rights.length ≤ 1000000) (ht : TabW w) :
  Calls Tryz.prog 11 #[.agg #[.int .i64 x.net.buses, .slice A1 x.net.lines.length c1, .slice A2 x.units.length c2, .slice A3 x.hours.length c3, .slice A4 x.outs.length c4, .slice A5 x.rights.length c5]] w fun e w' => e = .returned (.tuple #[.string (bstr (fmtR x).1), .int .i64 (fmtR x).2]) ∧ Below w w w' := by
 have HX : Hid (Box (w.alloc (.cells #[.int .i64 x.net.buses, .slice A1 x.net.lines.length c1, .slice A2 x.units.length c2, .slice A3 x.hours.length c3, .slice A4 x.outs.length c4, .slice A5 x.rights.length c5] 30)) w [.int .i64 x.net.buses, .slice A1 x.net.lines.length c1, .slice A2 x.units.length c2, .slice A3 x.hours.length c3, .slice A4 x.outs.length c4, .slice A5 x.rights.length c5]) := Box.new w #[.int .i64 x.net.buses, .slice A1 x.net.lines.length c1, .slice A2 x.units.length c2, .slice A3 x.hours.length c3, .slice A4 x.outs.length c4, .slice A5 x.rights.length c5] _;have HB : Hid (Below w w (w.alloc (.cells #[.int .i64 x.net.buses, .slice A1 x.net.lines.length c1, .slice A2 x.units.length c2, .slice A3 x.hours.length c3, .slice A4 x.outs.length c4, .slice A5 x.rights.length c5] 30))) := βA _;have KC := η (aL x.net.buses x.net.lines x.units x.hours x.outs x.rights A1 A2 A3 A4 A5 c1 c2 c3 c4 c5 (w.alloc (.cells #[.int .i64 x.net.buses, .slice A1 x.net.lines.length c1, .slice A2 x.units.length c2, .slice A3 x.hours.length c3, .slice A4 x.outs.length c4, .slice A5 x.rights.length c5] 30)) (h1.upto LnE.keep HB.out) (h2.upto UnR.keep HB.out) (h3.upto HrR.keep HB.out) (h4.upto OgE'.keep HB.out) (h5.upto RtE.keep HB.out) ho hr);rw [show (⟨⟨x.net.buses, x.net.lines⟩, x.units, x.hours, x.outs, x.rights⟩ : Cs) = x from rfl] at KC;have H1 := η h1;have H2 := η h2;have H3 := η h3;have H4 := η h4;have H5 := η h5;have HT := η ht;clear h1 h2 h3 h4 h5 ht ho hr;by_cases hd : dayE x = 0
 ·have hok := rT hd;have EF : Hid (fmtR x = (caseS x, 0)) := if_pos hd;rw [hd] at KC;obtain ⟨hb1, hb6, hll, hls⟩ := kE hok.net;have hnl := nV (x := x.net) (by unfold small; omega) hls;have hnf : (fmtT (netT x.net)).length ≤ 2000 := by
   have h1 := xG (netT x.net) none hnl;have h2 := yQ x.net.lines;have h3 : (netT x.net).length = 4 + x.net.lines.length * 7 := by unfold netT; rw [κc, κc, κc, κa, h2]; simp; omega
   show (fmtGo none (netT x.net)).length ≤ _
   omega
  have KN := η fun W hW => cN x.net.buses A1 c1 x.net.lines W hW hok.net
  have KU := η fun W hW => uZ [117, 110, 105, 116, 115] A2 c2 x.units W hW (by have := hok.un; omega) (by decide) x.net.buses hb6 hok.us
  have KH := η fun W hW hT => hC [104, 111, 117, 114, 115] A3 c3 x.hours W hW (by have := hok.hn; omega) (by decide) x.net.buses hb6 hok.hs hT
  have KO := η fun W hW => yH [111, 117, 116, 97, 103, 101, 115] A4 c4 x.outs W hW (by have := hok.on; omega) (by decide) hok.os
  have KR := η fun W hW hT => uG [114, 105, 103, 104, 116, 115] A5 c5 x.rights W hW (by have := hok.rn; omega) (by decide) hok.rs hT
  have l2 := (KU.out w H2.out).2;have l3 := (KH.out w H3.out HT.out).2;have l4 := (KO.out w H4.out).2;have l5 := (KR.out w H5.out HT.out).2;have q2 := hok.un;have q3 := hok.hn.2;have q4 := hok.on;have q5 := hok.rn;obtain ⟨t1, ht1⟩ : ∃ t, t = fmtT (netT x.net) := ⟨_, rfl⟩;obtain ⟨t2, ht2⟩ : ∃ t, t = listS [117, 110, 105, 116, 115] (x.units.map (fun x => fmtT (unitT x))) := ⟨_, rfl⟩;obtain ⟨t3, ht3⟩ : ∃ t, t = listS [104, 111, 117, 114, 115] (x.hours.map hourS) := ⟨_, rfl⟩;obtain ⟨t4, ht4⟩ : ∃ t, t = listS [111, 117, 116, 97, 103, 101, 115] (x.outs.map (fun x => fmtT (outT x))) := ⟨_, rfl⟩;obtain ⟨t5, ht5⟩ : ∃ t, t = listS [114, 105, 103, 104, 116, 115] (x.rights.map qV) := ⟨_, rfl⟩;rw [← ht1] at hnf;rw [← ht2] at l2 KU;rw [← ht3] at l3 KH;rw [← ht4] at l4 KO;rw [← ht5] at l5 KR;rw [show netT ⟨x.net.buses, x.net.lines⟩ = netT x.net from rfl, ← ht1] at KN;simp only [κc, κn] at l2 l3 l4 l5;obtain ⟨J, hJ⟩ : ∃ J, J = joinS t1 [t2, t3, t4, t5] := ⟨_, rfl⟩;have hjl : J.length ≤ 200000 := by rw [hJ]; unfold joinS; simp only [List.flatMap_cons, List.flatMap_nil, κa, κc, κn]; omega
  have EC : Hid (caseS x = [40, 99, 97, 115, 101, 32] ++ J ++ [41]) := by show _ = _; rw [hJ, ht1, ht2, ht3, ht4, ht5]; rfl
  obtain ⟨s1, hs1⟩ : ∃ s, s = [40, 99, 97, 115, 101, 32] ++ J := ⟨_, rfl⟩;have hq1 : s1.length ≤ 200100 := by rw [hs1]; simp only [κa, κc, κn]; omega
  have ep1 : ∀ W : World, (Op.stringOp .add ⟨#[40, 99, 97, 115, 101, 32]⟩ (bstr J)).run Tryz.prog W = .ok (.string (bstr s1)) W := fun W => by rw [hs1]; exact zU [40, 99, 97, 115, 101, 32] J W (by simp only [κc, κn]; omega)
  have ep2 : ∀ W : World, (Op.stringOp .add (bstr s1) ⟨#[41]⟩).run Tryz.prog W = .ok (.string (bstr (s1 ++ [41]))) W := fun W => zU s1 [41] W (by simp only [κc, κn]; omega)
  rw [← hs1] at EC;have HJ := η hJ;clear hs1 hJ ht1 ht2 ht3 ht4 ht5 hnl hls hok hd hb1 hb6;go_enter Tryz.func11, Tryz.ntmps11;go_wp2_with fail;refine KC.out.mono ?_;rintro e w0 ⟨rfl, hb0⟩;have hz0 : w < w0.heap.size := νl (by simp) hb0.size;have HX0 := η (HX.out.up hb0 (by simp));have HB0 := η (HB.out.trans (hb0.mono (by simp)));clear hb0 HX HB KC;obtain ⟨q0, s0, q1, s1, q2, s2, q3, s3, q4, s4, q5, s5⟩ := sqX6 HX0.out;have KK0 := η (KN.out w0 (H1.out.upto LnE.keep HB0.out));go_wp2_with fail;refine KK0.out.mono ?_;rintro e w1 ⟨rfl, hb1⟩;have hz1 : w < w1.heap.size := νl hz0 hb1.size;have HX1 := η (HX0.out.up hb1 hz0);have HB1 := η (HB0.out.trans (hb1.mono (κl hz0)));clear hb1 HX0 HB0 hz0 KK0 KN q0 q1 q2 q3 q4 q5 s0 s1 s2 s3 s4 s5;obtain ⟨q0, s0, q1, s1, q2, s2, q3, s3, q4, s4, q5, s5⟩ := sqX6 HX1.out;have KK1 := η ((KU.out w1 (H2.out.upto UnR.keep HB1.out)).1);go_wp2_with fail;refine KK1.out.mono ?_;rintro e w2 ⟨rfl, hb2⟩;have hz2 : w < w2.heap.size := νl hz1 hb2.size;have HX2 := η (HX1.out.up hb2 hz1);have HB2 := η (HB1.out.trans (hb2.mono (κl hz1)));clear hb2 HX1 HB1 hz1 KK1 KU q0 q1 q2 q3 q4 q5 s0 s1 s2 s3 s4 s5;obtain ⟨q0, s0, q1, s1, q2, s2, q3, s3, q4, s4, q5, s5⟩ := sqX6 HX2.out;have KK2 := η ((KH.out w2 (H3.out.upto HrR.keep HB2.out) (HT.out.below HB2.out)).1);go_wp2_with fail;refine KK2.out.mono ?_;rintro e w3 ⟨rfl, hb3⟩;have hz3 : w < w3.heap.size := νl hz2 hb3.size;have HX3 := η (HX2.out.up hb3 hz2);have HB3 := η (HB2.out.trans (hb3.mono (κl hz2)));clear hb3 HX2 HB2 hz2 KK2 KH q0 q1 q2 q3 q4 q5 s0 s1 s2 s3 s4 s5;obtain ⟨q0, s0, q1, s1, q2, s2, q3, s3, q4, s4, q5, s5⟩ := sqX6 HX3.out;have KK3 := η ((KO.out w3 (H4.out.upto OgE'.keep HB3.out)).1);go_wp2_with fail;refine KK3.out.mono ?_;rintro e w4 ⟨rfl, hb4⟩;have hz4 : w < w4.heap.size := νl hz3 hb4.size;have HX4 := η (HX3.out.up hb4 hz3);have HB4 := η (HB3.out.trans (hb4.mono (κl hz3)));clear hb4 HX3 HB3 hz3 KK3 KO q0 q1 q2 q3 q4 q5 s0 s1 s2 s3 s4 s5;obtain ⟨q0, s0, q1, s1, q2, s2, q3, s3, q4, s4, q5, s5⟩ := sqX6 HX4.out;have KK4 := η ((KR.out w4 (H5.out.upto RtE.keep HB4.out) (HT.out.below HB4.out)).1);go_wp2_with fail;refine KK4.out.mono ?_;rintro e w5 ⟨rfl, hb5⟩;have hz5 : w < w5.heap.size := νl hz4 hb5.size
  have HX5 := η (HX4.out.up hb5 hz4);have HB5 := η (HB4.out.trans (hb5.mono (κl hz4)));clear hb5 HX4 HB4 hz4 KK4 KR q0 q1 q2 q3 q4 q5 s0 s1 s2 s3 s4 s5;have HO : Hid ((w5.alloc (.cells #[.string (bstr t1), .string (bstr t2), .string (bstr t3), .string (bstr t4), .string (bstr t5)] 9)).ownsRow w5 9 1 (.slice (some ⟨w5, 0, none⟩) 5 5) 5 ((t1 :: [t2, t3, t4, t5]).map strV)) := ⟨rfl, .inr ⟨w5, 5, _, rfl, νr _, heap_alloc_new w5 _, νr _, by unfold maxLen; omega, rfl, rfl⟩⟩;have KJ := η (vD w5 5 t1 [t2, t3, t4, t5] 5 w5 (w5.alloc (.cells #[.string (bstr t1), .string (bstr t2), .string (bstr t3), .string (bstr t4), .string (bstr t5)] 9)) rfl HO.out (by rw [← HJ.out]; omega) (by simp));rw [← HJ.out] at KJ;clear HO;go_wp2_with fail;refine KJ.out.mono ?_;rintro e w6 ⟨rfl, hb6⟩;have HB6 := η ((HB5.out.alloc (κl hz5) _).trans (hb6.mono (by simp; omega)));clear hb6 KJ HB5 HX5;go_wp2_with fail;go_ret2;exact ⟨by rw [EF.out, EC.out]; rfl, HB6.out⟩
 ·have EF : Hid (fmtR x = ([], dayE x)) := if_neg hd;have e1 : (dayE x == 0) = false := βf hd;have e2 : (dayE x != 0) = true := βt hd;generalize dayE x = de at *;clear hd;go_enter Tryz.func11, Tryz.ntmps11;go_wp2_with fail;refine KC.out.mono ?_;rintro e w0 ⟨rfl, hb0⟩;have HB0 := η (HB.out.trans (hb0.mono (by simp)));clear hb0 HX HB KC;go_wp2_with fail;go_ret2;exact ⟨by rw [EF.out]; rfl, HB0.out⟩
end Go.Proofs.YtkfhpefmmhljmaaGreatDoor
