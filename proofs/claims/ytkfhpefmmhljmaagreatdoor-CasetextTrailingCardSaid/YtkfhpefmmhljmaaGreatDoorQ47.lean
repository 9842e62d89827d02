/- Texts in one: CpO, LxE. -/
import Derived.Test.YtkfhpefmmhljmaaGreatDoorQ44
import Derived.Test.YtkfhpefmmhljmaaGreatDoorQ19
import Derived.Test.YtkfhpefmmhljmaaGreatDoorQ2
import Derived.Test.YtkfhpefmmhljmaaGreatDoorQ46
set_option linter.unusedVariables false
set_option linter.unusedSimpArgs false
set_option maxHeartbeats 16000000
set_option maxRecDepth 100000
/- CpO -/
namespace Go.Proofs.YtkfhpefmmhljmaaGreatDoor
open Go.RowKit
theorem CsO.own : EOwn CsO [127, 62, 49, 53, 51, 205, 133] := ⟨fun {w w' base base' c x} hb hk h => by
 obtain ⟨v1, v2, v3, v4, v5, h0, h1, h2, h3, h4, h5⟩ := h;have K : ∀ ts : List TypeId, (∀ t ∈ ts, t ∈ [127, 62, 49, 53, 51, 205, 133]) → ∀ k, base ≤ k → TypedIn ts w k → w'.heap[k]? = w.heap[k]? := fun ts hts k hk1 ⟨t, ht, cur, fz, hc⟩ => hk k hk1 ⟨t, hts t ht, cur, fz, hc⟩
 exact ⟨v1, v2, v3, v4, v5, h0, h1.keep LnE.own hb (K _ (by simp)), h2.keep UnO.own hb (K _ (by simp)), h3.keep HrO.own hb (K _ (by simp)), h4.keep OgE'.own hb (K _ (by simp)), h5.keep RtE.own hb (K _ (by simp))⟩⟩
theorem CsO.form {w : World} {base : Nat} {c : List Value} {x : Cs} (h : CsO w base c x) : ∃ A1 c1 A2 c2 A3 c3 A4 c4 A5 c5, c = [.int .i64 x.net.buses, .slice A1 x.net.lines.length c1, .slice A2 x.units.length c2, .slice A3 x.hours.length c3, .slice A4 x.outs.length c4, .slice A5 x.rights.length c5] := by
 obtain ⟨v1, v2, v3, v4, v5, h0, h1, h2, h3, h4, h5⟩ := h;obtain ⟨A1, c1, rfl⟩ := sliceO h1;obtain ⟨A2, c2, rfl⟩ := sliceO h2;obtain ⟨A3, c3, rfl⟩ := sliceO h3;obtain ⟨A4, c4, rfl⟩ := sliceO h4;obtain ⟨A5, c5, rfl⟩ := sliceO h5;exact ⟨_, _, _, _, _, _, _, _, _, _, h0⟩
theorem CsO.read {w : World} {base : Nat} {c : List Value} {x : Cs} (h : CsO w base c x) : CsR w w.heap.size c x := by
 obtain ⟨v1, v2, v3, v4, v5, h0, h1, h2, h3, h4, h5⟩ := h;obtain ⟨A1, c1, rfl, _, k1⟩ := h1.read (E' := LnE) (fun _ _ h => h);obtain ⟨A2, c2, rfl, _, k2⟩ := h2.read (E' := UnR) (fun _ _ h => h.read);obtain ⟨A3, c3, rfl, _, k3⟩ := h3.read (E' := HrR) (fun _ _ h => h.read);obtain ⟨A4, c4, rfl, _, k4⟩ := h4.read (E' := OgE') (fun _ _ h => h);obtain ⟨A5, c5, rfl, _, k5⟩ := h5.read (E' := RtE) (fun _ _ h => h);exact ⟨_, _, _, _, _, _, _, _, _, _, h0, k1, k2, k3, k4, k5⟩
theorem CsO.zero (w : World) (base : Nat) : CsO w base [.int .i64 0, .slice none 0 0, .slice none 0 0, .slice none 0 0, .slice none 0 0, .slice none 0 0] cs0 :=
 ⟨_, _, _, _, _, rfl, RowO.nil_ _ _ _ _ _, RowO.nil_ _ _ _ _ _, RowO.nil_ _ _ _ _ _, RowO.nil_ _ _ _ _ _, RowO.nil_ _ _ _ _ _⟩
theorem fin_no {α : Type} {z : α} {chk : α → Int} {r : α × Rd} (h : (fin z chk r).1 ≠ 0) : (fin z chk r).2 = (z, 0) := by
 by_cases h1 : r.2.e ≠ 0
 ·unfold fin; rw [if_pos h1]
 ·by_cases h2 : chk r.1 ≠ 0
  ·unfold fin; rw [if_neg h1, if_pos h2]
  ·exfalso; apply h; unfold fin; rw [if_neg h1, if_neg h2]
theorem caseP_le (s : Bytes) (i : Int) (h : (caseP s i).1 = 0) : 0 ≤ (caseP s i).2.2 ∧ (caseP s i).2.2 ≤ s.length := fin_le h
theorem caseP_in (s : Bytes) (i : Int) (hl : s.length ≤ 1000000) : -9223372036854775808 ≤ (caseP s i).2.2 ∧ (caseP s i).2.2 ≤ 9223372036854775807 := by
 by_cases h : (caseP s i).1 = 0
 ·have := caseP_le s i h;omega
 ·have : (caseP s i).2 = (cs0, 0) := fin_no h;rw [this];decide
def ParseE (r : Int × Cs) (w : World) (e : Ending) (w' : World) : Prop :=
 Below w.heap.size w w' ∧ ∃ cells er, e = .returned (.tuple #[.agg cells.toArray, .int .i64 er]) ∧ CsO w' w.heap.size cells r.2 ∧ ErR r.1 er
theorem parseC_any (s : Bytes) (w : World) (hs : SlOk s) (hl : s.length ≤ 999999) :
  Calls Tryz.prog 14 #[.string (bstr s)] w (ParseE (parseP s) w) := by
 have KC := η (pcase_any s 0 (w.alloc (.cells #[.int .i64 0, .slice none 0 0, .slice none 0 0, .slice none 0 0, .slice none 0 0, .slice none 0 0] 30)) hs hl (by omega));have KN := η fun i W hi => next_any s i W hs hi (by omega)
 have HX : Hid (Box (w.alloc (.cells #[.int .i64 0, .slice none 0 0, .slice none 0 0, .slice none 0 0, .slice none 0 0, .slice none 0 0] 30)) w.heap.size [.int .i64 0, .slice none 0 0, .slice none 0 0, .slice none 0 0, .slice none 0 0, .slice none 0 0]) := Box.new w #[.int .i64 0, .slice none 0 0, .slice none 0 0, .slice none 0 0, .slice none 0 0, .slice none 0 0] 30;have HB : Hid (Below w.heap.size w (w.alloc (.cells #[.int .i64 0, .slice none 0 0, .slice none 0 0, .slice none 0 0, .slice none 0 0, .slice none 0 0] 30))) := βA _;have EP : Hid (parseP s = if (caseP s 0).1 ≠ 0 then ((caseP s 0).1, cs0) else if (nextT s (caseP s 0).2.2).1 ≠ 8 then (6, cs0) else (0, (caseP s 0).2.1)) := rfl;have HCI : Hid (-9223372036854775808 ≤ (caseP s 0).2.2 ∧ (caseP s 0).2.2 ≤ 9223372036854775807) := caseP_in s 0 (by omega);clear hs hl;generalize parseP s = RP at *;generalize caseP s 0 = RC at *;go_enter Tryz.func14, Tryz.ntmps14;go_wp2_with fail;refine KC.out.mono ?_;rintro e w1 ⟨hb1, cells, er, rfl, hcs, hER⟩;obtain ⟨A1, c1, A2, c2, A3, c3, A4, c4, A5, c5, rfl⟩ := hcs.form;have hz1 : w.heap.size < w1.heap.size := νl (by simp) hb1.size;have HX1 := η (HX.out.up hb1 (by simp));have HB1 := η (HB.out.trans (hb1.mono (by simp)));have HCS := η (CsO.own.mono hcs (base' := w.heap.size + 1) (by simp));have HER := η hER;clear hb1 hcs KC HX HB hER;obtain ⟨re, x, ri⟩ := RC;dsimp only at EP HCS HER HCI ⊢;have KX := η (fun W => KN.out ri W HCI.out);clear KN;obtain ⟨q0, s0, q1, s1, q2, s2, q3, s3, q4, s4, q5, s5⟩ := sqX6 HX1.out;by_cases he : er = 0
 ·subst he;obtain rfl : re = 0 := by rcases HER.out with ⟨_, h⟩ | ⟨_, h, _⟩; exact h.symm; exact absurd rfl h
  have HC : Hid (Box (w1.alloc (.cells #[.int .i64 x.net.buses, .slice A1 x.net.lines.length c1, .slice A2 x.units.length c2, .slice A3 x.hours.length c3, .slice A4 x.outs.length c4, .slice A5 x.rights.length c5] 30)) w1.heap.size [.int .i64 x.net.buses, .slice A1 x.net.lines.length c1, .slice A2 x.units.length c2, .slice A3 x.hours.length c3, .slice A4 x.outs.length c4, .slice A5 x.rights.length c5]) := Box.new w1 #[.int .i64 x.net.buses, .slice A1 x.net.lines.length c1, .slice A2 x.units.length c2, .slice A3 x.hours.length c3, .slice A4 x.outs.length c4, .slice A5 x.rights.length c5] 30;go_wp2_with fail;refine (KX.out _).mono ?_;rintro e w2 ⟨hb2, k, t, ng, A, l, c, ng', A', l', c', nx, en, rfl, hN⟩;unfold tkV;have h8 := hN.e8.1;clear hN;have hz2 : w1.heap.size < w2.heap.size := νl (by simp) hb2.size;have hz3 : w.heap.size < w2.heap.size := Nat.lt_trans hz1 hz2;have HC2 := η (HC.out.up hb2 (by simp));have HX2 := η ((HX1.out.alloc hz1 (.cells #[.int .i64 x.net.buses, .slice A1 x.net.lines.length c1, .slice A2 x.units.length c2, .slice A3 x.hours.length c3, .slice A4 x.outs.length c4, .slice A5 x.rights.length c5] 30)).up hb2 (by simp; omega));have HB2 := η ((HB1.out.alloc (Nat.le_of_lt hz1) (.cells #[.int .i64 x.net.buses, .slice A1 x.net.lines.length c1, .slice A2 x.units.length c2, .slice A3 x.hours.length c3, .slice A4 x.outs.length c4, .slice A5 x.rights.length c5] 30)).trans (hb2.mono (by simp; omega)));have HCS2 := η (CsO.own.up (CsO.own.up HCS.out (βA (.cells #[.int .i64 x.net.buses, .slice A1 x.net.lines.length c1, .slice A2 x.units.length c2, .slice A3 x.hours.length c3, .slice A4 x.outs.length c4, .slice A5 x.rights.length c5] 30))) hb2);clear q0 q1 q2 q3 q4 q5 s0 s1 s2 s3 s4 s5 hb2 HC HX1 HB1 HCS;obtain ⟨q0, s0, q1, s1, q2, s2, q3, s3, q4, s4, q5, s5⟩ := sqX6 HX2.out;obtain ⟨u0, v0, u1, v1, u2, v2, u3, v3, u4, v4, u5, v5⟩ := sqX6 HC2.out;by_cases hn : en = 8
  ·subst hn;have EE : Hid (RP = (0, x)) := by show _ = _; rw [EP.out, if_neg (by simp), if_neg (by simp [h8.1 rfl])]
   clear h8;go_wp2_with fail;rw [show ((((((w2.setCell ⟨w.heap.size, 0, none⟩ (.int .i64 x.net.buses)).setCell ⟨w.heap.size, 1, none⟩ (.slice A1 x.net.lines.length c1)).setCell ⟨w.heap.size, 2, none⟩ (.slice A2 x.units.length c2)).setCell ⟨w.heap.size, 3, none⟩ (.slice A3 x.hours.length c3)).setCell ⟨w.heap.size, 4, none⟩ (.slice A4 x.outs.length c4)).setCell ⟨w.heap.size, 5, none⟩ (.slice A5 x.rights.length c5)) = w2.setCells w.heap.size 0 [.int .i64 x.net.buses, .slice A1 x.net.lines.length c1, .slice A2 x.units.length c2, .slice A3 x.hours.length c3, .slice A4 x.outs.length c4, .slice A5 x.rights.length c5] from rfl];have HZ := η ((HX2.out.sets (vs' := [.int .i64 x.net.buses, .slice A1 x.net.lines.length c1, .slice A2 x.units.length c2, .slice A3 x.hours.length c3, .slice A4 x.outs.length c4, .slice A5 x.rights.length c5]) rfl).alloc (by rw [size_sets]; omega) (.cells #[.int .u8 k, .string t, .bool ng, .slice A l c, .bool ng', .slice A' l' c'] 87));have HBz := η ((below_sets HB2.out (νr w.heap.size) [.int .i64 x.net.buses, .slice A1 x.net.lines.length c1, .slice A2 x.units.length c2, .slice A3 x.hours.length c3, .slice A4 x.outs.length c4, .slice A5 x.rights.length c5] 0).alloc (by rw [size_sets]; omega) (.cells #[.int .u8 k, .string t, .bool ng, .slice A l c, .bool ng', .slice A' l' c'] 87));have HCz := η (CsO.own.up (CsO.own.set HCS2.out (g := w.heap.size) (by omega) [.int .i64 x.net.buses, .slice A1 x.net.lines.length c1, .slice A2 x.units.length c2, .slice A3 x.hours.length c3, .slice A4 x.outs.length c4, .slice A5 x.rights.length c5] 0) (βA (.cells #[.int .u8 k, .string t, .bool ng, .slice A l c, .bool ng', .slice A' l' c'] 87)));generalize (w2.setCells w.heap.size 0 [.int .i64 x.net.buses, .slice A1 x.net.lines.length c1, .slice A2 x.units.length c2, .slice A3 x.hours.length c3, .slice A4 x.outs.length c4, .slice A5 x.rights.length c5]).alloc _ = wz at *;clear q0 q1 q2 q3 q4 q5 s0 s1 s2 s3 s4 s5 u0 u1 u2 u3 u4 u5 v0 v1 v2 v3 v4 v5;obtain ⟨q0, s0, q1, s1, q2, s2, q3, s3, q4, s4, q5, s5⟩ := sqX6 HZ.out;exact bodyPost_ret (v := .tuple #[.agg #[.int .i64 x.net.buses, .slice A1 x.net.lines.length c1, .slice A2 x.units.length c2, .slice A3 x.hours.length c3, .slice A4 x.outs.length c4, .slice A5 x.rights.length c5], .int .i64 0]) (by simp [results, Tryz.results14, go_sem, q0, q1, q2, q3, q4, q5]) rfl (by rw [EE.out]; exact ⟨HBz.out, _, 0, rfl, CsO.own.mono HCz.out (by omega), .inl ⟨show (0 : Int) ≠ -1 by decide, rfl⟩⟩)
  ·have e1 : (en == 8) = false := βf hn;have e2 : (en != 8) = true := βt hn;have EE : Hid (RP = (6, cs0)) := by show _ = _; rw [EP.out, if_neg (by simp), if_pos (fun h => hn (h8.2 h))]
   clear h8 hn;go_wp2_with fail;rw [show ((((((w2.setCell ⟨w.heap.size, 0, none⟩ (.int .i64 0)).setCell ⟨w.heap.size, 1, none⟩ (.slice none 0 0)).setCell ⟨w.heap.size, 2, none⟩ (.slice none 0 0)).setCell ⟨w.heap.size, 3, none⟩ (.slice none 0 0)).setCell ⟨w.heap.size, 4, none⟩ (.slice none 0 0)).setCell ⟨w.heap.size, 5, none⟩ (.slice none 0 0)) = w2.setCells w.heap.size 0 [.int .i64 0, .slice none 0 0, .slice none 0 0, .slice none 0 0, .slice none 0 0, .slice none 0 0] from rfl];have HZ := η ((HX2.out.sets (vs' := [.int .i64 0, .slice none 0 0, .slice none 0 0, .slice none 0 0, .slice none 0 0, .slice none 0 0]) rfl).alloc (by rw [size_sets]; omega) (.cells #[.int .u8 k, .string t, .bool ng, .slice A l c, .bool ng', .slice A' l' c'] 87));have HBz := η ((below_sets HB2.out (νr w.heap.size) [.int .i64 0, .slice none 0 0, .slice none 0 0, .slice none 0 0, .slice none 0 0, .slice none 0 0] 0).alloc (by rw [size_sets]; omega) (.cells #[.int .u8 k, .string t, .bool ng, .slice A l c, .bool ng', .slice A' l' c'] 87));generalize (w2.setCells w.heap.size 0 [.int .i64 0, .slice none 0 0, .slice none 0 0, .slice none 0 0, .slice none 0 0, .slice none 0 0]).alloc _ = wz at *;clear q0 q1 q2 q3 q4 q5 s0 s1 s2 s3 s4 s5 u0 u1 u2 u3 u4 u5 v0 v1 v2 v3 v4 v5;obtain ⟨q0, s0, q1, s1, q2, s2, q3, s3, q4, s4, q5, s5⟩ := sqX6 HZ.out;exact bodyPost_ret (v := .tuple #[.agg #[.int .i64 0, .slice none 0 0, .slice none 0 0, .slice none 0 0, .slice none 0 0, .slice none 0 0], .int .i64 6]) (by simp [results, Tryz.results14, go_sem, q0, q1, q2, q3, q4, q5]) rfl (by rw [EE.out]; exact ⟨HBz.out, _, 6, rfl, CsO.zero _ _, .inl ⟨show (6 : Int) ≠ -1 by decide, rfl⟩⟩)
 ·have e1 : (er == 0) = false := βf he;have e2 : (er != 0) = true := βt he;have EE : Hid (RP = (re, cs0)) := by
   show _ = _
   rw [EP.out, if_pos];intro h;have h' : re = 0 := h;rcases HER.out with ⟨_, h2⟩ | ⟨h2, _⟩
   ·exact he (h2.trans h')
   ·rw [h'] at h2; cases h2
  clear he;go_wp2_with fail;rw [show ((((((w1.setCell ⟨w.heap.size, 0, none⟩ (.int .i64 0)).setCell ⟨w.heap.size, 1, none⟩ (.slice none 0 0)).setCell ⟨w.heap.size, 2, none⟩ (.slice none 0 0)).setCell ⟨w.heap.size, 3, none⟩ (.slice none 0 0)).setCell ⟨w.heap.size, 4, none⟩ (.slice none 0 0)).setCell ⟨w.heap.size, 5, none⟩ (.slice none 0 0)) = w1.setCells w.heap.size 0 [.int .i64 0, .slice none 0 0, .slice none 0 0, .slice none 0 0, .slice none 0 0, .slice none 0 0] from rfl];have HZ := η ((HX1.out.sets (vs' := [.int .i64 0, .slice none 0 0, .slice none 0 0, .slice none 0 0, .slice none 0 0, .slice none 0 0]) rfl).alloc (by rw [size_sets]; omega) (.cells #[.int .i64 x.net.buses, .slice A1 x.net.lines.length c1, .slice A2 x.units.length c2, .slice A3 x.hours.length c3, .slice A4 x.outs.length c4, .slice A5 x.rights.length c5] 30));have HBz := η ((below_sets HB1.out (νr w.heap.size) [.int .i64 0, .slice none 0 0, .slice none 0 0, .slice none 0 0, .slice none 0 0, .slice none 0 0] 0).alloc (by rw [size_sets]; omega) (.cells #[.int .i64 x.net.buses, .slice A1 x.net.lines.length c1, .slice A2 x.units.length c2, .slice A3 x.hours.length c3, .slice A4 x.outs.length c4, .slice A5 x.rights.length c5] 30));generalize (w1.setCells w.heap.size 0 [.int .i64 0, .slice none 0 0, .slice none 0 0, .slice none 0 0, .slice none 0 0, .slice none 0 0]).alloc _ = wz at *;clear q0 q1 q2 q3 q4 q5 s0 s1 s2 s3 s4 s5;obtain ⟨q0, s0, q1, s1, q2, s2, q3, s3, q4, s4, q5, s5⟩ := sqX6 HZ.out;exact bodyPost_ret (v := .tuple #[.agg #[.int .i64 0, .slice none 0 0, .slice none 0 0, .slice none 0 0, .slice none 0 0, .slice none 0 0], .int .i64 er]) (by simp [results, Tryz.results14, go_sem, q0, q1, q2, q3, q4, q5]) rfl (by rw [EE.out]; exact ⟨HBz.out, _, er, rfl, CsO.zero _ _, HER.out⟩)
end Go.Proofs.YtkfhpefmmhljmaaGreatDoor
/- LxE -/
namespace Go.Proofs.YtkfhpefmmhljmaaGreatDoor
theorem endF_ext {p : UInt8 → Bool} {s : Bytes} {i : Nat} (r : Bytes) (hi : i ≤ s.length) (h : endF p s i < s.length) : endF p (s ++ r) i = endF p s i := by
 unfold endF at h ⊢;rw [List.drop_append_of_le_length hi, List.takeWhile_append, if_neg (by rw [List.length_drop]; omega)]
theorem runAt_ext {s : Bytes} {q : Nat} (r : Bytes) (hq : q ≤ s.length) (h : endF isRun s q < s.length) : runAt (s ++ r) q = runAt s q := by
 unfold runAt;rw [endF_ext r hq h, List.drop_append_of_le_length hq, List.take_append_of_le_length (by rw [List.length_drop]; omega)]
theorem next_ext {s : Bytes} {i k : Int} {t : Tk} (r : Bytes) (hl : (s ++ r).length ≤ 65536) (h : nextT s i = (0, t, k)) (hk : k < s.length ∨ isRn t = false) : nextT (s ++ r) i = (0, t, k) := by
 have hlen : (s ++ r).length = s.length + r.length := List.length_append;unfold nextT at h ⊢;by_cases h1 : 65536 < s.length
 ·omega
 by_cases h2 : i < 0 ∨ (s.length : Int) < i
 ·rw [if_neg h1, if_pos h2] at h; cases h
 rw [if_neg h1, if_neg h2] at h;rw [if_neg (by omega), if_neg (by omega)];have hi := endF_le isSep s i.toNat (by omega);by_cases h3 : endF isSep s i.toNat = s.length
 ·rw [if_pos h3] at h; cases h
 rw [if_neg h3] at h;have hq : endF isSep s i.toNat < s.length := by omega
 have hg : (s ++ r).getD (endF isSep s i.toNat) 0 = s.getD (endF isSep s i.toNat) 0 := by
  rw [List.getD_eq_getElem?_getD, List.getD_eq_getElem?_getD, List.getElem?_append_left hq]
 rw [endF_ext r (by omega) hq, if_neg (by omega), hg];by_cases h4 : s.getD (endF isSep s i.toNat) 0 = 40
 ·rw [if_pos h4] at h ⊢; exact h
 rw [if_neg h4] at h ⊢;by_cases h5 : s.getD (endF isSep s i.toNat) 0 = 41
 ·rw [if_pos h5] at h ⊢; exact h
 rw [if_neg h5] at h ⊢;have key : endF isRun s (endF isSep s i.toNat) < s.length := by
  by_cases h6 : allB isLow (runAt s (endF isSep s i.toNat)) = true
  ·rw [if_pos h6] at h;obtain ⟨_, rfl, rfl⟩ := h;rcases hk with hk | hk
   ·exact Int.ofNat_lt.1 hk
   ·cases hk
  rw [if_neg h6] at h;by_cases h7 : (!allB isNum (runAt s (endF isSep s i.toNat))) = true
  ·rw [if_pos h7] at h; cases h
  rw [if_neg h7] at h;by_cases h8 : (runAt s (endF isSep s i.toNat)).any (· == 47) = true
  ·rw [if_pos h8] at h; cases h
  rw [if_neg h8] at h;by_cases h9 : (pz (runAt s (endF isSep s i.toNat))).1 ≠ 0
  ·rw [if_pos h9] at h; exact absurd (congrArg Prod.fst h) h9
  rw [if_neg h9] at h;obtain ⟨_, rfl, rfl⟩ := h;rcases hk with hk | hk
  ·exact Int.ofNat_lt.1 hk
  ·cases hk
 rw [runAt_ext r (by omega) key, endF_ext r (by omega) key];exact h
theorem lastp_snoc : ∀ (a : List Tk) (p : Bool) (t : Tk), lastp p (a ++ [t]) = isRn t := by
 intro a
 induction a with
 | nil => intro p t; rfl
 | cons x a ih => intro p t; exact ih _ _
theorem toks_ext {s : Bytes} (r : Bytes) (hl : (s ++ r).length ≤ 65536) : ∀ {l : List Tk} {i j : Int} {p : Bool}, Toks s i l j → lastp p l = false → Toks (s ++ r) i l j := by
 intro l
 induction l with
 | nil => intro i j p h _; exact h
 | cons t l ih =>
  rintro i j p ⟨k, h1, h2⟩ hp;replace hp : lastp (isRn t) l = false := hp;refine ⟨k, next_ext r hl h1 ?_, ih h2 hp⟩;cases l with
  | nil => exact Or.inr hp
  | cons u l =>
   obtain ⟨m, h3, _⟩ := h2;exact Or.inl (lex_in h3).2
theorem caseT_last (x : Cs) (p : Bool) : lastp p (caseT x) = false := lastp_snoc _ _ _
theorem caseP_ext {s : Bytes} (r : Bytes) (hl : (s ++ r).length ≤ 65536) {i : Int} (h : (caseP s i).1 = 0) : caseP (s ++ r) i = (0, (caseP s i).2.1, (caseP s i).2.2) := by
 obtain ⟨h1, h2⟩ := case_read h;exact case_fwd h2 (toks_ext r hl h1 (caseT_last _ true))
end Go.Proofs.YtkfhpefmmhljmaaGreatDoor
