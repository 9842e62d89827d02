/- Texts in one: CkG, CkH. -/
import Derived.Test.YtkfhpefmmhljmaaGreatDoorE30
set_option linter.unusedVariables false
set_option linter.unusedSimpArgs false
set_option maxHeartbeats 16000000
set_option maxRecDepth 100000
namespace Go.Proofs.YtkfhpefmmhljmaaGreatDoor
open Go.RowKit
theorem yW {α : Type} {f : α → Int} {l : List α} {k : Nat} (d : α) (hk : k < l.length) : fstE f (l.drop k) = if f (l.getD k d) ≠ 0 then f (l.getD k d) else fstE f (l.drop (k + 1)) := by
 rw [List.drop_eq_getElem_cons hk, ← zL l k d hk, fstE]
theorem gK {α : Type} (f : α → Int) (l : List α) : fstE f (l.drop l.length) = 0 := by rw [List.drop_length]; rfl
theorem dT (a b : List Bd) (k : Nat) (h : k < a.length) (h' : k < b.length) : (a.zip b).getD k (bd0, bd0) = (a.getD k bd0, b.getD k bd0) := by
 rw [zL _ _ _ (by rw [List.length_zip]; omega), zL _ _ _ h, zL _ _ _ h', List.getElem_zip]
theorem fQ {w w' : World} {B : Nat} {A : Option Addr} {l : List Bd} (h : RowR BdR 2 w B A l) (hb : ∀ p : Addr, p.block < B → w'.cell? p = w.cell? p) (k : Nat) (hk : k < l.length) :
  ∃ b off A' c', A = some ⟨b, off, none⟩ ∧ b < B ∧ w'.cell? ⟨b, off + k * 2, none⟩ = some (.int .i64 (l.getD k bd0).bus) ∧ w'.cell? ⟨b, off + k * 2 + 1, none⟩ = some (.slice A' (l.getD k bd0).steps.length c') ∧ RowR StE 2 w' B A' (l.getD k bd0).steps := by
 obtain ⟨b, off, cc, rfl, hbl, hcn, ⟨A', c', he, _, hr⟩, hcc⟩ := h.at_ k bd0 hk;rw [he] at hcc;exact ⟨b, off, A', c', rfl, hbl, (hb _ hbl).trans (hcc 0 _ rfl), (hb _ hbl).trans (hcc 1 _ rfl), hr.keep StE.keep hb (νr _)⟩
theorem aU (w : World) (o o' : Obj) : Below w w ((w.alloc o).alloc o') := (βA _).alloc (by simp) _
theorem cH (h f : Hr) (A A1 A2 A3 : Option Addr) (c c1 c2 c3 : Nat) (n : Int) (w : World) (hr : RowR BdR 2 w w A h.bids) (hr1 : RowR BdR 2 w w A1 h.real) (hr2 : RowR BdR 2 w w A2 f.bids) :
  Calls Tryz.prog 38 #[.agg #[.slice A h.bids.length c, .slice A1 h.real.length c1, .int .i64 h.need], .agg #[.slice A2 f.bids.length c2, .slice A3 f.real.length c3, .int .i64 f.need], .int .i64 n] w (ErrE w (hourE n f h)) := by
 have HR := η hr;have HR1 := η hr1;have HR2 := η hr2;have E : Hid (hourE n f h = if 6 < h.bids.length then 5
  else if fstE (bidE n) h.bids ≠ 0 then fstE (bidE n) h.bids
  else if h.real.length ≠ h.bids.length then 3
  else if fstE realE (h.real.zip h.bids) ≠ 0 then fstE realE (h.real.zip h.bids)
  else if h.need < 0 ∨ 1000000 < h.need then 1
  else if h.bids.length ≠ f.bids.length then 3
  else fstE busNe (h.bids.zip f.bids)) := rfl
 have KF := η fun A c l W hr => gM A c l W hr
 generalize hourE n f h = R at *;have HB0 := η (aU w (.cells #[.slice A h.bids.length c, .slice A1 h.real.length c1, .int .i64 h.need] 49) (.cells #[.slice A2 f.bids.length c2, .slice A3 f.real.length c3, .int .i64 f.need] 49));have HXh : Hid (Box ((w.alloc (.cells #[.slice A h.bids.length c, .slice A1 h.real.length c1, .int .i64 h.need] 49)).alloc (.cells #[.slice A2 f.bids.length c2, .slice A3 f.real.length c3, .int .i64 f.need] 49)) w [.slice A h.bids.length c, .slice A1 h.real.length c1, .int .i64 h.need]) := (Box.new w #[.slice A h.bids.length c, .slice A1 h.real.length c1, .int .i64 h.need] 49).alloc (by simp) _;have HXf : Hid (Box ((w.alloc (.cells #[.slice A h.bids.length c, .slice A1 h.real.length c1, .int .i64 h.need] 49)).alloc (.cells #[.slice A2 f.bids.length c2, .slice A3 f.real.length c3, .int .i64 f.need] 49)) (w + 1) [.slice A2 f.bids.length c2, .slice A3 f.real.length c3, .int .i64 f.need]) := by
  have := Box.new (w.alloc (.cells #[.slice A h.bids.length c, .slice A1 h.real.length c1, .int .i64 h.need] 49)) #[.slice A2 f.bids.length c2, .slice A3 f.real.length c3, .int .i64 f.need] 49;show Box _ _ _
  simpa using this
 clear hr hr1 hr2;go_enter Tryz.func38, Tryz.ntmps38;by_cases h6 : 6 < h.bids.length
 ·have HE : Hid (R = 5) := E.out.trans (if_pos h6);have d1 : decide ((6 : Int) < (h.bids.length : Int)) = true := κt (by omega);clear h6 E;go_wp2_with fail;go_ret;exact ⟨zH HE.out.symm, HB0.out⟩
 have d1 : decide ((6 : Int) < (h.bids.length : Int)) = false := κf (by omega);replace E : Hid (R = _) := E.out.trans (if_neg h6);have hl1 : h.bids.length ≤ 1000000 := by omega
 clear h6;go_wp2_with fail;go_loopg [6, 8, 9, 22] h.bids.length (fun g s6 s8 s9 s22 wr => ∃ k : Nat, k + g = h.bids.length ∧ s22 = .int .i64 (k : Int) ∧ fstE (bidE n) h.bids = fstE (bidE n) (h.bids.drop k) ∧ Below (w + 2) ((w.alloc (.cells #[.slice A h.bids.length c, .slice A1 h.real.length c1, .int .i64 h.need] 49)).alloc (.cells #[.slice A2 f.bids.length c2, .slice A3 f.real.length c3, .int .i64 f.need] 49)) wr)
 case atStart => exact ⟨0, by omega, rfl, rfl, Below.refl _ _⟩
 case round =>
  obtain ⟨k, hkg, rfl, hs, hb⟩ := hrel;have HB : Hid (Below w w wr) := HB0.out.trans (hb.mono (by omega));have HBW := η hb;have hzz : w + 2 ≤ wr.heap.size := by have := hb.size; simpa using this
  have HS := η hs;clear hs d1;cases gk with
  | succ g =>
   have hk : k < h.bids.length := by omega
   have HG := η hkg;clear hkg hb;have HS2 : Hid (fstE (bidE n) h.bids = _) := HS.out.trans (yW bd0 hk);obtain ⟨b, off, A', c', rfl, hbl, f0, f1, hrs⟩ := fQ HR.out (fun p hp => HB.out.cell hp) k hk;have HRS := η hrs;have HBD : Hid (bidE n (h.bids.getD k bd0) = if !inB (h.bids.getD k bd0).bus n then 1 else zN falls (h.bids.getD k bd0).steps) := rfl;clear hrs HS;generalize bidE n (h.bids.getD k bd0) = bv at *;generalize (h.bids.getD k bd0).bus = bus at *;generalize (h.bids.getD k bd0).steps = steps at *;have K1 := η fun W hr => KF.out A' c' steps W hr
   have HB1 := η (HB.out.alloc (by omega) (.cells #[.int .i64 bus, .slice A' steps.length c'] 133));have HBW1 := η (HBW.out.alloc (by omega) (.cells #[.int .i64 bus, .slice A' steps.length c'] 133));by_cases hi : inB bus n = true
   ·have hb' := hi;unfold inB at hb';simp only [κb, κe] at hb';have d1 : decide (bus < 0) = false := κf (by omega);have d2 : decide (n ≤ bus) = false := κf (by omega);replace HBD : Hid (bv = _) := HBD.out.trans (if_neg (by rw [hi]; simp));clear hi hb';go_wp2_with fail;refine (K1.out _ ((HRS.out.keep (w' := wr) StE.keep (fun _ _ => rfl) HB.out.size).upto StE.keep ((Below.refl wr wr).alloc (νr _) _))).mono ?_;rintro e w3 ⟨rfl, hb3⟩;have HB2 := η (HB1.out.trans (hb3.mono (by simp; omega)));have HBW2 := η (HBW1.out.trans (hb3.mono (by simp; omega)));clear hb3 K1;by_cases hv : bv = 0
    ·have HF : Hid (fstE (bidE n) h.bids = _) := HS2.out.trans (if_neg (fun hh => hh hv));rw [← HBD.out, hv];clear HS2 hv;go_wp2_with fail;go_roundg g
     case measure => omega
     case rel => exact ⟨k + 1, by have := HG.out; omega, by go_num, HF.out, HBW2.out⟩
    ·have HF : Hid (fstE (bidE n) h.bids = bv) := HS2.out.trans (if_pos hv);have HE : Hid (R = bv) := E.out.trans (by rw [HF.out, if_pos hv]);rw [← HBD.out];have e0 : (bv == 0) = false := βf hv;have e1 : (bv != 0) = true := βt hv;clear HS2 HF hv HBD E;go_wp2_with fail
     try rw [κx]
     go_ret;exact ⟨zH HE.out.symm, HB2.out⟩
   ·have hb' : bus < 0 ∨ (¬ bus < 0 ∧ n ≤ bus) := by
     simp [inB] at hi;omega
    have hv : bv = 1 := HBD.out.trans (if_pos (by simp [hi]));have HF : Hid (fstE (bidE n) h.bids = 1) := by
     show _ = _
     rw [HS2.out, if_pos (by rw [hv]; decide), hv]
    have HE : Hid (R = 1) := E.out.trans (by rw [HF.out]; rfl);clear hi hv HS2 HF HBD E;rcases hb' with h1 | ⟨h1, h2⟩
    ·have d1 : decide (bus < 0) = true := κt h1;go_wp2_with fail
     try rw [κx]
     go_ret;exact ⟨zH HE.out.symm, HB1.out⟩
    ·have d1 : decide (bus < 0) = false := κf h1;have d2 : decide (n ≤ bus) = true := κt h2;go_wp2_with fail
     try rw [κx]
     go_ret;exact ⟨zH HE.out.symm, HB1.out⟩
  | zero =>
   obtain rfl : k = h.bids.length := by omega
   have h0 : fstE (bidE n) h.bids = 0 := HS.out.trans (gK _ _);replace E : Hid (R = _) := E.out.trans (if_neg (fun hh => hh h0));have HXh1 := η (HXh.out.up hb (by omega));have HXf1 := η (HXf.out.up hb (by omega));clear hkg hb h0 HS HXh HXf HB0;obtain ⟨q0, s0, q1, s1, q2, s2⟩ := sqX3 HXh1.out;obtain ⟨g0, y0, g1, y1, g2, y2⟩ := sqX3 HXf1.out;clear s0 s1 s2 y0 y1 y2;by_cases hlen : h.real.length = h.bids.length
   ·replace E : Hid (R = _) := E.out.trans (if_neg (fun hh => hh hlen));have e1 : ((h.real.length : Int) != (h.bids.length : Int)) = false := by rw [hlen]; simp
    have HLN := η hlen;have hl2 : h.real.length ≤ 1000000 := by omega
    clear hlen;obtain ⟨wo, rfl⟩ : ∃ wo : World, wo = wr := ⟨_, rfl⟩;go_wp2_with fail;clear e1 hzz;go_loopg [6, 10, 11, 12, 52] h.real.length (fun g s6 s10 s11 s12 s52 wx => ∃ k : Nat, k + g = h.real.length ∧ s52 = .int .i64 (k : Int) ∧ fstE realE (h.real.zip h.bids) = fstE realE ((h.real.zip h.bids).drop k) ∧ Below (w + 2) wo wx)
    case atStart => exact ⟨0, by omega, rfl, rfl, Below.refl _ _⟩
    case round =>
     obtain ⟨k, hkg, rfl, hs, hb⟩ := hrel;have HB2 : Hid (Below w w wr) := HB.out.trans (hb.mono (by omega));have HXh2 := η (HXh1.out.up hb (by omega));have HXf2 := η (HXf1.out.up hb (by omega));have hlth : w < wr.heap.size := HXh2.out.lt (by simp);have HBO := η hb;have HS := η hs;clear hs hb q0 q1 q2 g0 g1 g2;obtain ⟨q0, s0, q1, s1, q2, s2⟩ := sqX3 HXh2.out;obtain ⟨g0, y0, g1, y1, g2, y2⟩ := sqX3 HXf2.out;clear s0 s1 s2 y0 y1 y2;cases gk with
     | succ g =>
      have hk : k < h.real.length := by omega
      have HG := η hkg;clear hkg;have hkb : k < h.bids.length := by have := HLN.out; omega
      have hkz : k < (h.real.zip h.bids).length := by rw [List.length_zip]; omega
      have HS2 : Hid (fstE realE (h.real.zip h.bids) = if realE (h.real.getD k bd0, h.bids.getD k bd0) ≠ 0 then realE (h.real.getD k bd0, h.bids.getD k bd0) else fstE realE ((h.real.zip h.bids).drop (k + 1))) := by
       show _ = _
       rw [HS.out, yW (bd0, bd0) hkz, dT _ _ _ hk hkb]
      obtain ⟨b, off, A', c', rfl, hbl, f0, f1, hrs⟩ := fQ HR1.out (fun p hp => HB2.out.cell hp) k hk;obtain ⟨b', off', A'', c'', rfl, hbl', f2, f3, _⟩ := fQ HR.out (fun p hp => HB2.out.cell hp) k hkb;have HRS := η hrs;have HBD : Hid (realE (h.real.getD k bd0, h.bids.getD k bd0) = if (h.real.getD k bd0).bus ≠ (h.bids.getD k bd0).bus then 3 else zN falls (h.real.getD k bd0).steps) := rfl;clear hrs HS f3;generalize realE (h.real.getD k bd0, h.bids.getD k bd0) = bv at *;generalize (h.real.getD k bd0).bus = bus at *;generalize (h.bids.getD k bd0).bus = bush at *;generalize (h.real.getD k bd0).steps = steps at *;have K1 := η fun W hr => KF.out A' c' steps W hr
      have HB3 := η (HB2.out.alloc (by omega) (.cells #[.int .i64 bus, .slice A' steps.length c'] 133));have HBO3 := η (HBO.out.alloc (by have := HXf2.out.lt (by simp); omega) (.cells #[.int .i64 bus, .slice A' steps.length c'] 133));have hkl : (k : Int) < (h.bids.length : Int) := by omega
      have hbl2 : b' < wr := νl hbl' HB2.out.size;have hbl1 : b < wr := νl hbl HB2.out.size;go_wp2_with fail;by_cases hi : bus = bush
      ·subst hi;replace HBD : Hid (bv = _) := HBD.out.trans (if_neg (fun hh => hh rfl));refine zI (w0 := (wr.alloc (.cells #[.int .i64 bus, .slice A' steps.length c'] 133))) [(3, .pointer (some ⟨w, 0, none⟩)), (10, .int .i64 (k : Int)), (11, .pointer (some ⟨wr, 0, none⟩)), (57, .pointer (some ⟨wr, 0, none⟩)), (58, .int .i64 bus), (59, .pointer (some ⟨w, 0, none⟩)), (60, .slice (some ⟨b', off', none⟩) h.bids.length c), (61, .int .i64 (k : Int)), (62, .pointer (some ⟨b', off' + k * 2, none⟩)), (63, .pointer (some ⟨b', off' + k * 2, none⟩)), (64, .int .i64 bus), (65, .bool false)] [] [3, 10, 11] ?_ ?_
       ·intro T hT W hI;simp only [zA, and_true] at hT;have l0 : W.cell? ⟨wr, 0, none⟩ = some (.int .i64 bus) := (hI.cell (p := ⟨wr, 0, none⟩) (by simp)).trans (by simp);have l1 : W.cell? ⟨w, 0, none⟩ = _ := (hI.cell (p := ⟨w, 0, none⟩) (by simp; omega)).trans (zJ _ q0);have l2 : W.cell? ⟨b', off' + k * 2, none⟩ = _ := (hI.cell (p := ⟨b', off' + k * 2, none⟩) (by simp; omega)).trans (zJ _ f2)
        repeat' first | exact AllO.nil | apply AllO.cons
        all_goals try ((first | refine oV ?_ | refine oN ?_ | refine oG (t := by simp only [hT]) (h := ?_)); simp [go_sem, EvT, hT, l0, l1, hkl, l2, valT]; done)
       intro wx hb;simp (decide := true) only [putT, valT, look, Act.put, σi, σo, σs, Nat.reduceAdd, if_true, if_false];have HB4 := η (HB3.out.trans (hb.mono (by simp; omega)));have HBO4 := η (HBO3.out.trans (hb.mono (by have := HXf2.out.lt (by simp); simp; omega)));have HXB := η ((Box.new wr #[.int .i64 bus, .slice A' steps.length c'] 133).up hb (by simp));have hltx : wr < wx.heap.size := HXB.out.lt (by simp);clear hb;obtain ⟨u0, v0, u1, v1⟩ := sqX2 HXB.out;clear v0 v1;go_wp2_with fail;refine (K1.out _ (HRS.out.keep (w' := wx) StE.keep (fun p hp => (HB4.out.cell hp).trans (HB2.out.cell hp).symm) HB4.out.size)).mono ?_;rintro e w4 ⟨rfl, hb4⟩;have HB5 := βT HB4 hb4;have HBO5 := η (HBO4.out.trans (hb4.mono (by have := HXf2.out.lt (by simp); omega)));clear hb4 K1;by_cases hv : bv = 0
       ·have HF : Hid (fstE realE (h.real.zip h.bids) = _) := HS2.out.trans (if_neg (fun hh => hh hv));rw [← HBD.out, hv];clear HS2 hv;go_wp2_with fail;go_roundg g
        case measure => omega
        case rel => exact ⟨k + 1, by have := HG.out; omega, by go_num, HF.out, HBO5.out⟩
       ·have HF : Hid (fstE realE (h.real.zip h.bids) = bv) := HS2.out.trans (if_pos hv);have HE : Hid (R = bv) := E.out.trans (by rw [HF.out, if_pos hv]);rw [← HBD.out];have e0 : (bv == 0) = false := βf hv;have e1 : (bv != 0) = true := βt hv;clear HS2 HF hv HBD E;go_wp2_with fail
        try rw [κx]
        go_ret;exact ⟨zH HE.out.symm, HB5.out⟩
      ·have hne : (bus != bush) = true := βt hi;have hne2 : (bus == bush) = false := βf hi;have hv : bv = 3 := HBD.out.trans (if_pos hi);have HF : Hid (fstE realE (h.real.zip h.bids) = 3) := by
        show _ = _
        rw [HS2.out, if_pos (by rw [hv]; decide), hv]
       have HE : Hid (R = 3) := E.out.trans (by rw [HF.out]; rfl);clear hi hv HS2 HF HBD E;refine zI (w0 := (wr.alloc (.cells #[.int .i64 bus, .slice A' steps.length c'] 133))) [(3, .pointer (some ⟨w, 0, none⟩)), (10, .int .i64 (k : Int)), (11, .pointer (some ⟨wr, 0, none⟩)), (57, .pointer (some ⟨wr, 0, none⟩)), (58, .int .i64 bus), (59, .pointer (some ⟨w, 0, none⟩)), (60, .slice (some ⟨b', off', none⟩) h.bids.length c), (61, .int .i64 (k : Int)), (62, .pointer (some ⟨b', off' + k * 2, none⟩)), (63, .pointer (some ⟨b', off' + k * 2, none⟩)), (64, .int .i64 bush), (65, .bool true)] [] [3, 10, 11] ?_ ?_
       ·intro T hT W hI;simp only [zA, and_true] at hT;have l0 : W.cell? ⟨wr, 0, none⟩ = some (.int .i64 bus) := (hI.cell (p := ⟨wr, 0, none⟩) (by simp)).trans (by simp);have l1 : W.cell? ⟨w, 0, none⟩ = _ := (hI.cell (p := ⟨w, 0, none⟩) (by simp; omega)).trans (zJ _ q0);have l2 : W.cell? ⟨b', off' + k * 2, none⟩ = _ := (hI.cell (p := ⟨b', off' + k * 2, none⟩) (by simp; omega)).trans (zJ _ f2)
        repeat' first | exact AllO.nil | apply AllO.cons
        all_goals try ((first | refine oV ?_ | refine oN ?_ | refine oG (t := by simp only [hT]) (h := ?_)); simp [go_sem, EvT, hT, l0, l1, hkl, l2, hne, valT]; done)
       intro wx hb;simp (decide := true) only [putT, valT, look, Act.put, σi, σo, σs, Nat.reduceAdd, if_true, if_false];have HB4 := η (HB3.out.trans (hb.mono (by simp; omega)));clear hb;go_wp2_with fail
       try rw [κx]
       go_ret;exact ⟨zH HE.out.symm, HB4.out⟩
     | zero =>
      obtain rfl : k = h.real.length := by omega
      have h0 : fstE realE (h.real.zip h.bids) = 0 := by
       have e := HS.out;rwa [List.drop_eq_nil_of_le (by rw [List.length_zip]; omega)] at e
      replace E : Hid (R = _) := E.out.trans (if_neg (fun hh => hh h0));clear hkg h0 HS;by_cases hn : h.need < 0 ∨ 1000000 < h.need
      ·have HE : Hid (R = 1) := E.out.trans (if_pos hn);clear E;have hn' : decide (h.need < 0) = true ∨ (decide (h.need < 0) = false ∧ decide (1000000 < h.need) = true) := by
        by_cases hh : h.need < 0
        ·exact .inl (κt hh)
        ·exact .inr ⟨κf hh, κt (by omega)⟩
       clear hn;rcases hn' with d1 | ⟨d1, d2⟩
       all_goals
        go_wp2_with fail;go_ret;exact ⟨zH HE.out.symm, HB2.out⟩
      replace E : Hid (R = _) := E.out.trans (if_neg hn);have d1 : decide (h.need < 0) = false := κf (by omega);have d2 : decide (1000000 < h.need) = false := κf (by omega);clear hn;by_cases hlf : h.bids.length = f.bids.length
      ·replace E : Hid (R = _) := E.out.trans (if_neg (fun hh => hh hlf));have HLF := η hlf;have e1 : ((h.bids.length : Int) != (f.bids.length : Int)) = false := by rw [hlf]; simp
       obtain ⟨wy, rfl⟩ : ∃ wy : World, wy = wr := ⟨_, rfl⟩;clear hlf;go_wp2_with fail;clear e1 d1 d2;go_loopg [6, 13, 14, 91] h.bids.length (fun g s6 s13 s14 s91 wx => ∃ k : Nat, k + g = h.bids.length ∧ s91 = .int .i64 (k : Int) ∧ fstE busNe (h.bids.zip f.bids) = fstE busNe ((h.bids.zip f.bids).drop k) ∧ Below (w + 2) wy wx)
       case atStart => exact ⟨0, by omega, rfl, rfl, Below.refl _ _⟩
       case round =>
        obtain ⟨k, hkg, rfl, hs, hb⟩ := hrel;have HB3 : Hid (Below w w wr) := HB2.out.trans (hb.mono (by omega));have HXh3 := η (HXh2.out.up hb (by omega));have HXf3 := η (HXf2.out.up hb (by omega));have hlth3 : w < wr.heap.size := HXh3.out.lt (by simp);have hltf3 : w + 1 < wr.heap.size := HXf3.out.lt (by simp);have HBO3 := η hb;have HS := η hs;clear hs hb q0 q1 q2 g0 g1 g2;obtain ⟨q0, s0, q1, s1, q2, s2⟩ := sqX3 HXh3.out;obtain ⟨g0, y0, g1, y1, g2, y2⟩ := sqX3 HXf3.out;clear s0 s1 s2 y0 y1 y2;cases gk with
        | zero =>
         obtain rfl : k = h.bids.length := by omega
         have h0 : fstE busNe (h.bids.zip f.bids) = 0 := by
          have e := HS.out;rwa [List.drop_eq_nil_of_le (by rw [List.length_zip]; omega)] at e
         have HE : Hid (R = 0) := E.out.trans h0;clear hkg h0 HS E;go_wp2_with fail
         try rw [κx]
         go_ret;exact ⟨zH HE.out.symm, HB3.out⟩
        | succ g =>
         have hk : k < h.bids.length := by omega
         have HG := η hkg;clear hkg;have hkf : k < f.bids.length := by have := HLF.out; omega
         have hkz : k < (h.bids.zip f.bids).length := by rw [List.length_zip]; omega
         have HS2 : Hid (fstE busNe (h.bids.zip f.bids) = if busNe (h.bids.getD k bd0, f.bids.getD k bd0) ≠ 0 then busNe (h.bids.getD k bd0, f.bids.getD k bd0) else fstE busNe ((h.bids.zip f.bids).drop (k + 1))) := by
          show _ = _
          rw [HS.out, yW (bd0, bd0) hkz, dT _ _ _ hk hkf]
         obtain ⟨b, off, A', c', rfl, hbl, f0, f1, _⟩ := fQ HR.out (fun p hp => HB3.out.cell hp) k hk;obtain ⟨b', off', A'', c'', rfl, hbl', f2, f3, _⟩ := fQ HR2.out (fun p hp => HB3.out.cell hp) k hkf;have HBD : Hid (busNe (h.bids.getD k bd0, f.bids.getD k bd0) = if (h.bids.getD k bd0).bus ≠ (f.bids.getD k bd0).bus then 3 else 0) := rfl;clear HS f3;generalize busNe (h.bids.getD k bd0, f.bids.getD k bd0) = bv at *;generalize (h.bids.getD k bd0).bus = bus at *;generalize (f.bids.getD k bd0).bus = busf at *;generalize (h.bids.getD k bd0).steps = steps at *;have HB4 := η (HB3.out.alloc (by omega) (.cells #[.int .i64 bus, .slice A' steps.length c'] 133));have HBO4 := η (HBO3.out.alloc (by omega) (.cells #[.int .i64 bus, .slice A' steps.length c'] 133));have hkl : (k : Int) < (f.bids.length : Int) := by omega
         have hbl2 : b' < wr := νl hbl' HB3.out.size;have hbl1 : b < wr := νl hbl HB3.out.size;go_wp2_with fail;by_cases hi : bus = busf
         ·subst hi;have hv : bv = 0 := HBD.out.trans (if_neg (fun hh => hh rfl));have HF : Hid (fstE busNe (h.bids.zip f.bids) = _) := HS2.out.trans (if_neg (fun hh => hh hv));clear HS2 HBD hv;refine zI (w0 := (wr.alloc (.cells #[.int .i64 bus, .slice A' steps.length c'] 133))) [(4, .pointer (some ⟨w + 1, 0, none⟩)), (13, .int .i64 (k : Int)), (14, .pointer (some ⟨wr, 0, none⟩)), (96, .pointer (some ⟨wr, 0, none⟩)), (97, .int .i64 bus), (98, .pointer (some ⟨w + 1, 0, none⟩)), (99, .slice (some ⟨b', off', none⟩) f.bids.length c2), (100, .int .i64 (k : Int)), (101, .pointer (some ⟨b', off' + k * 2, none⟩)), (102, .pointer (some ⟨b', off' + k * 2, none⟩)), (103, .int .i64 bus), (104, .bool false)] [] [4, 13, 14] ?_ ?_
          ·intro T hT W hI;simp only [zA, and_true] at hT;have l0 : W.cell? ⟨wr, 0, none⟩ = some (.int .i64 bus) := (hI.cell (p := ⟨wr, 0, none⟩) (by simp)).trans (by simp);have l1 : W.cell? ⟨w + 1, 0, none⟩ = _ := (hI.cell (p := ⟨w + 1, 0, none⟩) (by simp; omega)).trans (zJ _ g0);have l2 : W.cell? ⟨b', off' + k * 2, none⟩ = _ := (hI.cell (p := ⟨b', off' + k * 2, none⟩) (by simp; omega)).trans (zJ _ f2)
           repeat' first | exact AllO.nil | apply AllO.cons
           all_goals try ((first | refine oV ?_ | refine oN ?_ | refine oG (t := by simp only [hT]) (h := ?_)); simp [go_sem, EvT, hT, l0, l1, hkl, l2, valT]; done)
          intro wx hb;simp (decide := true) only [putT, valT, look, Act.put, σi, σo, σs, Nat.reduceAdd, if_true, if_false];have HBO5 := η (HBO4.out.trans (hb.mono (by simp; omega)));clear hb;go_wp2_with fail;go_roundg g
          case measure => omega
          case rel => exact ⟨k + 1, by have := HG.out; omega, by go_num, HF.out, HBO5.out⟩
         ·have hne : (bus != busf) = true := βt hi;have hne2 : (bus == busf) = false := βf hi;have hv : bv = 3 := HBD.out.trans (if_pos hi);have HF : Hid (fstE busNe (h.bids.zip f.bids) = 3) := by
           show _ = _
           rw [HS2.out, if_pos (by rw [hv]; decide), hv]
          have HE : Hid (R = 3) := E.out.trans HF.out;clear hi hv HS2 HF HBD E;refine zI (w0 := (wr.alloc (.cells #[.int .i64 bus, .slice A' steps.length c'] 133))) [(4, .pointer (some ⟨w + 1, 0, none⟩)), (13, .int .i64 (k : Int)), (14, .pointer (some ⟨wr, 0, none⟩)), (96, .pointer (some ⟨wr, 0, none⟩)), (97, .int .i64 bus), (98, .pointer (some ⟨w + 1, 0, none⟩)), (99, .slice (some ⟨b', off', none⟩) f.bids.length c2), (100, .int .i64 (k : Int)), (101, .pointer (some ⟨b', off' + k * 2, none⟩)), (102, .pointer (some ⟨b', off' + k * 2, none⟩)), (103, .int .i64 busf), (104, .bool true)] [] [4, 13, 14] ?_ ?_
          ·intro T hT W hI;simp only [zA, and_true] at hT;have l0 : W.cell? ⟨wr, 0, none⟩ = some (.int .i64 bus) := (hI.cell (p := ⟨wr, 0, none⟩) (by simp)).trans (by simp);have l1 : W.cell? ⟨w + 1, 0, none⟩ = _ := (hI.cell (p := ⟨w + 1, 0, none⟩) (by simp; omega)).trans (zJ _ g0);have l2 : W.cell? ⟨b', off' + k * 2, none⟩ = _ := (hI.cell (p := ⟨b', off' + k * 2, none⟩) (by simp; omega)).trans (zJ _ f2)
           repeat' first | exact AllO.nil | apply AllO.cons
           all_goals try ((first | refine oV ?_ | refine oN ?_ | refine oG (t := by simp only [hT]) (h := ?_)); simp [go_sem, EvT, hT, l0, l1, hkl, l2, hne, valT]; done)
          intro wx hb;simp (decide := true) only [putT, valT, look, Act.put, σi, σo, σs, Nat.reduceAdd, if_true, if_false];have HB5 := η (HB4.out.trans (hb.mono (by simp; omega)));clear hb;go_wp2_with fail
          try rw [κx]
          go_ret;exact ⟨zH HE.out.symm, HB5.out⟩
      ·have HE : Hid (R = 3) := E.out.trans (if_pos hlf);have e1 : ((h.bids.length : Int) != (f.bids.length : Int)) = true := βt (by omega);have e2 : ((h.bids.length : Int) == (f.bids.length : Int)) = false := βf (by omega);clear hlf E;go_wp2_with fail;go_ret;exact ⟨zH HE.out.symm, HB2.out⟩
   ·have HE : Hid (R = 3) := E.out.trans (if_pos hlen);have e1 : ((h.real.length : Int) != (h.bids.length : Int)) = true := βt (by omega);have e2 : ((h.real.length : Int) == (h.bids.length : Int)) = false := βf (by omega);clear hlen E;go_wp2_with fail;go_ret;exact ⟨zH HE.out.symm, HB.out⟩
theorem eN {w w' : World} {B : Nat} {A : Option Addr} {l : List Un} (h : RowR UnR 9 w B A l) (hb : ∀ p : Addr, p.block < B → w'.cell? p = w.cell? p) (k : Nat) (hk : k < l.length) :
  ∃ b off A' c', A = some ⟨b, off, none⟩ ∧ b < B ∧ (w'.cell? ⟨b, off + k * 9, none⟩ = some (.int .i64 (l.getD k un0).bus) ∧ w'.cell? ⟨b, off + k * 9 + 1, none⟩ = some (.int .i64 (l.getD k un0).min) ∧ w'.cell? ⟨b, off + k * 9 + 2, none⟩ = some (.slice A' (l.getD k un0).steps.length c') ∧
   w'.cell? ⟨b, off + k * 9 + 3, none⟩ = some (.int .i64 (l.getD k un0).up) ∧ w'.cell? ⟨b, off + k * 9 + 4, none⟩ = some (.int .i64 (l.getD k un0).down) ∧ w'.cell? ⟨b, off + k * 9 + 5, none⟩ = some (.int .i64 (l.getD k un0).start) ∧ w'.cell? ⟨b, off + k * 9 + 6, none⟩ = some (.int .i64 (l.getD k un0).idle) ∧
   w'.cell? ⟨b, off + k * 9 + 7, none⟩ = some (.int .i64 (l.getD k un0).spin) ∧ w'.cell? ⟨b, off + k * 9 + 8, none⟩ = some (.int .i64 (l.getD k un0).on)) ∧ RowR StE 2 w' B A' (l.getD k un0).steps := by
 obtain ⟨b, off, cc, rfl, hbl, hcn, ⟨A', c', he, _, hr⟩, hcc⟩ := h.at_ k un0 hk;rw [he] at hcc;exact ⟨b, off, A', c', rfl, hbl, ⟨(hb _ hbl).trans (hcc 0 _ rfl), (hb _ hbl).trans (hcc 1 _ rfl), (hb _ hbl).trans (hcc 2 _ rfl), (hb _ hbl).trans (hcc 3 _ rfl), (hb _ hbl).trans (hcc 4 _ rfl), (hb _ hbl).trans (hcc 5 _ rfl), (hb _ hbl).trans (hcc 6 _ rfl), (hb _ hbl).trans (hcc 7 _ rfl), (hb _ hbl).trans (hcc 8 _ rfl)⟩, hr.keep StE.keep hb (νr _)⟩
theorem aD {w w' : World} {B : Nat} {A : Option Addr} {l : List Hr} (h : RowR HrR 3 w B A l) (hb : ∀ p : Addr, p.block < B → w'.cell? p = w.cell? p) (k : Nat) (hk : k < l.length) :
  ∃ b off A' c' A'' c'', A = some ⟨b, off, none⟩ ∧ b < B ∧ (w'.cell? ⟨b, off + k * 3, none⟩ = some (.slice A' (l.getD k hr0).bids.length c') ∧ w'.cell? ⟨b, off + k * 3 + 1, none⟩ = some (.slice A'' (l.getD k hr0).real.length c'') ∧ w'.cell? ⟨b, off + k * 3 + 2, none⟩ = some (.int .i64 (l.getD k hr0).need)) ∧
   RowR BdR 2 w' B A' (l.getD k hr0).bids ∧ RowR BdR 2 w' B A'' (l.getD k hr0).real := by
 obtain ⟨b, off, cc, rfl, hbl, hcn, ⟨A', c', A'', c'', he, _, _, hr, hr'⟩, hcc⟩ := h.at_ k hr0 hk;rw [he] at hcc;exact ⟨b, off, A', c', A'', c'', rfl, hbl, ⟨(hb _ hbl).trans (hcc 0 _ rfl), (hb _ hbl).trans (hcc 1 _ rfl), (hb _ hbl).trans (hcc 2 _ rfl)⟩, hr.keep BdR.keep hb (νr _), hr'.keep BdR.keep hb (νr _)⟩
theorem aL (buses : Int) (lines : List Ln) (units : List Un) (hours : List Hr) (outs : List Og) (rights : List Rt) (A1 A2 A3 A4 A5 : Option Addr) (c1 c2 c3 c4 c5 : Nat) (w : World)
  (h1 : RowR LnE 4 w w A1 lines) (h2 : RowR UnR 9 w w A2 units) (h3 : RowR HrR 3 w w A3 hours) (h4 : RowR OgE' 4 w w A4 outs) (h5 : RowR RtE 3 w w A5 rights) (ho : outs.length ≤ 1000000) (hr : rights.length ≤ 1000000) :
  Calls Tryz.prog 13 #[.agg #[.int .i64 buses, .slice A1 lines.length c1, .slice A2 units.length c2, .slice A3 hours.length c3, .slice A4 outs.length c4, .slice A5 rights.length c5]] w (ErrE w (dayE ⟨⟨buses, lines⟩, units, hours, outs, rights⟩)) := by
 have E : Hid (dayE ⟨⟨buses, lines⟩, units, hours, outs, rights⟩ = if qI buses lines ≠ 0 then qI buses lines
  else if 5 < units.length then 5
  else if fstE (unitE buses) units ≠ 0 then fstE (unitE buses) units
  else if hours.length = 0 then 4
  else if 8 < hours.length then 5
  else if fstE (hourE buses (hours.getD 0 hr0)) hours ≠ 0 then fstE (hourE buses (hours.getD 0 hr0)) hours
  else if xB lines.length units.length hours.length outs ≠ 0 then xB lines.length units.length hours.length outs
  else xL buses rights) := rfl
 generalize dayE ⟨⟨buses, lines⟩, units, hours, outs, rights⟩ = R at *;have hb0 : Below w w (w.alloc (.cells #[.int .i64 buses, .slice A1 lines.length c1, .slice A2 units.length c2, .slice A3 hours.length c3, .slice A4 outs.length c4, .slice A5 rights.length c5] 30)) := βA _;have HB0 := η hb0;have HX0 : Hid (Box (w.alloc (.cells #[.int .i64 buses, .slice A1 lines.length c1, .slice A2 units.length c2, .slice A3 hours.length c3, .slice A4 outs.length c4, .slice A5 rights.length c5] 30)) w [.int .i64 buses, .slice A1 lines.length c1, .slice A2 units.length c2, .slice A3 hours.length c3, .slice A4 outs.length c4, .slice A5 rights.length c5]) := Box.new w #[.int .i64 buses, .slice A1 lines.length c1, .slice A2 units.length c2, .slice A3 hours.length c3, .slice A4 outs.length c4, .slice A5 rights.length c5] 30;have K1 := η (kD buses A1 c1 lines (w.alloc (.cells #[.int .i64 buses, .slice A1 lines.length c1, .slice A2 units.length c2, .slice A3 hours.length c3, .slice A4 outs.length c4, .slice A5 rights.length c5] 30)) ((h1.upto LnE.keep hb0).lines));have H2 := η h2;have H3 := η h3;have H4 := η h4;have H5 := η h5;have KU := η fun u A c n W hr => uY u A c n W hr
 have KH := η fun h f A A1 A2 A3 c c1 c2 c3 n W hr hr1 hr2 => cH h f A A1 A2 A3 c c1 c2 c3 n W hr hr1 hr2
 have HHO := η ho;have HHR := η hr;clear h1 h2 h3 h4 h5 hb0 ho hr;go_enter Tryz.func13, Tryz.ntmps13;go_wp2_with fail;refine K1.out.mono ?_;rintro e w1 ⟨rfl, hb1⟩;have HX1 := η (HX0.out.up hb1 (by simp));have HB1 := η (HB0.out.trans (hb1.mono (by simp)));have hz1 : w < w1.heap.size := HX1.out.lt (by simp);clear hb1 HB0 K1 HX0;obtain ⟨q0, s0, q1, s1, q2, s2, q3, s3, q4, s4, q5, s5⟩ := sqX6 HX1.out;clear s0 s1 s2 s3 s4 s5;by_cases e1 : qI buses lines = 0
 case neg =>
  have HE : Hid (R = qI buses lines) := E.out.trans (if_pos e1);have d0 : (qI buses lines == 0) = false := βf e1;have d1 : (qI buses lines != 0) = true := βt e1;clear E e1;go_wp2_with fail;go_ret;exact ⟨zH HE.out.symm, HB1.out⟩
 replace E : Hid (R = _) := E.out.trans (if_neg (fun hh => hh e1));rw [e1];clear e1;by_cases e2 : 5 < units.length
 ·have HE : Hid (R = 5) := E.out.trans (if_pos e2);have d1 : decide ((5 : Int) < (units.length : Int)) = true := κt (by omega);clear E e2;go_wp2_with fail;go_ret;exact ⟨zH HE.out.symm, HB1.out⟩
 replace E : Hid (R = _) := E.out.trans (if_neg e2);have d1 : decide ((5 : Int) < (units.length : Int)) = false := κf (by omega);have hul : units.length ≤ 5 := by omega
 clear e2;go_wp2_with fail;clear d1;go_loopg [2, 5, 6, 27] units.length (fun g s2 s5 s6 s27 wr => ∃ k : Nat, k + g = units.length ∧ s27 = .int .i64 (k : Int) ∧ fstE (unitE buses) units = fstE (unitE buses) (units.drop k) ∧ Below (w + 1) w1 wr)
 case atStart => exact ⟨0, by omega, rfl, rfl, Below.refl _ _⟩
 case round =>
  obtain ⟨k, hkg, rfl, hs, hb⟩ := hrel;have HB2 : Hid (Below w w wr) := HB1.out.trans (hb.mono (by omega));have HX2 := η (HX1.out.up hb (by omega));have hz2 : w < wr.heap.size := HX2.out.lt (by simp);have HBO := η hb;have HS := η hs;clear hs hb q0 q1 q2 q3 q4 q5;obtain ⟨q0, s0, q1, s1, q2, s2, q3, s3, q4, s4, q5, s5⟩ := sqX6 HX2.out;clear s0 s1 s2 s3 s4 s5;cases gk with
  | succ g =>
   have hk : k < units.length := by omega
   have HG := η hkg;clear hkg;have HS2 : Hid (fstE (unitE buses) units = _) := HS.out.trans (yW un0 hk);obtain ⟨b, off, A', c', rfl, hbl, ⟨f0, f1, f2, f3, f4, f5, f6, f7, f8⟩, hrs⟩ := eN H2.out (fun p hp => HB2.out.cell hp) k hk;have HRS := η hrs;clear hrs HS;generalize units.getD k un0 = u at *;have KU1 := η fun W hr => KU.out u A' c' buses W hr
   generalize unitE buses u = bv at *;obtain ⟨ubus, umin, usteps, uup, udown, ustart, uidle, uspin, uon⟩ := u;dsimp only at f0 f1 f2 f3 f4 f5 f6 f7 f8 HRS KU1;have HB3 := η (HB2.out.alloc (by omega) (.cells #[.int .i64 ubus, .int .i64 umin, (Value.slice A' usteps.length c'), .int .i64 uup, .int .i64 udown, .int .i64 ustart, .int .i64 uidle, .int .i64 uspin, .int .i64 uon] 62));have HBO3 := η (HBO.out.alloc (by omega) (.cells #[.int .i64 ubus, .int .i64 umin, (Value.slice A' usteps.length c'), .int .i64 uup, .int .i64 udown, .int .i64 ustart, .int .i64 uidle, .int .i64 uspin, .int .i64 uon] 62));go_wp2_with fail;refine (KU1.out _ ((HRS.out.keep (w' := wr) StE.keep (fun _ _ => rfl) HB2.out.size).upto StE.keep ((Below.refl wr wr).alloc (νr _) _))).mono ?_;rintro e w3 ⟨rfl, hb3⟩;have HB4 := η (HB3.out.trans (hb3.mono (by simp; omega)));have HBO4 := η (HBO3.out.trans (hb3.mono (by simp; omega)));clear hb3 KU1;by_cases hv : bv = 0
   ·have HF : Hid (fstE (unitE buses) units = _) := HS2.out.trans (if_neg (fun hh => hh hv));subst hv;clear HS2;go_wp2_with fail;go_roundg g
    case measure => omega
    case rel => exact ⟨k + 1, by have := HG.out; omega, by go_num, HF.out, HBO4.out⟩
   ·have HF : Hid (fstE (unitE buses) units = bv) := HS2.out.trans (if_pos hv);have HE : Hid (R = bv) := E.out.trans (by rw [HF.out, if_pos hv]);have e0 : (bv == 0) = false := βf hv;have e1 : (bv != 0) = true := βt hv;clear HS2 HF hv E;go_wp2_with fail
    try rw [κx]
    go_ret;exact ⟨zH HE.out.symm, HB4.out⟩
  | zero =>
   obtain rfl : k = units.length := by omega
   have h0 : fstE (unitE buses) units = 0 := HS.out.trans (gK _ _);replace E : Hid (R = _) := E.out.trans (if_neg (fun hh => hh h0));clear hkg h0 HS HBO HB1 HX1;by_cases e3 : hours.length = 0
   ·have HE : Hid (R = 4) := E.out.trans (if_pos e3);have d1 : ((hours.length : Int) == 0) = true := by rw [e3]; rfl
    clear E e3;go_wp2_with fail;go_ret;exact ⟨zH HE.out.symm, HB2.out⟩
   have d1 : ((hours.length : Int) == 0) = false := βf (by omega);replace E : Hid (R = _) := E.out.trans (if_neg e3);by_cases e4 : 8 < hours.length
   ·have HE : Hid (R = 5) := E.out.trans (if_pos e4);have d2 : decide ((8 : Int) < (hours.length : Int)) = true := κt (by omega);clear E e3 e4;go_wp2_with fail;go_ret;exact ⟨zH HE.out.symm, HB2.out⟩
   have d2 : decide ((8 : Int) < (hours.length : Int)) = false := κf (by omega);replace E : Hid (R = _) := E.out.trans (if_neg e4);have hhl : hours.length ≤ 8 := by omega
   have hhp : 0 < hours.length := by omega
   clear e3 e4;obtain ⟨wo, rfl⟩ : ∃ wo : World, wo = wr := ⟨_, rfl⟩;go_wp2_with fail;clear d1 d2;generalize hff : hours.getD 0 hr0 = ff at *;have HFF := η hff;clear hff;go_loopg [2, 8, 9, 51] hours.length (fun g s2 s8 s9 s51 wx => ∃ k : Nat, k + g = hours.length ∧ s51 = .int .i64 (k : Int) ∧ fstE (hourE buses ff) hours = fstE (hourE buses ff) (hours.drop k) ∧ Below (w + 1) wo wx)
   case atStart => exact ⟨0, by omega, rfl, rfl, Below.refl _ _⟩
   case round =>
    obtain ⟨k, hkg, rfl, hs, hb⟩ := hrel;have HB3 : Hid (Below w w wr) := HB2.out.trans (hb.mono (by omega));have HX3 := η (HX2.out.up hb (by omega));have hz3 : w < wr.heap.size := HX3.out.lt (by simp);have HBO := η hb;have HS := η hs;clear hs hb q0 q1 q2 q3 q4 q5;obtain ⟨q0, s0, q1, s1, q2, s2, q3, s3, q4, s4, q5, s5⟩ := sqX6 HX3.out;clear s0 s1 s2 s3 s4 s5;cases gk with
    | succ g =>
     have hk : k < hours.length := by omega
     have HG := η hkg;clear hkg;have HS2 : Hid (fstE (hourE buses ff) hours = _) := HS.out.trans (yW hr0 hk);obtain ⟨b, off, Ab, cb, Ar, cr, rfl, hbl, ⟨f0, f1, f2⟩, hrb, hrr⟩ := aD H3.out (fun p hp => HB3.out.cell hp) k hk;obtain ⟨b', off', Ab', cb', Ar', cr', hA', hbl', ⟨g0, g1, g2⟩, hrb', hrr'⟩ := aD H3.out (fun p hp => HB3.out.cell hp) 0 hhp;obtain ⟨rfl, rfl⟩ : b' = b ∧ off' = off := by injection hA' with h; injection h with h1 h2; exact ⟨h1.symm, h2.symm⟩
     rw [HFF.out] at g0 g1 g2 hrb' hrr';have HRB := η hrb;have HRR := η hrr;have HRB' := η hrb';clear hrb hrr hrb' hrr' HS hA' hbl';generalize hours.getD k hr0 = u at *;have KH1 := η fun W hr hr1 hr2 => KH.out u ff Ab Ar Ab' Ar' cb cr cb' cr' buses W hr hr1 hr2
     generalize hourE buses ff u = bv at *;obtain ⟨ubids, ureal, uneed⟩ := u;obtain ⟨fbids, freal, fneed⟩ := ff;dsimp only at f0 f1 f2 g0 g1 g2 HRB HRR HRB' KH1;replace g0 : wr.cell? ⟨b', off', none⟩ = some (.slice Ab' fbids.length cb') := by simpa using g0
     replace g1 : wr.cell? ⟨b', off' + 1, none⟩ = some (.slice Ar' freal.length cr') := by simpa using g1
     replace g2 : wr.cell? ⟨b', off' + 2, none⟩ = some (.int .i64 fneed) := by simpa using g2
     have HB4 := η (HB3.out.alloc (by omega) (.cells #[.slice Ab ubids.length cb, .slice Ar ureal.length cr, .int .i64 uneed] 49));have HBO4 := η (HBO.out.alloc (by omega) (.cells #[.slice Ab ubids.length cb, .slice Ar ureal.length cr, .int .i64 uneed] 49));have hbl2 : b' < wr := νl hbl HB3.out.size;have hh0 : (0 : Int) < (hours.length : Int) := by omega
     have hh1 : ¬ hours = [] := fun hn => by rw [hn] at hhp; simp at hhp
     have KH2 := η fun W (hw : Below (wr.alloc (.cells #[.slice Ab ubids.length cb, .slice Ar ureal.length cr, .int .i64 uneed] 49)).heap.size (wr.alloc (.cells #[.slice Ab ubids.length cb, .slice Ar ureal.length cr, .int .i64 uneed] 49)) W) =>
      have h1 : ∀ p : Addr, p.block < w → W.cell? p = wr.cell? p := fun p hp => (hw.cell (by simp; omega)).trans (World.cell?_alloc_lt _ _ _ (by omega))
      have h2 : w ≤ W.heap.size := by have := hw.size; simp at this; omega
      KH1.out W (HRB.out.keep BdR.keep h1 h2) (HRR.out.keep BdR.keep h1 h2) (HRB'.out.keep BdR.keep h1 h2)
     clear KH1 HRB HRR HRB';go_wp2_with fail;refine zI (w0 := (wr.alloc (.cells #[.slice Ab ubids.length cb, .slice Ar ureal.length cr, .int .i64 uneed] 49))) [(1, .pointer (some ⟨w, 0, none⟩)), (8, .pointer (some ⟨wr, 0, none⟩)), (55, .agg #[.slice Ab ubids.length cb, .slice Ar ureal.length cr, .int .i64 uneed]), (56, .pointer (some ⟨w, 3, none⟩)), (57, .slice (some ⟨b', off', none⟩) hours.length c3), (58, .pointer (some ⟨b', off', none⟩)), (59, .agg #[(Value.slice Ab' fbids.length cb'), (Value.slice Ar' freal.length cr'), .int .i64 fneed]), (60, .pointer (some ⟨w, 0, none⟩)), (61, .pointer (some ⟨w, 0, none⟩)), (62, .int .i64 buses), (63, .int .i64 bv), (9, .int .i64 bv)] [] [1, 8] ?_ ?_
     ·intro T hT W hI;simp only [zA, and_true] at hT;have l0 : W.cell? ⟨wr, 0, none⟩ = some (.slice Ab ubids.length cb) := (hI.cell (p := ⟨wr, 0, none⟩) (by simp)).trans (by simp);have l1 : W.cell? ⟨wr, 1, none⟩ = some (.slice Ar ureal.length cr) := (hI.cell (p := ⟨wr, 1, none⟩) (by simp)).trans (by simp);have l2 : W.cell? ⟨wr, 2, none⟩ = some (.int .i64 uneed) := (hI.cell (p := ⟨wr, 2, none⟩) (by simp)).trans (by simp);have l3 : W.cell? ⟨w, 3, none⟩ = _ := (hI.cell (p := ⟨w, 3, none⟩) (by simp; omega)).trans (zJ _ q3);have m0 : W.cell? ⟨b', off', none⟩ = _ := (hI.cell (p := ⟨b', off', none⟩) (by simp; omega)).trans (zJ _ g0);have m1 : W.cell? ⟨b', off' + 1, none⟩ = _ := (hI.cell (p := ⟨b', off' + 1, none⟩) (by simp; omega)).trans (zJ _ g1);have m2 : W.cell? ⟨b', off' + 2, none⟩ = _ := (hI.cell (p := ⟨b', off' + 2, none⟩) (by simp; omega)).trans (zJ _ g2);have l4 : W.cell? ⟨w, 0, none⟩ = _ := (hI.cell (p := ⟨w, 0, none⟩) (by simp; omega)).trans (zJ _ q0)
      repeat' first | exact AllO.nil | apply AllO.cons
      all_goals try ((first | refine oV ?_ | refine oN ?_ | refine oG (t := by simp only [hT]) (h := ?_)); simp [go_sem, EvT, hT, l0, l1, l2, l3, hh0, hh1, m0, m1, m2, l4, valT]; done)
      ·refine opT_r (zO 38 #[.agg #[.slice Ab ubids.length cb, .slice Ar ureal.length cr, .int .i64 uneed], .agg #[(Value.slice Ab' fbids.length cb'), (Value.slice Ar' freal.length cr'), .int .i64 fneed], .int .i64 buses] (by simp [go_sem, EvT, hT, l0, l1, l2, l3, hh0, hh1, m0, m1, m2, l4]) ?_);simp only [valT, hT];exact KH2.out W hI
     intro wx hb;simp (decide := true) only [putT, valT, look, Act.put, σi, σo, σs, Nat.reduceAdd, if_true, if_false];have HB5 := η (HB4.out.trans (hb.mono (by simp; omega)));have HBO5 := η (HBO4.out.trans (hb.mono (by simp; omega)));clear hb KH2;by_cases hv : bv = 0
     ·have HF : Hid (fstE (hourE buses ⟨fbids, freal, fneed⟩) hours = _) := HS2.out.trans (if_neg (fun hh => hh hv));subst hv;clear HS2;go_wp2_with fail;go_roundg g
      case measure => omega
      case rel => exact ⟨k + 1, by have := HG.out; omega, by go_num, HF.out, HBO5.out⟩
     ·have HF : Hid (fstE (hourE buses ⟨fbids, freal, fneed⟩) hours = bv) := HS2.out.trans (if_pos hv);have HE : Hid (R = bv) := E.out.trans (by rw [HF.out, if_pos hv]);have e0 : (bv == 0) = false := βf hv;have e1 : (bv != 0) = true := βt hv;clear HS2 HF hv E;go_wp2_with fail
      try rw [κx]
      go_ret;exact ⟨zH HE.out.symm, HB5.out⟩
    | zero =>
     obtain rfl : k = hours.length := by omega
     have h0 : fstE (hourE buses ff) hours = 0 := HS.out.trans (gK _ _);replace E : Hid (R = _) := E.out.trans (if_neg (fun hh => hh h0));have KO := η fun W hl => mC (lines.length : Int) (units.length : Int) (hours.length : Int) A4 c4 outs W hl HHO.out
     have KR := η fun W hl => nJ A5 c5 rights buses W hl HHR.out
     have HOW : Hid (xB lines.length units.length hours.length outs = (ogChk lines.length units.length hours.length outs).2) := rfl;generalize xB lines.length units.length hours.length outs = ow at *;generalize ogChk lines.length units.length hours.length outs = oc at *;obtain ⟨op, oe⟩ := oc;obtain rfl : ow = oe := HOW.out;clear hkg h0 HS HBO HB2 HX2 HOW;go_wp2_with fail;refine (KO.out wr (H4.out.keep OgE'.keep (fun p hp => HB3.out.cell hp) HB3.out.size).ogs).mono ?_;rintro e w5 ⟨rfl, hb5⟩;have HX5 := η (HX3.out.up hb5 hz3);have HB5 := βT HB3 hb5;clear hb5 KO HX3 HB3 q0 q1 q2 q3 q4 q5;obtain ⟨q0, s0, q1, s1, q2, s2, q3, s3, q4, s4, q5, s5⟩ := sqX6 HX5.out;clear s0 s1 s2 s3 s4 s5;by_cases hv : ow = 0
     ·replace E : Hid (R = _) := E.out.trans (if_neg (fun hh => hh hv));subst hv;go_wp2_with fail;refine (KR.out w5 (H5.out.keep RtE.keep (fun p hp => HB5.out.cell hp) HB5.out.size)).mono ?_;rintro e w6 ⟨pl, rfl, hb6⟩;have HB6 := βT HB5 hb6;clear hb6;go_wp2_with fail;go_ret;exact ⟨zH E.out.symm, HB6.out⟩
     ·have HE : Hid (R = ow) := E.out.trans (if_pos hv);have e0 : (ow == 0) = false := βf hv;have e1 : (ow != 0) = true := βt hv;clear hv E;go_wp2_with fail;go_ret;exact ⟨zH HE.out.symm, HB5.out⟩
end Go.Proofs.YtkfhpefmmhljmaaGreatDoor
