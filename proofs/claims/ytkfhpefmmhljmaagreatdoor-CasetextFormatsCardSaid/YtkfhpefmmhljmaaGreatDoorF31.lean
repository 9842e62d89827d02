/- Texts in one: CpJ, CpK. -/
import Derived.Test.YtkfhpefmmhljmaaGreatDoorF30
set_option linter.unusedVariables false
set_option linter.unusedSimpArgs false
set_option maxHeartbeats 16000000
set_option maxRecDepth 100000
namespace Go.Proofs.YtkfhpefmmhljmaaGreatDoor
open Go.RowKit
def moreN (b : Nat) (er : Int) : List (Tmp × Value) := [(0, .pointer (some ⟨b, 0, none⟩)), (11, .pointer (some ⟨b, 0, none⟩)), (12, .pointer (some ⟨b, 0, none⟩)), (13, .pointer (some ⟨b, 2, none⟩)), (14, .int .i64 er), (15, .bool false), (16, .bool false), (17, undef), (18, undef), (19, undef), (20, undef), (21, undef), (22, undef), (23, undef), (24, undef), (25, undef), (26, .bool false)]
def moreY (b : Nat) (s : Bytes) (i : Int) (p : Bool) : List (Tmp × Value) := [(0, .pointer (some ⟨b, 0, none⟩)), (11, .pointer (some ⟨b, 0, none⟩)), (12, .pointer (some ⟨b, 0, none⟩)), (13, .pointer (some ⟨b, 2, none⟩)), (14, .int .i64 0), (15, .bool true), (16, .bool true), (17, .pointer (some ⟨b, 0, none⟩)), (18, .pointer (some ⟨b, 0, none⟩)), (19, .pointer (some ⟨b, 0, none⟩)), (20, .string (bstr s)), (21, .pointer (some ⟨b, 0, none⟩)), (22, .pointer (some ⟨b, 0, none⟩)), (23, .pointer (some ⟨b, 1, none⟩)), (24, .int .i64 i), (25, .bool p), (26, .bool p)]
theorem vT {α : Type} {z : α} {p : Int → Int × α × Int} (h : ∀ i, (p i).1 = 0 → i < (p i).2.2) (rd : Rd) : Adv rd (oneP z p rd).2 := fun h0 => by
 unfold oneP at h0 ⊢;by_cases he : rd.e = 0
 ·rw [if_neg (by simp [he])] at h0 ⊢;refine ⟨he, ?_⟩;dsimp only at h0 ⊢;unfold rMove at h0 ⊢;by_cases hp : (p rd.i).1 = 0
  ·rw [if_pos hp]; exact h _ hp
  ·rw [if_neg hp] at h0; exact absurd h0 hp
 ·rw [if_pos he] at h0;exact absurd h0 he
theorem eM : (Tryz.prog.info? 62).map (fun i => (i.zero, i.size, i.bytes)) = some (some (.agg #[.int .i64 0, .int .i64 0, .slice none 0 0, .int .i64 0, .int .i64 0, .int .i64 0, .int .i64 0, .int .i64 0, .int .i64 0]), 9, 88) := by kernel_rfl
theorem dW (b : Nat) (s y : Bytes) (rd0 : Rd) (w : World) (p : Int → Int × Un × Int) (hs : SlOk s) (hl : s.length ≤ 1000000)
  (KPP : ∀ (i : Int) (W : World), -9223372036854775808 ≤ i ∧ i ≤ 9223372036854775807 → Calls Tryz.prog 49 #[.string (bstr s), .int .i64 i] W (ParE UnO (p i) W)) (hle : ∀ i, (p i).1 = 0 → 0 ≤ (p i).2.2 ∧ (p i).2.2 ≤ s.length) (hadv : ∀ i, (p i).1 = 0 → i < (p i).2.2) (hR : RdR w b s rd0) :
  Calls Tryz.prog 48 #[.pointer (some ⟨b, 0, none⟩), .string (bstr y), .func (.func 49) #[] #[]] w (ListR UnO 62 9 b s (listP s y un0 p rd0) w) := by
 obtain ⟨i0, hi, hz0, hz1, hz2⟩ := info_parts eM;have HR0 := η hR;have hbw := hR.lt;have KO := η (jQ b s y rd0 w hs hl hR);have KX := η fun k rd W hk hR => qQ b s k rd W hs hl hk hR
 have K1 := η fun rd W hR => mB b s rd W p hl KPP hle hR
 have KAD := η fun rd => vT (z := un0) hadv rd
 have KPk := η fun i W hi => xS s i 1 W hs hi hl (by decide)
 have EL : Hid (listP s y un0 p rd0 = ((manyP s un0 p (fuel s) (rOpen s y rd0)).1, rTok s 2 (manyP s un0 p (fuel s) (rOpen s y rd0)).2)) := rfl;generalize listP s y un0 p rd0 = RL at *;clear hR hs KPP hle hadv;go_enter Tryz.func48, Tryz.ntmps48;go_wp2_with fail;refine KO.out.mono ?_;rintro e w1 ⟨rfl, hR1, hg1⟩;have HR1 := η hR1;have HG1 := η hg1;generalize rOpen s y rd0 = rd1 at *;generalize hst : manyP s un0 p (fuel s) rd1 = R at *;have HST := η hst;clear hR1 hg1 hst KO HR0;go_wp2_with fail;go_loopg [7] (fuel s) (fun g s7 wr => ∃ rd acc v, s7 = v ∧ RowO UnO 62 9 wr w v acc ∧ RdR wr b s rd ∧ w.grownBy wr (some b) ∧ R = (acc ++ (manyP s un0 p g rd).1, (manyP s un0 p g rd).2) ∧ (goOn s rd = true → (s.length : Int) < rd.i + g) ∧ acc.length + g ≤ fuel s)
 case atStart =>
  refine ⟨rd1, [], _, rfl, RowO.nil_ _ _ _ _ _, HR1.out, HG1.out, ?_, fun h => ?_, by simp⟩
  ·rw [HST.out]; rfl
  ·have := qH h;unfold fuel;omega
 case round =>
  obtain ⟨rd, acc, v, rfl, hrow, hR, hg, hst, hme, hlen⟩ := hrel;have hR' := hR;obtain ⟨i, er, hB, h0, h1, h2, h3⟩ := hR'.er;have HROW := η hrow;have HR := η hR;have HG := η hg;have HS := η hst;have HME := η hme;have hlt : b < wr := hR.lt;have hwz : w ≤ wr.heap.size := hg.size;obtain ⟨q0, s0, q1, s1, q2, s2⟩ := sqX3 hB;clear hrow hR hR' hg hst hme HR1 HG1 s0 s1 s2;by_cases he : rd.e = 0
  case neg =>
   have e0 : (er == 0) = false := βf fun h => he (h0.1 h)
   have HE : Hid (R = (acc, rd)) := by
    show _ = _
    rw [HS.out];cases gk with
    | zero => rw [manyP, κp]
    | succ g => rw [manyP, if_neg (by simp [goOn, he]), κp]
   clear hB h0 h1 h2 h3 he HS HME;go_wp2_with fail;refine zE (w0 := wr) (moreN b er) [] [0] ?_ ?_
   ·intro T hT W hI;simp only [moreN, moreY, zA, and_true] at hT;have c2 : W.cell? ⟨b, 2, none⟩ = _ := (hI.cell (p := ⟨b, 2, none⟩) hlt).trans q2
    repeat' first | exact AllO.nil | apply AllO.cons
    all_goals try ((first | refine oV ?_ | refine oN ?_ | refine oG (t := by simp only [hT]) (h := ?_)); simp [go_sem, EvT, hT, c2, e0, valT]; done)
    all_goals try (exact opT_s true (t := by simp only [hT]) (n := by decide) (e := by simp [valT, hT]))
    all_goals try (exact opT_s false (t := by simp only [hT]) (n := by decide) (e := by simp [valT, hT]))
   intro wx hb;simp (decide := true) only [putT, valT, look, moreN, moreY, Act.put, σi, σo, σs, Nat.reduceAdd, if_true, if_false];have HR2 := η (HR.out.up hb hlt);have HROW2 := η (HROW.out.below UnO.own hb);have HG2 := η (zB HG.out (zJ (b := b) hb));clear hb HROW HG HR q0 q1 q2;go_wp2_with fail;refine (KX.out 2 _ _ (by decide) HR2.out).mono ?_;rintro e w5 ⟨rfl, hR5, hg5⟩;have hbz : b < w := hbw;go_wp2_with fail;go_ret;exact ⟨_, rfl, by rw [EL.out, HE.out]; exact HROW2.out.grown UnO.own hg5 (by omega), by rw [EL.out, HE.out]; show acc.length ≤ _; omega, by rw [EL.out, HE.out]; exact hR5, zB HG2.out hg5⟩
  obtain rfl := h0.2 he;obtain ⟨rfl, hi1, hi2⟩ := h3 he;have KP := η fun W => KPk.out rd.i W ⟨hi1, hi2⟩
  have HHE := η he;clear hB h0 h1 h2 h3 he;cases hp : peekT s rd.i 1 with
  | false =>
   have HE : Hid (R = (acc, rd)) := by
    show _ = _
    rw [HS.out];cases gk with
    | zero => rw [manyP, κp]
    | succ g => rw [manyP, if_neg (by simp [goOn, hp]), κp]
   rw [hp] at KP;clear HS HME hp;go_wp2_with fail;refine zE (w0 := wr) (moreY b s rd.i false) [] [0] ?_ ?_
   ·intro T hT W hI;simp only [moreN, moreY, zA, and_true] at hT;have c2 : W.cell? ⟨b, 2, none⟩ = _ := (hI.cell (p := ⟨b, 2, none⟩) hlt).trans q2;have c0 : W.cell? ⟨b, 0, none⟩ = _ := (hI.cell (p := ⟨b, 0, none⟩) hlt).trans q0;have c1 : W.cell? ⟨b, 1, none⟩ = _ := (hI.cell (p := ⟨b, 1, none⟩) hlt).trans q1
    repeat' first | exact AllO.nil | apply AllO.cons
    all_goals try ((first | refine oV ?_ | refine oN ?_ | refine oG (t := by simp only [hT]) (h := ?_)); simp [go_sem, EvT, hT, c2, c0, c1, valT]; done)
    ·refine opT_g (t := by simp only [hT]) (h := zO 105 #[.string (bstr s), .int .i64 rd.i, .int .u8 1] (by simp [go_sem, EvT, hT, c2, c0, c1]) ?_);simp only [valT, hT];exact KP.out W
   intro wx hb;simp (decide := true) only [putT, valT, look, moreN, moreY, Act.put, σi, σo, σs, Nat.reduceAdd, if_true, if_false];have HR2 := η (HR.out.up hb hlt);have HROW2 := η (HROW.out.below UnO.own hb);have HG2 := η (zB HG.out (zJ (b := b) hb));clear hb HROW HG HR q0 q1 q2;go_wp2_with fail;refine (KX.out 2 _ _ (by decide) HR2.out).mono ?_;rintro e w5 ⟨rfl, hR5, hg5⟩;have hbz : b < w := hbw;go_wp2_with fail;go_ret;exact ⟨_, rfl, by rw [EL.out, HE.out]; exact HROW2.out.grown UnO.own hg5 (by omega), by rw [EL.out, HE.out]; show acc.length ≤ _; omega, by rw [EL.out, HE.out]; exact hR5, zB HG2.out hg5⟩
  | true =>
   have hgo : goOn s rd = true := by simp [goOn, hp, HHE.out]
   cases gk with
   | zero =>
    have h1 := HME.out hgo;have h2 := qH hgo;omega
   | succ g =>
    have hm1 := HME.out hgo;have HADV := η (KAD.out rd);have HSP : Hid (manyP s un0 p (g + 1) rd = ((oneP un0 p rd).1 :: (manyP s un0 p g (oneP un0 p rd).2).1, (manyP s un0 p g (oneP un0 p rd).2).2)) := by
     show _ = _
     rw [manyP, if_pos hgo]
    have K2 := η fun W hR => K1.out rd W hR
    rw [hp] at KP;generalize oneP un0 p rd = sp at *;obtain ⟨vv, rd'⟩ := sp;have HM1 := η hm1;clear hp hgo HME hm1;go_wp2_with fail;refine zE (w0 := wr) (moreY b s rd.i true) [] [0] ?_ ?_
    ·intro T hT W hI;simp only [moreN, moreY, zA, and_true] at hT;have c2 : W.cell? ⟨b, 2, none⟩ = _ := (hI.cell (p := ⟨b, 2, none⟩) hlt).trans q2;have c0 : W.cell? ⟨b, 0, none⟩ = _ := (hI.cell (p := ⟨b, 0, none⟩) hlt).trans q0;have c1 : W.cell? ⟨b, 1, none⟩ = _ := (hI.cell (p := ⟨b, 1, none⟩) hlt).trans q1
     repeat' first | exact AllO.nil | apply AllO.cons
     all_goals try ((first | refine oV ?_ | refine oN ?_ | refine oG (t := by simp only [hT]) (h := ?_)); simp [go_sem, EvT, hT, c2, c0, c1, valT]; done)
     ·refine opT_g (t := by simp only [hT]) (h := zO 105 #[.string (bstr s), .int .i64 rd.i, .int .u8 1] (by simp [go_sem, EvT, hT, c2, c0, c1]) ?_);simp only [valT, hT];exact KP.out W
    intro wx hb;simp (decide := true) only [putT, valT, look, moreN, moreY, Act.put, σi, σo, σs, Nat.reduceAdd, if_true, if_false];have HR2 := η (HR.out.up hb hlt);have HROW2 := η (HROW.out.below UnO.own hb);have HG2 := η (zB HG.out (zJ (b := b) hb));clear hb HROW HG HR q0 q1 q2;go_wp2_with fail;refine (K2.out _ HR2.out).mono ?_;rintro e w3 ⟨cells, rfl, hE0, hR3, hg3⟩;dsimp only at hE0 hR3;have hE := UnO.own.mono hE0 (show w.heap.size ≤ _ from HG2.out.size);clear hE0;have HEE := η hE;obtain ⟨v, rfl, hrow⟩ := id hE; obtain ⟨A, c, rfl⟩ := jB hrow;have HROW3 := η (HROW2.out.grown UnO.own hg3 (by omega));have HG3 := η (zB HG2.out hg3);have hwz3 : w ≤ w3.heap.size := HG3.out.size;have HR3 := η hR3;clear hR3 hg3 HR2 HROW2 HG2 K2 hE;obtain ⟨raws, g1, g2, g3, hown⟩ := id HROW3.out;go_wp2_with (at_builtin; refine wpList_append_own _ rfl _ _ 25 rfl w 62 i0 _ 9 88 Tryz.underlying25 hi hz0 hz1 hz2 rfl (by decide) _ _ _ rfl (hown.alloc _) ⟨w3, 0, none⟩ 1 1 [.int .i64 vv.bus, .int .i64 vv.min, .slice A vv.steps.length c, .int .i64 vv.up, .int .i64 vv.down, .int .i64 vv.start, .int .i64 vv.idle, .int .i64 vv.spin, .int .i64 vv.on] rfl rfl (zZ w3 #[.int .i64 vv.bus, .int .i64 vv.min, .slice A vv.steps.length c, .int .i64 vv.up, .int .i64 vv.down, .int .i64 vv.start, .int .i64 vv.idle, .int .i64 vv.spin, .int .i64 vv.on] 62) (by simp [Value.oneCell']) (by unfold maxLen fuel at *; omega) (by unfold fuel at *; omega) (by simp; omega) ?_; intro v' w4 hown' hgrow _);have hbel := zH hown hwz3 hgrow;have HROW4 := η (HROW3.out.more (c := [.int .i64 vv.bus, .int .i64 vv.min, .slice A vv.steps.length c, .int .i64 vv.up, .int .i64 vv.down, .int .i64 vv.start, .int .i64 vv.idle, .int .i64 vv.spin, .int .i64 vv.on]) (x := vv) UnO.own (by decide) rfl HEE.out (by have := hgrow.size; simp at this ⊢; omega) hgrow (fun xs hx => by rw [qU hx hown]; exact hown'));have HR4 := η (HR3.out.up hbel hbw);have HG5 := η (jX HG3.out hbel);clear hbel hgrow hown hown' g1 g2 g3 HROW3 HR3 HG3;go_wp2_with fail;go_roundg g
    case measure => omega
    case rel =>
     refine ⟨rd', acc ++ [vv], v', rfl, HROW4.out, HR4.out, HG5.out, ?_, fun h => ?_, by rw [κa, List.length_singleton]; omega⟩
     ·rw [HS.out, HSP.out, κq]; rfl
     ·have h1 := HM1.out;have h2 := (HADV.out (qH h).1).2;simp at h1 h2;omega
theorem eN : (Tryz.prog.info? 49).map (fun i => (i.zero, i.size, i.bytes)) = some (some (.agg #[.slice none 0 0, .slice none 0 0, .int .i64 0]), 3, 56) := by kernel_rfl
theorem dY (b : Nat) (s y : Bytes) (rd0 : Rd) (w : World) (p : Int → Int × Hr × Int) (hs : SlOk s) (hl : s.length ≤ 1000000)
  (KPP : ∀ (i : Int) (W : World), -9223372036854775808 ≤ i ∧ i ≤ 9223372036854775807 → Calls Tryz.prog 51 #[.string (bstr s), .int .i64 i] W (ParE HrO (p i) W)) (hle : ∀ i, (p i).1 = 0 → 0 ≤ (p i).2.2 ∧ (p i).2.2 ≤ s.length) (hadv : ∀ i, (p i).1 = 0 → i < (p i).2.2) (hR : RdR w b s rd0) :
  Calls Tryz.prog 50 #[.pointer (some ⟨b, 0, none⟩), .string (bstr y), .func (.func 51) #[] #[]] w (ListR HrO 49 3 b s (listP s y hr0 p rd0) w) := by
 obtain ⟨i0, hi, hz0, hz1, hz2⟩ := info_parts eN;have HR0 := η hR;have hbw := hR.lt;have KO := η (jQ b s y rd0 w hs hl hR);have KX := η fun k rd W hk hR => qQ b s k rd W hs hl hk hR
 have K1 := η fun rd W hR => mC b s rd W p hl KPP hle hR
 have KAD := η fun rd => vT (z := hr0) hadv rd
 have KPk := η fun i W hi => xS s i 1 W hs hi hl (by decide)
 have EL : Hid (listP s y hr0 p rd0 = ((manyP s hr0 p (fuel s) (rOpen s y rd0)).1, rTok s 2 (manyP s hr0 p (fuel s) (rOpen s y rd0)).2)) := rfl;generalize listP s y hr0 p rd0 = RL at *;clear hR hs KPP hle hadv;go_enter Tryz.func50, Tryz.ntmps50;go_wp2_with fail;refine KO.out.mono ?_;rintro e w1 ⟨rfl, hR1, hg1⟩;have HR1 := η hR1;have HG1 := η hg1;generalize rOpen s y rd0 = rd1 at *;generalize hst : manyP s hr0 p (fuel s) rd1 = R at *;have HST := η hst;clear hR1 hg1 hst KO HR0;go_wp2_with fail;go_loopg [7] (fuel s) (fun g s7 wr => ∃ rd acc v, s7 = v ∧ RowO HrO 49 3 wr w v acc ∧ RdR wr b s rd ∧ w.grownBy wr (some b) ∧ R = (acc ++ (manyP s hr0 p g rd).1, (manyP s hr0 p g rd).2) ∧ (goOn s rd = true → (s.length : Int) < rd.i + g) ∧ acc.length + g ≤ fuel s)
 case atStart =>
  refine ⟨rd1, [], _, rfl, RowO.nil_ _ _ _ _ _, HR1.out, HG1.out, ?_, fun h => ?_, by simp⟩
  ·rw [HST.out]; rfl
  ·have := qH h;unfold fuel;omega
 case round =>
  obtain ⟨rd, acc, v, rfl, hrow, hR, hg, hst, hme, hlen⟩ := hrel;have hR' := hR;obtain ⟨i, er, hB, h0, h1, h2, h3⟩ := hR'.er;have HROW := η hrow;have HR := η hR;have HG := η hg;have HS := η hst;have HME := η hme;have hlt : b < wr := hR.lt;have hwz : w ≤ wr.heap.size := hg.size;obtain ⟨q0, s0, q1, s1, q2, s2⟩ := sqX3 hB;clear hrow hR hR' hg hst hme HR1 HG1 s0 s1 s2;by_cases he : rd.e = 0
  case neg =>
   have e0 : (er == 0) = false := βf fun h => he (h0.1 h)
   have HE : Hid (R = (acc, rd)) := by
    show _ = _
    rw [HS.out];cases gk with
    | zero => rw [manyP, κp]
    | succ g => rw [manyP, if_neg (by simp [goOn, he]), κp]
   clear hB h0 h1 h2 h3 he HS HME;go_wp2_with fail;refine zE (w0 := wr) (moreN b er) [] [0] ?_ ?_
   ·intro T hT W hI;simp only [moreN, moreY, zA, and_true] at hT;have c2 : W.cell? ⟨b, 2, none⟩ = _ := (hI.cell (p := ⟨b, 2, none⟩) hlt).trans q2
    repeat' first | exact AllO.nil | apply AllO.cons
    all_goals try ((first | refine oV ?_ | refine oN ?_ | refine oG (t := by simp only [hT]) (h := ?_)); simp [go_sem, EvT, hT, c2, e0, valT]; done)
    all_goals try (exact opT_s true (t := by simp only [hT]) (n := by decide) (e := by simp [valT, hT]))
    all_goals try (exact opT_s false (t := by simp only [hT]) (n := by decide) (e := by simp [valT, hT]))
   intro wx hb;simp (decide := true) only [putT, valT, look, moreN, moreY, Act.put, σi, σo, σs, Nat.reduceAdd, if_true, if_false];have HR2 := η (HR.out.up hb hlt);have HROW2 := η (HROW.out.below HrO.own hb);have HG2 := η (zB HG.out (zJ (b := b) hb));clear hb HROW HG HR q0 q1 q2;go_wp2_with fail;refine (KX.out 2 _ _ (by decide) HR2.out).mono ?_;rintro e w5 ⟨rfl, hR5, hg5⟩;have hbz : b < w := hbw;go_wp2_with fail;go_ret;exact ⟨_, rfl, by rw [EL.out, HE.out]; exact HROW2.out.grown HrO.own hg5 (by omega), by rw [EL.out, HE.out]; show acc.length ≤ _; omega, by rw [EL.out, HE.out]; exact hR5, zB HG2.out hg5⟩
  obtain rfl := h0.2 he;obtain ⟨rfl, hi1, hi2⟩ := h3 he;have KP := η fun W => KPk.out rd.i W ⟨hi1, hi2⟩
  have HHE := η he;clear hB h0 h1 h2 h3 he;cases hp : peekT s rd.i 1 with
  | false =>
   have HE : Hid (R = (acc, rd)) := by
    show _ = _
    rw [HS.out];cases gk with
    | zero => rw [manyP, κp]
    | succ g => rw [manyP, if_neg (by simp [goOn, hp]), κp]
   rw [hp] at KP;clear HS HME hp;go_wp2_with fail;refine zE (w0 := wr) (moreY b s rd.i false) [] [0] ?_ ?_
   ·intro T hT W hI;simp only [moreN, moreY, zA, and_true] at hT;have c2 : W.cell? ⟨b, 2, none⟩ = _ := (hI.cell (p := ⟨b, 2, none⟩) hlt).trans q2;have c0 : W.cell? ⟨b, 0, none⟩ = _ := (hI.cell (p := ⟨b, 0, none⟩) hlt).trans q0;have c1 : W.cell? ⟨b, 1, none⟩ = _ := (hI.cell (p := ⟨b, 1, none⟩) hlt).trans q1
    repeat' first | exact AllO.nil | apply AllO.cons
    all_goals try ((first | refine oV ?_ | refine oN ?_ | refine oG (t := by simp only [hT]) (h := ?_)); simp [go_sem, EvT, hT, c2, c0, c1, valT]; done)
    ·refine opT_g (t := by simp only [hT]) (h := zO 105 #[.string (bstr s), .int .i64 rd.i, .int .u8 1] (by simp [go_sem, EvT, hT, c2, c0, c1]) ?_);simp only [valT, hT];exact KP.out W
   intro wx hb;simp (decide := true) only [putT, valT, look, moreN, moreY, Act.put, σi, σo, σs, Nat.reduceAdd, if_true, if_false];have HR2 := η (HR.out.up hb hlt);have HROW2 := η (HROW.out.below HrO.own hb);have HG2 := η (zB HG.out (zJ (b := b) hb));clear hb HROW HG HR q0 q1 q2;go_wp2_with fail;refine (KX.out 2 _ _ (by decide) HR2.out).mono ?_;rintro e w5 ⟨rfl, hR5, hg5⟩;have hbz : b < w := hbw;go_wp2_with fail;go_ret;exact ⟨_, rfl, by rw [EL.out, HE.out]; exact HROW2.out.grown HrO.own hg5 (by omega), by rw [EL.out, HE.out]; show acc.length ≤ _; omega, by rw [EL.out, HE.out]; exact hR5, zB HG2.out hg5⟩
  | true =>
   have hgo : goOn s rd = true := by simp [goOn, hp, HHE.out]
   cases gk with
   | zero =>
    have h1 := HME.out hgo;have h2 := qH hgo;omega
   | succ g =>
    have hm1 := HME.out hgo;have HADV := η (KAD.out rd);have HSP : Hid (manyP s hr0 p (g + 1) rd = ((oneP hr0 p rd).1 :: (manyP s hr0 p g (oneP hr0 p rd).2).1, (manyP s hr0 p g (oneP hr0 p rd).2).2)) := by
     show _ = _
     rw [manyP, if_pos hgo]
    have K2 := η fun W hR => K1.out rd W hR
    rw [hp] at KP;generalize oneP hr0 p rd = sp at *;obtain ⟨vv, rd'⟩ := sp;have HM1 := η hm1;clear hp hgo HME hm1;go_wp2_with fail;refine zE (w0 := wr) (moreY b s rd.i true) [] [0] ?_ ?_
    ·intro T hT W hI;simp only [moreN, moreY, zA, and_true] at hT;have c2 : W.cell? ⟨b, 2, none⟩ = _ := (hI.cell (p := ⟨b, 2, none⟩) hlt).trans q2;have c0 : W.cell? ⟨b, 0, none⟩ = _ := (hI.cell (p := ⟨b, 0, none⟩) hlt).trans q0;have c1 : W.cell? ⟨b, 1, none⟩ = _ := (hI.cell (p := ⟨b, 1, none⟩) hlt).trans q1
     repeat' first | exact AllO.nil | apply AllO.cons
     all_goals try ((first | refine oV ?_ | refine oN ?_ | refine oG (t := by simp only [hT]) (h := ?_)); simp [go_sem, EvT, hT, c2, c0, c1, valT]; done)
     ·refine opT_g (t := by simp only [hT]) (h := zO 105 #[.string (bstr s), .int .i64 rd.i, .int .u8 1] (by simp [go_sem, EvT, hT, c2, c0, c1]) ?_);simp only [valT, hT];exact KP.out W
    intro wx hb;simp (decide := true) only [putT, valT, look, moreN, moreY, Act.put, σi, σo, σs, Nat.reduceAdd, if_true, if_false];have HR2 := η (HR.out.up hb hlt);have HROW2 := η (HROW.out.below HrO.own hb);have HG2 := η (zB HG.out (zJ (b := b) hb));clear hb HROW HG HR q0 q1 q2;go_wp2_with fail;refine (K2.out _ HR2.out).mono ?_;rintro e w3 ⟨cells, rfl, hE0, hR3, hg3⟩;dsimp only at hE0 hR3;have hE := HrO.own.mono hE0 (show w.heap.size ≤ _ from HG2.out.size);clear hE0;have HEE := η hE;obtain ⟨v, v', rfl, hrow, hrow'⟩ := id hE; obtain ⟨A, c, rfl⟩ := jB hrow; obtain ⟨A', c', rfl⟩ := jB hrow';have HROW3 := η (HROW2.out.grown HrO.own hg3 (by omega));have HG3 := η (zB HG2.out hg3);have hwz3 : w ≤ w3.heap.size := HG3.out.size;have HR3 := η hR3;clear hR3 hg3 HR2 HROW2 HG2 K2 hE;obtain ⟨raws, g1, g2, g3, hown⟩ := id HROW3.out;go_wp2_with (at_builtin; refine wpList_append_own _ rfl _ _ 26 rfl w 49 i0 _ 3 56 Tryz.underlying26 hi hz0 hz1 hz2 rfl (by decide) _ _ _ rfl (hown.alloc _) ⟨w3, 0, none⟩ 1 1 [.slice A vv.bids.length c, .slice A' vv.real.length c', .int .i64 vv.need] rfl rfl (zZ w3 #[.slice A vv.bids.length c, .slice A' vv.real.length c', .int .i64 vv.need] 49) (by simp [Value.oneCell']) (by unfold maxLen fuel at *; omega) (by unfold fuel at *; omega) (by simp; omega) ?_; intro v' w4 hown' hgrow _);have hbel := zH hown hwz3 hgrow;have HROW4 := η (HROW3.out.more (c := [.slice A vv.bids.length c, .slice A' vv.real.length c', .int .i64 vv.need]) (x := vv) HrO.own (by decide) rfl HEE.out (by have := hgrow.size; simp at this ⊢; omega) hgrow (fun xs hx => by rw [qU hx hown]; exact hown'));have HR4 := η (HR3.out.up hbel hbw);have HG5 := η (jX HG3.out hbel);clear hbel hgrow hown hown' g1 g2 g3 HROW3 HR3 HG3;go_wp2_with fail;go_roundg g
    case measure => omega
    case rel =>
     refine ⟨rd', acc ++ [vv], v', rfl, HROW4.out, HR4.out, HG5.out, ?_, fun h => ?_, by rw [κa, List.length_singleton]; omega⟩
     ·rw [HS.out, HSP.out, κq]; rfl
     ·have h1 := HM1.out;have h2 := (HADV.out (qH h).1).2;simp at h1 h2;omega
theorem mI : (Tryz.prog.info? 53).map (fun i => (i.zero, i.size, i.bytes)) = some (some (.agg #[.int .u8 0, .int .i64 0, .int .i64 0, .int .i64 0]), 4, 32) := by kernel_rfl
theorem gG (b : Nat) (s y : Bytes) (rd0 : Rd) (w : World) (p : Int → Int × Og × Int) (hs : SlOk s) (hl : s.length ≤ 1000000)
  (KPP : ∀ (i : Int) (W : World), -9223372036854775808 ≤ i ∧ i ≤ 9223372036854775807 → Calls Tryz.prog 53 #[.string (bstr s), .int .i64 i] W (ParE OgE' (p i) W)) (hle : ∀ i, (p i).1 = 0 → 0 ≤ (p i).2.2 ∧ (p i).2.2 ≤ s.length) (hadv : ∀ i, (p i).1 = 0 → i < (p i).2.2) (hR : RdR w b s rd0) :
  Calls Tryz.prog 52 #[.pointer (some ⟨b, 0, none⟩), .string (bstr y), .func (.func 53) #[] #[]] w (ListR OgE' 53 4 b s (listP s y (0, 0, 0, 0) p rd0) w) := by
 obtain ⟨i0, hi, hz0, hz1, hz2⟩ := info_parts mI;have HR0 := η hR;have hbw := hR.lt;have KO := η (jQ b s y rd0 w hs hl hR);have KX := η fun k rd W hk hR => qQ b s k rd W hs hl hk hR
 have K1 := η fun rd W hR => fN b s rd W p hl KPP hle hR
 have KAD := η fun rd => vT (z := (0, 0, 0, 0)) hadv rd
 have KPk := η fun i W hi => xS s i 1 W hs hi hl (by decide)
 have EL : Hid (listP s y (0, 0, 0, 0) p rd0 = ((manyP s (0, 0, 0, 0) p (fuel s) (rOpen s y rd0)).1, rTok s 2 (manyP s (0, 0, 0, 0) p (fuel s) (rOpen s y rd0)).2)) := rfl;generalize listP s y (0, 0, 0, 0) p rd0 = RL at *;clear hR hs KPP hle hadv;go_enter Tryz.func52, Tryz.ntmps52;go_wp2_with fail;refine KO.out.mono ?_;rintro e w1 ⟨rfl, hR1, hg1⟩;have HR1 := η hR1;have HG1 := η hg1;generalize rOpen s y rd0 = rd1 at *;generalize hst : manyP s (0, 0, 0, 0) p (fuel s) rd1 = R at *;have HST := η hst;clear hR1 hg1 hst KO HR0;go_wp2_with fail;go_loopg [7] (fuel s) (fun g s7 wr => ∃ rd acc v, s7 = v ∧ RowO OgE' 53 4 wr w v acc ∧ RdR wr b s rd ∧ w.grownBy wr (some b) ∧ R = (acc ++ (manyP s (0, 0, 0, 0) p g rd).1, (manyP s (0, 0, 0, 0) p g rd).2) ∧ (goOn s rd = true → (s.length : Int) < rd.i + g) ∧ acc.length + g ≤ fuel s)
 case atStart =>
  refine ⟨rd1, [], _, rfl, RowO.nil_ _ _ _ _ _, HR1.out, HG1.out, ?_, fun h => ?_, by simp⟩
  ·rw [HST.out]; rfl
  ·have := qH h;unfold fuel;omega
 case round =>
  obtain ⟨rd, acc, v, rfl, hrow, hR, hg, hst, hme, hlen⟩ := hrel;have hR' := hR;obtain ⟨i, er, hB, h0, h1, h2, h3⟩ := hR'.er;have HROW := η hrow;have HR := η hR;have HG := η hg;have HS := η hst;have HME := η hme;have hlt : b < wr := hR.lt;have hwz : w ≤ wr.heap.size := hg.size;obtain ⟨q0, s0, q1, s1, q2, s2⟩ := sqX3 hB;clear hrow hR hR' hg hst hme HR1 HG1 s0 s1 s2;by_cases he : rd.e = 0
  case neg =>
   have e0 : (er == 0) = false := βf fun h => he (h0.1 h)
   have HE : Hid (R = (acc, rd)) := by
    show _ = _
    rw [HS.out];cases gk with
    | zero => rw [manyP, κp]
    | succ g => rw [manyP, if_neg (by simp [goOn, he]), κp]
   clear hB h0 h1 h2 h3 he HS HME;go_wp2_with fail;refine zE (w0 := wr) (moreN b er) [] [0] ?_ ?_
   ·intro T hT W hI;simp only [moreN, moreY, zA, and_true] at hT;have c2 : W.cell? ⟨b, 2, none⟩ = _ := (hI.cell (p := ⟨b, 2, none⟩) hlt).trans q2
    repeat' first | exact AllO.nil | apply AllO.cons
    all_goals try ((first | refine oV ?_ | refine oN ?_ | refine oG (t := by simp only [hT]) (h := ?_)); simp [go_sem, EvT, hT, c2, e0, valT]; done)
    all_goals try (exact opT_s true (t := by simp only [hT]) (n := by decide) (e := by simp [valT, hT]))
    all_goals try (exact opT_s false (t := by simp only [hT]) (n := by decide) (e := by simp [valT, hT]))
   intro wx hb;simp (decide := true) only [putT, valT, look, moreN, moreY, Act.put, σi, σo, σs, Nat.reduceAdd, if_true, if_false];have HR2 := η (HR.out.up hb hlt);have HROW2 := η (HROW.out.below OgE'.own hb);have HG2 := η (zB HG.out (zJ (b := b) hb));clear hb HROW HG HR q0 q1 q2;go_wp2_with fail;refine (KX.out 2 _ _ (by decide) HR2.out).mono ?_;rintro e w5 ⟨rfl, hR5, hg5⟩;have hbz : b < w := hbw;go_wp2_with fail;go_ret;exact ⟨_, rfl, by rw [EL.out, HE.out]; exact HROW2.out.grown OgE'.own hg5 (by omega), by rw [EL.out, HE.out]; show acc.length ≤ _; omega, by rw [EL.out, HE.out]; exact hR5, zB HG2.out hg5⟩
  obtain rfl := h0.2 he;obtain ⟨rfl, hi1, hi2⟩ := h3 he;have KP := η fun W => KPk.out rd.i W ⟨hi1, hi2⟩
  have HHE := η he;clear hB h0 h1 h2 h3 he;cases hp : peekT s rd.i 1 with
  | false =>
   have HE : Hid (R = (acc, rd)) := by
    show _ = _
    rw [HS.out];cases gk with
    | zero => rw [manyP, κp]
    | succ g => rw [manyP, if_neg (by simp [goOn, hp]), κp]
   rw [hp] at KP;clear HS HME hp;go_wp2_with fail;refine zE (w0 := wr) (moreY b s rd.i false) [] [0] ?_ ?_
   ·intro T hT W hI;simp only [moreN, moreY, zA, and_true] at hT;have c2 : W.cell? ⟨b, 2, none⟩ = _ := (hI.cell (p := ⟨b, 2, none⟩) hlt).trans q2;have c0 : W.cell? ⟨b, 0, none⟩ = _ := (hI.cell (p := ⟨b, 0, none⟩) hlt).trans q0;have c1 : W.cell? ⟨b, 1, none⟩ = _ := (hI.cell (p := ⟨b, 1, none⟩) hlt).trans q1
    repeat' first | exact AllO.nil | apply AllO.cons
    all_goals try ((first | refine oV ?_ | refine oN ?_ | refine oG (t := by simp only [hT]) (h := ?_)); simp [go_sem, EvT, hT, c2, c0, c1, valT]; done)
    ·refine opT_g (t := by simp only [hT]) (h := zO 105 #[.string (bstr s), .int .i64 rd.i, .int .u8 1] (by simp [go_sem, EvT, hT, c2, c0, c1]) ?_);simp only [valT, hT];exact KP.out W
   intro wx hb;simp (decide := true) only [putT, valT, look, moreN, moreY, Act.put, σi, σo, σs, Nat.reduceAdd, if_true, if_false];have HR2 := η (HR.out.up hb hlt);have HROW2 := η (HROW.out.below OgE'.own hb);have HG2 := η (zB HG.out (zJ (b := b) hb));clear hb HROW HG HR q0 q1 q2;go_wp2_with fail;refine (KX.out 2 _ _ (by decide) HR2.out).mono ?_;rintro e w5 ⟨rfl, hR5, hg5⟩;have hbz : b < w := hbw;go_wp2_with fail;go_ret;exact ⟨_, rfl, by rw [EL.out, HE.out]; exact HROW2.out.grown OgE'.own hg5 (by omega), by rw [EL.out, HE.out]; show acc.length ≤ _; omega, by rw [EL.out, HE.out]; exact hR5, zB HG2.out hg5⟩
  | true =>
   have hgo : goOn s rd = true := by simp [goOn, hp, HHE.out]
   cases gk with
   | zero =>
    have h1 := HME.out hgo;have h2 := qH hgo;omega
   | succ g =>
    have hm1 := HME.out hgo;have HADV := η (KAD.out rd);have HSP : Hid (manyP s (0, 0, 0, 0) p (g + 1) rd = ((oneP (0, 0, 0, 0) p rd).1 :: (manyP s (0, 0, 0, 0) p g (oneP (0, 0, 0, 0) p rd).2).1, (manyP s (0, 0, 0, 0) p g (oneP (0, 0, 0, 0) p rd).2).2)) := by
     show _ = _
     rw [manyP, if_pos hgo]
    have K2 := η fun W hR => K1.out rd W hR
    rw [hp] at KP;generalize oneP (0, 0, 0, 0) p rd = sp at *;obtain ⟨vv, rd'⟩ := sp;have HM1 := η hm1;clear hp hgo HME hm1;go_wp2_with fail;refine zE (w0 := wr) (moreY b s rd.i true) [] [0] ?_ ?_
    ·intro T hT W hI;simp only [moreN, moreY, zA, and_true] at hT;have c2 : W.cell? ⟨b, 2, none⟩ = _ := (hI.cell (p := ⟨b, 2, none⟩) hlt).trans q2;have c0 : W.cell? ⟨b, 0, none⟩ = _ := (hI.cell (p := ⟨b, 0, none⟩) hlt).trans q0;have c1 : W.cell? ⟨b, 1, none⟩ = _ := (hI.cell (p := ⟨b, 1, none⟩) hlt).trans q1
     repeat' first | exact AllO.nil | apply AllO.cons
     all_goals try ((first | refine oV ?_ | refine oN ?_ | refine oG (t := by simp only [hT]) (h := ?_)); simp [go_sem, EvT, hT, c2, c0, c1, valT]; done)
     ·refine opT_g (t := by simp only [hT]) (h := zO 105 #[.string (bstr s), .int .i64 rd.i, .int .u8 1] (by simp [go_sem, EvT, hT, c2, c0, c1]) ?_);simp only [valT, hT];exact KP.out W
    intro wx hb;simp (decide := true) only [putT, valT, look, moreN, moreY, Act.put, σi, σo, σs, Nat.reduceAdd, if_true, if_false];have HR2 := η (HR.out.up hb hlt);have HROW2 := η (HROW.out.below OgE'.own hb);have HG2 := η (zB HG.out (zJ (b := b) hb));clear hb HROW HG HR q0 q1 q2;go_wp2_with fail;refine (K2.out _ HR2.out).mono ?_;rintro e w3 ⟨cells, rfl, hE0, hR3, hg3⟩;dsimp only at hE0 hR3;have hE := OgE'.own.mono hE0 (show w.heap.size ≤ _ from HG2.out.size);clear hE0;have HEE := η hE;obtain rfl : cells = [Value.int .u8 vv.1, .int .i64 vv.2.1, .int .i64 vv.2.2.1, .int .i64 vv.2.2.2] := id hE;have HROW3 := η (HROW2.out.grown OgE'.own hg3 (by omega));have HG3 := η (zB HG2.out hg3);have hwz3 : w ≤ w3.heap.size := HG3.out.size;have HR3 := η hR3;clear hR3 hg3 HR2 HROW2 HG2 K2 hE;obtain ⟨raws, g1, g2, g3, hown⟩ := id HROW3.out;go_wp2_with (at_builtin; refine wpList_append_own _ rfl _ _ 27 rfl w 53 i0 _ 4 32 Tryz.underlying27 hi hz0 hz1 hz2 rfl (by decide) _ _ _ rfl (hown.alloc _) ⟨w3, 0, none⟩ 1 1 [.int .u8 vv.1, .int .i64 vv.2.1, .int .i64 vv.2.2.1, .int .i64 vv.2.2.2] rfl rfl (zZ w3 #[.int .u8 vv.1, .int .i64 vv.2.1, .int .i64 vv.2.2.1, .int .i64 vv.2.2.2] 53) (by simp [Value.oneCell']) (by unfold maxLen fuel at *; omega) (by unfold fuel at *; omega) (by simp; omega) ?_; intro v' w4 hown' hgrow _);have hbel := zH hown hwz3 hgrow;have HROW4 := η (HROW3.out.more (c := [.int .u8 vv.1, .int .i64 vv.2.1, .int .i64 vv.2.2.1, .int .i64 vv.2.2.2]) (x := vv) OgE'.own (by decide) rfl HEE.out (by have := hgrow.size; simp at this ⊢; omega) hgrow (fun xs hx => by rw [qU hx hown]; exact hown'));have HR4 := η (HR3.out.up hbel hbw);have HG5 := η (jX HG3.out hbel);clear hbel hgrow hown hown' g1 g2 g3 HROW3 HR3 HG3;go_wp2_with fail;go_roundg g
    case measure => omega
    case rel =>
     refine ⟨rd', acc ++ [vv], v', rfl, HROW4.out, HR4.out, HG5.out, ?_, fun h => ?_, by rw [κa, List.length_singleton]; omega⟩
     ·rw [HS.out, HSP.out, κq]; rfl
     ·have h1 := HM1.out;have h2 := (HADV.out (qH h).1).2;simp at h1 h2;omega
theorem aW : (Tryz.prog.info? 51).map (fun i => (i.zero, i.size, i.bytes)) = some (some (.agg #[.int .i64 0, .int .i64 0, .int .i64 0]), 3, 24) := by kernel_rfl
theorem fR (b : Nat) (s y : Bytes) (rd0 : Rd) (w : World) (p : Int → Int × Rt × Int) (hs : SlOk s) (hl : s.length ≤ 1000000)
  (KPP : ∀ (i : Int) (W : World), -9223372036854775808 ≤ i ∧ i ≤ 9223372036854775807 → Calls Tryz.prog 55 #[.string (bstr s), .int .i64 i] W (ParE RtE (p i) W)) (hle : ∀ i, (p i).1 = 0 → 0 ≤ (p i).2.2 ∧ (p i).2.2 ≤ s.length) (hadv : ∀ i, (p i).1 = 0 → i < (p i).2.2) (hR : RdR w b s rd0) :
  Calls Tryz.prog 54 #[.pointer (some ⟨b, 0, none⟩), .string (bstr y), .func (.func 55) #[] #[]] w (ListR RtE 51 3 b s (listP s y (0, 0, 0) p rd0) w) := by
 obtain ⟨i0, hi, hz0, hz1, hz2⟩ := info_parts aW;have HR0 := η hR;have hbw := hR.lt;have KO := η (jQ b s y rd0 w hs hl hR);have KX := η fun k rd W hk hR => qQ b s k rd W hs hl hk hR
 have K1 := η fun rd W hR => dQ b s rd W p hl KPP hle hR
 have KAD := η fun rd => vT (z := (0, 0, 0)) hadv rd
 have KPk := η fun i W hi => xS s i 1 W hs hi hl (by decide)
 have EL : Hid (listP s y (0, 0, 0) p rd0 = ((manyP s (0, 0, 0) p (fuel s) (rOpen s y rd0)).1, rTok s 2 (manyP s (0, 0, 0) p (fuel s) (rOpen s y rd0)).2)) := rfl;generalize listP s y (0, 0, 0) p rd0 = RL at *;clear hR hs KPP hle hadv;go_enter Tryz.func54, Tryz.ntmps54;go_wp2_with fail;refine KO.out.mono ?_;rintro e w1 ⟨rfl, hR1, hg1⟩;have HR1 := η hR1;have HG1 := η hg1;generalize rOpen s y rd0 = rd1 at *;generalize hst : manyP s (0, 0, 0) p (fuel s) rd1 = R at *;have HST := η hst;clear hR1 hg1 hst KO HR0;go_wp2_with fail;go_loopg [7] (fuel s) (fun g s7 wr => ∃ rd acc v, s7 = v ∧ RowO RtE 51 3 wr w v acc ∧ RdR wr b s rd ∧ w.grownBy wr (some b) ∧ R = (acc ++ (manyP s (0, 0, 0) p g rd).1, (manyP s (0, 0, 0) p g rd).2) ∧ (goOn s rd = true → (s.length : Int) < rd.i + g) ∧ acc.length + g ≤ fuel s)
 case atStart =>
  refine ⟨rd1, [], _, rfl, RowO.nil_ _ _ _ _ _, HR1.out, HG1.out, ?_, fun h => ?_, by simp⟩
  ·rw [HST.out]; rfl
  ·have := qH h;unfold fuel;omega
 case round =>
  obtain ⟨rd, acc, v, rfl, hrow, hR, hg, hst, hme, hlen⟩ := hrel;have hR' := hR;obtain ⟨i, er, hB, h0, h1, h2, h3⟩ := hR'.er;have HROW := η hrow;have HR := η hR;have HG := η hg;have HS := η hst;have HME := η hme;have hlt : b < wr := hR.lt;have hwz : w ≤ wr.heap.size := hg.size;obtain ⟨q0, s0, q1, s1, q2, s2⟩ := sqX3 hB;clear hrow hR hR' hg hst hme HR1 HG1 s0 s1 s2;by_cases he : rd.e = 0
  case neg =>
   have e0 : (er == 0) = false := βf fun h => he (h0.1 h)
   have HE : Hid (R = (acc, rd)) := by
    show _ = _
    rw [HS.out];cases gk with
    | zero => rw [manyP, κp]
    | succ g => rw [manyP, if_neg (by simp [goOn, he]), κp]
   clear hB h0 h1 h2 h3 he HS HME;go_wp2_with fail;refine zE (w0 := wr) (moreN b er) [] [0] ?_ ?_
   ·intro T hT W hI;simp only [moreN, moreY, zA, and_true] at hT;have c2 : W.cell? ⟨b, 2, none⟩ = _ := (hI.cell (p := ⟨b, 2, none⟩) hlt).trans q2
    repeat' first | exact AllO.nil | apply AllO.cons
    all_goals try ((first | refine oV ?_ | refine oN ?_ | refine oG (t := by simp only [hT]) (h := ?_)); simp [go_sem, EvT, hT, c2, e0, valT]; done)
    all_goals try (exact opT_s true (t := by simp only [hT]) (n := by decide) (e := by simp [valT, hT]))
    all_goals try (exact opT_s false (t := by simp only [hT]) (n := by decide) (e := by simp [valT, hT]))
   intro wx hb;simp (decide := true) only [putT, valT, look, moreN, moreY, Act.put, σi, σo, σs, Nat.reduceAdd, if_true, if_false];have HR2 := η (HR.out.up hb hlt);have HROW2 := η (HROW.out.below RtE.own hb);have HG2 := η (zB HG.out (zJ (b := b) hb));clear hb HROW HG HR q0 q1 q2;go_wp2_with fail;refine (KX.out 2 _ _ (by decide) HR2.out).mono ?_;rintro e w5 ⟨rfl, hR5, hg5⟩;have hbz : b < w := hbw;go_wp2_with fail;go_ret;exact ⟨_, rfl, by rw [EL.out, HE.out]; exact HROW2.out.grown RtE.own hg5 (by omega), by rw [EL.out, HE.out]; show acc.length ≤ _; omega, by rw [EL.out, HE.out]; exact hR5, zB HG2.out hg5⟩
  obtain rfl := h0.2 he;obtain ⟨rfl, hi1, hi2⟩ := h3 he;have KP := η fun W => KPk.out rd.i W ⟨hi1, hi2⟩
  have HHE := η he;clear hB h0 h1 h2 h3 he;cases hp : peekT s rd.i 1 with
  | false =>
   have HE : Hid (R = (acc, rd)) := by
    show _ = _
    rw [HS.out];cases gk with
    | zero => rw [manyP, κp]
    | succ g => rw [manyP, if_neg (by simp [goOn, hp]), κp]
   rw [hp] at KP;clear HS HME hp;go_wp2_with fail;refine zE (w0 := wr) (moreY b s rd.i false) [] [0] ?_ ?_
   ·intro T hT W hI;simp only [moreN, moreY, zA, and_true] at hT;have c2 : W.cell? ⟨b, 2, none⟩ = _ := (hI.cell (p := ⟨b, 2, none⟩) hlt).trans q2;have c0 : W.cell? ⟨b, 0, none⟩ = _ := (hI.cell (p := ⟨b, 0, none⟩) hlt).trans q0;have c1 : W.cell? ⟨b, 1, none⟩ = _ := (hI.cell (p := ⟨b, 1, none⟩) hlt).trans q1
    repeat' first | exact AllO.nil | apply AllO.cons
    all_goals try ((first | refine oV ?_ | refine oN ?_ | refine oG (t := by simp only [hT]) (h := ?_)); simp [go_sem, EvT, hT, c2, c0, c1, valT]; done)
    ·refine opT_g (t := by simp only [hT]) (h := zO 105 #[.string (bstr s), .int .i64 rd.i, .int .u8 1] (by simp [go_sem, EvT, hT, c2, c0, c1]) ?_);simp only [valT, hT];exact KP.out W
   intro wx hb;simp (decide := true) only [putT, valT, look, moreN, moreY, Act.put, σi, σo, σs, Nat.reduceAdd, if_true, if_false];have HR2 := η (HR.out.up hb hlt);have HROW2 := η (HROW.out.below RtE.own hb);have HG2 := η (zB HG.out (zJ (b := b) hb));clear hb HROW HG HR q0 q1 q2;go_wp2_with fail;refine (KX.out 2 _ _ (by decide) HR2.out).mono ?_;rintro e w5 ⟨rfl, hR5, hg5⟩;have hbz : b < w := hbw;go_wp2_with fail;go_ret;exact ⟨_, rfl, by rw [EL.out, HE.out]; exact HROW2.out.grown RtE.own hg5 (by omega), by rw [EL.out, HE.out]; show acc.length ≤ _; omega, by rw [EL.out, HE.out]; exact hR5, zB HG2.out hg5⟩
  | true =>
   have hgo : goOn s rd = true := by simp [goOn, hp, HHE.out]
   cases gk with
   | zero =>
    have h1 := HME.out hgo;have h2 := qH hgo;omega
   | succ g =>
    have hm1 := HME.out hgo;have HADV := η (KAD.out rd);have HSP : Hid (manyP s (0, 0, 0) p (g + 1) rd = ((oneP (0, 0, 0) p rd).1 :: (manyP s (0, 0, 0) p g (oneP (0, 0, 0) p rd).2).1, (manyP s (0, 0, 0) p g (oneP (0, 0, 0) p rd).2).2)) := by
     show _ = _
     rw [manyP, if_pos hgo]
    have K2 := η fun W hR => K1.out rd W hR
    rw [hp] at KP;generalize oneP (0, 0, 0) p rd = sp at *;obtain ⟨vv, rd'⟩ := sp;have HM1 := η hm1;clear hp hgo HME hm1;go_wp2_with fail;refine zE (w0 := wr) (moreY b s rd.i true) [] [0] ?_ ?_
    ·intro T hT W hI;simp only [moreN, moreY, zA, and_true] at hT;have c2 : W.cell? ⟨b, 2, none⟩ = _ := (hI.cell (p := ⟨b, 2, none⟩) hlt).trans q2;have c0 : W.cell? ⟨b, 0, none⟩ = _ := (hI.cell (p := ⟨b, 0, none⟩) hlt).trans q0;have c1 : W.cell? ⟨b, 1, none⟩ = _ := (hI.cell (p := ⟨b, 1, none⟩) hlt).trans q1
     repeat' first | exact AllO.nil | apply AllO.cons
     all_goals try ((first | refine oV ?_ | refine oN ?_ | refine oG (t := by simp only [hT]) (h := ?_)); simp [go_sem, EvT, hT, c2, c0, c1, valT]; done)
     ·refine opT_g (t := by simp only [hT]) (h := zO 105 #[.string (bstr s), .int .i64 rd.i, .int .u8 1] (by simp [go_sem, EvT, hT, c2, c0, c1]) ?_);simp only [valT, hT];exact KP.out W
    intro wx hb;simp (decide := true) only [putT, valT, look, moreN, moreY, Act.put, σi, σo, σs, Nat.reduceAdd, if_true, if_false];have HR2 := η (HR.out.up hb hlt);have HROW2 := η (HROW.out.below RtE.own hb);have HG2 := η (zB HG.out (zJ (b := b) hb));clear hb HROW HG HR q0 q1 q2;go_wp2_with fail;refine (K2.out _ HR2.out).mono ?_;rintro e w3 ⟨cells, rfl, hE0, hR3, hg3⟩;dsimp only at hE0 hR3;have hE := RtE.own.mono hE0 (show w.heap.size ≤ _ from HG2.out.size);clear hE0;have HEE := η hE;obtain rfl : cells = [Value.int .i64 vv.1, .int .i64 vv.2.1, .int .i64 vv.2.2] := id hE;have HROW3 := η (HROW2.out.grown RtE.own hg3 (by omega));have HG3 := η (zB HG2.out hg3);have hwz3 : w ≤ w3.heap.size := HG3.out.size;have HR3 := η hR3;clear hR3 hg3 HR2 HROW2 HG2 K2 hE;obtain ⟨raws, g1, g2, g3, hown⟩ := id HROW3.out;go_wp2_with (at_builtin; refine wpList_append_own _ rfl _ _ 28 rfl w 51 i0 _ 3 24 Tryz.underlying28 hi hz0 hz1 hz2 rfl (by decide) _ _ _ rfl (hown.alloc _) ⟨w3, 0, none⟩ 1 1 [.int .i64 vv.1, .int .i64 vv.2.1, .int .i64 vv.2.2] rfl rfl (zZ w3 #[.int .i64 vv.1, .int .i64 vv.2.1, .int .i64 vv.2.2] 51) (by simp [Value.oneCell']) (by unfold maxLen fuel at *; omega) (by unfold fuel at *; omega) (by simp; omega) ?_; intro v' w4 hown' hgrow _);have hbel := zH hown hwz3 hgrow;have HROW4 := η (HROW3.out.more (c := [.int .i64 vv.1, .int .i64 vv.2.1, .int .i64 vv.2.2]) (x := vv) RtE.own (by decide) rfl HEE.out (by have := hgrow.size; simp at this ⊢; omega) hgrow (fun xs hx => by rw [qU hx hown]; exact hown'));have HR4 := η (HR3.out.up hbel hbw);have HG5 := η (jX HG3.out hbel);clear hbel hgrow hown hown' g1 g2 g3 HROW3 HR3 HG3;go_wp2_with fail;go_roundg g
    case measure => omega
    case rel =>
     refine ⟨rd', acc ++ [vv], v', rfl, HROW4.out, HR4.out, HG5.out, ?_, fun h => ?_, by rw [κa, List.length_singleton]; omega⟩
     ·rw [HS.out, HSP.out, κq]; rfl
     ·have h1 := HM1.out;have h2 := (HADV.out (qH h).1).2;simp at h1 h2;omega
theorem sQ : (Tryz.prog.info? 133).map (fun i => (i.zero, i.size, i.bytes)) = some (some (.agg #[.int .i64 0, .slice none 0 0]), 2, 32) := by kernel_rfl
theorem mF (b : Nat) (s y : Bytes) (rd0 : Rd) (w : World) (p : Int → Int × Bd × Int) (hs : SlOk s) (hl : s.length ≤ 1000000)
  (KPP : ∀ (i : Int) (W : World), -9223372036854775808 ≤ i ∧ i ≤ 9223372036854775807 → Calls Tryz.prog 116 #[.string (bstr s), .int .i64 i] W (ParE BdO (p i) W)) (hle : ∀ i, (p i).1 = 0 → 0 ≤ (p i).2.2 ∧ (p i).2.2 ≤ s.length) (hadv : ∀ i, (p i).1 = 0 → i < (p i).2.2) (hR : RdR w b s rd0) :
  Calls Tryz.prog 115 #[.pointer (some ⟨b, 0, none⟩), .string (bstr y), .func (.func 116) #[] #[]] w (ListR BdO 133 2 b s (listP s y bd0 p rd0) w) := by
 obtain ⟨i0, hi, hz0, hz1, hz2⟩ := info_parts sQ;have HR0 := η hR;have hbw := hR.lt;have KO := η (jQ b s y rd0 w hs hl hR);have KX := η fun k rd W hk hR => qQ b s k rd W hs hl hk hR
 have K1 := η fun rd W hR => aN b s rd W p hl KPP hle hR
 have KAD := η fun rd => vT (z := bd0) hadv rd
 have KPk := η fun i W hi => xS s i 1 W hs hi hl (by decide)
 have EL : Hid (listP s y bd0 p rd0 = ((manyP s bd0 p (fuel s) (rOpen s y rd0)).1, rTok s 2 (manyP s bd0 p (fuel s) (rOpen s y rd0)).2)) := rfl;generalize listP s y bd0 p rd0 = RL at *;clear hR hs KPP hle hadv;go_enter Tryz.func115, Tryz.ntmps115;go_wp2_with fail;refine KO.out.mono ?_;rintro e w1 ⟨rfl, hR1, hg1⟩;have HR1 := η hR1;have HG1 := η hg1;generalize rOpen s y rd0 = rd1 at *;generalize hst : manyP s bd0 p (fuel s) rd1 = R at *;have HST := η hst;clear hR1 hg1 hst KO HR0;go_wp2_with fail;go_loopg [7] (fuel s) (fun g s7 wr => ∃ rd acc v, s7 = v ∧ RowO BdO 133 2 wr w v acc ∧ RdR wr b s rd ∧ w.grownBy wr (some b) ∧ R = (acc ++ (manyP s bd0 p g rd).1, (manyP s bd0 p g rd).2) ∧ (goOn s rd = true → (s.length : Int) < rd.i + g) ∧ acc.length + g ≤ fuel s)
 case atStart =>
  refine ⟨rd1, [], _, rfl, RowO.nil_ _ _ _ _ _, HR1.out, HG1.out, ?_, fun h => ?_, by simp⟩
  ·rw [HST.out]; rfl
  ·have := qH h;unfold fuel;omega
 case round =>
  obtain ⟨rd, acc, v, rfl, hrow, hR, hg, hst, hme, hlen⟩ := hrel;have hR' := hR;obtain ⟨i, er, hB, h0, h1, h2, h3⟩ := hR'.er;have HROW := η hrow;have HR := η hR;have HG := η hg;have HS := η hst;have HME := η hme;have hlt : b < wr := hR.lt;have hwz : w ≤ wr.heap.size := hg.size;obtain ⟨q0, s0, q1, s1, q2, s2⟩ := sqX3 hB;clear hrow hR hR' hg hst hme HR1 HG1 s0 s1 s2;by_cases he : rd.e = 0
  case neg =>
   have e0 : (er == 0) = false := βf fun h => he (h0.1 h)
   have HE : Hid (R = (acc, rd)) := by
    show _ = _
    rw [HS.out];cases gk with
    | zero => rw [manyP, κp]
    | succ g => rw [manyP, if_neg (by simp [goOn, he]), κp]
   clear hB h0 h1 h2 h3 he HS HME;go_wp2_with fail;refine zE (w0 := wr) (moreN b er) [] [0] ?_ ?_
   ·intro T hT W hI;simp only [moreN, moreY, zA, and_true] at hT;have c2 : W.cell? ⟨b, 2, none⟩ = _ := (hI.cell (p := ⟨b, 2, none⟩) hlt).trans q2
    repeat' first | exact AllO.nil | apply AllO.cons
    all_goals try ((first | refine oV ?_ | refine oN ?_ | refine oG (t := by simp only [hT]) (h := ?_)); simp [go_sem, EvT, hT, c2, e0, valT]; done)
    all_goals try (exact opT_s true (t := by simp only [hT]) (n := by decide) (e := by simp [valT, hT]))
    all_goals try (exact opT_s false (t := by simp only [hT]) (n := by decide) (e := by simp [valT, hT]))
   intro wx hb;simp (decide := true) only [putT, valT, look, moreN, moreY, Act.put, σi, σo, σs, Nat.reduceAdd, if_true, if_false];have HR2 := η (HR.out.up hb hlt);have HROW2 := η (HROW.out.below BdO.own hb);have HG2 := η (zB HG.out (zJ (b := b) hb));clear hb HROW HG HR q0 q1 q2;go_wp2_with fail;refine (KX.out 2 _ _ (by decide) HR2.out).mono ?_;rintro e w5 ⟨rfl, hR5, hg5⟩;have hbz : b < w := hbw;go_wp2_with fail;go_ret;exact ⟨_, rfl, by rw [EL.out, HE.out]; exact HROW2.out.grown BdO.own hg5 (by omega), by rw [EL.out, HE.out]; show acc.length ≤ _; omega, by rw [EL.out, HE.out]; exact hR5, zB HG2.out hg5⟩
  obtain rfl := h0.2 he;obtain ⟨rfl, hi1, hi2⟩ := h3 he;have KP := η fun W => KPk.out rd.i W ⟨hi1, hi2⟩
  have HHE := η he;clear hB h0 h1 h2 h3 he;cases hp : peekT s rd.i 1 with
  | false =>
   have HE : Hid (R = (acc, rd)) := by
    show _ = _
    rw [HS.out];cases gk with
    | zero => rw [manyP, κp]
    | succ g => rw [manyP, if_neg (by simp [goOn, hp]), κp]
   rw [hp] at KP;clear HS HME hp;go_wp2_with fail;refine zE (w0 := wr) (moreY b s rd.i false) [] [0] ?_ ?_
   ·intro T hT W hI;simp only [moreN, moreY, zA, and_true] at hT;have c2 : W.cell? ⟨b, 2, none⟩ = _ := (hI.cell (p := ⟨b, 2, none⟩) hlt).trans q2;have c0 : W.cell? ⟨b, 0, none⟩ = _ := (hI.cell (p := ⟨b, 0, none⟩) hlt).trans q0;have c1 : W.cell? ⟨b, 1, none⟩ = _ := (hI.cell (p := ⟨b, 1, none⟩) hlt).trans q1
    repeat' first | exact AllO.nil | apply AllO.cons
    all_goals try ((first | refine oV ?_ | refine oN ?_ | refine oG (t := by simp only [hT]) (h := ?_)); simp [go_sem, EvT, hT, c2, c0, c1, valT]; done)
    ·refine opT_g (t := by simp only [hT]) (h := zO 105 #[.string (bstr s), .int .i64 rd.i, .int .u8 1] (by simp [go_sem, EvT, hT, c2, c0, c1]) ?_);simp only [valT, hT];exact KP.out W
   intro wx hb;simp (decide := true) only [putT, valT, look, moreN, moreY, Act.put, σi, σo, σs, Nat.reduceAdd, if_true, if_false];have HR2 := η (HR.out.up hb hlt);have HROW2 := η (HROW.out.below BdO.own hb);have HG2 := η (zB HG.out (zJ (b := b) hb));clear hb HROW HG HR q0 q1 q2;go_wp2_with fail;refine (KX.out 2 _ _ (by decide) HR2.out).mono ?_;rintro e w5 ⟨rfl, hR5, hg5⟩;have hbz : b < w := hbw;go_wp2_with fail;go_ret;exact ⟨_, rfl, by rw [EL.out, HE.out]; exact HROW2.out.grown BdO.own hg5 (by omega), by rw [EL.out, HE.out]; show acc.length ≤ _; omega, by rw [EL.out, HE.out]; exact hR5, zB HG2.out hg5⟩
  | true =>
   have hgo : goOn s rd = true := by simp [goOn, hp, HHE.out]
   cases gk with
   | zero =>
    have h1 := HME.out hgo;have h2 := qH hgo;omega
   | succ g =>
    have hm1 := HME.out hgo;have HADV := η (KAD.out rd);have HSP : Hid (manyP s bd0 p (g + 1) rd = ((oneP bd0 p rd).1 :: (manyP s bd0 p g (oneP bd0 p rd).2).1, (manyP s bd0 p g (oneP bd0 p rd).2).2)) := by
     show _ = _
     rw [manyP, if_pos hgo]
    have K2 := η fun W hR => K1.out rd W hR
    rw [hp] at KP;generalize oneP bd0 p rd = sp at *;obtain ⟨vv, rd'⟩ := sp;have HM1 := η hm1;clear hp hgo HME hm1;go_wp2_with fail;refine zE (w0 := wr) (moreY b s rd.i true) [] [0] ?_ ?_
    ·intro T hT W hI;simp only [moreN, moreY, zA, and_true] at hT;have c2 : W.cell? ⟨b, 2, none⟩ = _ := (hI.cell (p := ⟨b, 2, none⟩) hlt).trans q2;have c0 : W.cell? ⟨b, 0, none⟩ = _ := (hI.cell (p := ⟨b, 0, none⟩) hlt).trans q0;have c1 : W.cell? ⟨b, 1, none⟩ = _ := (hI.cell (p := ⟨b, 1, none⟩) hlt).trans q1
     repeat' first | exact AllO.nil | apply AllO.cons
     all_goals try ((first | refine oV ?_ | refine oN ?_ | refine oG (t := by simp only [hT]) (h := ?_)); simp [go_sem, EvT, hT, c2, c0, c1, valT]; done)
     ·refine opT_g (t := by simp only [hT]) (h := zO 105 #[.string (bstr s), .int .i64 rd.i, .int .u8 1] (by simp [go_sem, EvT, hT, c2, c0, c1]) ?_);simp only [valT, hT];exact KP.out W
    intro wx hb;simp (decide := true) only [putT, valT, look, moreN, moreY, Act.put, σi, σo, σs, Nat.reduceAdd, if_true, if_false];have HR2 := η (HR.out.up hb hlt);have HROW2 := η (HROW.out.below BdO.own hb);have HG2 := η (zB HG.out (zJ (b := b) hb));clear hb HROW HG HR q0 q1 q2;go_wp2_with fail;refine (K2.out _ HR2.out).mono ?_;rintro e w3 ⟨cells, rfl, hE0, hR3, hg3⟩;dsimp only at hE0 hR3;have hE := BdO.own.mono hE0 (show w.heap.size ≤ _ from HG2.out.size);clear hE0;have HEE := η hE;obtain ⟨v, rfl, hrow⟩ := id hE; obtain ⟨A, c, rfl⟩ := jB hrow;have HROW3 := η (HROW2.out.grown BdO.own hg3 (by omega));have HG3 := η (zB HG2.out hg3);have hwz3 : w ≤ w3.heap.size := HG3.out.size;have HR3 := η hR3;clear hR3 hg3 HR2 HROW2 HG2 K2 hE;obtain ⟨raws, g1, g2, g3, hown⟩ := id HROW3.out;go_wp2_with (at_builtin; refine wpList_append_own _ rfl _ _ 47 rfl w 133 i0 _ 2 32 Tryz.underlying47 hi hz0 hz1 hz2 rfl (by decide) _ _ _ rfl (hown.alloc _) ⟨w3, 0, none⟩ 1 1 [.int .i64 vv.bus, .slice A vv.steps.length c] rfl rfl (zZ w3 #[.int .i64 vv.bus, .slice A vv.steps.length c] 133) (by simp [Value.oneCell']) (by unfold maxLen fuel at *; omega) (by unfold fuel at *; omega) (by simp; omega) ?_; intro v' w4 hown' hgrow _);have hbel := zH hown hwz3 hgrow;have HROW4 := η (HROW3.out.more (c := [.int .i64 vv.bus, .slice A vv.steps.length c]) (x := vv) BdO.own (by decide) rfl HEE.out (by have := hgrow.size; simp at this ⊢; omega) hgrow (fun xs hx => by rw [qU hx hown]; exact hown'));have HR4 := η (HR3.out.up hbel hbw);have HG5 := η (jX HG3.out hbel);clear hbel hgrow hown hown' g1 g2 g3 HROW3 HR3 HG3;go_wp2_with fail;go_roundg g
    case measure => omega
    case rel =>
     refine ⟨rd', acc ++ [vv], v', rfl, HROW4.out, HR4.out, HG5.out, ?_, fun h => ?_, by rw [κa, List.length_singleton]; omega⟩
     ·rw [HS.out, HSP.out, κq]; rfl
     ·have h1 := HM1.out;have h2 := (HADV.out (qH h).1).2;simp at h1 h2;omega
end Go.Proofs.YtkfhpefmmhljmaaGreatDoor
namespace Go.Proofs.YtkfhpefmmhljmaaGreatDoor
theorem tX {α : Type} {z : α} {chk : α → Int} {r : α × Rd} (h : (fin z chk r).1 = 0) : r.2.e = 0 ∧ (fin z chk r).2.2 = r.2.i := by
 unfold fin at h ⊢;by_cases he : r.2.e = 0
 ·refine ⟨he, ?_⟩;rw [if_neg (by simp [he])] at h ⊢;by_cases hk : chk r.1 = 0
  ·rw [if_neg (by simp [hk])]
  ·rw [if_pos hk] at h; exact absurd h hk
 ·rw [if_pos he] at h; exact absurd h he
theorem iN {s : Bytes} {k : Int} {rd : Rd} (h : (rTok s k rd).e = 0) : 0 ≤ (rTok s k rd).i ∧ (rTok s k rd).i ≤ s.length := by
 obtain ⟨h1, h2⟩ := cI h;have := yI s rd.i k h2;unfold rTok;rw [if_neg (by simp [h1])];unfold rMove;rw [if_pos h2];exact this
theorem hQ {α : Type} {z : α} {chk : α → Int} {x : α} {s : Bytes} {k : Int} {rd : Rd} (h : (fin z chk (x, rTok s k rd)).1 = 0) : 0 ≤ (fin z chk (x, rTok s k rd)).2.2 ∧ (fin z chk (x, rTok s k rd)).2.2 ≤ s.length := by
 obtain ⟨h1, h2⟩ := tX h;rw [h2];exact iN h1
theorem hU {α : Type} {z : α} {chk : α → Int} {r : α × Rd} {i : Int} (hA : Adv ⟨i, 0⟩ r.2) (h : (fin z chk r).1 = 0) : i < (fin z chk r).2.2 := by
 obtain ⟨h1, h2⟩ := tX h;rw [h2];exact (hA h1).2
def Nb (rd rd' : Rd) : Prop := rd'.e = 0 → rd.e = 0 ∧ rd.i ≤ rd'.i
theorem Adv.nb {a b : Rd} (h : Adv a b) : Nb a b := fun h0 => ⟨(h h0).1, Int.le_of_lt (h h0).2⟩
theorem Nb.refl (a : Rd) : Nb a a := fun h => ⟨h, Int.le_refl _⟩
theorem Nb.trans {a b c : Rd} (h : Nb a b) (k : Nb b c) : Nb a c := fun h0 => ⟨(h (k h0).1).1, Int.le_trans (h (k h0).1).2 (k h0).2⟩
theorem Adv.tn {a b c : Rd} (h : Adv a b) (k : Nb b c) : Adv a c := fun h0 => ⟨(h (k h0).1).1, Int.lt_of_lt_of_le (h (k h0).1).2 (k h0).2⟩
theorem dB (s : Bytes) (n : Nat) : ∀ rd, Nb rd (qF s n rd).2 := by
 induction n with
 | zero => intro rd; exact Nb.refl _
 | succ n ih =>
  intro rd;rw [qF];split
  ·split
   ·exact (uJ s rd).nb.trans (ih _)
   ·exact (uJ s rd).nb.trans (ih _)
  ·exact Nb.refl _
theorem sP (s : Bytes) (rd : Rd) : Nb rd (kindR s rd).2 := by
 rw [nK];split
 ·exact (qJ s 3 rd).nb
 ·split
  ·intro h; cases h
  ·exact (qJ s 3 rd).nb
theorem sJ {α : Type} (s : Bytes) (z : α) (p : Int → Int × α × Int) (h : ∀ i, (p i).1 = 0 → i < (p i).2.2) (n : Nat) : ∀ rd, Nb rd (manyP s z p n rd).2 := by
 induction n with
 | zero => intro rd; exact Nb.refl _
 | succ n ih =>
  intro rd;rw [manyP];split
  ·exact (vT (z := z) h rd).nb.trans (ih _)
  ·exact Nb.refl _
theorem uQ (s y : Bytes) (rd : Rd) : Adv rd (rOpen s y rd) := (qJ s 1 rd).trans (kQ s y _)
theorem dX {α : Type} (s y : Bytes) (z : α) (p : Int → Int × α × Int) (h : ∀ i, (p i).1 = 0 → i < (p i).2.2) (rd : Rd) : Adv rd (listP s y z p rd).2 :=
 ((uQ s y rd).tn (sJ s z p h (fuel s) _)).trans (qJ s 2 _)
theorem lV (s : Bytes) (i : Int) (h : (bidP s i).1 = 0) : 0 ≤ (bidP s i).2.2 ∧ (bidP s i).2.2 ≤ s.length := hQ h
theorem fY (s : Bytes) (i : Int) (h : (bidP s i).1 = 0) : i < (bidP s i).2.2 :=
 hU ((((((qJ s 1 ⟨i, 0⟩).trans (kQ s _ _)).trans (zV s _)).tn (dB s (fuel s) _)).trans (qJ s 2 _))) h
theorem rJ (s : Bytes) (i : Int) (h : (unitP s i).1 = 0) : 0 ≤ (unitP s i).2.2 ∧ (unitP s i).2.2 ≤ s.length := hQ h
theorem bN (s : Bytes) (i : Int) (h : (unitP s i).1 = 0) : i < (unitP s i).2.2 :=
 hU ((((((((((((((qJ s 1 ⟨i, 0⟩).trans (kQ s _ _)).trans (zV s _)).trans (zV s _)).trans (zV s _)).trans (zV s _)).trans (zV s _)).trans (zV s _)).trans (zV s _)).trans (zV s _)).tn (dB s (fuel s) _)).trans (qJ s 2 _)))) h
theorem iZ (s : Bytes) (i : Int) (h : (netP s i).1 = 0) : 0 ≤ (netP s i).2.2 ∧ (netP s i).2.2 ≤ s.length := hQ h
theorem iP (s : Bytes) (i : Int) (h : (outP s i).1 = 0) : 0 ≤ (outP s i).2.2 ∧ (outP s i).2.2 ≤ s.length := hQ h
theorem sI (s : Bytes) (i : Int) (h : (outP s i).1 = 0) : i < (outP s i).2.2 :=
 hU (((((((qJ s 1 ⟨i, 0⟩).tn (sP s _)).trans (zV s _)).trans (zV s _)).trans (zV s _)).trans (qJ s 2 _))) h
theorem cC (s : Bytes) (i : Int) (h : (vD s i).1 = 0) : 0 ≤ (vD s i).2.2 ∧ (vD s i).2.2 ≤ s.length := hQ h
theorem aF (s : Bytes) (i : Int) (h : (vD s i).1 = 0) : i < (vD s i).2.2 :=
 hU ((((((uQ s _ ⟨i, 0⟩).trans (zV s _)).trans (zV s _)).trans (zV s _)).trans (qJ s 2 _))) h
theorem sS (s : Bytes) (i : Int) (h : (hourP s i).1 = 0) : 0 ≤ (hourP s i).2.2 ∧ (hourP s i).2.2 ≤ s.length := hQ h
theorem eQ (s : Bytes) (i : Int) (h : (hourP s i).1 = 0) : i < (hourP s i).2.2 :=
 hU (((((uQ s _ ⟨i, 0⟩).trans (zV s _)).trans (dX s _ bd0 (bidP s) (fY s) _)).trans (dX s _ bd0 (bidP s) (fY s) _)).trans (qJ s 2 _)) h
end Go.Proofs.YtkfhpefmmhljmaaGreatDoor
