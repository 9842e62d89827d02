/- Texts in one: CpB, CpC. -/
import Derived.Test.YtkfhpefmmhljmaaGreatDoorQ8
import Derived.Test.YtkfhpefmmhljmaaGreatDoorQ24
import Derived.Test.YtkfhpefmmhljmaaGreatDoorQ19
import Derived.Test.YtkfhpefmmhljmaaGreatDoorQ2
import Derived.Test.YtkfhpefmmhljmaaGreatDoorQ16
import Derived.Test.YtkfhpefmmhljmaaGreatDoorQ26
import Derived.Test.YtkfhpefmmhljmaaGreatDoorQ13
set_option linter.unusedVariables false
set_option linter.unusedSimpArgs false
set_option maxHeartbeats 16000000
set_option maxRecDepth 100000
/- CpB -/
namespace Go.Proofs.YtkfhpefmmhljmaaGreatDoor
open Go.RowKit
theorem info_step : (Tryz.prog.info? 205).map (fun i => (i.zero, i.size, i.bytes)) = some (some (.agg #[.int .i64 0, .int .i64 0]), 2, 16) := by kernel_rfl
theorem cells_new (w : World) (cs : Array Value) (t : TypeId) : ∀ j u, cs.toList[j]? = some u → (w.alloc (.cells cs t)).cell? ((⟨w.heap.size, 0, none⟩ : Addr).add j) = some u := fun j u h => by
 have : (⟨w.heap.size, 0, none⟩ : Addr).add j = ⟨w.heap.size, 0 + j, none⟩ := by unfold Addr.add; split <;> simp_all
 rw [this, cell_alloc_at _ _ _ _ _ rfl];simpa using h
def ListR {α : Type} (E : Enc α) (t : TypeId) (n : Nat) (b : Nat) (s : Bytes) (r : List α × Rd) (w : World) (e : Ending) (w' : World) : Prop :=
 ∃ v, e = .returned v ∧ RowO E t n w' w.heap.size v r.1 ∧ r.1.length ≤ fuel s ∧ RdR w' b s r.2 ∧ w.grownBy w' (some b)
theorem grown_base {a w w' : World} {b : Nat} (h : a.grownBy w (some b)) (k : Below a.heap.size w w') : a.grownBy w' (some b) :=
 ⟨k.os.trans h.os, k.tape.trans h.tape, k.output.trans h.output, Nat.le_trans h.size k.size, fun j hj hne => (k.block j hj).trans (h.block j hj hne)⟩
theorem grown_alloc {a w : World} {b : Nat} (h : a.grownBy w (some b)) (o : Obj) : a.grownBy (w.alloc o) (some b) := only_alloc h o
theorem slist_any (b : Nat) (s : Bytes) (rd0 : Rd) (w : World) (hs : SlOk s) (hl : s.length ≤ 1000000) (hR : RdR w b s rd0) :
  Calls Tryz.prog 111 #[.pointer (some ⟨b, 0, none⟩), .func (.func 112) #[.pointer (some ⟨b, 0, none⟩)] #[]] w (ListR StE 205 2 b s (stepsP s (fuel s) rd0) w) := by
 obtain ⟨i0, hi, hz0, hz1, hz2⟩ := info_parts info_step;have HR0 := η hR;have hbw := hR.lt;have K1 := η fun rd W hR => step_any b s rd W hs hl hR
 have KPk := η fun i W hi => peek_any s i 1 W hs hi hl (by decide)
 generalize hst : stepsP s (fuel s) rd0 = R at *;have HST := η hst;clear hR hs hst;go_enter Tryz.func111, Tryz.ntmps111;go_wp2_with fail;go_loopg [5, 6] (fuel s) (fun g s5 s6 wr => ∃ rd acc v, s5 = v ∧ RowO StE 205 2 wr w.heap.size v acc ∧ RdR wr b s rd ∧ w.grownBy wr (some b) ∧ R = (acc ++ (stepsP s g rd).1, (stepsP s g rd).2) ∧ (goOn s rd = true → (s.length : Int) < rd.i + g) ∧ acc.length + g ≤ fuel s)
 case atStart =>
  refine ⟨rd0, [], _, rfl, RowO.nil_ _ _ _ _ _, HR0.out, World.grownBy.refl _ _, ?_, fun h => ?_, by simp⟩
  ·rw [HST.out]; rfl
  ·have := goOn_lt h;unfold fuel;omega
 case round =>
  obtain ⟨rd, acc, v, rfl, hrow, hR, hg, hst, hme, hlen⟩ := hrel;have hR' := hR;obtain ⟨i, er, hB, h0, h1, h2, h3⟩ := hR'.er;have HROW := η hrow;have HR := η hR;have HG := η hg;have HS := η hst;have HME := η hme;have hlt : b < wr.heap.size := hR.lt;have hwz : w.heap.size ≤ wr.heap.size := hg.size;obtain ⟨q0, s0, q1, s1, q2, s2⟩ := sqX3 hB;clear hrow hR hR' hg hst hme s0 s1 s2;by_cases he : rd.e = 0
  case neg =>
   have e0 : (er == 0) = false := βf fun h => he (h0.1 h)
   have HE : Hid (R = (acc, rd)) := by
    show _ = _
    rw [HS.out];cases gk with
    | zero => rw [stepsP, List.append_nil]
    | succ g => rw [stepsP, if_neg (by simp [goOn, he]), List.append_nil]
   clear hB h0 h1 h2 h3 he HS HME;go_wp2_with fail;refine region_T (w0 := wr) [(0, .pointer (some ⟨b, 0, none⟩)), (7, .pointer (some ⟨b, 0, none⟩)), (8, .pointer (some ⟨b, 0, none⟩)), (9, .pointer (some ⟨b, 2, none⟩)), (10, .int .i64 er), (11, .bool false), (12, .bool false), (13, undef), (14, undef), (15, undef), (16, undef), (17, undef), (18, undef), (19, undef), (20, undef), (21, undef), (22, .bool false)] [] [0] ?_ ?_
   ·intro T hT W hI;simp only [HoldsT, and_true] at hT;have c2 : W.cell? ⟨b, 2, none⟩ = _ := (hI.cell (p := ⟨b, 2, none⟩) hlt).trans q2
    repeat' first | exact AllO.nil | apply AllO.cons
    all_goals try ((first | refine oV ?_ | refine oN ?_ | refine oG (t := by simp only [hT]) (h := ?_)); simp [go_sem, EvT, hT, c2, e0, valT]; done)
    all_goals try (exact opT_s true (t := by simp only [hT]) (n := by decide) (e := by simp [valT, hT]))
    all_goals try (exact opT_s false (t := by simp only [hT]) (n := by decide) (e := by simp [valT, hT]))
   intro wx hb;simp (decide := true) only [putT, valT, look, Act.put, σi, σo, σs, Nat.reduceAdd, if_true, if_false];have HR2 := η (HR.out.up hb hlt);have HROW2 := η (HROW.out.below StE.own hb);have HG2 := η (grown_trans HG.out (grown_below (b := b) hb));clear hb HROW HG HR q0 q1 q2;go_wp2_with fail;go_ret;exact ⟨_, rfl, by rw [HE.out]; exact HROW2.out, by rw [HE.out]; show acc.length ≤ _; omega, by rw [HE.out]; exact HR2.out, HG2.out⟩
  obtain rfl := h0.2 he;obtain ⟨rfl, hi1, hi2⟩ := h3 he;have KP := η fun W => KPk.out rd.i W ⟨hi1, hi2⟩
  have HHE := η he;clear hB h0 h1 h2 h3 he;cases hp : peekT s rd.i 1 with
  | false =>
   have HE : Hid (R = (acc, rd)) := by
    show _ = _
    rw [HS.out];cases gk with
    | zero => rw [stepsP, List.append_nil]
    | succ g => rw [stepsP, if_neg (by simp [goOn, hp]), List.append_nil]
   rw [hp] at KP;clear HS HME hp;go_wp2_with fail;refine region_T (w0 := wr) [(0, .pointer (some ⟨b, 0, none⟩)), (7, .pointer (some ⟨b, 0, none⟩)), (8, .pointer (some ⟨b, 0, none⟩)), (9, .pointer (some ⟨b, 2, none⟩)), (10, .int .i64 0), (11, .bool true), (12, .bool true), (13, .pointer (some ⟨b, 0, none⟩)), (14, .pointer (some ⟨b, 0, none⟩)), (15, .pointer (some ⟨b, 0, none⟩)), (16, .string (bstr s)), (17, .pointer (some ⟨b, 0, none⟩)), (18, .pointer (some ⟨b, 0, none⟩)), (19, .pointer (some ⟨b, 1, none⟩)), (20, .int .i64 rd.i), (21, .bool false), (22, .bool false)] [] [0] ?_ ?_
   ·intro T hT W hI;simp only [HoldsT, and_true] at hT;have c2 : W.cell? ⟨b, 2, none⟩ = _ := (hI.cell (p := ⟨b, 2, none⟩) hlt).trans q2;have c0 : W.cell? ⟨b, 0, none⟩ = _ := (hI.cell (p := ⟨b, 0, none⟩) hlt).trans q0;have c1 : W.cell? ⟨b, 1, none⟩ = _ := (hI.cell (p := ⟨b, 1, none⟩) hlt).trans q1
    repeat' first | exact AllO.nil | apply AllO.cons
    all_goals try ((first | refine oV ?_ | refine oN ?_ | refine oG (t := by simp only [hT]) (h := ?_)); simp [go_sem, EvT, hT, c2, c0, c1, valT]; done)
    ·refine opT_g (t := by simp only [hT]) (h := runT_c 105 #[.string (bstr s), .int .i64 rd.i, .int .u8 1] (by simp [go_sem, EvT, hT, c2, c0, c1]) ?_);simp only [valT, hT];exact KP.out W
   intro wx hb;simp (decide := true) only [putT, valT, look, Act.put, σi, σo, σs, Nat.reduceAdd, if_true, if_false];have HR2 := η (HR.out.up hb hlt);have HROW2 := η (HROW.out.below StE.own hb);have HG2 := η (grown_trans HG.out (grown_below (b := b) hb));clear hb HROW HG HR q0 q1 q2;go_wp2_with fail;go_ret;exact ⟨_, rfl, by rw [HE.out]; exact HROW2.out, by rw [HE.out]; show acc.length ≤ _; omega, by rw [HE.out]; exact HR2.out, HG2.out⟩
  | true =>
   have hgo : goOn s rd = true := by simp [goOn, hp, HHE.out]
   cases gk with
   | zero =>
    have h1 := HME.out hgo;have h2 := goOn_lt hgo;omega
   | succ g =>
    have hm1 := HME.out hgo;have HADV := η (stepP_adv s rd);have HSP : Hid (stepsP s (g + 1) rd = if (stepP s rd).2.e = 0 then ((stepP s rd).1 :: (stepsP s g (stepP s rd).2).1, (stepsP s g (stepP s rd).2).2) else stepsP s g (stepP s rd).2) := by
     show _ = _
     rw [stepsP, if_pos hgo]
    have K2 := η fun W hR => K1.out rd W hR
    rw [hp] at KP;generalize stepP s rd = sp at *;obtain ⟨⟨q, p⟩, rd'⟩ := sp;have HM1 := η hm1;clear hp hgo HME hm1;go_wp2_with fail;refine region_T (w0 := wr) [(0, .pointer (some ⟨b, 0, none⟩)), (7, .pointer (some ⟨b, 0, none⟩)), (8, .pointer (some ⟨b, 0, none⟩)), (9, .pointer (some ⟨b, 2, none⟩)), (10, .int .i64 0), (11, .bool true), (12, .bool true), (13, .pointer (some ⟨b, 0, none⟩)), (14, .pointer (some ⟨b, 0, none⟩)), (15, .pointer (some ⟨b, 0, none⟩)), (16, .string (bstr s)), (17, .pointer (some ⟨b, 0, none⟩)), (18, .pointer (some ⟨b, 0, none⟩)), (19, .pointer (some ⟨b, 1, none⟩)), (20, .int .i64 rd.i), (21, .bool true), (22, .bool true)] [] [0] ?_ ?_
    ·intro T hT W hI;simp only [HoldsT, and_true] at hT;have c2 : W.cell? ⟨b, 2, none⟩ = _ := (hI.cell (p := ⟨b, 2, none⟩) hlt).trans q2;have c0 : W.cell? ⟨b, 0, none⟩ = _ := (hI.cell (p := ⟨b, 0, none⟩) hlt).trans q0;have c1 : W.cell? ⟨b, 1, none⟩ = _ := (hI.cell (p := ⟨b, 1, none⟩) hlt).trans q1
     repeat' first | exact AllO.nil | apply AllO.cons
     all_goals try ((first | refine oV ?_ | refine oN ?_ | refine oG (t := by simp only [hT]) (h := ?_)); simp [go_sem, EvT, hT, c2, c0, c1, valT]; done)
     ·refine opT_g (t := by simp only [hT]) (h := runT_c 105 #[.string (bstr s), .int .i64 rd.i, .int .u8 1] (by simp [go_sem, EvT, hT, c2, c0, c1]) ?_);simp only [valT, hT];exact KP.out W
    intro wx hb;simp (decide := true) only [putT, valT, look, Act.put, σi, σo, σs, Nat.reduceAdd, if_true, if_false];have HR2 := η (HR.out.up hb hlt);have HROW2 := η (HROW.out.below StE.own hb);have HG2 := η (grown_trans HG.out (grown_below (b := b) hb));clear hb HROW HG HR q0 q1 q2;go_wp2_with fail;refine (K2.out _ HR2.out).mono ?_;rintro e w3 ⟨rfl, hR3, hg3⟩;dsimp only at hR3 ⊢;have hROW3 := HROW2.out.grown StE.own hg3 (by omega);have HG3 := η (grown_trans HG2.out hg3);have hR3' := hR3.alloc (.cells #[.int .i64 q, .int .i64 p] 205);have HROW3 := η (hROW3.below StE.own ((Below.refl w3.heap.size w3).alloc (νr _) (.cells #[.int .i64 q, .int .i64 p] 205)));have HG4 := η (grown_alloc HG3.out (.cells #[.int .i64 q, .int .i64 p] 205));have hr3 := hR3;have hlt3 := hR3.lt;have hwz3 : w.heap.size ≤ w3.heap.size := HG3.out.size;obtain ⟨i', er', hB3, k0, k1, k2, k3⟩ := hr3.er;obtain ⟨u0, v0, u1, v1, u2, v2⟩ := sqX3 hB3;have HR3 := η hR3';clear hR3 hR3' hg3 hr3 hROW3 HR2 HROW2 HG2 K2 v0 v1 v2;by_cases he' : rd'.e = 0
    ·obtain rfl := k0.2 he';have HE : Hid (R = ((acc ++ [(q, p)]) ++ (stepsP s g rd').1, (stepsP s g rd').2)) := by
      show _ = _
      rw [HS.out, HSP.out, if_pos he', List.append_assoc];rfl
     have HME : Hid (goOn s rd' = true → (s.length : Int) < rd'.i + g) := fun _ => by
      have h1 := HM1.out;have h2 := (HADV.out he').2;simp at h1 h2;omega
     clear hB3 k0 k1 k2 k3 HS HSP HM1 HADV he';obtain ⟨raws, g1, g2, g3, hown⟩ := HROW3.out;go_wp2_with (at_builtin; refine wpList_append_own _ rfl _ _ 60 rfl w.heap.size 205 i0 _ 2 16 Tryz.underlying60 hi hz0 hz1 hz2 rfl (by decide) _ _ _ rfl (hown.alloc _) ⟨w3.heap.size + 1, 0, none⟩ 1 1 [.int .i64 q, .int .i64 p] rfl rfl (by have := cells_new (w3.alloc (.cells #[.int .i64 q, .int .i64 p] 205)) #[.int .i64 q, .int .i64 p] 205; simpa using this) (by simp [Value.oneCell']) (by unfold maxLen fuel at *; omega) (by unfold fuel at *; omega) (by simp; omega) ?_; intro v' w4 hown' hgrow _);have hbel := below_appended hown (show w.heap.size ≤ (w3.alloc (.cells #[.int .i64 q, .int .i64 p] 205)).heap.size by simp; omega) hgrow;have HROW4 := η (HROW3.out.more (c := [.int .i64 q, .int .i64 p]) (x := (q, p)) StE.own (by simp) rfl rfl (by have := hgrow.size; simp at this ⊢; omega) hgrow (fun xs hx => by rw [ownsRow_uniq hx hown]; exact hown'));have HR4 := η (HR3.out.up hbel hbw);have HG5 := η (grown_base HG4.out hbel);clear hbel hgrow hown hown' g1 g2 g3 HROW3 HR3 HG4 HG3;go_wp2_with fail;go_roundg g
     case measure => omega
     case rel => exact ⟨rd', acc ++ [(q, p)], v', rfl, HROW4.out, HR4.out, HG5.out, HE.out, HME.out, by rw [List.length_append, List.length_singleton]; omega⟩
    ·have HE : Hid (R = (acc ++ (stepsP s g rd').1, (stepsP s g rd').2)) := by
      show _ = _
      rw [HS.out, HSP.out, if_neg he']
     have e0 : (er' == 0) = false := βf fun h => he' (k0.1 h)
     have HME : Hid (goOn s rd' = true → (s.length : Int) < rd'.i + g) := fun h => absurd (goOn_lt h).1 he'
     clear hB3 k0 k1 k2 k3 HS HSP HM1 HADV he';go_wp2_with fail;go_roundg g
     case measure => omega
     case rel => exact ⟨rd', acc, _, rfl, HROW3.out, HR3.out, HG4.out, HE.out, HME.out, by omega⟩
def ErR (a b : Int) : Prop := (a ≠ -1 ∧ b = a) ∨ (a = -1 ∧ b ≠ 0 ∧ b ≠ 8)
def ParE {α : Type} (E : Enc α) (r : Int × α × Int) (w : World) (e : Ending) (w' : World) : Prop :=
 Below w.heap.size w w' ∧ ∃ cells er, e = .returned (.tuple #[.agg cells.toArray, .int .i64 r.2.2, .int .i64 er]) ∧ E w' w.heap.size cells r.2.1 ∧ ErR r.1 er
theorem below_grown {B g : Nat} {a w w' : World} (h : Below B a w) (k : w.grownBy w' (some g)) (hg : B ≤ g) (hB : B ≤ w.heap.size) : Below B a w' :=
 h.grown k hB (fun j hj => by injection hj with hj; omega)
theorem RdR.set {w : World} {b : Nat} {s : Bytes} {rd : Rd} (h : RdR w b s rd) {p : Addr} (hp : p.block ≠ b) (v : Value) : RdR (w.setCell p v) b s rd := by
 obtain ⟨i, er, h1, h2⟩ := h;exact ⟨i, er, h1.other hp v, h2⟩
theorem stGo_ne (f : Int → Int → Bool) : ∀ (l : List St) (pv : Option Int), stGo f pv l ≠ -1 := by
 intro l
 induction l with
 | nil => intro pv; simp [stGo]
 | cons x l ih =>
  intro pv;rw [stGo];split
  ·decide
  ·split
   ·decide
   ·exact ih _
theorem stepsE_ne (f : Int → Int → Bool) (l : List St) : stepsE f l ≠ -1 := by
 unfold stepsE;split
 ·decide
 ·split
  ·decide
  ·exact stGo_ne f l none
theorem bidE_ne (n : Int) (b : Bd) : bidE n b ≠ -1 := by
 unfold bidE;split
 ·decide
 ·exact stepsE_ne _ _
theorem unitE_ne (n : Int) (u : Un) : unitE n u ≠ -1 := by
 unfold unitE;split
 ·decide
 ·split
  ·exact stepsE_ne _ _
  ·split <;> decide
theorem RdR.start (w : World) (b : Nat) (s : Bytes) (i : Int) (hi : -9223372036854775808 ≤ i ∧ i ≤ 9223372036854775807) (h : Box w b [.string (bstr s), .int .i64 i, .int .i64 0]) : RdR w b s ⟨i, 0⟩ :=
 ⟨i, 0, h, fun _ => rfl, (fun h => by cases h), fun _ => ⟨rfl, hi⟩⟩
theorem pbid_any (s : Bytes) (i : Int) (w : World) (hs : SlOk s) (hl : s.length ≤ 1000000) (hi : -9223372036854775808 ≤ i ∧ i ≤ 9223372036854775807) :
  Calls Tryz.prog 116 #[.string (bstr s), .int .i64 i] w (ParE BdO (bidP s i) w) := by
 have KT := η fun k rd W hk hR => bExpect_any (w.heap.size + 1) s k rd W hs hl hk hR
 have KW := η fun y rd W hR => bWord_any (w.heap.size + 1) s y rd W hs hl hR
 have KI := η fun rd W hR => bInteger_any (w.heap.size + 1) s rd W hs hl hR
 have KL := η fun rd W hR => slist_any (w.heap.size + 1) s rd W hs hl hR
 have E : Hid (bidR s i = (⟨(rInt s (rWord s [98, 105, 100] (rTok s 1 ⟨i, 0⟩))).1, (stepsP s (fuel s) (rInt s (rWord s [98, 105, 100] (rTok s 1 ⟨i, 0⟩))).2).1⟩, rTok s 2 (stepsP s (fuel s) (rInt s (rWord s [98, 105, 100] (rTok s 1 ⟨i, 0⟩))).2).2)) := rfl;have EP : Hid (bidP s i = fin bd0 (bidE 6) (bidR s i)) := rfl;generalize bidP s i = RP at *;generalize bidR s i = R at *;have HX : Hid (Box ((w.alloc (.cells #[.int .i64 0, .slice none 0 0] 133)).alloc (.cells #[.string (bstr s), .int .i64 i, .int .i64 0] 176)) w.heap.size [.int .i64 0, .slice none 0 0]) := (Box.new w #[.int .i64 0, .slice none 0 0] 133).alloc (by simp) _;have HR : Hid (RdR ((w.alloc (.cells #[.int .i64 0, .slice none 0 0] 133)).alloc (.cells #[.string (bstr s), .int .i64 i, .int .i64 0] 176)) (w.heap.size + 1) s ⟨i, 0⟩) := by
  show RdR _ _ _ _
  refine RdR.start _ _ _ _ hi ?_;have := Box.new (w.alloc (.cells #[.int .i64 0, .slice none 0 0] 133)) #[.string (bstr s), .int .i64 i, .int .i64 0] 176;simpa using this
 have HB : Hid (Below w.heap.size w ((w.alloc (.cells #[.int .i64 0, .slice none 0 0] 133)).alloc (.cells #[.string (bstr s), .int .i64 i, .int .i64 0] 176))) := (βA _).alloc (by simp) _;have hzz : w.heap.size + 1 < ((w.alloc (.cells #[.int .i64 0, .slice none 0 0] 133)).alloc (.cells #[.string (bstr s), .int .i64 i, .int .i64 0] 176)).heap.size := by simp
 clear hs hi;go_enter Tryz.func116, Tryz.ntmps116;obtain ⟨q0, s0, q1, s1⟩ := sqX2 HX.out;go_wp2_with fail;refine (KT.out 1 _ _ (by decide) HR.out).mono ?_;rintro e w1 ⟨rfl, hR, hg⟩;have HX1 := η (HX.out.grown hg (by omega) (by omega));have HB1 := η (below_grown HB.out hg (by omega) (by omega));have hz1 : w.heap.size + 1 < w1.heap.size := νl hzz hg.size;replace HR := η hR;clear HX HB hzz hR hg;have HX := HX1;have HB := HB1;have hzz := hz1;clear HX1 HB1 hz1;generalize rTok s 1 ⟨i, 0⟩ = rd1 at *;clear q0 q1 s0 s1;obtain ⟨q0, s0, q1, s1⟩ := sqX2 HX.out;go_wp2_with fail;refine (KW.out [98, 105, 100] _ _ HR.out).mono ?_;rintro e w2 ⟨rfl, hR, hg⟩;have HX2 := η (HX.out.grown hg (by omega) (by omega));have HB2 := η (below_grown HB.out hg (by omega) (by omega));have hz2 : w.heap.size + 1 < w2.heap.size := νl hzz hg.size;replace HR := η hR;clear HX HB hzz hR hg;have HX := HX2;have HB := HB2;have hzz := hz2;clear HX2 HB2 hz2;generalize rWord s [98, 105, 100] rd1 = rd2 at *;clear q0 q1 s0 s1;obtain ⟨q0, s0, q1, s1⟩ := sqX2 HX.out;go_wp2_with fail;refine (KI.out _ _ HR.out).mono ?_;rintro e w3 ⟨rfl, hR, hg⟩;have HX3 := η (HX.out.grown hg (by omega) (by omega));have HB3 := η (below_grown HB.out hg (by omega) (by omega));have hz3 : w.heap.size + 1 < w3.heap.size := νl hzz hg.size;replace HR := η hR;clear HX HB hzz hR hg;have HX := HX3;have HB := HB3;have hzz := hz3;clear HX3 HB3 hz3;generalize rInt s rd2 = ri3 at *;obtain ⟨n3, rd3⟩ := ri3;dsimp only at E HR ⊢;clear q0 q1 s0 s1;obtain ⟨q0, s0, q1, s1⟩ := sqX2 HX.out;replace HR := η (HR.out.set (p := ⟨w.heap.size, 0, none⟩) (by simp) (.int .i64 n3));replace HX := η (HX.out.set1 0 (by simp) (.int .i64 n3));replace HX : Hid (Box (w3.setCell ⟨w.heap.size, 0, none⟩ (.int .i64 n3)) w.heap.size [.int .i64 n3, .slice none 0 0]) := HX.out;replace HB := η (HB.out.setCell (p := ⟨w.heap.size, 0, none⟩) (νr _) (.int .i64 n3));have hzp : w.heap.size + 1 < (w3.setCell ⟨w.heap.size, 0, none⟩ (.int .i64 n3)).heap.size := by simp; omega
 clear hzz;have hzz := hzp;clear hzp;go_wp2_with fail;refine (KL.out _ _ HR.out).mono ?_;rintro e w4 ⟨v, rfl, hrow, hlen4, hR, hg⟩;have HW4 := η (RowO.mono StE.own hrow (base' := w.heap.size + 2) (by omega));clear hrow;have HX4 := η (HX.out.grown hg (by omega) (by omega));have HB4 := η (below_grown HB.out hg (by omega) (by omega));have hz4 : w.heap.size + 1 < w4.heap.size := νl hzz hg.size;replace HR := η hR;clear HX HB hzz hR hg;have HX := HX4;have HB := HB4;have hzz := hz4;clear HX4 HB4 hz4;generalize stepsP s (fuel s) rd3 = rl4 at *;obtain ⟨l4, rd4⟩ := rl4;dsimp only at E HR HW4 hlen4 ⊢;obtain ⟨A4, c4, rfl, _⟩ : ∃ A c, v = .slice A l4.length c ∧ l4.length ≤ c := by obtain ⟨_, _, _, _, ho⟩ := HW4.out; exact ownsRow_slice ho
 clear q0 q1 s0 s1;obtain ⟨q0, s0, q1, s1⟩ := sqX2 HX.out;replace HR := η (HR.out.set (p := ⟨w.heap.size, 1, none⟩) (by simp) (.slice A4 l4.length c4));replace HX := η (HX.out.set1 1 (by simp) (.slice A4 l4.length c4));replace HX : Hid (Box (w4.setCell ⟨w.heap.size, 1, none⟩ (.slice A4 l4.length c4)) w.heap.size [.int .i64 n3, .slice A4 l4.length c4]) := HX.out;replace HB := η (HB.out.setCell (p := ⟨w.heap.size, 1, none⟩) (νr _) (.slice A4 l4.length c4));replace HW4 := η (HW4.out.set StE.own (g := w.heap.size) (by omega) [.slice A4 l4.length c4] 1);have hzp : w.heap.size + 1 < (w4.setCell ⟨w.heap.size, 1, none⟩ (.slice A4 l4.length c4)).heap.size := by simp; omega
 clear hzz;have hzz := hzp;clear hzp;go_wp2_with fail;refine (KT.out 2 _ _ (by decide) HR.out).mono ?_;rintro e w5 ⟨rfl, hR, hg⟩;have HX5 := η (HX.out.grown hg (by omega) (by omega));have HB5 := η (below_grown HB.out hg (by omega) (by omega));replace HW4 := η (HW4.out.grown StE.own hg (by omega));have hz5 : w.heap.size + 1 < w5.heap.size := νl hzz hg.size;replace HR := η hR;clear HX HB hzz hR hg;have HX := HX5;have HB := HB5;have hzz := hz5;clear HX5 HB5 hz5;generalize rTok s 2 rd4 = rd5 at *;clear q0 q1 s0 s1;obtain ⟨q0, s0, q1, s1⟩ := sqX2 HX.out;obtain ⟨i', er, hB, h0, h1, h2, h3⟩ := HR.out.er;have HRB := η hB;obtain ⟨u0, v0, u1, v1, u2, v2⟩ := sqX3 hB;have hz1 : w.heap.size + 1 < w5.heap.size := hzz;have hz0 : w.heap.size < w5.heap.size := by omega
 clear hB;by_cases he : rd5.e = 0
 ·obtain rfl : er = 0 := h0.2 he;have hp' := (h3 he).1;subst hp';have HE := η he;clear h0 h1 h2 h3 he;obtain ⟨A', c', hv, hc, hr⟩ := HW4.out.read (E' := StE) (fun _ _ h => h);injection hv with hv1 hv2 hv3
  subst hv1 hv3;have KC := η (checkBid_any ⟨n3, l4⟩ A4 c4 w5 hr);clear hr hc;go_wp2_with fail;refine KC.out.mono ?_;rintro e wc ⟨rfl, hbc⟩;have HXc := η (HX.out.up hbc hz0);have HRc := η (HRB.out.up hbc hz1);have HBc := η (HB.out.trans (hbc.mono (Nat.le_of_lt hz0)));have HW4c := η (HW4.out.below StE.own hbc);have hzc0 : w.heap.size < wc.heap.size := νl hz0 hbc.size;have hzc1 : w.heap.size + 1 < wc.heap.size := νl hz1 hbc.size;clear q0 q1 s0 s1 u0 u1 u2 v0 v1 v2 HX HRB HB hz0 hz1 hzz hbc KC;have hz0 := hzc0;have hz1 := hzc1;obtain ⟨q0, s0, q1, s1⟩ := sqX2 HXc.out;obtain ⟨u0, v0, u1, v1, u2, v2⟩ := sqX3 HRc.out;by_cases hk : bidE 6 (⟨n3, l4⟩) = 0
  ·have EE : RP = (0, ⟨n3, l4⟩, rd5.i) := by rw [EP.out, E.out]; simp only [fin, HE.out, hk]; rfl
   rw [hk];go_wp2_with fail;refine region_chainT (X := Unit) (w0 := wc) [5] (fun jq => [0, 0, 0, 0, 0, 1, 1, 1].getD jq 0) (fun jq => [0, 1, 1, 1, 1, 0, 1, 1].getD jq 0) (fun _ => [(4, .pointer (some ⟨w.heap.size, 0, none⟩)), (7, .pointer (some ⟨w.heap.size + 1, 0, none⟩)), (43, .agg #[.int .i64 n3, .slice A4 l4.length c4]), (44, .pointer (some ⟨w.heap.size + 1, 0, none⟩)), (45, .pointer (some ⟨w.heap.size + 1, 0, none⟩)), (46, .pointer (some ⟨w.heap.size + 1, 1, none⟩)), (47, .int .i64 rd5.i), (5, .int .i64 rd5.i), (6, .int .i64 0)]) (fun _ => []) [4, 7] (fun t _ W => match t with | 0 => Below wc.heap.size wc W | _ => ∃ W0, Below wc.heap.size wc W0 ∧ W = W0.setCells w.heap.size 0 [.int .i64 n3, .slice A4 l4.length c4]) () (Below.refl _ _).drew ?_ ?_ ?_
   ·intro T x t W hT hI htl;simp only [HoldsT, and_true] at hT;rcases t with _ | _ | t
    ·skip
     replace hI : Below wc.heap.size wc W := hI;have hsz := hI.size;have hlt : w.heap.size < W.heap.size := by omega
     have c0 := (HXc.out.up hI hz0).c 0 _ rfl;have g0 := (HXc.out.up hI hz0).f 0 (by simp);have c1 := (HXc.out.up hI hz0).c 1 _ rfl;have g1 := (HXc.out.up hI hz0).f 1 (by simp);have c1z4 := (HRc.out.up hI hz1).c 1 _ rfl;have g1z4 : w.heap.size + 1 < W.heap.size := νl hz1 hI.size
     repeat' first | exact AllI.nil | apply AllI.cons
     all_goals intro hn hl hu
     all_goals first | exact absurd hn (by decide) | exact absurd hl (by decide) | exact absurd hu (by decide) | (refine rdT ?_; simp [go_sem, EvT, hT, c0, g0, c1, g1, hlt, c1z4, g1z4, valT])
    ·skip
     obtain ⟨W0, hI0, rfl⟩ : ∃ W0, Below wc.heap.size wc W0 ∧ W = W0.setCells w.heap.size 0 [.int .i64 n3, .slice A4 l4.length c4] := hI;have c1 := ((HRc.out.up hI0 hz1).others (b' := w.heap.size) (by omega) 0 [.int .i64 n3, .slice A4 l4.length c4]).c 1 _ rfl;have g1 : w.heap.size + 1 < (W0.setCells w.heap.size 0 [.int .i64 n3, .slice A4 l4.length c4]).heap.size := by rw [size_sets]; exact νl hz1 hI0.size
     generalize W0.setCells w.heap.size 0 [.int .i64 n3, .slice A4 l4.length c4] = W0 at *;have hI := hI0
     repeat' first | exact AllI.nil | apply AllI.cons
     all_goals intro hn hl hu
     all_goals first | exact absurd hn (by decide) | exact absurd hl (by decide) | exact absurd hu (by decide) | (refine rdT ?_; simp [go_sem, EvT, hT, c1, g1, valT])
    ·exact absurd htl (by simp)
   ·intro T k x W o hk ho hT hI;simp only [HoldsT, and_true] at hT;rcases k with _ | k
    ·cases ho;replace hI : Below wc.heap.size wc W := hI;have hsz := hI.size;have hlt : w.heap.size < W.heap.size := by omega
     have c0 := (HXc.out.up hI hz0).c 0 _ rfl;have g0 := (HXc.out.up hI hz0).f 0 (by simp);have c1 := (HXc.out.up hI hz0).c 1 _ rfl;have g1 := (HXc.out.up hI hz0).f 1 (by simp);refine chT_s (W' := ((W.setCell ⟨w.heap.size, 0, none⟩ (.int .i64 n3)).setCell ⟨w.heap.size, 1, none⟩ (.slice A4 l4.length c4))) ?_ (⟨W, hI, rfl⟩);clear hI;simp [go_sem, EvT, hT, c0, g0, c1, g1, hlt]
    ·exact absurd hk (by simp)
   intro x wx hI;simp (decide := true) only [putT, valT, look, Act.put, σi, σo, σs, Nat.reduceAdd, if_true, if_false];replace hI : (fun t _ W => match t with | 0 => Below wc.heap.size wc W | _ => ∃ W0, Below wc.heap.size wc W0 ∧ W = W0.setCells w.heap.size 0 [.int .i64 n3, .slice A4 l4.length c4]) 1 x wx := hI
   (try dsimp only at hI)
   obtain ⟨W0, hb0, rfl⟩ : ∃ W0, Below wc.heap.size wc W0 ∧ wx = W0.setCells w.heap.size 0 [.int .i64 n3, .slice A4 l4.length c4] := hI;have HXw := η ((HXc.out.up hb0 hz0).sets (vs' := [.int .i64 n3, .slice A4 l4.length c4]) rfl);have HBw := η (below_sets (HBc.out.trans (hb0.mono (Nat.le_of_lt hz0))) (νr w.heap.size) [.int .i64 n3, .slice A4 l4.length c4] 0);have HW4w := η ((HW4c.out.below StE.own hb0).set StE.own (g := w.heap.size) (by omega) [.int .i64 n3, .slice A4 l4.length c4] 0);have hlt : w.heap.size < (W0.setCells w.heap.size 0 [.int .i64 n3, .slice A4 l4.length c4]).heap.size := by rw [size_sets]; exact νl hz0 hb0.size
   generalize W0.setCells w.heap.size 0 [.int .i64 n3, .slice A4 l4.length c4] = wz at *;clear hb0 q0 q1 s0 s1 u0 u1 u2 v0 v1 v2;obtain ⟨q0, s0, q1, s1⟩ := sqX2 HXw.out;go_wp2_with fail;exact bodyPost_ret (v := .tuple #[.agg #[.int .i64 n3, .slice A4 l4.length c4], .int .i64 rd5.i, .int .i64 0]) (by simp [results, Tryz.results116, go_sem, q0, q1, hlt]) rfl (by rw [EE]; exact ⟨HBw.out, _, 0, rfl, ⟨_, rfl, HW4w.out.mono StE.own (by omega)⟩, .inl ⟨show (0 : Int) ≠ -1 by decide, rfl⟩⟩)
  ·have EE : RP = (bidE 6 (⟨n3, l4⟩), bd0, 0) := by rw [EP.out, E.out]; simp only [fin, HE.out]; rw [if_neg (by simp), if_pos hk]
   have ec : Hid (bidE 6 (⟨n3, l4⟩) ≠ -1) := bidE_ne _ _;generalize bidE 6 (⟨n3, l4⟩) = rc at *;have e1 : (rc == 0) = false := βf hk;have e2 : (rc != 0) = true := βt hk;have HZ := η (HXc.out.sets (vs' := [.int .i64 0, .slice none 0 0]) rfl);have HBz := η (below_sets HBc.out (νr w.heap.size) [.int .i64 0, .slice none 0 0] 0);have hlt : w.heap.size < (wc.setCells w.heap.size 0 [.int .i64 0, .slice none 0 0]).heap.size := by rw [size_sets]; exact hz0
   go_wp2_with fail;rw [show ((wc.setCell ⟨w.heap.size, 0, none⟩ (.int .i64 0)).setCell ⟨w.heap.size, 1, none⟩ (.slice none 0 0)) = wc.setCells w.heap.size 0 [.int .i64 0, .slice none 0 0] from rfl];generalize wc.setCells w.heap.size 0 [.int .i64 0, .slice none 0 0] = wz at *;clear q0 q1 s0 s1 u0 u1 u2 v0 v1 v2;obtain ⟨q0, s0, q1, s1⟩ := sqX2 HZ.out;exact bodyPost_ret (v := .tuple #[.agg #[.int .i64 0, .slice none 0 0], .int .i64 0, .int .i64 rc]) (by simp [results, Tryz.results116, go_sem, q0, q1, hlt]) rfl (by rw [EE]; exact ⟨HBz.out, _, rc, rfl, ⟨_, rfl, RowO.nil_ _ _ _ _ _⟩, .inl ⟨ec.out, rfl⟩⟩)
 ·have EE : RP = (rd5.e, bd0, 0) := by rw [EP.out, E.out]; simp only [fin]; rw [if_pos he]
  have hne : er ≠ 0 := fun h => he (h0.1 h)
  have e1 : (er == 0) = false := βf hne;have e2 : (er != 0) = true := βt hne;have HER : Hid (ErR rd5.e er) := by show ErR _ _; by_cases h : rd5.e = -1; exact .inr ⟨h, h2 h⟩; exact .inl ⟨h, h1 h⟩
  clear h0 h1 h2 h3 he hne;go_wp2_with fail;refine region_chainT (X := Unit) (w0 := w5) [5] (fun jq => [0, 0, 0, 0, 0, 1, 1, 1].getD jq 0) (fun jq => [0, 1, 1, 1, 1, 0, 1, 1].getD jq 0) (fun _ => [(7, .pointer (some ⟨w.heap.size + 1, 0, none⟩)), (4, .pointer (some ⟨w.heap.size, 0, none⟩)), (32, .agg #[.int .i64 0, .slice none 0 0]), (33, .pointer (some ⟨w.heap.size + 1, 0, none⟩)), (34, .pointer (some ⟨w.heap.size + 1, 0, none⟩)), (35, .pointer (some ⟨w.heap.size + 1, 2, none⟩)), (36, .int .i64 er), (5, .int .i64 0), (6, .int .i64 er)]) (fun _ => []) [7, 4] (fun t _ W => match t with | 0 => Below w5.heap.size w5 W | _ => ∃ W0, Below w5.heap.size w5 W0 ∧ W = W0.setCells w.heap.size 0 [.int .i64 0, .slice none 0 0]) () (Below.refl _ _).drew ?_ ?_ ?_
  ·intro T x t W hT hI htl;simp only [HoldsT, and_true] at hT;rcases t with _ | _ | t
   ·skip
    replace hI : Below w5.heap.size w5 W := hI;have c2 := (HRB.out.up hI hz1).c 2 _ rfl;have g2 : w.heap.size + 1 < W.heap.size := νl hz1 hI.size
    repeat' first | exact AllI.nil | apply AllI.cons
    all_goals intro hn hl hu
    all_goals first | exact absurd hn (by decide) | exact absurd hl (by decide) | exact absurd hu (by decide) | (refine rdT ?_; simp [go_sem, EvT, hT, c2, g2, valT])
   ·skip
    obtain ⟨W0, hI0, rfl⟩ : ∃ W0, Below w5.heap.size w5 W0 ∧ W = W0.setCells w.heap.size 0 [.int .i64 0, .slice none 0 0] := hI;have c2 := ((HRB.out.up hI0 hz1).others (b' := w.heap.size) (by omega) 0 [.int .i64 0, .slice none 0 0]).c 2 _ rfl;have g2 : w.heap.size + 1 < (W0.setCells w.heap.size 0 [.int .i64 0, .slice none 0 0]).heap.size := by rw [size_sets]; exact νl hz1 hI0.size
    generalize W0.setCells w.heap.size 0 [.int .i64 0, .slice none 0 0] = W0 at *;have hI := hI0
    repeat' first | exact AllI.nil | apply AllI.cons
    all_goals intro hn hl hu
    all_goals first | exact absurd hn (by decide) | exact absurd hl (by decide) | exact absurd hu (by decide) | (refine rdT ?_; simp [go_sem, EvT, hT, c2, g2, valT])
   ·exact absurd htl (by simp)
  ·intro T k x W o hk ho hT hI;simp only [HoldsT, and_true] at hT;rcases k with _ | k
   ·cases ho;replace hI : Below w5.heap.size w5 W := hI;have hsz := hI.size;have hlt : w.heap.size < W.heap.size := by omega
    have c0 := (HX.out.up hI hz0).c 0 _ rfl;have g0 := (HX.out.up hI hz0).f 0 (by simp);have c1 := (HX.out.up hI hz0).c 1 _ rfl;have g1 := (HX.out.up hI hz0).f 1 (by simp);refine chT_s (W' := ((W.setCell ⟨w.heap.size, 0, none⟩ (.int .i64 0)).setCell ⟨w.heap.size, 1, none⟩ (.slice none 0 0))) ?_ (⟨W, hI, rfl⟩);clear hI;simp [go_sem, EvT, hT, c0, g0, c1, g1, hlt]
   ·exact absurd hk (by simp)
  intro x wx hI;simp (decide := true) only [putT, valT, look, Act.put, σi, σo, σs, Nat.reduceAdd, if_true, if_false];replace hI : (fun t _ W => match t with | 0 => Below w5.heap.size w5 W | _ => ∃ W0, Below w5.heap.size w5 W0 ∧ W = W0.setCells w.heap.size 0 [.int .i64 0, .slice none 0 0]) 1 x wx := hI
  (try dsimp only at hI)
  obtain ⟨W0, hb0, rfl⟩ : ∃ W0, Below w5.heap.size w5 W0 ∧ wx = W0.setCells w.heap.size 0 [.int .i64 0, .slice none 0 0] := hI;have HXw := η ((HX.out.up hb0 hz0).sets (vs' := [.int .i64 0, .slice none 0 0]) rfl);have HBw := η (below_sets (HB.out.trans (hb0.mono (Nat.le_of_lt hz0))) (νr w.heap.size) [.int .i64 0, .slice none 0 0] 0);have hlt : w.heap.size < (W0.setCells w.heap.size 0 [.int .i64 0, .slice none 0 0]).heap.size := by rw [size_sets]; exact νl hz0 hb0.size
  generalize W0.setCells w.heap.size 0 [.int .i64 0, .slice none 0 0] = wz at *;clear hb0 q0 q1 s0 s1 u0 u1 u2 v0 v1 v2;obtain ⟨q0, s0, q1, s1⟩ := sqX2 HXw.out;go_wp2_with fail;exact bodyPost_ret (v := .tuple #[.agg #[.int .i64 0, .slice none 0 0], .int .i64 0, .int .i64 er]) (by simp [results, Tryz.results116, go_sem, q0, q1, hlt]) rfl (by rw [EE]; exact ⟨HBw.out, _, er, rfl, ⟨_, rfl, RowO.nil_ _ _ _ _ _⟩, HER.out⟩)
end Go.Proofs.YtkfhpefmmhljmaaGreatDoor
