/- Texts in one: CpB, FmB. -/
import Derived.Test.YtkfhpefmmhljmaaGreatDoorE24
set_option linter.unusedVariables false
set_option linter.unusedSimpArgs false
set_option maxHeartbeats 16000000
set_option maxRecDepth 100000
namespace Go.Proofs.YtkfhpefmmhljmaaGreatDoor
open Go.RowKit
theorem aA : (Tryz.prog.info? 205).map (fun i => (i.zero, i.size, i.bytes)) = some (some (.agg #[.int .i64 0, .int .i64 0]), 2, 16) := by kernel_rfl
theorem zW (w : World) (cs : Array Value) (t : TypeId) : ∀ j u, cs.toList[j]? = some u → (w.alloc (.cells cs t)).cell? ((⟨w, 0, none⟩ : Addr).add j) = some u := fun j u h => by
 have : (⟨w, 0, none⟩ : Addr).add j = ⟨w, 0 + j, none⟩ := by unfold Addr.add; split <;> simp_all
 rw [this, qY _ _ _ _ _ rfl];simpa using h
def ListR {α : Type} (E : Enc α) (t : TypeId) (n : Nat) (b : Nat) (s : Bytes) (r : List α × Rd) (w : World) (e : Ending) (w' : World) : Prop :=
 ∃ v, e = .returned v ∧ RowO E t n w' w v r.1 ∧ r.1.length ≤ fuel s ∧ RdR w' b s r.2 ∧ w.grownBy w' (some b)
theorem jR {a w w' : World} {b : Nat} (h : a.grownBy w (some b)) (k : Below a w w') : a.grownBy w' (some b) :=
 ⟨k.os.trans h.os, k.tape.trans h.tape, k.output.trans h.output, Nat.le_trans h.size k.size, fun j hj hne => (k.block j hj).trans (h.block j hj hne)⟩
theorem qU {a w : World} {b : Nat} (h : a.grownBy w (some b)) (o : Obj) : a.grownBy (w.alloc o) (some b) := pY h o
theorem gU (b : Nat) (s : Bytes) (rd0 : Rd) (w : World) (hs : SlOk s) (hl : s.length ≤ 1000000) (hR : RdR w b s rd0) :
  Calls Tryz.prog 111 #[.pointer (some ⟨b, 0, none⟩), .func (.func 112) #[.pointer (some ⟨b, 0, none⟩)] #[]] w (ListR StE 205 2 b s (zZ s (fuel s) rd0) w) := by
 obtain ⟨i0, hi, hz0, hz1, hz2⟩ := info_parts aA;have HR0 := η hR;have hbw := hR.lt;have K1 := η fun rd W hR => bD b s rd W hs hl hR
 have KPk := η fun i W hi => xM s i 1 W hs hi hl (by decide)
 generalize hst : zZ s (fuel s) rd0 = R at *;have HST := η hst;clear hR hs hst;go_enter Tryz.func111, Tryz.ntmps111;go_wp2_with fail;go_loopg [5, 6] (fuel s) (fun g s5 s6 wr => ∃ rd acc v, s5 = v ∧ RowO StE 205 2 wr w v acc ∧ RdR wr b s rd ∧ w.grownBy wr (some b) ∧ R = (acc ++ (zZ s g rd).1, (zZ s g rd).2) ∧ (goOn s rd = true → (s.length : Int) < rd.i + g) ∧ acc.length + g ≤ fuel s)
 case atStart =>
  refine ⟨rd0, [], _, rfl, RowO.nil_ _ _ _ _ _, HR0.out, World.grownBy.refl _ _, ?_, fun h => ?_, by simp⟩
  ·rw [HST.out]; rfl
  ·have := qA h;unfold fuel;omega
 case round =>
  obtain ⟨rd, acc, v, rfl, hrow, hR, hg, hst, hme, hlen⟩ := hrel;have hR' := hR;obtain ⟨i, er, hB, h0, h1, h2, h3⟩ := hR'.er;have HROW := η hrow;have HR := η hR;have HG := η hg;have HS := η hst;have HME := η hme;have hlt : b < wr := hR.lt;have hwz : w ≤ wr.heap.size := hg.size;obtain ⟨q0, s0, q1, s1, q2, s2⟩ := sqX3 hB;clear hrow hR hR' hg hst hme s0 s1 s2;by_cases he : rd.e = 0
  case neg =>
   have e0 : (er == 0) = false := βf fun h => he (h0.1 h)
   have HE : Hid (R = (acc, rd)) := by
    show _ = _
    rw [HS.out];cases gk with
    | zero => rw [zZ, κp]
    | succ g => rw [zZ, if_neg (by simp [goOn, he]), κp]
   clear hB h0 h1 h2 h3 he HS HME;go_wp2_with fail;refine zI (w0 := wr) [(0, .pointer (some ⟨b, 0, none⟩)), (7, .pointer (some ⟨b, 0, none⟩)), (8, .pointer (some ⟨b, 0, none⟩)), (9, .pointer (some ⟨b, 2, none⟩)), (10, .int .i64 er), (11, .bool false), (12, .bool false), (13, undef), (14, undef), (15, undef), (16, undef), (17, undef), (18, undef), (19, undef), (20, undef), (21, undef), (22, .bool false)] [] [0] ?_ ?_
   ·intro T hT W hI;simp only [zA, and_true] at hT;have c2 : W.cell? ⟨b, 2, none⟩ = _ := (hI.cell (p := ⟨b, 2, none⟩) hlt).trans q2
    repeat' first | exact AllO.nil | apply AllO.cons
    all_goals try ((first | refine oV ?_ | refine oN ?_ | refine oG (t := by simp only [hT]) (h := ?_)); simp [go_sem, EvT, hT, c2, e0, valT]; done)
    all_goals try (exact opT_s true (t := by simp only [hT]) (n := by decide) (e := by simp [valT, hT]))
    all_goals try (exact opT_s false (t := by simp only [hT]) (n := by decide) (e := by simp [valT, hT]))
   intro wx hb;simp (decide := true) only [putT, valT, look, Act.put, σi, σo, σs, Nat.reduceAdd, if_true, if_false];have HR2 := η (HR.out.up hb hlt);have HROW2 := η (HROW.out.below StE.own hb);have HG2 := η (zB HG.out (zG (b := b) hb));clear hb HROW HG HR q0 q1 q2;go_wp2_with fail;go_ret;exact ⟨_, rfl, by rw [HE.out]; exact HROW2.out, by rw [HE.out]; show acc.length ≤ _; omega, by rw [HE.out]; exact HR2.out, HG2.out⟩
  obtain rfl := h0.2 he;obtain ⟨rfl, hi1, hi2⟩ := h3 he;have KP := η fun W => KPk.out rd.i W ⟨hi1, hi2⟩
  have HHE := η he;clear hB h0 h1 h2 h3 he;cases hp : peekT s rd.i 1 with
  | false =>
   have HE : Hid (R = (acc, rd)) := by
    show _ = _
    rw [HS.out];cases gk with
    | zero => rw [zZ, κp]
    | succ g => rw [zZ, if_neg (by simp [goOn, hp]), κp]
   rw [hp] at KP;clear HS HME hp;go_wp2_with fail;refine zI (w0 := wr) [(0, .pointer (some ⟨b, 0, none⟩)), (7, .pointer (some ⟨b, 0, none⟩)), (8, .pointer (some ⟨b, 0, none⟩)), (9, .pointer (some ⟨b, 2, none⟩)), (10, .int .i64 0), (11, .bool true), (12, .bool true), (13, .pointer (some ⟨b, 0, none⟩)), (14, .pointer (some ⟨b, 0, none⟩)), (15, .pointer (some ⟨b, 0, none⟩)), (16, .string (bstr s)), (17, .pointer (some ⟨b, 0, none⟩)), (18, .pointer (some ⟨b, 0, none⟩)), (19, .pointer (some ⟨b, 1, none⟩)), (20, .int .i64 rd.i), (21, .bool false), (22, .bool false)] [] [0] ?_ ?_
   ·intro T hT W hI;simp only [zA, and_true] at hT;have c2 : W.cell? ⟨b, 2, none⟩ = _ := (hI.cell (p := ⟨b, 2, none⟩) hlt).trans q2;have c0 : W.cell? ⟨b, 0, none⟩ = _ := (hI.cell (p := ⟨b, 0, none⟩) hlt).trans q0;have c1 : W.cell? ⟨b, 1, none⟩ = _ := (hI.cell (p := ⟨b, 1, none⟩) hlt).trans q1
    repeat' first | exact AllO.nil | apply AllO.cons
    all_goals try ((first | refine oV ?_ | refine oN ?_ | refine oG (t := by simp only [hT]) (h := ?_)); simp [go_sem, EvT, hT, c2, c0, c1, valT]; done)
    ·refine opT_g (t := by simp only [hT]) (h := zO 105 #[.string (bstr s), .int .i64 rd.i, .int .u8 1] (by simp [go_sem, EvT, hT, c2, c0, c1]) ?_);simp only [valT, hT];exact KP.out W
   intro wx hb;simp (decide := true) only [putT, valT, look, Act.put, σi, σo, σs, Nat.reduceAdd, if_true, if_false];have HR2 := η (HR.out.up hb hlt);have HROW2 := η (HROW.out.below StE.own hb);have HG2 := η (zB HG.out (zG (b := b) hb));clear hb HROW HG HR q0 q1 q2;go_wp2_with fail;go_ret;exact ⟨_, rfl, by rw [HE.out]; exact HROW2.out, by rw [HE.out]; show acc.length ≤ _; omega, by rw [HE.out]; exact HR2.out, HG2.out⟩
  | true =>
   have hgo : goOn s rd = true := by simp [goOn, hp, HHE.out]
   cases gk with
   | zero =>
    have h1 := HME.out hgo;have h2 := qA hgo;omega
   | succ g =>
    have hm1 := HME.out hgo;have HADV := η (yK s rd);have HSP : Hid (zZ s (g + 1) rd = if (stepP s rd).2.e = 0 then ((stepP s rd).1 :: (zZ s g (stepP s rd).2).1, (zZ s g (stepP s rd).2).2) else zZ s g (stepP s rd).2) := by
     show _ = _
     rw [zZ, if_pos hgo]
    have K2 := η fun W hR => K1.out rd W hR
    rw [hp] at KP;generalize stepP s rd = sp at *;obtain ⟨⟨q, p⟩, rd'⟩ := sp;have HM1 := η hm1;clear hp hgo HME hm1;go_wp2_with fail;refine zI (w0 := wr) [(0, .pointer (some ⟨b, 0, none⟩)), (7, .pointer (some ⟨b, 0, none⟩)), (8, .pointer (some ⟨b, 0, none⟩)), (9, .pointer (some ⟨b, 2, none⟩)), (10, .int .i64 0), (11, .bool true), (12, .bool true), (13, .pointer (some ⟨b, 0, none⟩)), (14, .pointer (some ⟨b, 0, none⟩)), (15, .pointer (some ⟨b, 0, none⟩)), (16, .string (bstr s)), (17, .pointer (some ⟨b, 0, none⟩)), (18, .pointer (some ⟨b, 0, none⟩)), (19, .pointer (some ⟨b, 1, none⟩)), (20, .int .i64 rd.i), (21, .bool true), (22, .bool true)] [] [0] ?_ ?_
    ·intro T hT W hI;simp only [zA, and_true] at hT;have c2 : W.cell? ⟨b, 2, none⟩ = _ := (hI.cell (p := ⟨b, 2, none⟩) hlt).trans q2;have c0 : W.cell? ⟨b, 0, none⟩ = _ := (hI.cell (p := ⟨b, 0, none⟩) hlt).trans q0;have c1 : W.cell? ⟨b, 1, none⟩ = _ := (hI.cell (p := ⟨b, 1, none⟩) hlt).trans q1
     repeat' first | exact AllO.nil | apply AllO.cons
     all_goals try ((first | refine oV ?_ | refine oN ?_ | refine oG (t := by simp only [hT]) (h := ?_)); simp [go_sem, EvT, hT, c2, c0, c1, valT]; done)
     ·refine opT_g (t := by simp only [hT]) (h := zO 105 #[.string (bstr s), .int .i64 rd.i, .int .u8 1] (by simp [go_sem, EvT, hT, c2, c0, c1]) ?_);simp only [valT, hT];exact KP.out W
    intro wx hb;simp (decide := true) only [putT, valT, look, Act.put, σi, σo, σs, Nat.reduceAdd, if_true, if_false];have HR2 := η (HR.out.up hb hlt);have HROW2 := η (HROW.out.below StE.own hb);have HG2 := η (zB HG.out (zG (b := b) hb));clear hb HROW HG HR q0 q1 q2;go_wp2_with fail;refine (K2.out _ HR2.out).mono ?_;rintro e w3 ⟨rfl, hR3, hg3⟩;dsimp only at hR3 ⊢;have hROW3 := HROW2.out.grown StE.own hg3 (by omega);have HG3 := η (zB HG2.out hg3);have hR3' := hR3.alloc (.cells #[.int .i64 q, .int .i64 p] 205);have HROW3 := η (hROW3.below StE.own ((Below.refl w3 w3).alloc (νr _) (.cells #[.int .i64 q, .int .i64 p] 205)));have HG4 := η (qU HG3.out (.cells #[.int .i64 q, .int .i64 p] 205));have hr3 := hR3;have hlt3 := hR3.lt;have hwz3 : w ≤ w3.heap.size := HG3.out.size;obtain ⟨i', er', hB3, k0, k1, k2, k3⟩ := hr3.er;obtain ⟨u0, v0, u1, v1, u2, v2⟩ := sqX3 hB3;have HR3 := η hR3';clear hR3 hR3' hg3 hr3 hROW3 HR2 HROW2 HG2 K2 v0 v1 v2;by_cases he' : rd'.e = 0
    ·obtain rfl := k0.2 he';have HE : Hid (R = ((acc ++ [(q, p)]) ++ (zZ s g rd').1, (zZ s g rd').2)) := by
      show _ = _
      rw [HS.out, HSP.out, if_pos he', κq];rfl
     have HME : Hid (goOn s rd' = true → (s.length : Int) < rd'.i + g) := fun _ => by
      have h1 := HM1.out;have h2 := (HADV.out he').2;simp at h1 h2;omega
     clear hB3 k0 k1 k2 k3 HS HSP HM1 HADV he';obtain ⟨raws, g1, g2, g3, hown⟩ := HROW3.out;go_wp2_with (at_builtin; refine wpList_append_own _ rfl _ _ 60 rfl w 205 i0 _ 2 16 Tryz.underlying60 hi hz0 hz1 hz2 rfl (by decide) _ _ _ rfl (hown.alloc _) ⟨w3 + 1, 0, none⟩ 1 1 [.int .i64 q, .int .i64 p] rfl rfl (by have := zW (w3.alloc (.cells #[.int .i64 q, .int .i64 p] 205)) #[.int .i64 q, .int .i64 p] 205; simpa using this) (by simp [Value.oneCell']) (by unfold maxLen fuel at *; omega) (by unfold fuel at *; omega) (by simp; omega) ?_; intro v' w4 hown' hgrow _);have hbel := zF hown (show w ≤ (w3.alloc (.cells #[.int .i64 q, .int .i64 p] 205)).heap.size by simp; omega) hgrow;have HROW4 := η (HROW3.out.more (c := [.int .i64 q, .int .i64 p]) (x := (q, p)) StE.own (by simp) rfl rfl (by have := hgrow.size; simp at this ⊢; omega) hgrow (fun xs hx => by rw [qN hx hown]; exact hown'));have HR4 := η (HR3.out.up hbel hbw);have HG5 := η (jR HG4.out hbel);clear hbel hgrow hown hown' g1 g2 g3 HROW3 HR3 HG4 HG3;go_wp2_with fail;go_roundg g
     case measure => omega
     case rel => exact ⟨rd', acc ++ [(q, p)], v', rfl, HROW4.out, HR4.out, HG5.out, HE.out, HME.out, by rw [κa, List.length_singleton]; omega⟩
    ·have HE : Hid (R = (acc ++ (zZ s g rd').1, (zZ s g rd').2)) := by
      show _ = _
      rw [HS.out, HSP.out, if_neg he']
     have e0 : (er' == 0) = false := βf fun h => he' (k0.1 h)
     have HME : Hid (goOn s rd' = true → (s.length : Int) < rd'.i + g) := fun h => absurd (qA h).1 he'
     clear hB3 k0 k1 k2 k3 HS HSP HM1 HADV he';go_wp2_with fail;go_roundg g
     case measure => omega
     case rel => exact ⟨rd', acc, _, rfl, HROW3.out, HR3.out, HG4.out, HE.out, HME.out, by omega⟩
theorem RowO.onto {α : Type} {E : Enc α} {n : Nat} {w w2 : World} {base : Nat} {ts : List TypeId} {t : TypeId} {v v' : Value} {l l2 : List α} {raws raws2 : List (List Value)} (hE : EOwn E ts) (ht : t ∉ ts)
  (h1 : raws.length = l.length) (h2 : ∀ c ∈ raws, c.length = n) (h3 : ∀ (i : Nat) c x, raws[i]? = some c → l[i]? = some x → E w base c x) (h4 : w.ownsRow base t n v l.length raws.flatten)
  (k1 : raws2.length = l2.length) (k2 : ∀ c ∈ raws2, c.length = n) (k3 : ∀ (i : Nat) c x, raws2[i]? = some c → l2[i]? = some x → E w base c x)
  (hgr : w.grownBy w2 v.ownBlock) (ho : w2.ownsRow base t n v' (l.length + l2.length) (raws.flatten ++ raws2.flatten)) : RowO E t n w2 base v' (l ++ l2) := by
 have hkeep : ∀ k, base ≤ k → vO ts w k → w2.heap[k]? = w.heap[k]? := fun k hk ⟨t', ht', cur, fz, hcur⟩ => by
  have hlt := (κi hcur).1;refine hgr.block k hlt ?_;intro e;rcases h4.2 with ⟨rfl, _⟩ | ⟨g, cap, cur', rfl, _, hg, _⟩
  ·simp [Value.ownBlock] at e
  ·have : k = g := by simpa [Value.ownBlock] using e
   subst this;rw [hcur] at hg;injection hg with hg
   injection hg with _ h5
   exact ht (h5 ▸ ht')
 refine ⟨raws ++ raws2, by simp [h1, k1], fun d hd => ?_, fun i d y hd hy => ?_, ?_⟩
 ·rcases List.mem_append.1 hd with hd | hd
  ·exact h2 d hd
  ·exact k2 d hd
 ·rcases Nat.lt_or_ge i l.length with hi | hi
  ·rw [List.getElem?_append_left (by omega)] at hd hy;exact hE.out (νr _) hkeep (h3 i d y hd hy)
  ·rw [List.getElem?_append_right (by omega)] at hd hy;rw [h1] at hd;exact hE.out (νr _) hkeep (k3 _ d y hd hy)
 ·rw [κa, List.flatten_append];exact ho
def I64E : Enc Int := fun _ _ c x => c = [.int .i64 x]
theorem I64E.keep : EKeep I64E := ⟨fun _ _ h => h⟩
def TkO : Enc Tk := fun w base c t => match t with
 | .op => c = [.int .u8 1, .string ⟨#[]⟩, .bool false, .slice none 0 0, .bool false, .slice none 0 0]
 | .cl => c = [.int .u8 2, .string ⟨#[]⟩, .bool false, .slice none 0 0, .bool false, .slice none 0 0]
 | .wd y => c = [.int .u8 3, .string (bstr y), .bool false, .slice none 0 0, .bool false, .slice none 0 0]
 | .nm n => ∃ a0 a1, c = [.int .u8 4, .string ⟨#[]⟩, a0, a1, .bool false, .slice none 0 0] ∧ N1 w base a0 a1 n
theorem TkO.own : EOwn TkO [192] := ⟨fun {w w' base base' c x} hb hk h => by
 cases x with
 | op => exact h
 | cl => exact h
 | wd y => exact h
 | nm n => obtain ⟨a0, a1, h1, h2⟩ := h; exact ⟨a0, a1, h1, h2.keep hb hk⟩⟩
theorem TkO.six {w : World} {base : Nat} {c : List Value} {t : Tk} (h : TkO w base c t) : c.length = 6 ∧ ∀ u ∈ c, u.oneCell' = true := by
 cases t with
 | op => replace h : c = _ := h; subst h; exact ⟨rfl, by simp [Value.oneCell']⟩
 | cl => replace h : c = _ := h; subst h; exact ⟨rfl, by simp [Value.oneCell']⟩
 | wd y => replace h : c = _ := h; subst h; exact ⟨rfl, by simp [Value.oneCell']⟩
 | nm n =>
  obtain ⟨a0, a1, rfl, h2⟩ := h;obtain ⟨ng, A, k, c, rfl, rfl⟩ := h2.form;exact ⟨rfl, by simp [Value.oneCell']⟩
def uF (w : World) (l : List Tk) (e : Ending) (w' : World) : Prop := ∃ v, e = .returned v ∧ RowO TkO 87 6 w' w v l ∧ Below w w w'
theorem uF.of {w w' : World} {l : List Tk} {v : Value} (h : RowO TkO 87 6 w' w v l) (hb : Below w w w') : uF w l (.returned v) w' := ⟨v, rfl, h, hb⟩
theorem yT : (Tryz.prog.info? 87).map (fun i => (i.zero, i.size, i.bytes)) = some (some (.agg #[.int .u8 0, .string ⟨#[]⟩, .bool false, .slice none 0 0, .bool false, .slice none 0 0]), 6, 88) := by kernel_rfl
theorem RowO.lit2 (y : Bytes) (w : World) : RowO TkO 87 6 (w.alloc (.cells #[.int .u8 1, .string ⟨#[]⟩, .bool false, .slice none 0 0, .bool false, .slice none 0 0, .int .u8 3, .string (bstr y), .bool false, .slice none 0 0, .bool false, .slice none 0 0] 87)) w (.slice (some ⟨w, 0, none⟩) 2 2) [.op, .wd y] := by
 refine ⟨[[.int .u8 1, .string ⟨#[]⟩, .bool false, .slice none 0 0, .bool false, .slice none 0 0], [.int .u8 3, .string (bstr y), .bool false, .slice none 0 0, .bool false, .slice none 0 0]], rfl, fun c hc => ?_, fun i c x hc hx => ?_, rfl, .inr ⟨w, 2, _, rfl, νr _, heap_alloc_new w _, νr _, by unfold maxLen; omega, rfl, rfl⟩⟩
 ·simp at hc; rcases hc with rfl | rfl <;> rfl
 ·rcases i with _ | _ | i
  ·simp at hc hx; subst hc; subst hx; rfl
  ·simp at hc hx; subst hc; subst hx; rfl
  ·simp at hx
theorem xX (y : Bytes) (A : Option Addr) (c : Nat) (l : List Int) (w : World) (hl : RowR I64E 1 w w A l) (hn : l.length ≤ 1000) (hr : ∀ x ∈ l, -4294967296 < x ∧ x < 4294967296) :
  Calls Tryz.prog 64 #[.string (bstr y), .slice A l.length c] w (uF w (.op :: .wd y :: l.map .nm)) := by
 obtain ⟨i0, hi, hz0, hz1, hz2⟩ := info_parts yT;have HL := η hl;have HRG := η hr;clear hl hr;go_enter Tryz.func64, Tryz.ntmps64;go_wp2_with fail;go_loopg [5, 7, 14] l.length (fun g s5 s7 s14 wr => ∃ (k : Nat), k + g = l.length ∧ s14 = .int .i64 (k : Int) ∧ RowO TkO 87 6 wr w s5 (.op :: .wd y :: (l.take k).map .nm) ∧ Below w w wr)
 case atStart =>
  refine ⟨0, by omega, rfl, ?_, βA _⟩;exact RowO.lit2 y w
 case round =>
  obtain ⟨k, hkg, rfl, hrow, hbl⟩ := hrel;have HB := η hbl;have HR := η hrow;clear hbl hrow;cases gk with
  | zero =>
   obtain rfl : k = l.length := by omega
   clear hkg;go_wp2_with fail;go_ret;have := HR.out;rw [List.take_length] at this;exact uF.of this HB.out
  | succ g =>
   have hk : k < l.length := by omega
   have HG := η hkg;clear hkg;obtain ⟨b, off, cc, rfl, hb, hc1, hc2, hc3⟩ := (HL.out.up I64E.keep HB.out).at_ k 0 hk;replace hc2 : cc = _ := hc2;subst hc2;have f0 := hc3 0 _ rfl;rw [Nat.mul_one, κz] at f0;have hx := HRG.out (l.getD k 0) (by rw [zL l k 0 hk]; exact List.getElem_mem hk);have HT : Hid (l.take (k + 1) = l.take k ++ [l.getD k 0]) := by show _ = _; rw [κs hk, zL l k 0 hk]
   generalize hxx : l.getD k 0 = x at *;have HXX := η hxx;have KQ := η (fK x wr hx.1 hx.2);clear hc1 hc3 hb hx hxx;go_wp2_with fail;refine KQ.out.mono ?_;rintro e w1 ⟨a0, a1, rfl, hv, hb1⟩;obtain ⟨ng, A', k', c', rfl, rfl⟩ := hv.form;have hz : w ≤ wr.heap.size := HB.out.size;have HR1 := η (HR.out.below TkO.own hb1);have HB1 := η (HB.out.trans (hb1.mono hz));have HN := η (hv.mono (base' := w) hz);clear HR HB hb1 hv KQ;obtain ⟨acc, hacc⟩ : ∃ acc, acc = Tk.op :: .wd y :: (l.take k).map .nm := ⟨_, rfl⟩;have hlen : acc.length = k + 2 := by rw [hacc]; simp; omega
   have HAC := η hacc;rw [← hacc] at HR1;clear hacc;obtain ⟨raws, r1, r2, r3, hown⟩ := HR1.out;have hzw : w ≤ w1.heap.size := HB1.out.size;have R1 := η r1;have R2 := η r2;have R3 := η r3;clear r1 r2 r3;go_wp2_with (at_builtin; refine wpList_append_own _ rfl _ _ 124 rfl w 87 i0 _ 6 88 Tryz.underlying124 hi hz0 hz1 hz2 rfl (by decide) _ _ _ rfl (hown.alloc _) ⟨w1, 0, none⟩ 1 1 [.int .u8 4, .string ⟨#[]⟩, .bool ng, .slice A' k' c', .bool false, .slice none 0 0] rfl rfl (zW _ _ _) (by simp [Value.oneCell']) (by unfold maxLen; omega) (by omega) (by simp; omega) ?_; intro v' w3 hown' hgrow _);have hgz : (w1.alloc _).heap.size ≤ w3.heap.size := hgrow.size;have HR3 : Hid (RowO TkO 87 6 w3 w v' (acc ++ [.nm x])) := by
    show RowO _ _ _ _ _ _ _
    refine RowO.onto TkO.own (by decide) R1.out R2.out (fun i c y h1 h2 => TkO.own.up (R3.out i c y h1 h2) (βA _)) (hown.alloc _) (raws2 := [[.int .u8 4, .string ⟨#[]⟩, .bool ng, .slice A' k' c', .bool false, .slice none 0 0]]) rfl (fun c hc => by simp at hc; subst hc; rfl) (fun i c y hc hy => ?_) hgrow (by simpa using hown');rcases i with _ | i
    ·simp at hc hy;subst hc;subst hy;exact ⟨_, _, rfl, HN.out.below (βA _)⟩
    ·simp at hc
   have HB3 := η (HB1.out.trans (zF hown hzw hgrow));clear hgrow hown' hown R1 R2 R3 HR1 HB1 HN;go_wp2_with fail;go_roundg g
   case measure => omega
   case rel =>
    refine ⟨k + 1, by have := HG.out; omega, by go_num, ?_, HB3.out⟩;have := HR3.out;rw [HAC.out] at this;rw [HT.out];simpa using this
end Go.Proofs.YtkfhpefmmhljmaaGreatDoor
