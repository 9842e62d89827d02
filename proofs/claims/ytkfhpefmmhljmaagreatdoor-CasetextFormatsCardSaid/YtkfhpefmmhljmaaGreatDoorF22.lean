/- Texts in one: CtO, CtP. -/
import Derived.Test.YtkfhpefmmhljmaaGreatDoorF21
import Derived.Test.YtkfhpefmmhljmaaGreatDoorF15
set_option linter.unusedVariables false
set_option linter.unusedSimpArgs false
set_option maxHeartbeats 16000000
set_option maxRecDepth 100000
namespace Go.Proofs.YtkfhpefmmhljmaaGreatDoor
open Go.RowKit
def MvP (r : Int × Int) (nx er : Int) : Prop := (r.1 ≠ -1 ∧ er = r.1 ∧ (r.1 = 0 → nx = r.2)) ∨ (r.1 = -1 ∧ er ≠ 0 ∧ er ≠ 8)
def WdE (r : Int × Int) (w : World) (e : Ending) (w' : World) : Prop := Below w w w' ∧ ∃ nx er, e = .returned (.tuple #[.int .i64 nx, .int .i64 er]) ∧ MvP r nx er
theorem NextP.of0 {r : Int × Tk × Int} {w : World} {k : Int} {t : ByteArray} {n1 n2 : Value} {nx : Int} (h : NextP r w k t n1 n2 nx 0) (hk : k ≠ 4) : r.1 = 0 ∧ nx = r.2.2 ∧ k = qI r.2.1 ∧ t = bstr (qY r.2.1) := by
 rcases h with ⟨h1, h2, h3⟩ | ⟨h1, h2⟩
 ·obtain ⟨a, b, c, _⟩ := h3 h2.symm;exact ⟨h2.symm, a, b, c⟩
 ·rcases h2 with h2 | h2
  ·exact absurd rfl h2.1
  ·exact absurd h2.2.1 hk
theorem NextP.ofE {r : Int × Tk × Int} {w : World} {k : Int} {t : ByteArray} {n1 n2 : Value} {nx er : Int} (h : NextP r w k t n1 n2 nx er) (he : er ≠ 0) : (r.1 = er ∧ er ≠ -1) ∨ (r.1 = -1 ∧ er ≠ 8) := by
 rcases h with ⟨h1, h2, h3⟩ | ⟨h1, h2⟩
 ·exact .inl ⟨h2.symm, by rw [h2]; exact h1⟩
 ·rcases h2 with h2 | h2
  ·exact .inr ⟨h1, h2.2⟩
  ·exact absurd h2.1 he
theorem oD (a b : Bytes) : ((bstr a).toList == (bstr b).toList) = (a == b) := by rw [qB, qB]
theorem xJ (s : Bytes) (i : Int) (x : Bytes) (w : World) (hs : SlOk s) (hi : -9223372036854775808 ≤ i ∧ i ≤ 9223372036854775807) (hl : s.length ≤ 1000000) :
  Calls Tryz.prog 101 #[.string (bstr s), .int .i64 i, .string (bstr x)] w (WdE (expW s i x) w) := by
 have K1 := η fun W => xN s i 3 W hs hi hl
 have HT : Hid (expW s i x = if (expT s i 3).1 ≠ 0 then ((expT s i 3).1, 0) else if qY (expT s i 3).2.1 ≠ x then (3, 0) else (0, (expT s i 3).2.2)) := rfl;generalize expW s i x = r at *;generalize hr0 : expT s i 3 = r0 at *;have HR0 := η hr0;clear hs hr0;generalize bstr s = z at *;go_enter Tryz.func101, Tryz.ntmps101;go_wp2_with fail;refine (K1.out _).mono ?_;rintro e w1 ⟨hb1, k', t, ng, A, l, c, ng', A', l', c', nx, er, rfl, hP, hK⟩;unfold tkV;have HB1 := η hb1;have HP := η hP;have HK := η hK;have HB2 := η (hb1.alloc hb1.size (.cells #[Value.int IntKind.u8 k', Value.string t, Value.bool ng, Value.slice A l c, Value.bool ng', Value.slice A' l' c'] 87));clear hb1 K1 hP hK;by_cases e0 : er = 0
 ·subst e0;obtain rfl := HK.out rfl;obtain ⟨g1, g2, g3, g4⟩ := HP.out.of0 (by decide);subst g4;have b0 := oD (qY r0.2.1) x;have HG := η (And.intro g1 g2);clear g1 g2 g3;by_cases h : qY r0.2.1 = x
  ·have E : Hid (r = (0, nx)) := by show _ = _; rw [HT.out, if_neg (by rw [HG.out.1]; simp), if_neg (fun h2 => h2 h), HG.out.2]
   rw [h] at HB2;rw [h];clear HP HK HT h b0;generalize (bstr x) = xx at *;go_wp2_with fail;go_ret2;exact ⟨HB2.out, _, _, rfl, .inl ⟨by rw [E.out]; show (0 : Int) ≠ -1; decide, by rw [E.out], fun _ => by rw [E.out]⟩⟩
  ·have E : Hid (r = (3, 0)) := by show _ = _; rw [HT.out, if_neg (by rw [HG.out.1]; simp), if_pos h]
   rw [βf h] at b0;clear HP HK HT h;generalize bstr (qY r0.2.1) = tx at *;generalize (bstr x) = xx at *;go_wp2_with fail;go_ret2;exact ⟨HB2.out, _, _, rfl, .inl ⟨by rw [E.out]; decide, by rw [E.out], fun h => by rw [E.out] at h; cases h⟩⟩
 ·have b1 : (er == 0) = false := βf e0;have E : Hid (MvP r 0 er) := by
   show MvP _ _ _
   rcases HP.out.ofE e0 with h | h
   ·have h1 : r0.1 ≠ 0 := by rw [h.1]; exact e0
    rw [HT.out, if_pos h1, h.1];exact .inl ⟨h.2, rfl, fun h2 => absurd h2 e0⟩
   ·have h1 : r0.1 ≠ 0 := by rw [h.1]; decide
    rw [HT.out, if_pos h1, h.1];exact .inr ⟨rfl, e0, h.2⟩
  clear HP HK HT e0;generalize (bstr x) = xx at *;go_wp2_with fail;go_ret2;exact ⟨HB2.out, _, _, rfl, E.out⟩
def IntP (r : Int × Int × Int) (n nx er : Int) : Prop := n = r.2.1 ∧ ((r.1 ≠ -1 ∧ er = r.1 ∧ (r.1 = 0 → nx = r.2.2)) ∨ (r.1 = -1 ∧ er ≠ 0 ∧ er ≠ 8))
def IntE (r : Int × Int × Int) (w : World) (e : Ending) (w' : World) : Prop := Below w w w' ∧ ∃ n nx er, e = .returned (.tuple #[.int .i64 n, .int .i64 nx, .int .i64 er]) ∧ IntP r n nx er
theorem oE {d : Int} (h : d ≠ 0) : sgn d ≠ 0 := by
 unfold sgn;rw [if_neg h];split <;> decide
theorem xX (s : Bytes) (i : Int) (w : World) (hs : SlOk s) (hi : -9223372036854775808 ≤ i ∧ i ≤ 9223372036854775807) (hl : s.length ≤ 1000000) :
  Calls Tryz.prog 166 #[.string (bstr s), .int .i64 i] w (IntE (expI s i) w) := by
 have K1 := η fun W => xN s i 4 W hs hi hl
 have HT : Hid (expI s i = if (expT s i 4).1 ≠ 0 then ((expT s i 4).1, 0, 0) else if !i64In (tkNum (expT s i 4).2.1) then (1, 0, 0) else (0, tkNum (expT s i 4).2.1, (expT s i 4).2.2)) := rfl;generalize expI s i = r at *;generalize hr0 : expT s i 4 = r0 at *;clear hs hr0;generalize bstr s = z at *;go_enter Tryz.func166, Tryz.ntmps166;go_wp2_with fail;refine (K1.out _).mono ?_;rintro e w1 ⟨hb1, k', t, ng, A, l, c, ng', A', l', c', nx, er, rfl, hP, hK⟩;unfold tkV;have HP := η hP;have HB2 := η (hb1.alloc hb1.size (.cells #[Value.int IntKind.u8 k', Value.string t, Value.bool ng, Value.slice A l c, Value.bool ng', Value.slice A' l' c'] 87));have hz : w ≤ w1.heap.size := hb1.size;clear hb1 K1 hP hK;by_cases e0 : er = 0
 ·subst e0;have HM : ∃ m d, NumR w1 w1 (.agg #[.bool ng, .slice A l c]) m ∧ NumR w1 w1 (.agg #[.bool ng', .slice A' l' c']) d ∧ (r0.1 = 0 ∧ d = 0 ∧ m = tkNum r0.2.1 ∧ nx = r0.2.2 ∨ r0.1 = -1 ∧ d ≠ 0) := by
   rcases HP.out with ⟨h1, h2, h3⟩ | ⟨h1, h2⟩
   ·obtain ⟨a, _, _, b, c⟩ := h3 h2.symm;exact ⟨_, _, b, c, .inl ⟨h2.symm, rfl, rfl, a⟩⟩
   ·rcases h2 with h2 | ⟨_, _, m, d, h3, h4, h5⟩
    ·exact absurd rfl h2.1
    ·exact ⟨m, d, h3, h4, .inr ⟨h1, h5⟩⟩
  obtain ⟨m, d, hm, hd, hcase⟩ := HM;have HC := η hcase;have HD := η hd;have K2 := η (uW (.agg #[.bool ng, .slice A l c]) m (w1.alloc (.cells #[Value.int IntKind.u8 k', Value.string t, Value.bool ng, Value.slice A l c, Value.bool ng', Value.slice A' l' c'] 87)) (hm.upto (βA _)));clear HP hm hd hcase;go_wp2_with fail;refine K2.out.mono ?_;rintro e w2 ⟨rfl, hb2⟩;have HX2 := η ((Box.new w1 #[Value.int IntKind.u8 k', Value.string t, Value.bool ng, Value.slice A l c, Value.bool ng', Value.slice A' l' c'] 87).up hb2 (by simp));have HB3 := η (HB2.out.trans (hb2.mono (by simp; omega)));have K3 := η (rQ (.agg #[.bool ng', .slice A' l' c']) d w2 ((HD.out.upto (βA _)).upto hb2));clear hb2 HB2 HD K2;obtain ⟨q0, s0, q1, s1, q2, s2, q3, s3, q4, s4, q5, s5⟩ := sqX6 HX2.out;by_cases hin : -9223372036854775808 ≤ m ∧ m ≤ 9223372036854775807
  ·rw [fT hin];have HI := η hin;clear hin;by_cases hd0 : d = 0
   ·subst hd0;have E : Hid (r = (0, m, nx)) := by
     show _ = _
     rcases HC.out with ⟨h1, _, h2, h3⟩ | h
     ·have h4 : i64In m = true := by simp [i64In]; exact HI.out
      rw [HT.out, if_neg (by rw [h1]; simp), ← h2, h4, h3];rfl
     ·exact absurd rfl h.2
    have hs0 : sgn 0 = 0 := rfl;rw [hs0] at K3;clear HC HT hs0;go_wp2_with fail;refine K3.out.mono ?_;rintro e w3 ⟨rfl, hb3⟩;have HB4 := βT HB3 hb3;clear hb3;go_wp2_with fail;go_ret3;exact ⟨HB4.out, _, _, _, rfl, by rw [E.out], .inl ⟨by rw [E.out]; show (0 : Int) ≠ -1; decide, by rw [E.out], fun _ => by rw [E.out]⟩⟩
   ·have hs0 : (sgn d == 0) = false := βf (oE hd0);have E : Hid (r = (-1, 0, 0)) := by
     show _ = _
     rcases HC.out with ⟨h1, h2, _⟩ | h
     ·exact absurd h2 hd0
     ·rw [HT.out, if_pos (by rw [h.1]; decide), h.1]
    clear HC HT hd0;go_wp2_with fail;refine K3.out.mono ?_;rintro e w3 ⟨rfl, hb3⟩;have HB4 := βT HB3 hb3;clear hb3;go_wp2_with fail;go_ret3;exact ⟨HB4.out, _, _, _, rfl, by rw [E.out], .inr ⟨by rw [E.out], by decide, by decide⟩⟩
  ·rw [yX hin];have E : Hid (r.2.1 = 0 ∧ (r.1 = 1 ∨ r.1 = -1)) := by
    show _ ∧ _
    have h4 : i64In m = false := by simp [i64In]; omega
    rcases HC.out with ⟨h1, _, h2, h3⟩ | h
    ·rw [HT.out, if_neg (by rw [h1]; simp), ← h2, h4];exact ⟨rfl, .inl rfl⟩
    ·rw [HT.out, if_pos (by rw [h.1]; decide), h.1];exact ⟨rfl, .inr rfl⟩
   clear HC HT hin K3;go_wp2_with fail;go_ret3;refine ⟨HB3.out, _, _, _, rfl, E.out.1.symm, ?_⟩;rcases E.out.2 with h | h
   ·exact .inl ⟨by rw [h]; decide, h.symm, fun h2 => by rw [h] at h2; cases h2⟩
   ·exact .inr ⟨h, by decide, by decide⟩
 ·have b1 : (er == 0) = false := βf e0;have E : Hid (IntP r 0 0 er) := by
   show IntP _ _ _ _
   rcases HP.out.ofE e0 with h | h
   ·have h1 : r0.1 ≠ 0 := by rw [h.1]; exact e0
    rw [HT.out, if_pos h1, h.1];exact ⟨rfl, .inl ⟨h.2, rfl, fun h2 => absurd h2 e0⟩⟩
   ·have h1 : r0.1 ≠ 0 := by rw [h.1]; decide
    rw [HT.out, if_pos h1, h.1];exact ⟨rfl, .inr ⟨rfl, e0, h.2⟩⟩
  clear HP HT e0;go_wp2_with fail;go_ret3;exact ⟨HB2.out, _, _, _, rfl, E.out⟩
theorem xS (s : Bytes) (i k : Int) (w : World) (hs : SlOk s) (hi : -9223372036854775808 ≤ i ∧ i ≤ 9223372036854775807) (hl : s.length ≤ 1000000) (hk4 : k ≠ 4) :
  Calls Tryz.prog 105 #[.string (bstr s), .int .i64 i, .int .u8 k] w fun e w' => e = .returned (.bool (peekT s i k)) ∧ Below w w w' := by
 have K1 := η fun W => fO s i W hs hi hl
 have HT : Hid (peekT s i k = (decide ((nextT s i).1 = 0) && decide (qI (nextT s i).2.1 = k))) := rfl;generalize peekT s i k = r at *;generalize hr0 : nextT s i = r0 at *;clear hs hr0;generalize bstr s = z at *;go_enter Tryz.func105, Tryz.ntmps105;go_wp2_with fail;refine (K1.out _).mono ?_;rintro e w1 ⟨hb1, k', t, ng, A, l, c, ng', A', l', c', nx, er, rfl, hP⟩;unfold tkV;have HP := η hP;have HB2 := η (hb1.alloc hb1.size (.cells #[Value.int IntKind.u8 k', Value.string t, Value.bool ng, Value.slice A l c, Value.bool ng', Value.slice A' l' c'] 87));clear hb1 K1 hP;by_cases e0 : er = 0
 ·subst e0;by_cases hk : k' = k
  ·subst hk;have E : Hid (r = true) := by
    obtain ⟨h1, _, h2, _⟩ := HP.out.of0 hk4;show _ = _
    rw [HT.out, h1, ← h2];simp
   have b2 : (k' == k') = true := beq_self_eq_true _;clear HP HT;go_wp2_with fail;go_ret;exact ⟨zU E.out.symm, HB2.out⟩
  ·have E : Hid (r = false) := by
    show _ = _
    rw [HT.out];rcases HP.out with ⟨h1, h2, h3⟩ | ⟨h1, h2⟩
    ·have := (h3 h2.symm).2.1;rw [← this, κf hk, Bool.and_false]
    ·rw [h1]; rfl
   have b2 : (k' == k) = false := βf hk;clear HP HT hk;go_wp2_with fail;go_ret;exact ⟨zU E.out.symm, HB2.out⟩
 ·have b1 : (er == 0) = false := βf e0;have E : Hid (r = false) := by
   show _ = _
   rw [HT.out];rcases HP.out.ofE e0 with h | h
   ·rw [h.1, κf e0, Bool.false_and]
   ·rw [h.1]; rfl
  clear HP HT e0;go_wp2_with fail;go_ret;exact ⟨zU E.out.symm, HB2.out⟩
theorem iX (s : Bytes) (i : Int) (h : (nextT s i).1 = 0) : 0 ≤ (nextT s i).2.2 ∧ (nextT s i).2.2 ≤ s.length := by
 unfold nextT at h ⊢;by_cases h1 : 65536 < s.length
 ·rw [if_pos h1] at h; cases h
 by_cases h2 : i < 0 ∨ (s.length : Int) < i
 ·rw [if_neg h1, if_pos h2] at h; cases h
 rw [if_neg h1, if_neg h2] at h ⊢;have hi := yJ isSep s i.toNat (by omega);by_cases h3 : endF isSep s i.toNat = s.length
 ·rw [if_pos h3] at h; cases h
 rw [if_neg h3] at h ⊢;have hr := yJ isRun s (endF isSep s i.toNat) hi.2;by_cases h4 : s.getD (endF isSep s i.toNat) 0 = 40
 ·rw [if_pos h4]; simp; omega
 rw [if_neg h4] at h ⊢;by_cases h5 : s.getD (endF isSep s i.toNat) 0 = 41
 ·rw [if_pos h5]; simp; omega
 rw [if_neg h5] at h ⊢;by_cases h6 : allB isLow (runAt s (endF isSep s i.toNat)) = true
 ·rw [if_pos h6]; simp; omega
 rw [if_neg h6] at h ⊢;by_cases h7 : (!allB isNum (runAt s (endF isSep s i.toNat))) = true
 ·rw [if_pos h7] at h; cases h
 rw [if_neg h7] at h ⊢;by_cases h8 : (runAt s (endF isSep s i.toNat)).any (· == 47) = true
 ·rw [if_pos h8] at h; cases h
 rw [if_neg h8] at h ⊢;by_cases h9 : (pz (runAt s (endF isSep s i.toNat))).1 ≠ 0
 ·rw [if_pos h9] at h; exact absurd h h9
 rw [if_neg h9];simp;omega
theorem yI (s : Bytes) (i k : Int) (h : (expT s i k).1 = 0) : 0 ≤ (expT s i k).2.2 ∧ (expT s i k).2.2 ≤ s.length := by
 unfold expT at h ⊢;by_cases h1 : (nextT s i).1 = 8
 ·rw [if_pos h1] at h; cases h
 rw [if_neg h1] at h ⊢;by_cases h2 : (nextT s i).1 ≠ 0
 ·rw [if_pos h2] at h; exact absurd h h2
 rw [if_neg h2] at h ⊢;by_cases h3 : qI (nextT s i).2.1 ≠ k
 ·rw [if_pos h3] at h; cases h
 rw [if_neg h3] at h ⊢;exact iX s i h
theorem mM (s : Bytes) (i : Int) (x : Bytes) (h : (expW s i x).1 = 0) : 0 ≤ (expW s i x).2 ∧ (expW s i x).2 ≤ s.length := by
 unfold expW at h ⊢;by_cases h1 : (expT s i 3).1 ≠ 0
 ·rw [if_pos h1] at h; exact absurd h h1
 rw [if_neg h1] at h ⊢;by_cases h2 : qY (expT s i 3).2.1 ≠ x
 ·rw [if_pos h2] at h; cases h
 rw [if_neg h2];exact yI s i 3 (by simpa using h1)
theorem mO (s : Bytes) (i : Int) (h : (expI s i).1 = 0) : 0 ≤ (expI s i).2.2 ∧ (expI s i).2.2 ≤ s.length := by
 unfold expI at h ⊢;by_cases h1 : (expT s i 4).1 ≠ 0
 ·rw [if_pos h1] at h; exact absurd h h1
 rw [if_neg h1] at h ⊢;by_cases h2 : (!i64In (tkNum (expT s i 4).2.1)) = true
 ·rw [if_pos h2] at h; cases h
 rw [if_neg h2];exact yI s i 4 (by simpa using h1)
def RdR (w : World) (b : Nat) (s : Bytes) (rd : Rd) : Prop := ∃ i er, Box w b [.string (bstr s), .int .i64 i, .int .i64 er] ∧ (rd.e ≠ -1 → er = rd.e) ∧ (rd.e = -1 → er ≠ 0 ∧ er ≠ 8) ∧ (rd.e = 0 → i = rd.i ∧ -9223372036854775808 ≤ i ∧ i ≤ 9223372036854775807)
theorem RdR.up {w w' : World} {b B : Nat} {s : Bytes} {rd : Rd} (h : RdR w b s rd) (hb : Below B w w') (hlt : b < B) : RdR w' b s rd := by
 obtain ⟨i, er, h1, h2⟩ := h;exact ⟨i, er, h1.up hb hlt, h2⟩
theorem RdR.lt {w : World} {b : Nat} {s : Bytes} {rd : Rd} (h : RdR w b s rd) : b < w := by
 obtain ⟨i, er, h1, h2⟩ := h;exact h1.lt (by simp)
theorem RdR.alloc {w : World} {b : Nat} {s : Bytes} {rd : Rd} (h : RdR w b s rd) (o : Obj) : RdR (w.alloc o) b s rd := h.up ((Below.refl w w).alloc (νr _) o) h.lt
theorem RdR.er {w : World} {b : Nat} {s : Bytes} {rd : Rd} (h : RdR w b s rd) : ∃ i er, Box w b [.string (bstr s), .int .i64 i, .int .i64 er] ∧ (er = 0 ↔ rd.e = 0) ∧ (rd.e ≠ -1 → er = rd.e) ∧ (rd.e = -1 → er ≠ 0 ∧ er ≠ 8) ∧ (rd.e = 0 → i = rd.i ∧ -9223372036854775808 ≤ i ∧ i ≤ 9223372036854775807) := by
 obtain ⟨i, er, h1, h2, h3, h4⟩ := h;refine ⟨i, er, h1, ⟨fun h => ?_, fun h => (h2 (by rw [h]; decide)).trans h⟩, h2, h3, h4⟩;by_cases he : rd.e = -1
 ·exact absurd h (h3 he).1
 ·exact (h2 he).symm.trans h
def mvI (er nx i : Int) : Int := if er = 0 then nx else i
theorem RdR.move {w' : World} {b : Nat} {s : Bytes} {rd : Rd} {r : Int × Int} {i nx er : Int} (hB : Box w' b [.string (bstr s), .int .i64 (mvI er nx i), .int .i64 er]) (h : MvP r nx er) (hb : r.1 = 0 → 0 ≤ r.2 ∧ r.2 ≤ s.length) (hl : s.length ≤ 1000000) : RdR w' b s (rMove rd r.1 r.2) := by
 unfold rMove;rcases h with ⟨h1, h2, h3⟩ | ⟨h1, h2, h3⟩
 ·by_cases h0 : r.1 = 0
  ·rw [if_pos h0];have hn := h3 h0;have := hb h0;refine ⟨_, _, hB, (fun _ => by rw [h2, h0]), (fun h => by cases h), fun _ => ?_⟩;rw [h2, h0, mvI, if_pos rfl, hn];exact ⟨rfl, by omega, by omega⟩
  ·rw [if_neg h0];exact ⟨_, _, hB, fun _ => h2, fun h => absurd h h1, fun h => absurd h h0⟩
 ·have h0 : ¬ r.1 = 0 := by rw [h1]; decide
  rw [if_neg h0];exact ⟨_, _, hB, fun h => absurd h1 h, fun _ => ⟨h2, h3⟩, fun h => absurd h h0⟩
theorem zJ {w w' : World} {b : Nat} (h : Below w w w') : w.grownBy w' (some b) := ⟨h.os, h.tape, h.output, h.size, fun k hk _ => h.block k hk⟩
theorem zB {a w w' : World} {b : Nat} (h : a.grownBy w (some b)) (k : w.grownBy w' (some b)) : a.grownBy w' (some b) :=
 ⟨k.os.trans h.os, k.tape.trans h.tape, k.output.trans h.output, Nat.le_trans h.size k.size, fun j hj hne => (k.block j (νl hj h.size) hne).trans (h.block j hj hne)⟩
theorem NextP.mv {r : Int × Tk × Int} {w : World} {k k' : Int} {t : ByteArray} {n1 n2 : Value} {nx er : Int} (h : NextP r w k' t n1 n2 nx er) (hk : er = 0 → k' = k) (h4 : k ≠ 4) : MvP (r.1, r.2.2) nx er := by
 rcases h with ⟨h1, h2, h3⟩ | ⟨h1, h2⟩
 ·exact .inl ⟨h1, h2, fun h0 => (h3 h0).1⟩
 ·refine .inr ⟨h1, ?_⟩;rcases h2 with h2 | ⟨h2, h3, _⟩
  ·exact h2
  ·exact absurd ((hk h2).symm.trans h3) h4
structure TkX where
 k : Int
 t : ByteArray
 ng : Bool
 A : Option Addr
 l : Nat
 c : Nat
 ng' : Bool
 A' : Option Addr
 l' : Nat
 c' : Nat
 nx : Int
 er : Int
def StepR (b : Nat) (s : Bytes) (rd : Rd) (w : World) (e : Ending) (w' : World) : Prop := e = .returned (.tuple #[]) ∧ RdR w' b s rd ∧ w.grownBy w' (some b)
def IntR (b : Nat) (s : Bytes) (r : Int × Rd) (w : World) (e : Ending) (w' : World) : Prop := e = .returned (.int .i64 r.1) ∧ RdR w' b s r.2 ∧ w.grownBy w' (some b)
end Go.Proofs.YtkfhpefmmhljmaaGreatDoor
