/- Texts in one: SqB, CtL. -/
import Derived.Test.YtkfhpefmmhljmaaGreatDoorE20
set_option linter.unusedVariables false
set_option linter.unusedSimpArgs false
set_option maxHeartbeats 16000000
set_option maxRecDepth 100000
namespace Go.Proofs.YtkfhpefmmhljmaaGreatDoor
open Go.RowKit
theorem sqX1 {w : World} {b : Nat} {v0 : Value} {l : List Value} (h : Box w b (v0 :: l)) : w.cell? ⟨b, 0, none⟩ = some v0 ∧ w.frozen? ⟨b, 0, none⟩ = false := ⟨h.c 0 _ rfl, h.f 0 (by simp)⟩
theorem sqX2 {w : World} {b : Nat} {v0 v1 : Value} {l : List Value} (h : Box w b (v0 :: v1 :: l)) : w.cell? ⟨b, 0, none⟩ = some v0 ∧ w.frozen? ⟨b, 0, none⟩ = false ∧ w.cell? ⟨b, 1, none⟩ = some v1 ∧ w.frozen? ⟨b, 1, none⟩ = false := ⟨h.c 0 _ rfl, h.f 0 (by simp), h.c 1 _ rfl, h.f 1 (by simp)⟩
theorem sqX3 {w : World} {b : Nat} {v0 v1 v2 : Value} {l : List Value} (h : Box w b (v0 :: v1 :: v2 :: l)) : w.cell? ⟨b, 0, none⟩ = some v0 ∧ w.frozen? ⟨b, 0, none⟩ = false ∧ w.cell? ⟨b, 1, none⟩ = some v1 ∧ w.frozen? ⟨b, 1, none⟩ = false ∧ w.cell? ⟨b, 2, none⟩ = some v2 ∧ w.frozen? ⟨b, 2, none⟩ = false := ⟨h.c 0 _ rfl, h.f 0 (by simp), h.c 1 _ rfl, h.f 1 (by simp), h.c 2 _ rfl, h.f 2 (by simp)⟩
theorem sqX4 {w : World} {b : Nat} {v0 v1 v2 v3 : Value} {l : List Value} (h : Box w b (v0 :: v1 :: v2 :: v3 :: l)) : w.cell? ⟨b, 0, none⟩ = some v0 ∧ w.frozen? ⟨b, 0, none⟩ = false ∧ w.cell? ⟨b, 1, none⟩ = some v1 ∧ w.frozen? ⟨b, 1, none⟩ = false ∧ w.cell? ⟨b, 2, none⟩ = some v2 ∧ w.frozen? ⟨b, 2, none⟩ = false ∧ w.cell? ⟨b, 3, none⟩ = some v3 ∧ w.frozen? ⟨b, 3, none⟩ = false := ⟨h.c 0 _ rfl, h.f 0 (by simp), h.c 1 _ rfl, h.f 1 (by simp), h.c 2 _ rfl, h.f 2 (by simp), h.c 3 _ rfl, h.f 3 (by simp)⟩
theorem sqX5 {w : World} {b : Nat} {v0 v1 v2 v3 v4 : Value} {l : List Value} (h : Box w b (v0 :: v1 :: v2 :: v3 :: v4 :: l)) : w.cell? ⟨b, 0, none⟩ = some v0 ∧ w.frozen? ⟨b, 0, none⟩ = false ∧ w.cell? ⟨b, 1, none⟩ = some v1 ∧ w.frozen? ⟨b, 1, none⟩ = false ∧ w.cell? ⟨b, 2, none⟩ = some v2 ∧ w.frozen? ⟨b, 2, none⟩ = false ∧ w.cell? ⟨b, 3, none⟩ = some v3 ∧ w.frozen? ⟨b, 3, none⟩ = false ∧ w.cell? ⟨b, 4, none⟩ = some v4 ∧ w.frozen? ⟨b, 4, none⟩ = false := ⟨h.c 0 _ rfl, h.f 0 (by simp), h.c 1 _ rfl, h.f 1 (by simp), h.c 2 _ rfl, h.f 2 (by simp), h.c 3 _ rfl, h.f 3 (by simp), h.c 4 _ rfl, h.f 4 (by simp)⟩
theorem sqX6 {w : World} {b : Nat} {v0 v1 v2 v3 v4 v5 : Value} {l : List Value} (h : Box w b (v0 :: v1 :: v2 :: v3 :: v4 :: v5 :: l)) : w.cell? ⟨b, 0, none⟩ = some v0 ∧ w.frozen? ⟨b, 0, none⟩ = false ∧ w.cell? ⟨b, 1, none⟩ = some v1 ∧ w.frozen? ⟨b, 1, none⟩ = false ∧ w.cell? ⟨b, 2, none⟩ = some v2 ∧ w.frozen? ⟨b, 2, none⟩ = false ∧ w.cell? ⟨b, 3, none⟩ = some v3 ∧ w.frozen? ⟨b, 3, none⟩ = false ∧ w.cell? ⟨b, 4, none⟩ = some v4 ∧ w.frozen? ⟨b, 4, none⟩ = false ∧ w.cell? ⟨b, 5, none⟩ = some v5 ∧ w.frozen? ⟨b, 5, none⟩ = false := ⟨h.c 0 _ rfl, h.f 0 (by simp), h.c 1 _ rfl, h.f 1 (by simp), h.c 2 _ rfl, h.f 2 (by simp), h.c 3 _ rfl, h.f 3 (by simp), h.c 4 _ rfl, h.f 4 (by simp), h.c 5 _ rfl, h.f 5 (by simp)⟩
theorem sqX7 {w : World} {b : Nat} {v0 v1 v2 v3 v4 v5 v6 : Value} {l : List Value} (h : Box w b (v0 :: v1 :: v2 :: v3 :: v4 :: v5 :: v6 :: l)) : w.cell? ⟨b, 0, none⟩ = some v0 ∧ w.frozen? ⟨b, 0, none⟩ = false ∧ w.cell? ⟨b, 1, none⟩ = some v1 ∧ w.frozen? ⟨b, 1, none⟩ = false ∧ w.cell? ⟨b, 2, none⟩ = some v2 ∧ w.frozen? ⟨b, 2, none⟩ = false ∧ w.cell? ⟨b, 3, none⟩ = some v3 ∧ w.frozen? ⟨b, 3, none⟩ = false ∧ w.cell? ⟨b, 4, none⟩ = some v4 ∧ w.frozen? ⟨b, 4, none⟩ = false ∧ w.cell? ⟨b, 5, none⟩ = some v5 ∧ w.frozen? ⟨b, 5, none⟩ = false ∧ w.cell? ⟨b, 6, none⟩ = some v6 ∧ w.frozen? ⟨b, 6, none⟩ = false := ⟨h.c 0 _ rfl, h.f 0 (by simp), h.c 1 _ rfl, h.f 1 (by simp), h.c 2 _ rfl, h.f 2 (by simp), h.c 3 _ rfl, h.f 3 (by simp), h.c 4 _ rfl, h.f 4 (by simp), h.c 5 _ rfl, h.f 5 (by simp), h.c 6 _ rfl, h.f 6 (by simp)⟩
theorem sqX8 {w : World} {b : Nat} {v0 v1 v2 v3 v4 v5 v6 v7 : Value} {l : List Value} (h : Box w b (v0 :: v1 :: v2 :: v3 :: v4 :: v5 :: v6 :: v7 :: l)) : w.cell? ⟨b, 0, none⟩ = some v0 ∧ w.frozen? ⟨b, 0, none⟩ = false ∧ w.cell? ⟨b, 1, none⟩ = some v1 ∧ w.frozen? ⟨b, 1, none⟩ = false ∧ w.cell? ⟨b, 2, none⟩ = some v2 ∧ w.frozen? ⟨b, 2, none⟩ = false ∧ w.cell? ⟨b, 3, none⟩ = some v3 ∧ w.frozen? ⟨b, 3, none⟩ = false ∧ w.cell? ⟨b, 4, none⟩ = some v4 ∧ w.frozen? ⟨b, 4, none⟩ = false ∧ w.cell? ⟨b, 5, none⟩ = some v5 ∧ w.frozen? ⟨b, 5, none⟩ = false ∧ w.cell? ⟨b, 6, none⟩ = some v6 ∧ w.frozen? ⟨b, 6, none⟩ = false ∧ w.cell? ⟨b, 7, none⟩ = some v7 ∧ w.frozen? ⟨b, 7, none⟩ = false := ⟨h.c 0 _ rfl, h.f 0 (by simp), h.c 1 _ rfl, h.f 1 (by simp), h.c 2 _ rfl, h.f 2 (by simp), h.c 3 _ rfl, h.f 3 (by simp), h.c 4 _ rfl, h.f 4 (by simp), h.c 5 _ rfl, h.f 5 (by simp), h.c 6 _ rfl, h.f 6 (by simp), h.c 7 _ rfl, h.f 7 (by simp)⟩
theorem sqX9 {w : World} {b : Nat} {v0 v1 v2 v3 v4 v5 v6 v7 v8 : Value} {l : List Value} (h : Box w b (v0 :: v1 :: v2 :: v3 :: v4 :: v5 :: v6 :: v7 :: v8 :: l)) : w.cell? ⟨b, 0, none⟩ = some v0 ∧ w.frozen? ⟨b, 0, none⟩ = false ∧ w.cell? ⟨b, 1, none⟩ = some v1 ∧ w.frozen? ⟨b, 1, none⟩ = false ∧ w.cell? ⟨b, 2, none⟩ = some v2 ∧ w.frozen? ⟨b, 2, none⟩ = false ∧ w.cell? ⟨b, 3, none⟩ = some v3 ∧ w.frozen? ⟨b, 3, none⟩ = false ∧ w.cell? ⟨b, 4, none⟩ = some v4 ∧ w.frozen? ⟨b, 4, none⟩ = false ∧ w.cell? ⟨b, 5, none⟩ = some v5 ∧ w.frozen? ⟨b, 5, none⟩ = false ∧ w.cell? ⟨b, 6, none⟩ = some v6 ∧ w.frozen? ⟨b, 6, none⟩ = false ∧ w.cell? ⟨b, 7, none⟩ = some v7 ∧ w.frozen? ⟨b, 7, none⟩ = false ∧ w.cell? ⟨b, 8, none⟩ = some v8 ∧ w.frozen? ⟨b, 8, none⟩ = false := ⟨h.c 0 _ rfl, h.f 0 (by simp), h.c 1 _ rfl, h.f 1 (by simp), h.c 2 _ rfl, h.f 2 (by simp), h.c 3 _ rfl, h.f 3 (by simp), h.c 4 _ rfl, h.f 4 (by simp), h.c 5 _ rfl, h.f 5 (by simp), h.c 6 _ rfl, h.f 6 (by simp), h.c 7 _ rfl, h.f 7 (by simp), h.c 8 _ rfl, h.f 8 (by simp)⟩
def ExpE (r : Int × Tk × Int) (k : Int) (w : World) (e : Ending) (w' : World) : Prop := Below w w w' ∧ ∃ k' t ng A l c ng' A' l' c' nx er, e = .returned (.tuple #[tkV k' t ng A l c ng' A' l' c', .int .i64 nx, .int .i64 er]) ∧
 NextP r w' k' t (.agg #[.bool ng, .slice A l c]) (.agg #[.bool ng', .slice A' l' c']) nx er ∧ (er = 0 → k' = k)
theorem ExpE.err {r : Int × Tk × Int} {k : Int} {w W : World} {er : Int} (h : r.1 = er ∧ er ≠ -1 ∨ r.1 = -1 ∧ er ≠ 8) (h0 : er ≠ 0) (hb : Below w w W) :
  ExpE r k w (.returned (.tuple #[.agg #[.int .u8 0, .string ⟨#[]⟩, .bool false, .slice none 0 0, .bool false, .slice none 0 0], .int .i64 0, .int .i64 er])) W := by
 refine ⟨hb, 0, ⟨#[]⟩, false, none, 0, 0, false, none, 0, 0, 0, er, rfl, ?_, fun h => absurd h h0⟩;rcases h with h | h
 ·exact .inl ⟨by rw [h.1]; exact h.2, h.1.symm, fun h2 => absurd (h.1.symm.trans h2) h0⟩
 ·exact .inr ⟨h.1, .inl ⟨h0, h.2⟩⟩
theorem NextP.e8 {r : Int × Tk × Int} {w : World} {k : Int} {t : ByteArray} {n1 n2 : Value} {nx er : Int} (h : NextP r w k t n1 n2 nx er) : (er = 8 ↔ r.1 = 8) ∧ (er = 0 → r.1 = 0 ∨ r.1 = -1) ∧ (er ≠ 0 → er ≠ 8 → r.1 = er ∧ er ≠ -1 ∨ r.1 = -1) := by
 rcases h with ⟨h1, h2, h3⟩ | ⟨h1, h2⟩
 ·subst h2;exact ⟨Iff.rfl, fun h => .inl h, fun _ _ => .inl ⟨rfl, h1⟩⟩
 ·refine ⟨⟨fun h => ?_, fun h => by rw [h1] at h; cases h⟩, fun _ => .inr h1, fun _ _ => .inr h1⟩;rcases h2 with h2 | h2
  ·exact absurd h h2.2
  ·rw [h2.1] at h; cases h
theorem xH (s : Bytes) (i k : Int) (w : World) (hs : SlOk s) (hi : -9223372036854775808 ≤ i ∧ i ≤ 9223372036854775807) (hl : s.length ≤ 1000000) :
  Calls Tryz.prog 121 #[.string (bstr s), .int .i64 i, .int .u8 k] w (ExpE (expT s i k) k w) := by
 have K1 := η fun W => gE s i W hs hi hl
 have HB0 := η ((Below.refl w w).alloc (νr _) (.cells #[.int .u8 0, .string ⟨#[]⟩, .bool false, .slice none 0 0, .bool false, .slice none 0 0] 87));have HT : Hid (expT s i k = if (nextT s i).1 = 8 then (4, .op, 0) else if (nextT s i).1 ≠ 0 then ((nextT s i).1, .op, 0) else if qB (nextT s i).2.1 ≠ k then (3, .op, 0) else nextT s i) := rfl;generalize hr : expT s i k = r at *;generalize hr0 : nextT s i = r0 at *;have HR := η hr;have HR0 := η hr0;clear hs hr hr0;generalize bstr s = z at *;go_enter Tryz.func121, Tryz.ntmps121;go_wp2_with fail;refine (K1.out _).mono ?_;rintro e w1 ⟨hb1, k', t, ng, A, l, c, ng', A', l', c', nx, er, rfl, hP⟩;unfold tkV;have HX1 := η ((Box.new w #[.int .u8 0, .string ⟨#[]⟩, .bool false, .slice none 0 0, .bool false, .slice none 0 0] 87).up hb1 (by simp));have HB1 := η (HB0.out.trans (hb1.mono (by simp)));have HP := η hP;clear hb1 HB0 K1 hP;obtain ⟨q0, s0, q1, s1, q2, s2, q3, s3, q4, s4, q5, s5⟩ := sqX6 HX1.out;go_upto_region 2 with fail
 obtain ⟨w2, hw2⟩ : ∃ W, W = w1.setCells (w) 0 [Value.int IntKind.u8 k', Value.string t, Value.bool ng, Value.slice A l c, Value.bool ng', Value.slice A' l' c'] := ⟨_, rfl⟩;rw [show ((((((w1.setCell ⟨w, 0, none⟩ (Value.int IntKind.u8 k')).setCell ⟨w, 1, none⟩ (Value.string t)).setCell ⟨w, 2, none⟩ (Value.bool ng)).setCell ⟨w, 3, none⟩ (Value.slice A l c)).setCell ⟨w, 4, none⟩ (Value.bool ng')).setCell ⟨w, 5, none⟩ (Value.slice A' l' c')) = w2 from hw2.symm];have HX2 : Hid (Box w2 (w) [Value.int IntKind.u8 k', Value.string t, Value.bool ng, Value.slice A l c, Value.bool ng', Value.slice A' l' c']) := by show Box _ _ _; rw [hw2]; exact HX1.out.sets rfl
 have HB2 : Hid (Below w w w2) := by show Below _ _ _; rw [hw2]; exact zE HB1.out (νr _) _ _
 have HP2 : Hid (NextP r0 w2 k' t (.agg #[.bool ng, .slice A l c]) (.agg #[.bool ng', .slice A' l' c']) nx er) := by
  show NextP _ _ _ _ _ _ _ _
  rw [hw2];exact HP.out.map fun v n hv => (hv.sets (vs' := [Value.int IntKind.u8 k', Value.string t, Value.bool ng, Value.slice A l c, Value.bool ng', Value.slice A' l' c']) HX1.out mX (νr _)).more (by rw [zD]; exact νr _)
 clear hw2 HX1 HB1 HP q0 q1 q2 q3 q4 q5 s0 s1 s2 s3 s4 s5;obtain ⟨q0, s0, q1, s1, q2, s2, q3, s3, q4, s4, q5, s5⟩ := sqX6 HX2.out;have h8 := HP2.out.e8;by_cases e8 : er = 8
 ·have E : Hid (r.1 = 4) := by show _ = _; rw [HT.out, if_pos (h8.1.1 e8)]
  have b1 : (er == 8) = true := beq_iff_eq.2 e8;clear h8 e8;go_wp2_with fail;exact κr (v := .tuple #[.agg #[.int .u8 0, .string ⟨#[]⟩, .bool false, .slice none 0 0, .bool false, .slice none 0 0], .int .i64 0, .int .i64 4]) (by simp [results, Tryz.results121, go_sem, q0, q1, q2, q3, q4, q5]) rfl (ExpE.err (.inl ⟨E.out, by decide⟩) (by decide) (zE (b := w) HB2.out (νr _) [.int .u8 0, .string ⟨#[]⟩, .bool false, .slice none 0 0, .bool false, .slice none 0 0] 0))
 have b1 : (er == 8) = false := βf e8;by_cases e0 : er = 0
 ·subst e0;have T1 : Hid (r = if qB r0.2.1 ≠ k ∧ r0.1 = 0 then (3, .op, 0) else if r0.1 = 0 then r0 else (-1, .op, 0)) := by
   show _ = _
   rcases h8.2.1 rfl with h | h
   ·rw [HT.out, h, if_neg (by decide), if_neg (by decide)];by_cases h2 : qB r0.2.1 = k
    ·rw [if_neg (fun h3 => h3 h2), if_neg (fun h3 => h3.1 h2), if_pos rfl]
    ·rw [if_pos h2, if_pos ⟨h2, rfl⟩]
   ·rw [HT.out, h, if_neg (by decide), if_pos (by decide), if_neg (fun h3 => by cases h3.2), if_neg (by decide)]
  clear h8 b1 e8;by_cases hk : k' = k
  ·subst hk;have b2 : (k' == k') = true := beq_self_eq_true _;have HP3 : Hid (NextP r w2 k' t (.agg #[.bool ng, .slice A l c]) (.agg #[.bool ng', .slice A' l' c']) nx 0) := by
    show NextP _ _ _ _ _ _ _ _
    rcases HP2.out with ⟨g1, g2, g3⟩ | ⟨g1, g2⟩
    ·have := g3 g2.symm;rw [T1.out, if_neg (fun h => h.1 this.2.1.symm), if_pos g2.symm];exact .inl ⟨g1, g2, g3⟩
    ·rw [T1.out, if_neg (fun h => by rw [g1] at h; cases h.2), if_neg (by rw [g1]; decide)];exact .inr ⟨rfl, g2⟩
   go_wp2_with fail;have HF := η (zE (b := w) HB2.out (νr _) [Value.int IntKind.u8 k', Value.string t, Value.bool ng, Value.slice A l c, Value.bool ng', Value.slice A' l' c'] 0);refine κr (v := .tuple #[.agg #[Value.int IntKind.u8 k', Value.string t, Value.bool ng, Value.slice A l c, Value.bool ng', Value.slice A' l' c'], .int .i64 nx, .int .i64 0]) (by simp [results, Tryz.results121, go_sem, q0, q1, q2, q3, q4, q5]) rfl ⟨HF.out, k', t, ng, A, l, c, ng', A', l', c', nx, 0, rfl, ?_, fun _ => rfl⟩;exact HP3.out.map fun v n hv => (hv.sets (vs' := [Value.int IntKind.u8 k', Value.string t, Value.bool ng, Value.slice A l c, Value.bool ng', Value.slice A' l' c']) HX2.out mX (νr _)).more (by simp)
  ·have b2 : (k' == k) = false := βf hk;have E : Hid (r.1 = 3 ∧ (3 : Int) ≠ -1 ∨ r.1 = -1 ∧ (3 : Int) ≠ 8) := by
    show _ ∨ _
    rcases HP2.out with ⟨g1, g2, g3⟩ | ⟨g1, g2⟩
    ·have := g3 g2.symm;left;rw [T1.out, if_pos ⟨by rw [← this.2.1]; exact hk, g2.symm⟩];exact ⟨rfl, by decide⟩
    ·right;rw [T1.out, if_neg (fun h => by rw [g1] at h; cases h.2), if_neg (by rw [g1]; decide)];exact ⟨rfl, by decide⟩
   clear hk;go_wp2_with fail;exact κr (v := .tuple #[.agg #[.int .u8 0, .string ⟨#[]⟩, .bool false, .slice none 0 0, .bool false, .slice none 0 0], .int .i64 0, .int .i64 3]) (by simp [results, Tryz.results121, go_sem, q0, q1, q2, q3, q4, q5]) rfl (ExpE.err E.out (by decide) (zE (b := w) HB2.out (νr _) [.int .u8 0, .string ⟨#[]⟩, .bool false, .slice none 0 0, .bool false, .slice none 0 0] 0))
 ·have b2 : (er == 0) = false := βf e0;have E : Hid (r.1 = er ∧ er ≠ -1 ∨ r.1 = -1 ∧ er ≠ 8) := by
   show _ ∨ _
   rcases h8.2.2 e0 e8 with h | h
   ·left;rw [HT.out, if_neg (by rw [h.1]; exact e8), if_pos (by rw [h.1]; exact e0)];exact h
   ·right;rw [HT.out, if_neg (by rw [h]; decide), if_pos (by rw [h]; decide)];exact ⟨h, e8⟩
  have H0 := η e0;clear h8 e8 e0;go_wp2_with fail;exact κr (v := .tuple #[.agg #[.int .u8 0, .string ⟨#[]⟩, .bool false, .slice none 0 0, .bool false, .slice none 0 0], .int .i64 0, .int .i64 er]) (by simp [results, Tryz.results121, go_sem, q0, q1, q2, q3, q4, q5]) rfl (ExpE.err E.out H0.out (zE (b := w) HB2.out (νr _) [.int .u8 0, .string ⟨#[]⟩, .bool false, .slice none 0 0, .bool false, .slice none 0 0] 0))
end Go.Proofs.YtkfhpefmmhljmaaGreatDoor
