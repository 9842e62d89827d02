/- Texts in one: CtK, CtL. -/
import Derived.Test.YtkfhpefmmhljmaaGreatDoorF20
import Derived.Test.YtkfhpefmmhljmaaGreatDoorF13
set_option linter.unusedVariables false
set_option linter.unusedSimpArgs false
set_option maxHeartbeats 16000000
set_option maxRecDepth 100000
namespace Go.Proofs.YtkfhpefmmhljmaaGreatDoor
open Go.RowKit
def tkV (k : Int) (t : ByteArray) (ng : Bool) (A : Option Addr) (l c : Nat) (ng' : Bool) (A' : Option Addr) (l' c' : Nat) : Value := .agg #[.int .u8 k, .string t, .bool ng, .slice A l c, .bool ng', .slice A' l' c']
def tkC (k : Int) (t : ByteArray) (ng : Bool) (A : Option Addr) (l c : Nat) (ng' : Bool) (A' : Option Addr) (l' c' : Nat) : List Value := [.int .u8 k, .string t, .bool ng, .slice A l c, .bool ng', .slice A' l' c']
theorem bQ {k : Int} {t : ByteArray} {ng : Bool} {A : Option Addr} {l c : Nat} {ng' : Bool} {A' : Option Addr} {l' c' : Nat} : ∀ u ∈ tkC k t ng A l c ng' A' l' c', ∀ x, u ≠ .int .u32 x := by
 intro u hu x;simp only [tkC, List.mem_cons, List.mem_nil_iff, or_false] at hu;rcases hu with rfl | rfl | rfl | rfl | rfl | rfl <;> simp
def FracE (w : World) (e : Ending) (w' : World) : Prop := ∃ ng A l c ng' A' l' c' er, e = .returned (.tuple #[.agg #[.bool ng, .slice A l c, .bool ng', .slice A' l' c'], .int .i64 er]) ∧ Below w w w' ∧
 (er ≠ 0 ∧ er ≠ 8 ∨ er = 0 ∧ ∃ m d, NumR w' w' (.agg #[.bool ng, .slice A l c]) m ∧ NumR w' w' (.agg #[.bool ng', .slice A' l' c']) d ∧ d ≠ 0)
def tY : Prop := ∀ (r : Bytes) (w : World), r.length ≤ 65536 → r.any (· == 47) = true → Calls Tryz.prog 97 #[.string (bstr r)] w (FracE w)
def SlOk (s : Bytes) : Prop := s.any (· == 47) = true → tY
def NextP (r : Int × Tk × Int) (w : World) (k : Int) (t : ByteArray) (n1 n2 : Value) (nx er : Int) : Prop :=
 (r.1 ≠ -1 ∧ er = r.1 ∧ (r.1 = 0 → nx = r.2.2 ∧ k = qI r.2.1 ∧ t = bstr (qY r.2.1) ∧ NumR w w n1 (tkNum r.2.1) ∧ NumR w w n2 0)) ∨
 (r.1 = -1 ∧ (er ≠ 0 ∧ er ≠ 8 ∨ er = 0 ∧ k = 4 ∧ ∃ m d, NumR w w n1 m ∧ NumR w w n2 d ∧ d ≠ 0))
def NextE (r : Int × Tk × Int) (w : World) (e : Ending) (w' : World) : Prop := Below w w w' ∧ ∃ k t ng A l c ng' A' l' c' nx er, e = .returned (.tuple #[tkV k t ng A l c ng' A' l' c', .int .i64 nx, .int .i64 er]) ∧
 NextP r w' k t (.agg #[.bool ng, .slice A l c]) (.agg #[.bool ng', .slice A' l' c']) nx er
theorem NextP.map {r : Int × Tk × Int} {w w' : World} {k : Int} {t : ByteArray} {n1 n2 : Value} {nx er : Int} (h : NextP r w k t n1 n2 nx er) (hm : ∀ v n, NumR w w v n → NumR w' w' v n) : NextP r w' k t n1 n2 nx er := by
 rcases h with ⟨h1, h2, h3⟩ | ⟨h1, h2⟩
 ·exact .inl ⟨h1, h2, fun h0 => by obtain ⟨a, b, c, d, e⟩ := h3 h0; exact ⟨a, b, c, hm _ _ d, hm _ _ e⟩⟩
 ·refine .inr ⟨h1, h2.imp id ?_⟩;rintro ⟨a, b, m, d, c, e, f⟩;exact ⟨a, b, m, d, hm _ _ c, hm _ _ e, f⟩
theorem oK (r : Bytes) : (pz r).1 = 5 ∨ (pz r).1 = 3 ∨ (pz r).1 = 0 := by
 unfold pz;split
 ·exact .inl rfl
 ·split
  ·exact .inr (.inl rfl)
  ·exact .inr (.inr rfl)
theorem oX (l : Bytes) (h : l.any (· == 47) = false) : ∀ k, k < l.length → l.getD k 0 ≠ 47 := by
 intro k hk e;rw [List.any_eq_false] at h;refine h (l.getD k 0) (by rw [zM l k 0 hk]; exact List.getElem_mem hk) (by rw [e]; rfl)
theorem NextE.err {r : Int × Tk × Int} {w W : World} {er : Int} (h : r.1 = er) (h0 : er ≠ 0) (h1 : er ≠ -1) (hb : Below w w W) :
  NextE r w (.returned (.tuple #[.agg #[.int .u8 0, .string ⟨#[]⟩, .bool false, .slice none 0 0, .bool false, .slice none 0 0], .int .i64 0, .int .i64 er])) W :=
 ⟨hb, 0, ⟨#[]⟩, false, none, 0, 0, false, none, 0, 0, 0, er, rfl, .inl ⟨by rw [h]; exact h1, h.symm, fun h2 => absurd (h.symm.trans h2) h0⟩⟩
theorem NextE.paren {r : Int × Tk × Int} {w W : World} {k nx : Int} (h : r.1 = 0) (hn : nx = r.2.2) (hk : k = qI r.2.1) (ht : qY r.2.1 = []) (hm : tkNum r.2.1 = 0) (hb : Below w w W) :
  NextE r w (.returned (.tuple #[.agg #[.int .u8 k, .string ⟨#[]⟩, .bool false, .slice none 0 0, .bool false, .slice none 0 0], .int .i64 nx, .int .i64 0])) W :=
 ⟨hb, k, ⟨#[]⟩, false, none, 0, 0, false, none, 0, 0, nx, 0, rfl, .inl ⟨by rw [h]; decide, h.symm, fun _ => ⟨hn, hk, by rw [ht]; rfl, by rw [hm]; exact NumR.zero _ _, NumR.zero _ _⟩⟩⟩
theorem NextE.word {r : Int × Tk × Int} {w W : World} {nx : Int} {t : ByteArray} (h : r.1 = 0) (hn : nx = r.2.2) (hk : qI r.2.1 = 3) (ht : t = bstr (qY r.2.1)) (hm : tkNum r.2.1 = 0) (hb : Below w w W) :
  NextE r w (.returned (.tuple #[.agg #[.int .u8 3, .string t, .bool false, .slice none 0 0, .bool false, .slice none 0 0], .int .i64 nx, .int .i64 0])) W :=
 ⟨hb, 3, t, false, none, 0, 0, false, none, 0, 0, nx, 0, rfl, .inl ⟨by rw [h]; decide, h.symm, fun _ => ⟨hn, hk.symm, ht, by rw [hm]; exact NumR.zero _ _, NumR.zero _ _⟩⟩⟩
theorem fO (s : Bytes) (i : Int) (w : World) (hs : SlOk s) (hi : -9223372036854775808 ≤ i ∧ i ≤ 9223372036854775807) (hl : s.length ≤ 1000000) : Calls Tryz.prog 41 #[.string (bstr s), .int .i64 i] w (NextE (nextT s i) w) := by
 have hsz := zQ s;have HS := η hs;have HB0 := η ((Below.refl w w).alloc (νr _) (.cells #[.int .u8 0, .string ⟨#[]⟩, .bool false, .slice none 0 0, .bool false, .slice none 0 0] 87));clear hs;by_cases h1 : 65536 < s.length
 ·have e0 : decide ((65536 : Int) < (s.length : Int)) = true := κt (by omega);have E : Hid ((nextT s i).1 = 5) := by show _ = _; unfold nextT; rw [if_pos h1]
  clear h1;generalize bstr s = z at *;go_enter Tryz.func41, Tryz.ntmps41;go_wp2_with fail;exact κr (v := .tuple #[.agg #[.int .u8 0, .string ⟨#[]⟩, .bool false, .slice none 0 0, .bool false, .slice none 0 0], .int .i64 0, .int .i64 5]) (by simp [results, Tryz.results41, go_sem]) rfl (NextE.err E.out (by decide) (by decide) HB0.out)
 have e0 : decide ((65536 : Int) < (s.length : Int)) = false := κf (by omega);by_cases h2 : i < 0 ∨ (s.length : Int) < i
 ·have E : Hid ((nextT s i).1 = 1) := by show _ = _; unfold nextT; rw [if_neg h1, if_pos h2]
  have h2' : decide (i < 0) = true ∨ (decide (i < 0) = false ∧ decide ((s.length : Int) < i) = true) := by
   by_cases h : i < 0
   ·exact .inl (κt h)
   ·exact .inr ⟨κf h, κt (by omega)⟩
  clear h1 h2;generalize bstr s = z at *;rcases h2' with e1 | ⟨e1, e2⟩
  all_goals
   go_enter Tryz.func41, Tryz.ntmps41;go_wp2_with fail;exact κr (v := .tuple #[.agg #[.int .u8 0, .string ⟨#[]⟩, .bool false, .slice none 0 0, .bool false, .slice none 0 0], .int .i64 0, .int .i64 1]) (by simp [results, Tryz.results41, go_sem]) rfl (NextE.err E.out (by decide) (by decide) HB0.out)
 obtain ⟨n, rfl⟩ : ∃ n : Nat, i = (n : Int) := ⟨i.toNat, by omega⟩;have e1 : decide ((n : Int) < 0) = false := κf (by omega);have e2 : decide ((s.length : Int) < (n : Int)) = false := κf (by omega);have hns : n ≤ s.length := by omega
 have h65 : s.length ≤ 65536 := by omega
 have hN : nextT s (n : Int) = (if endF isSep s n = s.length then (8, .op, 0)
  else if s.getD (endF isSep s n) 0 = 40 then (0, .op, (endF isSep s n : Int) + 1)
  else if s.getD (endF isSep s n) 0 = 41 then (0, .cl, (endF isSep s n : Int) + 1)
  else if allB isLow (runAt s (endF isSep s n)) then (0, .wd (runAt s (endF isSep s n)), (endF isRun s (endF isSep s n) : Int))
  else if !allB isNum (runAt s (endF isSep s n)) then (3, .op, 0)
  else if (runAt s (endF isSep s n)).any (· == 47) then (-1, .op, 0)
  else if (pz (runAt s (endF isSep s n))).1 ≠ 0 then ((pz (runAt s (endF isSep s n))).1, .op, 0)
  else (0, .nm (pz (runAt s (endF isSep s n))).2, (endF isRun s (endF isSep s n) : Int))) := by
  unfold nextT;rw [if_neg h1, if_neg h2, Int.toNat_natCast]
 have K1 := η fun W => oF W
 have K2 := η fun W => iJ s n W hns hl
 have hj := yJ isSep s n hns;generalize endF isSep s n = j at *;unfold sepV at K1 K2;have HN := η hN;clear h1 h2 hN hi;generalize hnt : nextT s (n : Int) = r at *;have HR := η hnt;clear hnt;go_enter Tryz.func41, Tryz.ntmps41;go_wp2_with fail;refine (K1.out _).mono ?_;rintro e w1 ⟨rfl, hb1⟩;have HX1 := η ((Box.new w #[.int .u8 0, .string ⟨#[]⟩, .bool false, .slice none 0 0, .bool false, .slice none 0 0] 87).up hb1 (by simp));have HB1 := η (HB0.out.trans (hb1.mono (by simp)));clear hb1 HB0 K1;go_wp2_with fail;refine (K2.out _).mono ?_;rintro e w2 ⟨rfl, hb2⟩;have HX2 := η (HX1.out.up hb2 (HX1.out.lt (by decide)));have HB2 := βT HB1 hb2;clear hb2 HB1 HX1 K2;by_cases h3 : j = s.length
 ·have E : Hid (r.1 = 8) := by show _ = _; rw [HN.out, if_pos h3]
  have e3 : ((j : Int) == (s.length : Int)) = true := by rw [h3]; exact beq_self_eq_true _
  have q0 := HX2.out.c 0 _ rfl;have s0 := HX2.out.f 0 (by decide);have q1 := HX2.out.c 1 _ rfl;have s1 := HX2.out.f 1 (by decide);have q2 := HX2.out.c 2 _ rfl;have s2 := HX2.out.f 2 (by decide);have q3 := HX2.out.c 3 _ rfl;have s3 := HX2.out.f 3 (by decide);have q4 := HX2.out.c 4 _ rfl;have s4 := HX2.out.f 4 (by decide);have q5 := HX2.out.c 5 _ rfl;have s5 := HX2.out.f 5 (by decide);go_wp2_with fail;exact κr (v := .tuple #[.agg #[.int .u8 0, .string ⟨#[]⟩, .bool false, .slice none 0 0, .bool false, .slice none 0 0], .int .i64 0, .int .i64 8]) (by simp [results, Tryz.results41, go_sem, q0, q1, q2, q3, q4, q5]) rfl (NextE.err E.out (by decide) (by decide) (zI (b := w) HB2.out (νr _) [.int .u8 0, .string ⟨#[]⟩, .bool false, .slice none 0 0, .bool false, .slice none 0 0] 0))
 have e3 : ((j : Int) == (s.length : Int)) = false := βf (by omega);have hjs : j < s.length := by omega
 have hix := qA s j hjs;have u1 : (((s.getD j 0).toNat : Int) == 40) = (s.getD j 0 == 40) := u8_eq _ 40;have u2 : (((s.getD j 0).toNat : Int) == 41) = (s.getD j 0 == 41) := u8_eq _ 41;replace HN : Hid (r = _) := HN.out.trans (if_neg h3);have p1 : IntKind.i64.wrap ((j : Int) + 1) = (j : Int) + 1 := IntWalk.i64_in _ (by omega);by_cases h4 : s.getD j 0 = 40
 ·have E : Hid (r = (0, .op, (j : Int) + 1)) := by show _ = _; rw [HN.out, if_pos h4]
  have u1' : (((s.getD j 0).toNat : Int) == 40) = true := by rw [u1, h4]; rfl
  clear u1 u2 h4 HN;generalize ((s.getD j 0).toNat : Int) = cc at *;have q0 := HX2.out.c 0 _ rfl;have s0 := HX2.out.f 0 (by decide);have q1 := HX2.out.c 1 _ rfl;have s1 := HX2.out.f 1 (by decide);have q2 := HX2.out.c 2 _ rfl;have s2 := HX2.out.f 2 (by decide);have q3 := HX2.out.c 3 _ rfl;have s3 := HX2.out.f 3 (by decide);have q4 := HX2.out.c 4 _ rfl;have s4 := HX2.out.f 4 (by decide);have q5 := HX2.out.c 5 _ rfl;have s5 := HX2.out.f 5 (by decide);go_wp2_with fail;exact κr (v := .tuple #[.agg #[.int .u8 1, .string ⟨#[]⟩, .bool false, .slice none 0 0, .bool false, .slice none 0 0], .int .i64 ((j : Int) + 1), .int .i64 0]) (by simp [results, Tryz.results41, go_sem, q0, q1, q2, q3, q4, q5]) rfl (NextE.paren (by rw [E.out]) (by rw [E.out]) (by rw [E.out]; rfl) (by rw [E.out]; rfl) (by rw [E.out]; rfl) (zI (b := w) HB2.out (νr _) [.int .u8 1, .string ⟨#[]⟩, .bool false, .slice none 0 0, .bool false, .slice none 0 0] 0))
 have u1' : (((s.getD j 0).toNat : Int) == 40) = false := by rw [u1]; exact βf h4
 replace HN : Hid (r = _) := HN.out.trans (if_neg h4);by_cases h5 : s.getD j 0 = 41
 ·have E : Hid (r = (0, .cl, (j : Int) + 1)) := by show _ = _; rw [HN.out, if_pos h5]
  have u2' : (((s.getD j 0).toNat : Int) == 41) = true := by rw [u2, h5]; rfl
  clear u1 u2 h4 h5 HN;generalize ((s.getD j 0).toNat : Int) = cc at *;have q0 := HX2.out.c 0 _ rfl;have s0 := HX2.out.f 0 (by decide);have q1 := HX2.out.c 1 _ rfl;have s1 := HX2.out.f 1 (by decide);have q2 := HX2.out.c 2 _ rfl;have s2 := HX2.out.f 2 (by decide);have q3 := HX2.out.c 3 _ rfl;have s3 := HX2.out.f 3 (by decide);have q4 := HX2.out.c 4 _ rfl;have s4 := HX2.out.f 4 (by decide);have q5 := HX2.out.c 5 _ rfl;have s5 := HX2.out.f 5 (by decide);go_wp2_with fail;exact κr (v := .tuple #[.agg #[.int .u8 2, .string ⟨#[]⟩, .bool false, .slice none 0 0, .bool false, .slice none 0 0], .int .i64 ((j : Int) + 1), .int .i64 0]) (by simp [results, Tryz.results41, go_sem, q0, q1, q2, q3, q4, q5]) rfl (NextE.paren (by rw [E.out]) (by rw [E.out]) (by rw [E.out]; rfl) (by rw [E.out]; rfl) (by rw [E.out]; rfl) (zI (b := w) HB2.out (νr _) [.int .u8 2, .string ⟨#[]⟩, .bool false, .slice none 0 0, .bool false, .slice none 0 0] 0))
 have u2' : (((s.getD j 0).toNat : Int) == 41) = false := by rw [u2]; exact βf h5
 replace HN : Hid (r = _) := HN.out.trans (if_neg h5);clear u1 u2 h4 h5 p1;generalize ((s.getD j 0).toNat : Int) = cc at *;have K3 := η fun W => oH W
 have K4 := η fun W => iK s j W hj.2 hl
 have hm := yJ isRun s j hj.2;have hra : runAt s j = (s.drop j).take (endF isRun s j - j) := rfl;generalize endF isRun s j = m at *;have hsl := tZ s j m hm.1 hm.2;rw [← hra] at hsl;have hrl : (runAt s j).length ≤ s.length := by rw [hra, κk, List.length_drop]; omega
 have hrs : ∀ x ∈ runAt s j, x ∈ s := fun x hx => by rw [hra] at hx; exact List.mem_of_mem_drop (List.mem_of_mem_take hx)
 generalize runAt s j = run at *;have HRS := η hrs;clear hra hrs;have K5 := η fun W => dU W
 have K6 := η fun W => fP run W (by omega)
 unfold runV at K3 K4;unfold lowV at K5 K6;go_wp2_with fail;refine (K3.out _).mono ?_;rintro e w3 ⟨rfl, hb3⟩;have HX3 := η (HX2.out.up hb3 (HX2.out.lt (by decide)));have HB3 := βT HB2 hb3;clear hb3 HB2 HX2 K3;go_wp2_with fail;refine (K4.out _).mono ?_;rintro e w4 ⟨rfl, hb4⟩;have HX4 := η (HX3.out.up hb4 (HX3.out.lt (by decide)));have HB4 := βT HB3 hb4;clear hb4 HB3 HX3 K4;go_wp2_with fail;refine (K5.out _).mono ?_;rintro e w5 ⟨rfl, hb5⟩;have HX5 := η (HX4.out.up hb5 (HX4.out.lt (by decide)));have HB5 := βT HB4 hb5;clear hb5 HB4 HX4 K5;go_wp2_with fail;refine (K6.out _).mono ?_;rintro e w6 ⟨rfl, hb6⟩;have HX6 := η (HX5.out.up hb6 (HX5.out.lt (by decide)));have HB6 := βT HB5 hb6;clear hb6 HB5 HX5 K6;cases h6 : allB isLow run with
 | true =>
  have E : Hid (r = (0, .wd run, (m : Int))) := by show _ = _; rw [HN.out, if_pos h6]
  clear h6 HN;have q0 := HX6.out.c 0 _ rfl;have s0 := HX6.out.f 0 (by decide);have q1 := HX6.out.c 1 _ rfl;have s1 := HX6.out.f 1 (by decide);have q2 := HX6.out.c 2 _ rfl;have s2 := HX6.out.f 2 (by decide);have q3 := HX6.out.c 3 _ rfl;have s3 := HX6.out.f 3 (by decide);have q4 := HX6.out.c 4 _ rfl;have s4 := HX6.out.f 4 (by decide);have q5 := HX6.out.c 5 _ rfl;have s5 := HX6.out.f 5 (by decide);go_wp2_with fail;exact κr (v := .tuple #[.agg #[.int .u8 3, .string (bstr run), .bool false, .slice none 0 0, .bool false, .slice none 0 0], .int .i64 (m : Int), .int .i64 0]) (by simp [results, Tryz.results41, go_sem, q0, q1, q2, q3, q4, q5]) rfl (NextE.word (by rw [E.out]) (by rw [E.out]) (by rw [E.out]; rfl) (by rw [E.out]; rfl) (by rw [E.out]; rfl) (zI (b := w) HB6.out (νr _) [.int .u8 3, .string (bstr run), .bool false, .slice none 0 0, .bool false, .slice none 0 0] 0))
 | false =>
  replace HN : Hid (r = _) := HN.out.trans (if_neg (by rw [h6]; simp));clear h6;have K7 := η fun W => tU W
  have K8 := η fun W => iW run W (by omega)
  unfold numV at K7 K8;go_wp2_with fail;refine (K7.out _).mono ?_;rintro e w7 ⟨rfl, hb7⟩;have HX7 := η (HX6.out.up hb7 (HX6.out.lt (by decide)));have HB7 := βT HB6 hb7;clear hb7 HB6 HX6 K7;go_wp2_with fail;refine (K8.out _).mono ?_;rintro e w8 ⟨rfl, hb8⟩;have HX8 := η (HX7.out.up hb8 (HX7.out.lt (by decide)));have HB8 := βT HB7 hb8;clear hb8 HB7 HX7 K8;cases h7 : allB isNum run with
  | false =>
   have E : Hid (r.1 = 3) := by show _ = _; rw [HN.out, if_pos (by rw [h7]; rfl)]
   clear h7 HN;have q0 := HX8.out.c 0 _ rfl;have s0 := HX8.out.f 0 (by decide);have q1 := HX8.out.c 1 _ rfl;have s1 := HX8.out.f 1 (by decide);have q2 := HX8.out.c 2 _ rfl;have s2 := HX8.out.f 2 (by decide);have q3 := HX8.out.c 3 _ rfl;have s3 := HX8.out.f 3 (by decide);have q4 := HX8.out.c 4 _ rfl;have s4 := HX8.out.f 4 (by decide);have q5 := HX8.out.c 5 _ rfl;have s5 := HX8.out.f 5 (by decide);go_wp2_with fail;exact κr (v := .tuple #[.agg #[.int .u8 0, .string ⟨#[]⟩, .bool false, .slice none 0 0, .bool false, .slice none 0 0], .int .i64 0, .int .i64 3]) (by simp [results, Tryz.results41, go_sem, q0, q1, q2, q3, q4, q5]) rfl (NextE.err E.out (by decide) (by decide) (zI (b := w) HB8.out (νr _) [.int .u8 0, .string ⟨#[]⟩, .bool false, .slice none 0 0, .bool false, .slice none 0 0] 0))
  | true =>
   replace HN : Hid (r = _) := HN.out.trans (if_neg (by rw [h7]; simp));clear h7;have KF : Hid (∀ W, Calls Tryz.prog 97 #[.string (bstr run)] W fun e w' => ∃ ng A l c ng' A' l' c' er, e = .returned (.tuple #[.agg #[.bool ng, .slice A l c, .bool ng', .slice A' l' c'], .int .i64 er]) ∧ Below W W w' ∧
     (er ≠ 0 → (r.1 = er ∧ er ≠ -1) ∨ (r.1 = -1 ∧ er ≠ 8)) ∧ (er = 0 → NextP r w' 4 ⟨#[]⟩ (.agg #[.bool ng, .slice A l c]) (.agg #[.bool ng', .slice A' l' c']) m 0)) := by
    show ∀ W, _
    intro W;cases h8 : run.any (· == 47) with
    | true =>
     have E : r = (-1, .op, 0) := HN.out.trans (if_pos h8);have hF : tY := HS.out (by
      obtain ⟨x, hx, h9⟩ := List.any_eq_true.1 h8;exact List.any_eq_true.2 ⟨x, HRS.out x hx, h9⟩)
     refine (hF run W (by omega) h8).mono ?_;rintro e w' ⟨ng, A, l, c, ng', A', l', c', er, rfl, hb, hr⟩;refine ⟨ng, A, l, c, ng', A', l', c', er, rfl, hb, fun h0 => ?_, fun h0 => ?_⟩
     ·rcases hr with hr | hr
      ·exact .inr ⟨by rw [E], hr.2⟩
      ·exact absurd hr.1 h0
     ·rcases hr with hr | ⟨_, hr⟩
      ·exact absurd h0 hr.1
      ·exact .inr ⟨by rw [E], .inr ⟨rfl, rfl, hr⟩⟩
    | false =>
     have HN2 := HN.out.trans (if_neg (by rw [h8]; simp));refine (bB run W (by omega) (oX run h8)).mono ?_;rintro e w' ⟨a0, a1, rfl, hn, hb⟩;have hn' := hn;obtain ⟨ng, A, ws, c, he, hn2⟩ := hn;injection he with he
     injection he with he
     injection he with ha0 he
     injection he with ha1 he
     subst ha0;subst ha1;refine ⟨ng, A, ws.length, c, false, none, 0, 0, (pz run).1, rfl, hb, fun h0 => ?_, fun h0 => ?_⟩
     ·left;rw [HN2, if_pos h0];refine ⟨rfl, ?_⟩;rcases oK run with h | h | h <;> rw [h] <;> decide
     ·left;rw [HN2, if_neg (fun h => h h0)];exact ⟨by show (0 : Int) ≠ -1; decide, rfl, fun _ => ⟨rfl, rfl, rfl, hn', NumR.zero _ _⟩⟩
   clear HN HRS HS HR;go_wp2_with fail;refine (KF.out _).mono ?_;rintro e w9 ⟨ng, A, l, c, ng', A', l', c', er, rfl, hb9, hne, heq⟩;have HX9 := η (HX8.out.up hb9 (HX8.out.lt (by decide)));have HB9 := βT HB8 hb9;have HNE := η hne;have HEQ := η heq;clear hb9 HB8 HX8 KF hne heq;have hlt9 : w < w9.heap.size := HX9.out.lt (by decide);have q0 := HX9.out.c 0 _ rfl;have s0 := HX9.out.f 0 (by decide);have q1 := HX9.out.c 1 _ rfl;have s1 := HX9.out.f 1 (by decide);have q2 := HX9.out.c 2 _ rfl;have s2 := HX9.out.f 2 (by decide);have q3 := HX9.out.c 3 _ rfl;have s3 := HX9.out.f 3 (by decide);have q4 := HX9.out.c 4 _ rfl;have s4 := HX9.out.f 4 (by decide);have q5 := HX9.out.c 5 _ rfl;have s5 := HX9.out.f 5 (by decide);by_cases h9 : er = 0
   ·subst h9;have HP := η (HEQ.out rfl);have HF := η ((zI (b := w) HB9.out (νr _) [.int .u8 4, .string ⟨#[]⟩, .bool ng, .slice A l c, .bool ng', .slice A' l' c'] 0).alloc (by rw [zG]; omega) (.cells #[.bool ng, .slice A l c, .bool ng', .slice A' l' c'] 85));clear HNE HEQ;go_wp2_with fail;refine κr (v := .tuple #[.agg #[.int .u8 4, .string ⟨#[]⟩, .bool ng, .slice A l c, .bool ng', .slice A' l' c'], .int .i64 (m : Int), .int .i64 0]) (by simp [results, Tryz.results41, go_sem, hlt9, q0, q1, q2, q3, q4, q5]) rfl ⟨HF.out, 4, ⟨#[]⟩, ng, A, l, c, ng', A', l', c', m, 0, rfl, ?_⟩;refine HP.out.map fun v n hv => ?_
    have := ((hv.sets (vs' := [.int .u8 4, .string ⟨#[]⟩, .bool ng, .slice A l c, .bool ng', .slice A' l' c']) HX9.out (bQ) (νr _)).alloc (by rw [zG]; exact νr _) (.cells #[.bool ng, .slice A l c, .bool ng', .slice A' l' c'] 85));exact this.more (by simp)
   ·have e9 : (er == 0) = false := βf h9;have HP := η (HNE.out h9);have H9 := η h9;have HF := η ((zI (b := w) HB9.out (νr _) [.int .u8 0, .string ⟨#[]⟩, .bool false, .slice none 0 0, .bool false, .slice none 0 0] 0).alloc (by rw [zG]; omega) (.cells #[.bool ng, .slice A l c, .bool ng', .slice A' l' c'] 85));clear HNE HEQ h9;go_wp2_with fail;refine κr (v := .tuple #[.agg #[.int .u8 0, .string ⟨#[]⟩, .bool false, .slice none 0 0, .bool false, .slice none 0 0], .int .i64 0, .int .i64 er]) (by simp [results, Tryz.results41, go_sem, hlt9, q0, q1, q2, q3, q4, q5]) rfl ⟨HF.out, 0, ⟨#[]⟩, false, none, 0, 0, false, none, 0, 0, 0, er, rfl, ?_⟩;rcases HP.out with h | h
    ·exact .inl ⟨by rw [h.1]; exact h.2, h.1.symm, fun h2 => absurd (h.1.symm.trans h2) H9.out⟩
    ·exact .inr ⟨h.1, .inl ⟨H9.out, h.2⟩⟩
def ExpE (r : Int × Tk × Int) (k : Int) (w : World) (e : Ending) (w' : World) : Prop := Below w w w' ∧ ∃ k' t ng A l c ng' A' l' c' nx er, e = .returned (.tuple #[tkV k' t ng A l c ng' A' l' c', .int .i64 nx, .int .i64 er]) ∧
 NextP r w' k' t (.agg #[.bool ng, .slice A l c]) (.agg #[.bool ng', .slice A' l' c']) nx er ∧ (er = 0 → k' = k)
theorem ExpE.err {r : Int × Tk × Int} {k : Int} {w W : World} {er : Int} (h : r.1 = er ∧ er ≠ -1 ∨ r.1 = -1 ∧ er ≠ 8) (h0 : er ≠ 0) (hb : Below w w W) :
  ExpE r k w (.returned (.tuple #[.agg #[.int .u8 0, .string ⟨#[]⟩, .bool false, .slice none 0 0, .bool false, .slice none 0 0], .int .i64 0, .int .i64 er])) W := by
 refine ⟨hb, 0, ⟨#[]⟩, false, none, 0, 0, false, none, 0, 0, 0, er, rfl, ?_, fun h => absurd h h0⟩;rcases h with h | h
 ·exact .inl ⟨by rw [h.1]; exact h.2, h.1.symm, fun h2 => absurd (h.1.symm.trans h2) h0⟩
 ·exact .inr ⟨h.1, .inl ⟨h0, h.2⟩⟩
theorem NextP.e8 {r : Int × Tk × Int} {w : World} {k : Int} {t : ByteArray} {n1 n2 : Value} {nx er : Int} (h : NextP r w k t n1 n2 nx er) : (er = 8 ↔ r.1 = 8) ∧ (er = 0 → r.1 = 0 ∨ r.1 = -1) ∧ (er ≠ 0 → er ≠ 8 → r.1 = er ∧ er ≠ -1 ∨ r.1 = -1) := by
 rcases h with ⟨h1, h2, h3⟩ | ⟨h1, h2⟩
 ·subst h2;exact ⟨Iff.rfl, fun h => .inl h, fun _ _ => .inl ⟨rfl, h1⟩⟩
 ·refine ⟨⟨fun h => ?_, fun h => by rw [h1] at h; cases h⟩, fun _ => .inr h1, fun _ _ => .inr h1⟩;rcases h2 with h2 | h2
  ·exact absurd h h2.2
  ·rw [h2.1] at h; cases h
theorem xN (s : Bytes) (i k : Int) (w : World) (hs : SlOk s) (hi : -9223372036854775808 ≤ i ∧ i ≤ 9223372036854775807) (hl : s.length ≤ 1000000) :
  Calls Tryz.prog 121 #[.string (bstr s), .int .i64 i, .int .u8 k] w (ExpE (expT s i k) k w) := by
 have K1 := η fun W => fO s i W hs hi hl
 have HB0 := η ((Below.refl w w).alloc (νr _) (.cells #[.int .u8 0, .string ⟨#[]⟩, .bool false, .slice none 0 0, .bool false, .slice none 0 0] 87));have HT : Hid (expT s i k = if (nextT s i).1 = 8 then (4, .op, 0) else if (nextT s i).1 ≠ 0 then ((nextT s i).1, .op, 0) else if qI (nextT s i).2.1 ≠ k then (3, .op, 0) else nextT s i) := rfl;generalize hr : expT s i k = r at *;generalize hr0 : nextT s i = r0 at *;have HR := η hr;have HR0 := η hr0;clear hs hr hr0;generalize bstr s = z at *;go_enter Tryz.func121, Tryz.ntmps121;go_wp2_with fail;refine (K1.out _).mono ?_;rintro e w1 ⟨hb1, k', t, ng, A, l, c, ng', A', l', c', nx, er, rfl, hP⟩;unfold tkV;have HX1 := η ((Box.new w #[.int .u8 0, .string ⟨#[]⟩, .bool false, .slice none 0 0, .bool false, .slice none 0 0] 87).up hb1 (by simp));have HB1 := η (HB0.out.trans (hb1.mono (by simp)));have HP := η hP;clear hb1 HB0 K1 hP;obtain ⟨q0, s0, q1, s1, q2, s2, q3, s3, q4, s4, q5, s5⟩ := sqX6 HX1.out;go_upto_region 2 with fail
 obtain ⟨w2, hw2⟩ : ∃ W, W = w1.setCells (w) 0 [Value.int IntKind.u8 k', Value.string t, Value.bool ng, Value.slice A l c, Value.bool ng', Value.slice A' l' c'] := ⟨_, rfl⟩;rw [show ((((((w1.setCell ⟨w, 0, none⟩ (Value.int IntKind.u8 k')).setCell ⟨w, 1, none⟩ (Value.string t)).setCell ⟨w, 2, none⟩ (Value.bool ng)).setCell ⟨w, 3, none⟩ (Value.slice A l c)).setCell ⟨w, 4, none⟩ (Value.bool ng')).setCell ⟨w, 5, none⟩ (Value.slice A' l' c')) = w2 from hw2.symm];have HX2 : Hid (Box w2 (w) [Value.int IntKind.u8 k', Value.string t, Value.bool ng, Value.slice A l c, Value.bool ng', Value.slice A' l' c']) := by show Box _ _ _; rw [hw2]; exact HX1.out.sets rfl
 have HB2 : Hid (Below w w w2) := by show Below _ _ _; rw [hw2]; exact zI HB1.out (νr _) _ _
 have HP2 : Hid (NextP r0 w2 k' t (.agg #[.bool ng, .slice A l c]) (.agg #[.bool ng', .slice A' l' c']) nx er) := by
  show NextP _ _ _ _ _ _ _ _
  rw [hw2];exact HP.out.map fun v n hv => (hv.sets (vs' := [Value.int IntKind.u8 k', Value.string t, Value.bool ng, Value.slice A l c, Value.bool ng', Value.slice A' l' c']) HX1.out bQ (νr _)).more (by rw [zG]; exact νr _)
 clear hw2 HX1 HB1 HP q0 q1 q2 q3 q4 q5 s0 s1 s2 s3 s4 s5;obtain ⟨q0, s0, q1, s1, q2, s2, q3, s3, q4, s4, q5, s5⟩ := sqX6 HX2.out;have h8 := HP2.out.e8;by_cases e8 : er = 8
 ·have E : Hid (r.1 = 4) := by show _ = _; rw [HT.out, if_pos (h8.1.1 e8)]
  have b1 : (er == 8) = true := beq_iff_eq.2 e8;clear h8 e8;go_wp2_with fail;exact κr (v := .tuple #[.agg #[.int .u8 0, .string ⟨#[]⟩, .bool false, .slice none 0 0, .bool false, .slice none 0 0], .int .i64 0, .int .i64 4]) (by simp [results, Tryz.results121, go_sem, q0, q1, q2, q3, q4, q5]) rfl (ExpE.err (.inl ⟨E.out, by decide⟩) (by decide) (zI (b := w) HB2.out (νr _) [.int .u8 0, .string ⟨#[]⟩, .bool false, .slice none 0 0, .bool false, .slice none 0 0] 0))
 have b1 : (er == 8) = false := βf e8;by_cases e0 : er = 0
 ·subst e0;have T1 : Hid (r = if qI r0.2.1 ≠ k ∧ r0.1 = 0 then (3, .op, 0) else if r0.1 = 0 then r0 else (-1, .op, 0)) := by
   show _ = _
   rcases h8.2.1 rfl with h | h
   ·rw [HT.out, h, if_neg (by decide), if_neg (by decide)];by_cases h2 : qI r0.2.1 = k
    ·rw [if_neg (fun h3 => h3 h2), if_neg (fun h3 => h3.1 h2), if_pos rfl]
    ·rw [if_pos h2, if_pos ⟨h2, rfl⟩]
   ·rw [HT.out, h, if_neg (by decide), if_pos (by decide), if_neg (fun h3 => by cases h3.2), if_neg (by decide)]
  clear h8 b1 e8;by_cases hk : k' = k
  ·subst hk;have b2 : (k' == k') = true := beq_self_eq_true _;have HP3 : Hid (NextP r w2 k' t (.agg #[.bool ng, .slice A l c]) (.agg #[.bool ng', .slice A' l' c']) nx 0) := by
    show NextP _ _ _ _ _ _ _ _
    rcases HP2.out with ⟨g1, g2, g3⟩ | ⟨g1, g2⟩
    ·have := g3 g2.symm;rw [T1.out, if_neg (fun h => h.1 this.2.1.symm), if_pos g2.symm];exact .inl ⟨g1, g2, g3⟩
    ·rw [T1.out, if_neg (fun h => by rw [g1] at h; cases h.2), if_neg (by rw [g1]; decide)];exact .inr ⟨rfl, g2⟩
   go_wp2_with fail;have HF := η (zI (b := w) HB2.out (νr _) [Value.int IntKind.u8 k', Value.string t, Value.bool ng, Value.slice A l c, Value.bool ng', Value.slice A' l' c'] 0);refine κr (v := .tuple #[.agg #[Value.int IntKind.u8 k', Value.string t, Value.bool ng, Value.slice A l c, Value.bool ng', Value.slice A' l' c'], .int .i64 nx, .int .i64 0]) (by simp [results, Tryz.results121, go_sem, q0, q1, q2, q3, q4, q5]) rfl ⟨HF.out, k', t, ng, A, l, c, ng', A', l', c', nx, 0, rfl, ?_, fun _ => rfl⟩;exact HP3.out.map fun v n hv => (hv.sets (vs' := [Value.int IntKind.u8 k', Value.string t, Value.bool ng, Value.slice A l c, Value.bool ng', Value.slice A' l' c']) HX2.out bQ (νr _)).more (by simp)
  ·have b2 : (k' == k) = false := βf hk;have E : Hid (r.1 = 3 ∧ (3 : Int) ≠ -1 ∨ r.1 = -1 ∧ (3 : Int) ≠ 8) := by
    show _ ∨ _
    rcases HP2.out with ⟨g1, g2, g3⟩ | ⟨g1, g2⟩
    ·have := g3 g2.symm;left;rw [T1.out, if_pos ⟨by rw [← this.2.1]; exact hk, g2.symm⟩];exact ⟨rfl, by decide⟩
    ·right;rw [T1.out, if_neg (fun h => by rw [g1] at h; cases h.2), if_neg (by rw [g1]; decide)];exact ⟨rfl, by decide⟩
   clear hk;go_wp2_with fail;exact κr (v := .tuple #[.agg #[.int .u8 0, .string ⟨#[]⟩, .bool false, .slice none 0 0, .bool false, .slice none 0 0], .int .i64 0, .int .i64 3]) (by simp [results, Tryz.results121, go_sem, q0, q1, q2, q3, q4, q5]) rfl (ExpE.err E.out (by decide) (zI (b := w) HB2.out (νr _) [.int .u8 0, .string ⟨#[]⟩, .bool false, .slice none 0 0, .bool false, .slice none 0 0] 0))
 ·have b2 : (er == 0) = false := βf e0;have E : Hid (r.1 = er ∧ er ≠ -1 ∨ r.1 = -1 ∧ er ≠ 8) := by
   show _ ∨ _
   rcases h8.2.2 e0 e8 with h | h
   ·left;rw [HT.out, if_neg (by rw [h.1]; exact e8), if_pos (by rw [h.1]; exact e0)];exact h
   ·right;rw [HT.out, if_neg (by rw [h]; decide), if_pos (by rw [h]; decide)];exact ⟨h, e8⟩
  have H0 := η e0;clear h8 e8 e0;go_wp2_with fail;exact κr (v := .tuple #[.agg #[.int .u8 0, .string ⟨#[]⟩, .bool false, .slice none 0 0, .bool false, .slice none 0 0], .int .i64 0, .int .i64 er]) (by simp [results, Tryz.results121, go_sem, q0, q1, q2, q3, q4, q5]) rfl (ExpE.err E.out H0.out (zI (b := w) HB2.out (νr _) [.int .u8 0, .string ⟨#[]⟩, .bool false, .slice none 0 0, .bool false, .slice none 0 0] 0))
end Go.Proofs.YtkfhpefmmhljmaaGreatDoor
