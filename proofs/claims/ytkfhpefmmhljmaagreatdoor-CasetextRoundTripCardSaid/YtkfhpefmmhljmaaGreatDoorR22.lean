/- Texts in one: KnE, KnG. -/
import Derived.Test.YtkfhpefmmhljmaaGreatDoorR21
set_option linter.unusedVariables false
set_option linter.unusedSimpArgs false
set_option maxHeartbeats 16000000
set_option maxRecDepth 100000
namespace Go.Proofs.YtkfhpefmmhljmaaGreatDoor
open Go.RowKit
theorem mY (A D : Option Addr) (c d : Nat) (us vs : List Int) (w : World) (hu : WrdR w w A us) (hv : WrdR w w D vs) (hwu : Words us) (hwv : Words vs) (hn : 2 ≤ vs.length) (hul : us.length = vs.length + 1) (hvl : vs.length ≤ 1000000)
  (hf : 2147483648 ≤ vs.getD (vs.length - 1) 0) (hlt : wv us < wv vs * 4294967296) :
  Calls Tryz.prog 238 #[.slice A us.length c, .slice D vs.length d] w fun e w' => ∃ q, e = .returned (.int .u64 q) ∧ EstOk (wv us) (wv vs) q ∧ Below w w w' := by
 have HWN := η (zCf hwu hwv hn hul rfl hf hlt);obtain ⟨b, off, rfl, hb, hc⟩ := hu (by omega);obtain ⟨b2, off2, rfl, hb2, hc2⟩ := hv (by omega);obtain ⟨n, hnn⟩ : ∃ n, vs.length = n := ⟨_, rfl⟩;obtain ⟨n1, hn1⟩ : ∃ n1, n1 + 1 = n := ⟨n - 1, by omega⟩;obtain ⟨n2, hn2⟩ : ∃ n2, n2 + 2 = n := ⟨n - 2, by omega⟩;obtain ⟨nu, hnu⟩ : ∃ nu, us.length = nu := ⟨_, rfl⟩;have y1 : wV (us.getD n 0) = .int .u32 (us.getD n 0) := rfl;have f0 := hc n (by omega);have f1 := hc n1 (by omega);have f2 := hc n2 (by omega);have g1 := hc2 n1 (by omega);have g2 := hc2 n2 (by omega);have x0 := hwu.getD n;have x1 := hwu.getD n1;have x2 := hwu.getD n2;have z1 := hwv.getD n1;have z2 := hwv.getD n2;rw [hnn, show n - 1 = n1 by omega, show n - 2 = n2 by omega] at HWN;rw [hnn, hnu];have hvl' : n ≤ 1000000 := by omega
 have hnu' : nu = n + 1 := by omega
 generalize us.getD n 0 = u2 at *;generalize us.getD n1 0 = u1 at *;generalize us.getD n2 0 = u0 at *;generalize vs.getD n1 0 = f at *;generalize vs.getD n2 0 = s at *;clear hu hv hc hc2 hwu hwv hf hlt hul hn hvl hnn hnu y1;generalize wv us = U at *;generalize wv vs = V at *;have HZ := η (show (0 ≤ u2 ∧ u2 < 4294967296) ∧ (0 ≤ u1 ∧ u1 < 4294967296) ∧ (0 ≤ u0 ∧ u0 < 4294967296) ∧ (0 ≤ f ∧ f < 4294967296) ∧ (0 ≤ s ∧ s < 4294967296) from ⟨x0, x1, x2, z1, z2⟩);have w1 : IntKind.i64.wrap ((n : Int) - 1) = (n1 : Int) := by rw [IntWalk.i64_in _ (by omega)]; omega
 have w2 : IntKind.i64.wrap ((n : Int) - 2) = (n2 : Int) := by rw [IntWalk.i64_in _ (by omega)]; omega
 have i0 : (n : Int) < (nu : Int) := by omega
 have i1 : (n1 : Int) < (nu : Int) := by omega
 have i2 : (n2 : Int) < (nu : Int) := by omega
 have j1 : (n1 : Int) < (n : Int) := by omega
 have j2 : (n2 : Int) < (n : Int) := by omega
 have p0 : IntKind.u64.wrap u0 = u0 := κu _ (by omega);have p1 : IntKind.u64.wrap u1 = u1 := κu _ (by omega);have p2 : IntKind.u64.wrap u2 = u2 := κu _ (by omega);have p3 : IntKind.u64.wrap f = f := κu _ (by omega);have p4 : IntKind.u64.wrap s = s := κu _ (by omega);have p5 : IntKind.u64.wrap (u2 * 4294967296) = u2 * 4294967296 := κu _ (by omega);have p6 : bits .or .u64 (u2 * 4294967296) u1 = u2 * 4294967296 + u1 := by rw [fN u1 u2 x1 x0]; omega
 have htop : 0 ≤ u2 * 4294967296 + u1 ∧ u2 * 4294967296 + u1 < 18446744073709551616 := by omega
 have d0 : (f == 0) = false := βf (by have := HWN.out.f0; omega);have d1 : f ≠ 0 := by have := HWN.out.f0; omega
 clear x0 x1 x2 z1 z2 hn1 hn2 hnu' hvl';generalize u2 * 4294967296 + u1 = top at *;have hin := HWN.out.init;have HI := η hin.1;have HR := η hin.2;have p7 : IntKind.u64.wrap (top.tdiv f) = top / f := by rw [Int.tdiv_eq_ediv_of_nonneg htop.1]; exact κu _ (by have := HI.out.g0; have := HI.out.g1; omega)
 have p8 : IntKind.u64.wrap (top.tmod f) = top % f := by rw [Int.tmod_eq_emod_of_nonneg htop.1]; exact κu _ (by have := HI.out.r0; have := HR.out; have := HWN.out.f1; omega)
 have p9 : IntKind.u64.wrap (top / f) = top / f := κu _ (by have := HI.out.g0; have := HI.out.g1; omega);have p10 : IntKind.u64.wrap (top % f) = top % f := κu _ (by have := HI.out.r0; have := HR.out; have := HWN.out.f1; omega);have p11 : top.tdiv f = top / f := Int.tdiv_eq_ediv_of_nonneg htop.1;have p12 : top.tmod f = top % f := Int.tmod_eq_emod_of_nonneg htop.1;clear hin htop;go_enter Tryz.func238, Tryz.ntmps238;go_wp2_with fail;go_quiet (fail);go_wp2_with fail;go_quiet (fail);go_wp2_with fail;go_quiet (fail);go_wp2_with fail;go_loopg [9, 10] 4 (fun gl s9 s10 wr => ∃ g r : Int, s9 = .int .u64 g ∧ s10 = .int .u64 r ∧ EstI U V f top g r ∧ r < 4294967296 ∧ 4294967296 - r ≤ 2147483648 * gl ∧ Below w w wr)
 case atStart => exact ⟨top / f, top % f, rfl, rfl, HI.out, by have := HR.out; have := HWN.out.f1; omega, by have := HI.out.r0; omega, qM (qM (qM (Below.refl _ _) _) _) _⟩
 case round =>
  obtain ⟨g, r, rfl, rfl, hI, hr1, hme, hbl⟩ := hrel;have hg0 := hI.g0;have hg1 := hI.g1;have hr0 := hI.r0;have HIN := η hI;have HB := η hbl;have hw := HWN.out;have hz := HZ.out;have F2 := (hbl.cell (p := ⟨b, off + n2, none⟩) hb).trans f2;have hff := hw.f0;have hff1 := hw.f1;clear hI hbl f0 f1 f2 g1 g2 p7 p8 p9 p10 p11 p12 w1 p1 p2 p3 p4 p5 p6 HI HR d0 d1 i0 i1 j1 j2;have q1 : IntKind.u64.wrap (r + f) = r + f := κu _ (by omega);by_cases hB : 4294967296 ≤ g
  ·obtain ⟨k1, k2, k3⟩ := hw.more HIN.out (.inl hB);have KI := η k1;have KG := η k2;have e1 : (g / 4294967296 == 0) = false := βf (by omega);have e2 : (g / 4294967296 != 0) = true := βt (by omega);have q2 : IntKind.u64.wrap (g - 1) = g - 1 := κu _ (by omega);by_cases hrB : 4294967296 ≤ r + f
   ·have e3 : ((r + f) / 4294967296 == 0) = false := βf (by omega);have e4 : ((r + f) / 4294967296 != 0) = true := βt (by omega);have HE := η (hw.over k1 k2 hrB);clear hw hz k1 k2 k3 hg0 hg1 hr0 hr1 hme hff hff1 hB hrB;go_wp2_with fail;go_ret;exact ⟨_, rfl, HE.out, HB.out⟩
   ·have e3 : ((r + f) / 4294967296 == 0) = true := beq_iff_eq.2 (by omega);have e4 : ((r + f) / 4294967296 != 0) = false := by rw [bne, e3]; rfl
    have HM := η (show r + f < 4294967296 ∧ 4294967296 - (r + f) ≤ 2147483648 * (gk - 1 : Int) by omega);have HGK : Hid (0 < gk) := show 0 < gk by omega
    clear hw hz k1 k2 k3 hg0 hg1 hr0 hr1 hme hff hff1 hB hrB;go_wp2_with fail;go_roundg (gk - 1)
    case measure => have := HGK.out; omega
    case rel => exact ⟨g - 1, r + f, rfl, rfl, KI.out, HM.out.1, by have := HM.out.2; have := HGK.out; omega, HB.out⟩
  ·have e1 : (g / 4294967296 == 0) = true := beq_iff_eq.2 (by omega);have e2 : (g / 4294967296 != 0) = false := by rw [bne, e1]; rfl
   have hm := gW (y := g) (g := s) (c := 0) (by omega) (by omega) (by omega);have m1 : IntKind.u64.wrap (g * s) = g * s := κu _ (by omega);have m2 : IntKind.u64.wrap (r * 4294967296) = r * 4294967296 := κu _ (by omega);have m3 : bits .or .u64 (r * 4294967296) u0 = r * 4294967296 + u0 := by rw [fN u0 r (by omega) (by omega)]; omega
   clear hm;by_cases hgt : r * 4294967296 + u0 < g * s
   ·obtain ⟨k1, k2, k3⟩ := hw.more HIN.out (.inr hgt);have KI := η k1;have KG := η k2;have e5 : decide (r * 4294967296 + u0 < g * s) = true := κt hgt;have q2 : IntKind.u64.wrap (g - 1) = g - 1 := κu _ (by omega);by_cases hrB : 4294967296 ≤ r + f
    ·have e3 : ((r + f) / 4294967296 == 0) = false := βf (by omega);have e4 : ((r + f) / 4294967296 != 0) = true := βt (by omega);have HE := η (hw.over k1 k2 hrB);clear hw hz k1 k2 k3 hg0 hg1 hr0 hr1 hme hff hff1 hB hrB hgt;go_wp2_with fail;go_ret;exact ⟨_, rfl, HE.out, HB.out⟩
    ·have e3 : ((r + f) / 4294967296 == 0) = true := beq_iff_eq.2 (by omega);have e4 : ((r + f) / 4294967296 != 0) = false := by rw [bne, e3]; rfl
     have HM := η (show r + f < 4294967296 ∧ 4294967296 - (r + f) ≤ 2147483648 * (gk - 1 : Int) by omega);have HGK : Hid (0 < gk) := show 0 < gk by omega
     clear hw hz k1 k2 k3 hg0 hg1 hr0 hr1 hme hff hff1 hB hrB hgt;go_wp2_with fail;go_roundg (gk - 1)
     case measure => have := HGK.out; omega
     case rel => exact ⟨g - 1, r + f, rfl, rfl, KI.out, HM.out.1, by have := HM.out.2; have := HGK.out; omega, HB.out⟩
   ·have e5 : decide (r * 4294967296 + u0 < g * s) = false := κf hgt;have HE := η (hw.stop HIN.out (by omega) (by omega));clear hw hz hg0 hg1 hr0 hr1 hme hff hff1 hB hgt;go_wp2_with fail;go_ret;exact ⟨_, rfl, HE.out, HB.out⟩
theorem tY : ∀ (f x : Nat), 0 < x → x < 2 ^ f → f ≤ 64 → 2 ^ (Lib.bitLen x - 1) ≤ x ∧ x < 2 ^ Lib.bitLen x ∧ 1 ≤ Lib.bitLen x ∧ Lib.bitLen x ≤ f
 | 0, x, h0, h1, _ => by simp at h1; omega
 | f + 1, x, h0, h1, hf => by
  have h64 : x < 2 ^ 64 := νl h1 (Nat.pow_le_pow_right (by decide) hf);have e := Lib.bitLen_half x (by omega) h64;by_cases hx : x / 2 = 0
  ·have e0 : Lib.bitLen (x / 2) = 0 := by rw [hx]; rfl
   rw [e0] at e;rw [e];have : x = 1 := by omega
   subst this;exact ⟨by decide, by decide, by decide, by omega⟩
  ·obtain ⟨a, b, c, d⟩ := tY f (x / 2) (by omega) (by rw [Nat.pow_succ] at h1; omega) (by omega);rw [e];generalize Lib.bitLen (x / 2) = n at *;obtain ⟨m, rfl⟩ : ∃ m, n = m + 1 := ⟨n - 1, by omega⟩;rw [show 1 + (m + 1) - 1 = m + 1 by omega, show 1 + (m + 1) = (m + 1) + 1 by omega];rw [show m + 1 - 1 = m by omega] at a;simp only [Nat.pow_succ] at *;omega
theorem sV {x : Int} (h0 : 0 < x) (h1 : x < 4294967296) : ∃ s : Nat, s ≤ 31 ∧ (32 : Int) - (Lib.bitLen x.toNat : Int) = (s : Int) ∧ 2147483648 ≤ x * 2 ^ s ∧ x * 2 ^ s < 4294967296 := by
 obtain ⟨n, rfl⟩ : ∃ n : Nat, x = n := ⟨x.toNat, by omega⟩;obtain ⟨a, b, c, d⟩ := tY 32 n (by omega) (by omega) (by decide);rw [Int.toNat_natCast];generalize Lib.bitLen n = m at *;refine ⟨32 - m, by omega, by omega, ?_, ?_⟩
 ·have e : (2 : Nat) ^ (m - 1) * 2 ^ (32 - m) = 2147483648 := by rw [← Nat.pow_add, show m - 1 + (32 - m) = 31 by omega]
  have h : 2 ^ (m - 1) * 2 ^ (32 - m) ≤ n * 2 ^ (32 - m) := Nat.mul_le_mul_right _ a;rw [e] at h;have : ((2147483648 : Nat) : Int) ≤ ((n * 2 ^ (32 - m) : Nat) : Int) := by omega
  rw [Int.natCast_mul, Int.natCast_pow] at this;exact this
 ·have e : (2 : Nat) ^ m * 2 ^ (32 - m) = 4294967296 := by rw [← Nat.pow_add, show m + (32 - m) = 32 by omega]
  have h : n * 2 ^ (32 - m) < 2 ^ m * 2 ^ (32 - m) := Nat.mul_lt_mul_of_pos_right b (Nat.pow_pos (by decide));rw [e] at h;have : ((n * 2 ^ (32 - m) : Nat) : Int) < ((4294967296 : Nat) : Int) := by omega
  rw [Int.natCast_mul, Int.natCast_pow] at this;exact this
theorem mA (d : Int) : ∀ (l : List Int) (i : Nat), i + 1 < l.length → (shrL d l).getD i 0 = (l.getD i 0 + 4294967296 * l.getD (i + 1) 0) / d % 4294967296
 | [], i, h => by simp at h
 | [_], i, h => by simp at h
 | x :: y :: l, 0, h => rfl
 | x :: y :: l, i + 1, h => by
  rw [shrL, List.getD_cons_succ, List.getD_cons_succ, List.getD_cons_succ];exact mA d (y :: l) i (by simpa using h)
theorem bX {l : List Int} (hw : Words l) (n : Nat) : wv (l.take n) ≤ wv l := by
 have h := jD (l.take n) (l.drop n);rw [List.take_append_drop] at h;have := Int.mul_nonneg (Int.le_of_lt (bp (l.take n).length)) (zS (hw.drop n));omega
theorem rJ (f : Int) : ∀ (l : List Int) (c : Int), (scL f c l).length = l.length + 1 := yY f
theorem yR {l : List Int} {i n : Nat} (h : i < n) : (l.take n).getD i 0 = l.getD i 0 := by
 rw [κd, List.getElem?_take_of_lt h, κd]
theorem tM {bs : List Int} {s : Nat} (hw : Words bs) (hn : 1 ≤ bs.length) (hs : s ≤ 31) (h0 : 2147483648 ≤ bs.getD (bs.length - 1) 0 * 2 ^ s) (h1 : bs.getD (bs.length - 1) 0 * 2 ^ s < 4294967296) :
  ∃ vs, (scL (2 ^ s) 0 bs).take bs.length = vs ∧ vs.length = bs.length ∧ Words vs ∧ wv vs = wv bs * 2 ^ s ∧ 2147483648 ≤ vs.getD (vs.length - 1) 0 := by
 obtain ⟨p1, p2, _⟩ := dZ hs;obtain ⟨hW, hV⟩ := nH (2 ^ s) (by omega) (by omega) bs 0 hw (by decide) (by decide);obtain ⟨m, hm⟩ : ∃ m, bs.length = m + 1 := ⟨bs.length - 1, by omega⟩;have hl := rJ (2 ^ s) bs 0;have htop : wv bs = wv (bs.take m) + 4294967296 ^ m * bs.getD m 0 := by
  rw [← xG (by omega), κy (by omega)]
 have hlow := wv_lt (hw.take m);rw [κk, Nat.min_eq_left (by omega)] at hlow;have hlow0 := zS (hw.take m);rw [hm, Nat.add_sub_cancel] at h0 h1;have hP := bp m;have hlt : wv bs * 2 ^ s < 4294967296 ^ (m + 1) := by
  rw [htop, Int.pow_succ];have a : (wv (bs.take m) + 1) * 2 ^ s ≤ 4294967296 ^ m * 2 ^ s := Int.mul_le_mul_of_nonneg_right (by omega) (by omega);have hd : ∃ k : Int, 2 ^ s * k = 4294967296 := (dZ hs).2.2;obtain ⟨k, hk⟩ := hd;have hk0 : 0 < k := by
   rcases Int.lt_or_le 0 k with h | h
   ·exact h
   ·have := Int.mul_nonpos_of_nonneg_of_nonpos (a := 2 ^ s) (by omega) h; omega
  have b : bs.getD m 0 * 2 ^ s + 2 ^ s ≤ 4294967296 := by
   have h3 : bs.getD m 0 < k := by
    rcases Int.lt_or_le (bs.getD m 0) k with h | h
    ·exact h
    ·have := Int.mul_le_mul_of_nonneg_right h (show (0 : Int) ≤ 2 ^ s by omega);rw [Int.mul_comm k, hk] at this; omega
   have := Int.mul_le_mul_of_nonneg_right (show bs.getD m 0 + 1 ≤ k by omega) (show (0 : Int) ≤ 2 ^ s by omega);rw [Int.mul_comm k, hk, Int.add_mul, Int.one_mul] at this;exact this
  have c : 4294967296 ^ m * (bs.getD m 0 * 2 ^ s + 2 ^ s) ≤ 4294967296 ^ m * 4294967296 := Int.mul_le_mul_of_nonneg_left b (by omega);generalize (4294967296 : Int) ^ m = P at *;generalize (2 : Int) ^ s = f at *;generalize bs.getD m 0 = t at *;generalize wv (bs.take m) = u at *;have e1 : (u + P * t) * f = u * f + P * (t * f) := by grind
  have e2 : (u + 1) * f = u * f + f := by grind
  have e3 : P * (t * f + f) = P * (t * f) + P * f := by grind
  omega
 refine ⟨_, rfl, by rw [κk, hl]; omega, hW.take _, ?_, ?_⟩
 ·have h2 := qT (scL (2 ^ s) 0 bs) bs.length;rw [κy (by omega), hV, Int.add_zero] at h2;have h3 := hW.getD bs.length;have h4 := zS (hW.take bs.length);rcases Int.lt_or_le 0 ((scL (2 ^ s) 0 bs).getD bs.length 0) with h | h
  ·exfalso;have h5 : (4294967296 : Int) ^ bs.length * 1 ≤ 4294967296 ^ bs.length * (scL (2 ^ s) 0 bs).getD bs.length 0 := Int.mul_le_mul_of_nonneg_left (by omega) (Int.le_of_lt (bp _));rw [hm] at h5 h2 h4;omega
  ·have : (scL (2 ^ s) 0 bs).getD bs.length 0 = 0 := by omega
   rw [this, Int.mul_zero, Int.add_zero] at h2;exact h2.symm
 ·have h2 := qT (scL (2 ^ s) 0 bs) bs.length;have h3 := qT (scL (2 ^ s) 0 bs) m;rw [κy (by omega), hV, Int.add_zero] at h2;rw [κk, hl, Nat.min_eq_left (by omega), yR (by omega), hm, Nat.add_sub_cancel];rw [hm] at h2;have h4 := wv_lt (hW.take m);rw [κk, hl, Nat.min_eq_left (by omega)] at h4;have h6 := (hW.getD (m + 1)).1;have hz : (scL (2 ^ s) 0 bs).getD (m + 1) 0 = 0 := by
   rcases Int.lt_or_le 0 ((scL (2 ^ s) 0 bs).getD (m + 1) 0) with h | h
   ·exfalso;have h5 : (4294967296 : Int) ^ (m + 1) * 1 ≤ 4294967296 ^ (m + 1) * (scL (2 ^ s) 0 bs).getD (m + 1) 0 := Int.mul_le_mul_of_nonneg_left (by omega) (Int.le_of_lt (bp _));have h7 := zS (hW.take (m + 1));omega
   ·omega
  rw [hz, Int.mul_zero, Int.add_zero, h3, htop] at h2;rcases Int.lt_or_le ((scL (2 ^ s) 0 bs).getD m 0) 2147483648 with h | h
  ·exfalso;have h8 : 4294967296 ^ m * ((scL (2 ^ s) 0 bs).getD m 0 + 1) ≤ 4294967296 ^ m * (bs.getD m 0 * 2 ^ s) := Int.mul_le_mul_of_nonneg_left (by omega) (by omega);have h9 : 0 ≤ wv (bs.take m) * 2 ^ s := Int.mul_nonneg hlow0 (by omega);generalize (4294967296 : Int) ^ m = P at *;generalize (2 : Int) ^ s = f at *;generalize bs.getD m 0 = t at *;generalize wv (bs.take m) = u at *;have e1 : (u + P * t) * f = u * f + P * (t * f) := by grind
   rw [Int.mul_add, Int.mul_one] at h8;omega
  ·exact h
end Go.Proofs.YtkfhpefmmhljmaaGreatDoor
