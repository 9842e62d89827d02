/- Texts in one: KnI, KnJ. -/
import Derived.Test.YtkfhpefmmhljmaaGreatDoorR23
import Derived.Test.YtkfhpefmmhljmaaGreatDoorR24
set_option linter.unusedVariables false
set_option linter.unusedSimpArgs false
set_option maxHeartbeats 16000000
set_option maxRecDepth 100000
namespace Go.Proofs.YtkfhpefmmhljmaaGreatDoor
open Go.RowKit
theorem zCa {xs ys : List Int} (h : cmpW xs ys < 0) : xs.length ≤ ys.length := by
 unfold cmpW at h;split at h
 ·omega
 ·split at h
  ·omega
  ·exact absurd h (by decide)
theorem tK (b : Bool) (A : Option Addr) (l c : Nat) (w : World) : (Instr.field 83 (.agg #[.bool b, .slice A l c]) 1).run Tryz.prog w = .ok (.slice A l c) w := by kernel_rfl
theorem iI {ws : List Int} (hw : Words ws) (ht : trimL ws = ws) (h : wv ws < 18446744073709551616) : ws.length ≤ 2 := by
 rcases Nat.lt_or_ge 2 ws.length with h2 | h2
 ·have := wP hw ht h2; omega
 ·exact h2
theorem oU (A D : Option Addr) (c d : Nat) (xs bs : List Int) (w : World) (ha : WrdR w w A xs) (hb : WrdR w w D bs) (hwa : Words xs) (hwb : Words bs) (ht : trimL bs = bs) (hn : bs ≠ []) (hm : xs.length ≤ 900000) (hm2 : bs.length ≤ 900000) :
  Calls Tryz.prog 224 #[.slice A xs.length c, .slice D bs.length d] w (RestE bs w) := by
 have KC := η (kY A D c d xs bs w ha hb (by omega) (by omega));have hpos := eK hwb ht hn;by_cases hc : cmpW xs bs < 0
 ·have hlt := zBz hwa hwb ht hc;have hle := zCa hc;have HF := η (show wv xs < wv bs ∧ xs.length ≤ bs.length + 2 from ⟨hlt, by omega⟩);have HA := η ha;clear ha hb hwb hlt hle hpos ht hn;generalize cmpW xs bs = cr at *;go_enter Tryz.func224, Tryz.ntmps224;go_wp2_with fail;refine KC.out.mono ?_;rintro e w1 ⟨rfl, hb1⟩;have KL := η (vG A c xs w1 (HA.out.upto hb1) (by omega));have HB1 := η hb1;clear hb1 KC HA;go_wp2_with fail;refine KL.out.mono ?_;rintro e w2 ⟨v, rfl, hr, hb2⟩;obtain ⟨A2, c2, rfl, hc2⟩ := zQ hr;have HR := η (nM hr);have HB2 := βT HB1 hb2;clear hb2 hr KL HB1;go_wp2_with fail;refine κr (v := .tuple #[.slice none 0 0, .slice A2 xs.length c2]) (by simp [results, Tryz.results224, go_sem]) rfl ⟨_, A2, c2, xs, rfl, HR.out, hc2, HF.out.2, hwa, HF.out.1, HB2.out⟩
 have hge := wB hc;have hcn : ¬ cmpW xs bs < 0 := hc;have HA := η ha;have HD := η hb;clear ha hb;generalize cmpW xs bs = cr at *;by_cases h2 : xs.length ≤ 2
 ·have w2 : (xs.length : Int) ≤ 2 := by omega
  have hx1 := yB hwa h2;have hy1 := yB hwb (by omega);have hx0 := zS hwa;have KA := η fun W (hW : Below w w W) => gX A c xs W (HA.out.upto hW) h2 hwa
  have KB := η fun W (hW : Below w w W) => gX D d bs W (HD.out.upto hW) (by omega) hwb
  obtain ⟨x, hx⟩ : ∃ x, wv xs = x := ⟨_, rfl⟩;obtain ⟨y, hy⟩ : ∃ y, wv bs = y := ⟨_, rfl⟩;rw [hx] at KA hx0 hx1;rw [hy] at KB hy1 hpos;have HY : Hid (wv bs = y) := hy;have d0 : (y == 0) = false := βf (by omega);have d1 : y ≠ 0 := by omega
  have hq : 0 ≤ x / y ∧ x / y < 18446744073709551616 := ⟨Int.ediv_nonneg hx0 (by omega), Int.lt_of_le_of_lt (Int.ediv_le_self _ hx0) hx1⟩;have hr : 0 ≤ x % y ∧ x % y < y := ⟨Int.emod_nonneg _ d1, Int.emod_lt_of_pos _ hpos⟩;have p4 : x.tdiv y = x / y := Int.tdiv_eq_ediv_of_nonneg hx0;have p5 : x.tmod y = x % y := Int.tmod_eq_emod_of_nonneg hx0;have p6 : IntKind.u64.wrap (x / y) = x / y := κu _ (by omega);have p7 : IntKind.u64.wrap (x % y) = x % y := κu _ (by omega);have HQ := η hq;have HM := η (show 0 ≤ x % y ∧ x % y < y ∧ x % y < 18446744073709551616 by omega);obtain ⟨q, hqq⟩ : ∃ q, x / y = q := ⟨_, rfl⟩;obtain ⟨r, hrr⟩ : ∃ r, x % y = r := ⟨_, rfl⟩;rw [hqq] at p4 p6 HQ;rw [hrr] at p5 p7 HM;clear hx hy hq hr hqq hrr hx0 hx1 hy1 hpos HA HD ht hn;go_enter Tryz.func224, Tryz.ntmps224;go_wp2_with fail;refine KC.out.mono ?_;rintro e w1 ⟨rfl, hb1⟩;have HB1 := η hb1;clear hb1 KC;go_wp2_with fail;refine (KA.out _ HB1.out).mono ?_;rintro e w2' ⟨rfl, hb2⟩;have HB2 := βT HB1 hb2;clear hb2 HB1 KA;go_wp2_with fail;refine (KB.out _ HB2.out).mono ?_;rintro e w3 ⟨rfl, hb3⟩;have HB3 := βT HB2 hb3;clear hb3 HB2 KB;go_wp2_with fail;refine jF (X := (Bool × Option Addr × Nat × Nat) × (Bool × Option Addr × Nat × Nat)) (w0 := w3) [3, 8] (fun jq => [0, 0, 0, 1, 1, 0, 0, 0, 2, 2, 2, 2].getD jq 0) (fun _ => 2) (fun _ z jq => (match jq with | 0 => .int .u64 x | 1 => .int .u64 y | 2 => .int .u64 q | 3 => .agg #[.bool z.1.1, .slice z.1.2.1 z.1.2.2.1 z.1.2.2.2] | 4 => .slice z.1.2.1 z.1.2.2.1 z.1.2.2.2 | 5 => .int .u64 x | 6 => .int .u64 y | 7 => .int .u64 r | 8 => .agg #[.bool z.2.1, .slice z.2.2.1 z.2.2.2.1 z.2.2.2.2] | 9 => .slice z.2.2.1 z.2.2.2.1 z.2.2.2.2 | 10 => .slice z.1.2.1 z.1.2.2.1 z.1.2.2.2 | 11 => .slice z.2.2.1 z.2.2.2.1 z.2.2.2.2 | _ => undef)) (fun t z W => match t with
   | 0 => Below w3 w3 W
   | 1 => Below w3 w3 W
   | _ => Below w3 w3 W ∧ ∃ ws : List Int, ws.length = z.2.2.2.1 ∧ ws.length ≤ z.2.2.2.2 ∧ WrdR W W z.2.2.1 ws ∧ Words ws ∧ trimL ws = ws ∧ wv ws = r) ((false, none, 0, 0), (false, none, 0, 0)) (by kernel_rfl) (by kernel_rfl) (by kernel_rfl) (Below.refl _ _).drew ?_ ?_ ?_
  ·intro iq oq ho hnc aq W t z hI htl hcl hub hdep hrest hgd;have hdep := @sqD _ _ _ hdep;have hc := sqC aq;rcases iq with _|_|_|_|_|_|_|_|_|_|_|_|iq
   ·cases ho; refine sqJ ?_; simp [go_sem, hc, hrest 6 (by kernel_rfl)]
   ·cases ho; refine sqJ ?_; simp [go_sem, hc, hrest 7 (by kernel_rfl)]
   ·cases ho; refine sqJ ?_; simp [go_sem, hc, hdep ⟨0, .data⟩, hdep ⟨1, .data⟩, d0, d1, p4, p6]
   ·exact absurd rfl (hnc 0 (by decide))
   ·cases ho; refine sqJ ?_; simp [go_sem, hc, hdep ⟨3, .data⟩, tK]
   ·cases ho; refine sqJ ?_; simp [go_sem, hc, hrest 6 (by kernel_rfl)]
   ·cases ho; refine sqJ ?_; simp [go_sem, hc, hrest 7 (by kernel_rfl)]
   ·cases ho; refine sqJ ?_; simp [go_sem, hc, hdep ⟨5, .data⟩, hdep ⟨6, .data⟩, d0, d1, p5, p7]
   ·exact absurd rfl (hnc 1 (by decide))
   ·cases ho; refine sqJ ?_; simp [go_sem, hc, hdep ⟨8, .data⟩, tK]
   ·cases ho; refine sqJ ?_; simp [go_sem, hc, hdep ⟨4, .data⟩]
   ·cases ho; refine sqJ ?_; simp [go_sem, hc, hdep ⟨9, .data⟩]
   ·simp at ho
  ·intro k oq hk ho aq W z hI hdep hrest;have hdep := @sqD _ _ _ hdep;have hc := sqC aq;have hfn := sqF aq;rcases k with _ | _ | k
   ·cases ho;have e2 := hdep ⟨2, .data⟩;clear hdep hrest;have hI' : Below w3 w3 W := hI;refine ⟨by simp [Region.wanted], fun K Q hK => ?_⟩;refine zV (R := fun v w2 => NumR w2 w2 v q ∧ Below W W w2) (f := 207) (args := #[.bool false, .int .u64 q]) (w' := W) (by simp [go_sem, e2, hc, hfn]) ((vT false q W HQ.out.1 HQ.out.2).mono fun e w2 ⟨v, he, hr, hb⟩ => ⟨v, he, hr, hb⟩) ?_;rintro v w2 ⟨⟨ng, A1, ws, c1, rfl, _⟩, hbw⟩;exact hK _ w2 ((ng, A1, ws.length, c1), z.2) (hI'.trans (hbw.mono hI'.size)) (fun d hd => rfl) (fun j hj hc => by rcases j with _ | _ | _ | _ | _ | _ | _ | _ | _ | _ | _ | _ | j <;> first | rfl | exact absurd hc (by decide))
   ·cases ho;have e2 := hdep ⟨7, .data⟩;clear hdep hrest;have hI' : Below w3 w3 W := hI;refine ⟨by simp [Region.wanted], fun K Q hK => ?_⟩;refine zV (R := fun v w2 => NumR w2 w2 v r ∧ Below W W w2) (f := 207) (args := #[.bool false, .int .u64 r]) (w' := W) (by simp [go_sem, e2, hc, hfn]) ((vT false r W HM.out.1 HM.out.2.2).mono fun e w2 ⟨v, he, hr, hb⟩ => ⟨v, he, hr, hb⟩) ?_;rintro v w2 ⟨⟨ng, A1, ws, c1, rfl, h1, _, h3, h4, h5, h6, h7⟩, hbw⟩;have h8 : wv ws = r := by
     cases ng with
     | false => exact h7.symm
     | true =>
      have hp := zS h4;have h9 : r = - wv ws := h7;have := HM.out.1;omega
    exact hK _ w2 (z.1, (ng, A1, ws.length, c1)) ⟨hI'.trans (hbw.mono hI'.size), ws, rfl, h1, h3, h4, h5, h8⟩ (fun d hd => rfl) (fun j hj hc => by rcases j with _ | _ | _ | _ | _ | _ | _ | _ | _ | _ | _ | _ | j <;> first | rfl | exact absurd hc (by decide))
   ·exact absurd hk (by simp)
  rintro ⟨⟨g1, A1, l1, c1⟩, ⟨g2, A2, l2, c2⟩⟩ wx hI;simp only [qH, Act.put, σi, σo, σs, Nat.reduceAdd];obtain ⟨hI1, ws, rfl, h1, h3, h4, h5, h8⟩ : Below w3 w3 wx ∧ ∃ ws : List Int, ws.length = l2 ∧ ws.length ≤ c2 ∧ WrdR wx wx A2 ws ∧ Words ws ∧ trimL ws = ws ∧ wv ws = r := hI;have HI := η (show WrdR wx wx A2 ws ∧ ws.length ≤ bs.length + 2 ∧ Words ws ∧ wv ws < wv bs ∧ Below w w wx from ⟨h3, by have := iI h4 h5 (show wv ws < 18446744073709551616 by rw [h8]; exact HM.out.2.2); omega, h4, by rw [h8, HY.out]; exact HM.out.2.1, HB3.out.trans (hI1.mono HB3.out.size)⟩);clear hI1 h3 h4 h5 h8 HB3 HQ HM HY p4 p5 p6 p7 d0 d1;go_wp2_with fail;refine κr (v := .tuple #[.slice A1 l1 c1, .slice A2 ws.length c2]) (by simp [results, Tryz.results224, go_sem]) rfl ⟨_, A2, c2, ws, rfl, HI.out.1, h1, HI.out.2.1, HI.out.2.2.1, HI.out.2.2.2.1, HI.out.2.2.2.2⟩
 have w2 : ¬ (xs.length : Int) ≤ 2 := by omega
 by_cases h1 : bs.length = 1
 ·obtain ⟨y, rfl⟩ : ∃ y, bs = [y] := List.length_eq_one_iff.1 h1;have hy := hwb y (by simp);have hy0 : 0 < y := by simpa [wv] using hpos
  obtain ⟨b, off, rfl, hbl, hcc⟩ := HD.out (by simp);have f0 := hcc 0 (by simp);rw [κz] at f0;have f0 : w.cell? ⟨b, off, none⟩ = some (.int .u32 y) := f0;have p1 : IntKind.u64.wrap y = y := κu _ (by omega);have HYB := η (show 0 < y ∧ y < 4294967296 by omega);have HWA := η hwa;clear hcc hpos hy hy0 ht hn hwb hwa HD;go_enter Tryz.func224, Tryz.ntmps224;go_wp2_with fail;refine KC.out.mono ?_;rintro e w1 ⟨rfl, hb1⟩;have KL := η (vG A c xs w1 (HA.out.upto hb1) (by omega));have f1 := (hb1.cell (p := ⟨b, off, none⟩) hbl).trans f0;have hbl1 : b < w1 := νl hbl hb1.size;have HB1 := η hb1;clear hb1 KC HA f0;go_wp2_with fail;refine KL.out.mono ?_;rintro e w2 ⟨v, rfl, hr, hb2⟩;obtain ⟨m, hm3⟩ : ∃ m, xs.length = m + 1 := ⟨xs.length - 1, by omega⟩;rw [hm3] at hr;obtain ⟨g, c2, rfl, hc2, hg1, hg2⟩ := pB hr;have f2 := (hb2.cell (p := ⟨b, off, none⟩) hbl1).trans f1;have HB2 := βT HB1 hb2;have KS := η (mB w1 g c2 xs y w2 (by rw [hm3]; exact hr) hg1 HWA.out HYB.out (by omega));have HW1 := HB1.out.size;have hW2 := hb2.size;rw [hm3] at KS;clear hb2 hr KL HB1 f1;go_wp2_with fail;refine KS.out.mono ?_;rintro e w3 ⟨r, l', rfl, hr0, hr1, hl', hw', hrow, hb3⟩;have p2 : IntKind.u32.wrap r = r := IntWalk.u32_in _ (by have := HYB.out; omega);have HB3 := η (HB2.out.trans (hb3.mono HW1));have HRR := η (show 0 ≤ r ∧ r < y from ⟨hr0, hr1⟩);clear hb3 hrow hw' hr0 hr1 KS HB2;go_wp2_with fail;refine κr (v := .tuple #[.slice (some ⟨g, 0, none⟩) (m + 1) c2, .slice (some ⟨w3, 0, none⟩) 1 1]) (by simp [results, Tryz.results224, go_sem]) rfl ⟨_, some ⟨w3, 0, none⟩, 1, [r], rfl, ?_, by simp, by simp, fun z hz => by simp at hz; subst hz; have := HRR.out; have := HYB.out; omega, by simp [wv]; exact HRR.out.2, HB3.out.alloc HB3.out.size _⟩;have := WrdR.lit w3 192 [r] #[.int .u32 r] rfl;simpa using this
 have w1 : ((bs.length : Int) == 1) = false := βf (by omega);have w3 : ¬ (bs.length : Int) = 1 := by omega
 have hb0 : bs.length ≠ 0 := fun h => hn (List.length_eq_zero_iff.1 h)
 have KL := η fun W (hW : Below w w W) => nT A D c d xs bs W (HA.out.upto hW) (HD.out.upto hW) hwa hwb ht (by omega) hge hm
 clear HA HD hwa hwb ht hpos hn;go_enter Tryz.func224, Tryz.ntmps224;go_wp2_with fail;refine KC.out.mono ?_;rintro e w1 ⟨rfl, hb1⟩;have KL1 := η (KL.out w1 hb1);have HB1 := η hb1;clear hb1 KC KL;go_wp2_with fail;refine KL1.out.mono ?_;rintro e w2 ⟨q, A2, c2, rs, rfl, h1, h2, h3, h4, h5, h6⟩;have HI := η (show WrdR w2 w2 A2 rs ∧ rs.length ≤ c2 ∧ rs.length ≤ bs.length + 2 ∧ Words rs ∧ wv rs < wv bs ∧ Below w w w2 from ⟨h1, h2, h3, h4, h5, HB1.out.trans (h6.mono HB1.out.size)⟩);clear h1 h2 h3 h4 h5 h6 HB1 KL1;go_wp2_with fail;refine κr (v := .tuple #[q, .slice A2 rs.length c2]) (by simp [results, Tryz.results224, go_sem]) rfl ⟨_, A2, c2, rs, rfl, HI.out⟩
def SomeN (w : World) (e : Ending) (w' : World) : Prop := ∃ n, NumE w n e w'
theorem zBs (n1 n2 : Bool) (A D : Option Addr) (c d : Nat) (xs ys : List Int) (w : World) (hx : WrdR w w A xs) (hy : WrdR w w D ys) (hwx : Words xs) (hwy : Words ys) (hty : trimL ys = ys) (htx : trimL xs = xs) (hlx : xs.length ≤ 900000) (hly : ys.length ≤ 900000) (hcx : xs.length ≤ c) (hcy : ys.length ≤ d) :
  Calls Tryz.prog 201 #[.agg #[.bool n1, .slice A xs.length c], .agg #[.bool n2, .slice D ys.length d]] w (SomeN w) := by
 have HA : Hid (Box (((w.alloc (.cells #[.bool n1, .slice A xs.length c] 83)).alloc (.cells #[.bool n2, .slice D ys.length d] 83)).alloc (.cells #[.bool false, .slice none 0 0] 83)) w [.bool n1, .slice A xs.length c]) := ((Box.new w #[.bool n1, .slice A xs.length c] 83).alloc (by simp) _).alloc (by simp; omega) _;have HB : Hid (Box (((w.alloc (.cells #[.bool n1, .slice A xs.length c] 83)).alloc (.cells #[.bool n2, .slice D ys.length d] 83)).alloc (.cells #[.bool false, .slice none 0 0] 83)) (w + 1) [.bool n2, .slice D ys.length d]) := by
  have := (Box.new (w.alloc (.cells #[.bool n1, .slice A xs.length c] 83)) #[.bool n2, .slice D ys.length d] 83).alloc (by simp) (.cells #[.bool false, .slice none 0 0] 83);show Box _ _ _
  simpa using this
 have HC : Hid (Box (((w.alloc (.cells #[.bool n1, .slice A xs.length c] 83)).alloc (.cells #[.bool n2, .slice D ys.length d] 83)).alloc (.cells #[.bool false, .slice none 0 0] 83)) (w + 2) [.bool false, .slice none 0 0]) := by
  have := Box.new ((w.alloc (.cells #[.bool n1, .slice A xs.length c] 83)).alloc (.cells #[.bool n2, .slice D ys.length d] 83)) #[.bool false, .slice none 0 0] 83;show Box _ _ _
  simpa using this
 have HL : Hid (Below w w (((w.alloc (.cells #[.bool n1, .slice A xs.length c] 83)).alloc (.cells #[.bool n2, .slice D ys.length d] 83)).alloc (.cells #[.bool false, .slice none 0 0] 83))) := ((βA _).alloc (by simp) _).alloc (by simp; try omega) _;have hz : w + 2 < (((w.alloc (.cells #[.bool n1, .slice A xs.length c] 83)).alloc (.cells #[.bool n2, .slice D ys.length d] 83)).alloc (.cells #[.bool false, .slice none 0 0] 83)).heap.size := by simp
 have KX := η fun W (hW : Below (((w.alloc (.cells #[.bool n1, .slice A xs.length c] 83)).alloc (.cells #[.bool n2, .slice D ys.length d] 83)).alloc (.cells #[.bool false, .slice none 0 0] 83)).heap.size (((w.alloc (.cells #[.bool n1, .slice A xs.length c] 83)).alloc (.cells #[.bool n2, .slice D ys.length d] 83)).alloc (.cells #[.bool false, .slice none 0 0] 83)) W) => (show Calls Tryz.prog 198 #[.slice A xs.length c] W fun e w' => e = .returned (.slice A xs.length c) ∧ Below W W w' by have := jS A c xs W ((hx.upto HL.out).upto hW) (by omega) hcx; rwa [htx] at this)
 have KY := η fun W (hW : Below (((w.alloc (.cells #[.bool n1, .slice A xs.length c] 83)).alloc (.cells #[.bool n2, .slice D ys.length d] 83)).alloc (.cells #[.bool false, .slice none 0 0] 83)).heap.size (((w.alloc (.cells #[.bool n1, .slice A xs.length c] 83)).alloc (.cells #[.bool n2, .slice D ys.length d] 83)).alloc (.cells #[.bool false, .slice none 0 0] 83)) W) => (show Calls Tryz.prog 198 #[.slice D ys.length d] W fun e w' => e = .returned (.slice D ys.length d) ∧ Below W W w' by have := jS D d ys W ((hy.upto HL.out).upto hW) (by omega) hcy; rwa [hty] at this)
 have HX := η (hx.upto HL.out);have HY := η (hy.upto HL.out);have HWX := η hwx;have HWY := η hwy;have HTY := η hty;clear hx hy hwx hwy htx hty;go_enter Tryz.func201, Tryz.ntmps201;go_upto_region 1 with fail
 generalize (((w.alloc (.cells #[.bool n1, .slice A xs.length c] 83)).alloc (.cells #[.bool n2, .slice D ys.length d] 83)).alloc (.cells #[.bool false, .slice none 0 0] 83)) = w1 at *;go_wp2_with fail;refine zH (w0 := w1) [(2, .pointer (some ⟨w, 0, none⟩)), (3, .pointer (some ⟨w + 1, 0, none⟩)), (11, .pointer (some ⟨w, 1, none⟩)), (12, .slice A xs.length c), (13, .slice A xs.length c), (14, .pointer (some ⟨w + 1, 1, none⟩)), (15, .slice D ys.length d), (16, .slice D ys.length d), (5, .slice A xs.length c), (6, .slice D ys.length d)] [] [2, 3] ?_ ?_
 ·intro T hT W hI;simp only [zA, and_true] at hT;have a0 := (HA.out.up hI (by omega)).c 0 _ rfl;have a1 := (HA.out.up hI (by omega)).c 1 _ rfl;have b0 := (HB.out.up hI (by omega)).c 0 _ rfl;have b1 := (HB.out.up hI (by omega)).c 1 _ rfl;have e0 : w < W.heap.size := by have := hI.size; omega
  have e1 : w + 1 < W.heap.size := by have := hI.size; omega
  repeat' first | exact AllO.nil | apply AllO.cons
  all_goals try ((first | refine oV ?_ | refine oN ?_ | refine oG (t := by simp only [hT]) (h := ?_)); simp [go_sem, EvT, hT, a0, a1, b0, b1, e0, e1, valT]; done)
  ·refine opT_r (zR 198 #[.slice A xs.length c] (by simp [go_sem, EvT, hT, a0, a1, b0, b1, e0, e1]) ?_);simp only [valT, hT];exact KX.out W hI
  ·refine opT_r (zR 198 #[.slice D ys.length d] (by simp [go_sem, EvT, hT, a0, a1, b0, b1, e0, e1]) ?_);simp only [valT, hT];exact KY.out W hI
 intro wx hbx;simp (decide := true) only [putT, valT, look, Act.put, σi, σo, σs, Nat.reduceAdd, if_true, if_false];have HBX := η hbx;clear hbx KX KY;go_wp2_with fail;go_loopg [5, 6, 7, 8] (wv ys).toNat (fun gl s5 s6 s7 s8 wr => ∃ (A : Option Addr) (xs : List Int) (c : Nat) (D : Option Addr) (ys : List Int) (d : Nat), s5 = .slice A xs.length c ∧ s6 = .slice D ys.length d ∧ WrdR wr wr A xs ∧ WrdR wr wr D ys ∧ Words xs ∧ Words ys ∧ trimL ys = ys ∧ xs.length ≤ 900000 ∧ ys.length ≤ 900000 ∧ xs.length ≤ c ∧ ys.length ≤ d ∧ wv ys ≤ (gl : Int) ∧ Below w1 w1 wr)
 case atStart => exact ⟨A, xs, c, D, ys, d, rfl, rfl, HX.out.upto HBX.out, HY.out.upto HBX.out, HWX.out, HWY.out, HTY.out, hlx, hly, hcx, hcy, Int.self_le_toNat _, HBX.out⟩
 case round =>
  clear HX HY HWX HWY HTY HBX hlx hly hcx hcy;obtain ⟨A', xs', c', D', ys', d', rfl, rfl, hx, hy, hwx, hwy, hty, hlx, hly, hcx, hcy, hle, hbl⟩ := hrel;have HX := η hx;have HY := η hy;have HWX := η hwx;have HWY := η hwy;have HTY := η hty;have HBL := η hbl;have hpos : ys'.length ≠ 0 → 0 < wv ys' := fun h => eK hwy hty (fun e => h (by rw [e]; rfl))
  clear hx hy hwx hwy hty hbl;by_cases hc0 : ys'.length = 0
  ·have hz0 : (ys'.length : Int) = 0 := by omega
   have i0 : ¬ (0 : Int) < (ys'.length : Int) := by omega
   have KL := η (vG A' c' xs' wr HX.out (by omega));rw [hc0];generalize wr = wo at *;clear i0 hz0;go_wp2_with fail;refine KL.out.mono ?_;rintro e w2 ⟨v, rfl, hr, hb2⟩;obtain ⟨A2, c2, rfl, hc2⟩ := zQ hr;have KB := η (nB false A2 c2 xs' w2 (nM hr) (by omega) hc2 HWX.out);have HB2 := βT HBL hb2;clear hb2 hr KL;go_wp2_with fail;refine KB.out.mono ?_;rintro e w3 ⟨v, rfl, hv, hb3⟩;have HB3 := βT HB2 hb3;have HC3 := η (HC.out.up HB3.out hz);have hz3 : w + 2 < w3.heap.size := νl hz HB3.out.size;obtain ⟨ng, A3, ws, c3, rfl, hrest⟩ := id hv;clear hrest;have HV := η (hv.sets HC3.out (by simp) (vs' := [.bool ng, .slice A3 ws.length c3]) (by simp));have HBF := η (zD (b := w + 2) (HL.out.trans (HB3.out.mono HL.out.size)) (by omega) [.bool ng, .slice A3 ws.length c3] 0);have HCF := η (HC3.out.sets (vs' := [.bool ng, .slice A3 ws.length c3]) rfl);obtain ⟨q0, s0, q1, s1⟩ := sqX2 HC3.out;obtain ⟨p0, r0, p1, r1⟩ := sqX2 HCF.out;clear hv hb3;go_wp2_with fail;refine κr (v := .agg #[.bool ng, .slice A3 ws.length c3]) (by simp [results, Tryz.results201, go_sem, hz3, q0, q1]) rfl ⟨sgnI false (wv xs'), _, rfl, ?_, HBF.out⟩;have := HV.out;refine this.more ?_;rw [zN, zN]; exact νr _
  have hw0 := hpos hc0;have i0 : (0 : Int) < (ys'.length : Int) := by omega
  have i1 : 0 < ys'.length := by omega
  by_cases hbig : 2 < xs'.length ∨ 2 < ys'.length
  ·obtain ⟨g, rfl⟩ : ∃ g, gk = g + 1 := ⟨gk - 1, by omega⟩;have KD := η (oU A' D' c' d' xs' ys' wr HX.out HY.out HWX.out HWY.out HTY.out (fun h => hc0 (by rw [h]; rfl)) hlx hly);have fin : Hid (∀ (w2 w3 : World) A2 c2 (rs : List Int), WrdR w2 w2 A2 rs → rs.length ≤ c2 → rs.length ≤ ys'.length + 2 → Words rs → wv rs < wv ys' → Below wr wr w2 → Below w2 w2 w3 → (WrdR w3 w3 D' ys' ∧ WrdR w3 w3 A2 (trimL rs) ∧ Words (trimL rs) ∧ trimL (trimL rs) = trimL rs ∧ (trimL rs).length ≤ 900000 ∧ (trimL rs).length ≤ c2 ∧ wv (trimL rs) ≤ (g : Int) ∧ Below w1 w1 w3)) := by
    intro w2 w3 A2 c2 rs h1 h2 h3 h4 h5 h6 h7;have htl : (trimL rs).length ≤ 900000 := by
     have ha : trimL (trimL rs) = trimL rs := yX rs;rcases Nat.lt_or_ge ys'.length (trimL rs).length with hh | hh
     ·exfalso;have hge := wv_ge (kR h4) ha (fun e => by rw [e] at hh; simp at hh);have hlt := wv_lt HWY.out;have hble := bp_le (show ys'.length ≤ (trimL rs).length - 1 by omega);rw [dL] at hge;omega
     ·omega
    exact ⟨(HY.out.upto h6).upto h7, (h1.trim).upto h7, kR h4, yX rs, htl, Nat.le_trans (jE rs) h2, by rw [dL]; omega, (HBL.out.trans (h6.mono HBL.out.size)).trans (h7.mono (by have := HBL.out.size; have := h6.size; omega))⟩
   have KT := η fun (w2 : World) A2 c2 (rs : List Int) (h1 : WrdR w2 w2 A2 rs) (h2 : rs.length ≤ c2) (h3 : rs.length ≤ ys'.length + 2) => jS A2 c2 rs w2 h1 (by omega) h2
   have hlen : ys'.length ≤ 900000 ∧ ys'.length ≤ d' := ⟨hly, hcy⟩;have HWYY := η HWY.out;clear HX hw0 hpos hle;generalize wr = wo at *;have rest : ∀ (hh : True), True := fun _ => trivial
   by_cases hx2 : 2 < xs'.length
   ·have i2 : decide ((2 : Int) < (xs'.length : Int)) = true := κt (by omega);go_wp2_with fail;refine KD.out.mono ?_;rintro e w2 ⟨q, A2, c2, rs, rfl, h1, h2, h3, h4, h5, h6⟩;have KT2 := η (KT.out w2 A2 c2 rs h1 h2 h3);have FF := η (fun w3 h7 => fin.out w2 w3 A2 c2 rs h1 h2 h3 h4 h5 h6 h7);clear h1 h2 h3 h4 h5 h6 KD KT fin;go_wp2_with fail;refine KT2.out.mono ?_;rintro e w3 ⟨rfl, hb3⟩;have HF := η (FF.out w3 hb3);clear hb3 KT2 FF;go_wp2_with fail;go_roundg g
    case measure => omega
    case rel =>
     obtain ⟨f1, f2, f3, f4, f5, f6, f7, f8⟩ := HF.out;exact ⟨D', ys', d', A2, trimL rs, c2, rfl, rfl, f1, f2, HWYY.out, f3, f4, hlen.1, f5, hlen.2, f6, f7, f8⟩
   ·have i2 : decide ((2 : Int) < (xs'.length : Int)) = false := κf (by omega);have i3 : decide ((2 : Int) < (ys'.length : Int)) = true := κt (by omega);go_wp2_with fail;refine KD.out.mono ?_;rintro e w2 ⟨q, A2, c2, rs, rfl, h1, h2, h3, h4, h5, h6⟩;have KT2 := η (KT.out w2 A2 c2 rs h1 h2 h3);have FF := η (fun w3 h7 => fin.out w2 w3 A2 c2 rs h1 h2 h3 h4 h5 h6 h7);clear h1 h2 h3 h4 h5 h6 KD KT fin;go_wp2_with fail;refine KT2.out.mono ?_;rintro e w3 ⟨rfl, hb3⟩;have HF := η (FF.out w3 hb3);clear hb3 KT2 FF;go_wp2_with fail;go_roundg g
    case measure => omega
    case rel =>
     obtain ⟨f1, f2, f3, f4, f5, f6, f7, f8⟩ := HF.out;exact ⟨D', ys', d', A2, trimL rs, c2, rfl, rfl, f1, f2, HWYY.out, f3, f4, hlen.1, f5, hlen.2, f6, f7, f8⟩
  have hx2 : xs'.length ≤ 2 := by omega
  have hy2 : ys'.length ≤ 2 := by omega
  have i2 : decide ((2 : Int) < (xs'.length : Int)) = false := κf (by omega);have i3 : decide ((2 : Int) < (ys'.length : Int)) = false := κf (by omega);have i4 : ((ys'.length : Int) == 0) = false := βf (by omega);have i5 : (ys'.length : Int) ≠ 0 := by omega
  have KA := η (gX A' c' xs' wr HX.out hx2 HWX.out);have KB := η fun W (hW : Below wr wr W) => gX D' d' ys' W (HY.out.upto hW) hy2 HWY.out
  have HM := η (show 0 ≤ wv xs' ∧ wv xs' < 18446744073709551616 from ⟨zS HWX.out, yB HWX.out hx2⟩);have HN := η (show 0 ≤ wv ys' ∧ wv ys' < 18446744073709551616 from ⟨zS HWY.out, yB HWY.out hy2⟩);clear HX HY HWX HWY HTY hpos hw0 hle hc0 hbig;generalize wv xs' = m0 at *;generalize wv ys' = n0 at *;generalize wr = wo at *;go_wp2_with fail;refine KA.out.mono ?_;rintro e w2 ⟨rfl, hb2⟩;have KB2 := η (KB.out w2 hb2);have HB2 := βT HBL hb2;clear hb2 KA KB;go_wp2_with fail;refine KB2.out.mono ?_;rintro e w3 ⟨rfl, hb3⟩;have HB3 := βT HB2 hb3;clear hb3 KB2 HB2 HBL;go_wp2_with fail;go_loopg [9, 10] n0.toNat (fun gl s9 s10 wr => ∃ m n : Int, s9 = .int .u64 m ∧ s10 = .int .u64 n ∧ 0 ≤ m ∧ m < 18446744073709551616 ∧ 0 ≤ n ∧ n < 18446744073709551616 ∧ n ≤ (gl : Int) ∧ Below w1 w1 wr)
  case atStart => exact ⟨m0, n0, rfl, rfl, HM.out.1, HM.out.2, HN.out.1, HN.out.2, Int.self_le_toNat _, HB3.out⟩
  case round =>
   obtain ⟨m, k, rfl, rfl, hm0, hm1, hk0, hk1, hkl, hbl⟩ := hrel;have HBL := η hbl;clear hbl HB3 HM HN;by_cases hk : k = 0
   ·subst hk;have KS := η fun W => vT false m W hm0 hm1
    generalize wr = wp at *;clear hk0 hk1 hkl;go_wp2_with fail;have KS2 := η (KS.out wp);refine KS2.out.mono ?_;rintro e w3 ⟨v, rfl, hv, hb3⟩;have HB3 := βT HBL hb3;have HC3 := η (HC.out.up HB3.out hz);have hz3 : w + 2 < w3.heap.size := νl hz HB3.out.size;obtain ⟨ng, A3, ws, c3, rfl, hrest⟩ := id hv;clear hrest;have HV := η (hv.sets HC3.out (by simp) (vs' := [.bool ng, .slice A3 ws.length c3]) (by simp));have HBF := η (zD (b := w + 2) (HL.out.trans (HB3.out.mono HL.out.size)) (by omega) [.bool ng, .slice A3 ws.length c3] 0);have HCF := η (HC3.out.sets (vs' := [.bool ng, .slice A3 ws.length c3]) rfl);obtain ⟨q0, s0, q1, s1⟩ := sqX2 HC3.out;obtain ⟨p0, r0, p1, r1⟩ := sqX2 HCF.out;clear hv hb3;go_wp2_with fail;refine κr (v := .agg #[.bool ng, .slice A3 ws.length c3]) (by simp [results, Tryz.results201, go_sem, hz3, q0, q1]) rfl ⟨sgnI false m, _, rfl, ?_, HBF.out⟩;have := HV.out;refine this.more ?_;rw [zN, zN]; exact νr _
   have hkp : 0 < k := by omega
   obtain ⟨g, rfl⟩ : ∃ g, gk = g + 1 := ⟨gk - 1, by omega⟩;have d0 : (k == 0) = false := βf hk;have p5 : m.tmod k = m % k := Int.tmod_eq_emod_of_nonneg hm0;have hr : 0 ≤ m % k ∧ m % k < k := ⟨Int.emod_nonneg _ hk, Int.emod_lt_of_pos _ hkp⟩;have p6 : IntKind.u64.wrap (m % k) = m % k := κu _ (by omega);have HK := η (show 0 ≤ k ∧ k < 18446744073709551616 ∧ 0 ≤ m % k ∧ m % k < 18446744073709551616 ∧ m % k ≤ (g : Int) by omega);generalize m % k = r at *;clear hkl hm0 hm1 hk0 hk1 hr;generalize wr = wp at *;go_wp2_with fail;refine zH (w0 := wp) [(9, .int .u64 m), (10, .int .u64 k), (51, .int .u64 k), (52, .int .u64 m), (53, .int .u64 k), (54, .int .u64 r)] [(9, .int .u64 k), (10, .int .u64 r)] [9, 10] ?_ ?_
   ·intro T hT W hI;simp only [zA, and_true] at hT
    repeat' first | exact AllO.nil | apply AllO.cons
    all_goals try ((first | refine oV ?_ | refine oN ?_ | refine oG (t := by simp only [hT]) (h := ?_)); simp [go_sem, EvT, hT, d0, hk, p5, p6, valT]; done)
   intro wq hbq;simp (decide := true) only [putT, valT, look, Act.put, σi, σo, σs, Nat.reduceAdd, if_true, if_false];have HBQ := βT HBL hbq;clear hbq HBL;go_wp2_with fail;go_roundg g
   case measure => omega
   case rel => exact ⟨k, r, rfl, rfl, HK.out.1, HK.out.2.1, HK.out.2.2.1, HK.out.2.2.2.1, HK.out.2.2.2.2, HBQ.out⟩
end Go.Proofs.YtkfhpefmmhljmaaGreatDoor
