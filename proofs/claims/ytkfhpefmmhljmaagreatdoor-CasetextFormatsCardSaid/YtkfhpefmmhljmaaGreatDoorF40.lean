/- Texts in one: FmM, FmR. -/
import Derived.Lib.AppendIntMem
import Derived.Test.YtkfhpefmmhljmaaGreatDoorF39
set_option linter.unusedVariables false
set_option linter.unusedSimpArgs false
set_option maxHeartbeats 16000000
set_option maxRecDepth 100000
namespace Go.Proofs.YtkfhpefmmhljmaaGreatDoor
open Go.RowKit
def TabW (w : World) : Prop := Lib.TabIs Tryz.prog w "internal/strconv.uint64pow10" .u64 Lib.pow10Tab
theorem TabW.below {w w' : World} (h : TabW w) (hb : Below w w w') : TabW w' := by
 unfold TabW Lib.TabIs World.var? at h ⊢;obtain ⟨og, hog⟩ : ∃ o, o = Tryz.prog.globalNamed "internal/strconv.uint64pow10" := ⟨_, rfl⟩;rw [← hog] at h ⊢;clear hog;cases og with
 | none => simp at h
 | some g =>
  simp only [Option.bind_some] at h ⊢;have hlt : g < w := by
   rcases Nat.lt_or_ge g w with h' | h'
   ·exact h'
   ·rw [Array.getElem?_eq_none h'] at h; cases h
  rw [hb.block g hlt];exact h
theorem nM (n : Int) (w : World) (ht : TabW w) (hn : small n) : Calls Tryz.prog 72 #[.int .i64 n] w fun e w' => e = .returned (.string (bstr (Lib.itoa n))) ∧ Below w w w' := by
 unfold small at hn;refine (Tryz.strconv_Itoa n (by omega) (by omega) w ht).mono ?_;rintro e w' ⟨rfl, k, os, rfl⟩;exact ⟨rfl, Lib.below_grow _ _ (νr _) _ _⟩
theorem nO (n : Int) (w : World) (ht : TabW w) (hn : small n) : Calls Tryz.prog 70 #[.int .i64 n, .int .i64 10] w fun e w' => e = .returned (.string (bstr (Lib.itoa n))) ∧ Below w w w' := by
 unfold small at hn;refine (Tryz.strconv_FormatInt_10 n (by omega) (by omega) w ht).mono ?_;rintro e w' ⟨rfl, k, os, rfl⟩;exact ⟨rfl, Lib.below_grow _ _ (νr _) _ _⟩
def RtOk (x : Rt) : Prop := small x.1 ∧ small x.2.1 ∧ small x.2.2
def qZ (x : Rt) : Bytes := [40, 114, 105, 103, 104, 116, 32] ++ Lib.itoa x.1 ++ [32] ++ Lib.itoa x.2.1 ++ [32] ++ Lib.itoa x.2.2 ++ [41]
theorem aE {x : Rt} (h : RtOk x) : (qZ x).length ≤ 300 := by
 have h1 := qO h.1;have h2 := qO h.2.1;have h3 := qO h.2.2;unfold qZ;simp only [κa, κc, κn];omega
theorem bA (x : Rt) (w : World) (h : RtOk x) (ht : TabW w) : Calls Tryz.prog 28 #[.agg #[.int .i64 x.1, .int .i64 x.2.1, .int .i64 x.2.2]] w (TxtE w (qZ x)) := by
 have HX : Hid (Box (w.alloc (.cells #[.int .i64 x.1, .int .i64 x.2.1, .int .i64 x.2.2] 51)) w [.int .i64 x.1, .int .i64 x.2.1, .int .i64 x.2.2]) := Box.new w #[.int .i64 x.1, .int .i64 x.2.1, .int .i64 x.2.2] _;have HB : Hid (Below w w (w.alloc (.cells #[.int .i64 x.1, .int .i64 x.2.1, .int .i64 x.2.2] 51))) := βA _;have HT0 := η (ht.below HB.out);have hz0 : w < (w.alloc (.cells #[.int .i64 x.1, .int .i64 x.2.1, .int .i64 x.2.2] 51)).heap.size := by simp
 have h1 := qO h.1;have h2 := qO h.2.1;have h3 := qO h.2.2;have HO := η h;obtain ⟨t1, ht1⟩ : ∃ t, t = Lib.itoa x.1 := ⟨_, rfl⟩;obtain ⟨t2, ht2⟩ : ∃ t, t = Lib.itoa x.2.1 := ⟨_, rfl⟩;obtain ⟨t3, ht3⟩ : ∃ t, t = Lib.itoa x.2.2 := ⟨_, rfl⟩;rw [← ht1] at h1;rw [← ht2] at h2;rw [← ht3] at h3;have ER : Hid (qZ x = [40, 114, 105, 103, 104, 116, 32] ++ t1 ++ [32] ++ t2 ++ [32] ++ t3 ++ [41]) := by show _ = _; rw [ht1, ht2, ht3]; rfl
 have K1 := η fun W hW => nM x.1 W hW HO.out.1
 have K2 := η fun W hW => nM x.2.1 W hW HO.out.2.1
 have K3 := η fun W hW => nO x.2.2 W hW HO.out.2.2
 rw [← ht1] at K1;rw [← ht2] at K2;rw [← ht3] at K3;generalize qZ x = RS at *;clear h ht ht1 ht2 ht3;obtain ⟨s1, hs1⟩ : ∃ s, s = [40, 114, 105, 103, 104, 116, 32] ++ t1 := ⟨_, rfl⟩;have hq1 : s1.length ≤ 200 := by rw [hs1]; simp only [κa, κc, κn]; omega
 have ep1 : ∀ W : World, (Op.stringOp .add ⟨#[40, 114, 105, 103, 104, 116, 32]⟩ (bstr t1)).run Tryz.prog W = .ok (.string (bstr s1)) W := fun W => by rw [hs1]; exact zF ([40, 114, 105, 103, 104, 116, 32]) t1 W (by (try simp only [κc, κn]); omega)
 obtain ⟨s2, hs2⟩ : ∃ s, s = s1 ++ [32] := ⟨_, rfl⟩;have hq2 : s2.length ≤ 300 := by rw [hs2]; simp only [κa, κc, κn]; omega
 have ep2 : ∀ W : World, (Op.stringOp .add (bstr s1) ⟨#[32]⟩).run Tryz.prog W = .ok (.string (bstr s2)) W := fun W => by rw [hs2]; exact zF s1 [32] W (by (try simp only [κc, κn]); omega)
 obtain ⟨s3, hs3⟩ : ∃ s, s = s2 ++ t2 := ⟨_, rfl⟩;have hq3 : s3.length ≤ 400 := by rw [hs3]; simp only [κa, κc, κn]; omega
 have ep3 : ∀ W : World, (Op.stringOp .add (bstr s2) (bstr t2)).run Tryz.prog W = .ok (.string (bstr s3)) W := fun W => by rw [hs3]; exact zF s2 t2 W (by (try simp only [κc, κn]); omega)
 obtain ⟨s4, hs4⟩ : ∃ s, s = s3 ++ [32] := ⟨_, rfl⟩;have hq4 : s4.length ≤ 500 := by rw [hs4]; simp only [κa, κc, κn]; omega
 have ep4 : ∀ W : World, (Op.stringOp .add (bstr s3) ⟨#[32]⟩).run Tryz.prog W = .ok (.string (bstr s4)) W := fun W => by rw [hs4]; exact zF s3 [32] W (by (try simp only [κc, κn]); omega)
 obtain ⟨s5, hs5⟩ : ∃ s, s = s4 ++ t3 := ⟨_, rfl⟩;have hq5 : s5.length ≤ 600 := by rw [hs5]; simp only [κa, κc, κn]; omega
 have ep5 : ∀ W : World, (Op.stringOp .add (bstr s4) (bstr t3)).run Tryz.prog W = .ok (.string (bstr s5)) W := fun W => by rw [hs5]; exact zF s4 t3 W (by (try simp only [κc, κn]); omega)
 obtain ⟨s6, hs6⟩ : ∃ s, s = s5 ++ [41] := ⟨_, rfl⟩;have hq6 : s6.length ≤ 700 := by rw [hs6]; simp only [κa, κc, κn]; omega
 have ep6 : ∀ W : World, (Op.stringOp .add (bstr s5) ⟨#[41]⟩).run Tryz.prog W = .ok (.string (bstr s6)) W := fun W => by rw [hs6]; exact zF s5 [41] W (by (try simp only [κc, κn]); omega)
 rw [← hs1, ← hs2, ← hs3, ← hs4, ← hs5, ← hs6] at ER;clear hs1 hq1 hs2 hq2 hs3 hq3 hs4 hq4 hs5 hq5 hs6 hq6;go_enter Tryz.func28, Tryz.ntmps28;go_wp2_with fail;refine zE (w0 := (w.alloc (.cells #[.int .i64 x.1, .int .i64 x.2.1, .int .i64 x.2.2] 51))) [(1, .pointer (some ⟨w, 0, none⟩)), (4, .pointer (some ⟨w, 0, none⟩)), (5, .int .i64 x.1), (6, .string (bstr t1)), (7, .string (bstr s1)), (8, .string (bstr s2)), (9, .pointer (some ⟨w, 1, none⟩)), (10, .int .i64 x.2.1), (11, .string (bstr t2)), (12, .string (bstr s3)), (13, .string (bstr s4)), (14, .pointer (some ⟨w, 2, none⟩)), (15, .int .i64 x.2.2), (16, .string (bstr t3)), (17, .string (bstr s5)), (18, .string (bstr s6)), (2, .string (bstr s6)), (3, .int .i64 0)] [] [1] ?_ ?_
 ·intro T hT W hI;simp only [zA, and_true] at hT;have c0 := (HX.out.up hI hz0).c 0 _ rfl;have hlz : w < W.heap.size := νl hz0 hI.size;have c1 := (HX.out.up hI hz0).c 1 _ rfl;have c2 := (HX.out.up hI hz0).c 2 _ rfl
  repeat' first | exact AllO.nil | apply AllO.cons
  all_goals try ((first | refine oV ?_ | refine oN ?_ | refine oG (t := by simp only [hT]) (h := ?_)); simp [go_sem, EvT, hT, c0, hlz, ep1, ep2, c1, ep3, ep4, c2, ep5, ep6, valT]; done)
  ·refine opT_r (zO 72 #[.int .i64 x.1] (by simp [go_sem, EvT, hT, c0, hlz, ep1, ep2, c1, ep3, ep4, c2, ep5, ep6]) ?_);simp only [valT, hT];exact K1.out W (HT0.out.below hI)
  ·refine opT_r (zO 72 #[.int .i64 x.2.1] (by simp [go_sem, EvT, hT, c0, hlz, ep1, ep2, c1, ep3, ep4, c2, ep5, ep6]) ?_);simp only [valT, hT];exact K2.out W (HT0.out.below hI)
  ·refine opT_r (zO 70 #[.int .i64 x.2.2, .int .i64 10] (by simp [go_sem, EvT, hT, c0, hlz, ep1, ep2, c1, ep3, ep4, c2, ep5, ep6]) ?_);simp only [valT, hT];exact K3.out W (HT0.out.below hI)
 intro wx hb;simp (decide := true) only [putT, valT, look, Act.put, σi, σo, σs, Nat.reduceAdd, if_true, if_false];have HB1 := η (HB.out.trans (hb.mono (κl hz0)));clear hb;go_wp2_with fail;go_ret2;exact ⟨by rw [ER.out]; rfl, HB1.out⟩
structure HrOk (nb : Int) (x : Hr) : Prop where
 a : ∀ b ∈ x.bids, bidE nb b = 0
 b : ∀ b ∈ x.real, bidE nb b = 0
 c : x.bids.length ≤ 6
 d : x.real.length ≤ 6
 e : small x.need
def hourS (x : Hr) : Bytes := [40, 104, 111, 117, 114, 32] ++ Lib.itoa x.need ++ [32] ++ listS [98, 105, 100, 115] (x.bids.map (fun x => fmtT (bidT x))) ++ [32] ++ listS [114, 101, 97, 108] (x.real.map (fun x => fmtT (bidT x))) ++ [41]
theorem rD {nb : Int} {b : Bd} (hn : nb ≤ 6) (hk : bidE nb b = 0) : (fmtT (bidT b)).length ≤ 200 := by
 obtain ⟨_, h2, h3, h4⟩ := xY hn hk;have := xM (bidT b) none (mV h2 h4);have h5 := nS b;show (fmtGo none (bidT b)).length ≤ _
 omega
theorem eP {nb : Int} {x : Hr} (hn : nb ≤ 6) (hk : HrOk nb x) : (hourS x).length ≤ 6000 := by
 have h1 := qO hk.e;have h2 := jZ (y := [98, 105, 100, 115]) (ts := x.bids.map (fun x => fmtT (bidT x))) (m := 200) (fun t ht => by obtain ⟨b, hb, rfl⟩ := List.mem_map.1 ht; exact rD hn (hk.a b hb));have h3 := jZ (y := [114, 101, 97, 108]) (ts := x.real.map (fun x => fmtT (bidT x))) (m := 200) (fun t ht => by obtain ⟨b, hb, rfl⟩ := List.mem_map.1 ht; exact rD hn (hk.b b hb));rw [List.length_map] at h2 h3;have h4 := hk.c;have h5 := hk.d;unfold hourS listS;simp only [κa, κc, κn] at h2 h3 ⊢;omega
theorem eU (x : Hr) (nb : Int) (A A' : Option Addr) (c c' : Nat) (w : World) (hr : RowR BdR 2 w w A x.bids) (hr' : RowR BdR 2 w w A' x.real) (hn : nb ≤ 6) (hk : HrOk nb x) (ht : TabW w) :
  Calls Tryz.prog 24 #[.agg #[.slice A x.bids.length c, .slice A' x.real.length c', .int .i64 x.need]] w (TxtE w (hourS x)) := by
 have HX : Hid (Box (w.alloc (.cells #[.slice A x.bids.length c, .slice A' x.real.length c', .int .i64 x.need] 49)) w [.slice A x.bids.length c, .slice A' x.real.length c', .int .i64 x.need]) := Box.new w #[.slice A x.bids.length c, .slice A' x.real.length c', .int .i64 x.need] _;have HB : Hid (Below w w (w.alloc (.cells #[.slice A x.bids.length c, .slice A' x.real.length c', .int .i64 x.need] 49))) := βA _;have HT := η ht;have HR1 := η hr;have HR2 := η hr';obtain ⟨k1, k2, k3, k4, k5⟩ := hk;have h3 := qO k5;obtain ⟨hK1, hl1⟩ := yN [98, 105, 100, 115] A c x.bids (w.alloc (.cells #[.slice A x.bids.length c, .slice A' x.real.length c', .int .i64 x.need] 49)) (hr.upto BdR.keep HB.out) (by omega) (by decide) nb hn k1;have KR := η fun W hW => yN [114, 101, 97, 108] A' c' x.real W hW (by omega) (by decide) nb hn k2
 have HO := η k5;obtain ⟨t1, ht1⟩ : ∃ t, t = listS [98, 105, 100, 115] (x.bids.map (fun x => fmtT (bidT x))) := ⟨_, rfl⟩;obtain ⟨t2, ht2⟩ : ∃ t, t = listS [114, 101, 97, 108] (x.real.map (fun x => fmtT (bidT x))) := ⟨_, rfl⟩;obtain ⟨t3, ht3⟩ : ∃ t, t = Lib.itoa x.need := ⟨_, rfl⟩;rw [← ht1] at hK1 hl1;rw [← ht2] at KR;rw [← ht3] at h3;have hl2 := (KR.out w hr').2;simp only [κc, κn] at hl1 hl2;have KB := η hK1;have K3 := η fun W hW => nO x.need W hW HO.out
 rw [← ht3] at K3;have ER : Hid (hourS x = [40, 104, 111, 117, 114, 32] ++ t3 ++ [32] ++ t1 ++ [32] ++ t2 ++ [41]) := by show _ = _; rw [ht1, ht2, ht3]; rfl
 generalize hourS x = RS at *;clear ht hr hr' k1 k2 k5 ht1 ht2 ht3 hK1;obtain ⟨s1, hs1⟩ : ∃ s, s = [40, 104, 111, 117, 114, 32] ++ t3 := ⟨_, rfl⟩;have hq1 : s1.length ≤ 260000 := by rw [hs1]; simp only [κa, κc, κn]; omega
 have ep1 : ∀ W : World, (Op.stringOp .add ⟨#[40, 104, 111, 117, 114, 32]⟩ (bstr t3)).run Tryz.prog W = .ok (.string (bstr s1)) W := fun W => by rw [hs1]; exact zF ([40, 104, 111, 117, 114, 32]) t3 W (by (try simp only [κc, κn]); omega)
 obtain ⟨s2, hs2⟩ : ∃ s, s = s1 ++ [32] := ⟨_, rfl⟩;have hq2 : s2.length ≤ 390000 := by rw [hs2]; simp only [κa, κc, κn]; omega
 have ep2 : ∀ W : World, (Op.stringOp .add (bstr s1) ⟨#[32]⟩).run Tryz.prog W = .ok (.string (bstr s2)) W := fun W => by rw [hs2]; exact zF s1 [32] W (by (try simp only [κc, κn]); omega)
 obtain ⟨s3, hs3⟩ : ∃ s, s = s2 ++ t1 := ⟨_, rfl⟩;have hq3 : s3.length ≤ 520000 := by rw [hs3]; simp only [κa, κc, κn]; omega
 have ep3 : ∀ W : World, (Op.stringOp .add (bstr s2) (bstr t1)).run Tryz.prog W = .ok (.string (bstr s3)) W := fun W => by rw [hs3]; exact zF s2 t1 W (by (try simp only [κc, κn]); omega)
 obtain ⟨s4, hs4⟩ : ∃ s, s = s3 ++ [32] := ⟨_, rfl⟩;have hq4 : s4.length ≤ 650000 := by rw [hs4]; simp only [κa, κc, κn]; omega
 have ep4 : ∀ W : World, (Op.stringOp .add (bstr s3) ⟨#[32]⟩).run Tryz.prog W = .ok (.string (bstr s4)) W := fun W => by rw [hs4]; exact zF s3 [32] W (by (try simp only [κc, κn]); omega)
 obtain ⟨s5, hs5⟩ : ∃ s, s = s4 ++ t2 := ⟨_, rfl⟩;have hq5 : s5.length ≤ 780000 := by rw [hs5]; simp only [κa, κc, κn]; omega
 have ep5 : ∀ W : World, (Op.stringOp .add (bstr s4) (bstr t2)).run Tryz.prog W = .ok (.string (bstr s5)) W := fun W => by rw [hs5]; exact zF s4 t2 W (by (try simp only [κc, κn]); omega)
 obtain ⟨s6, hs6⟩ : ∃ s, s = s5 ++ [41] := ⟨_, rfl⟩;have hq6 : s6.length ≤ 910000 := by rw [hs6]; simp only [κa, κc, κn]; omega
 have ep6 : ∀ W : World, (Op.stringOp .add (bstr s5) ⟨#[41]⟩).run Tryz.prog W = .ok (.string (bstr s6)) W := fun W => by rw [hs6]; exact zF s5 [41] W (by (try simp only [κc, κn]); omega)
 rw [← hs1, ← hs2, ← hs3, ← hs4, ← hs5, ← hs6] at ER;clear hs1 hq1 hs2 hq2 hs3 hq3 hs4 hq4 hs5 hq5 hs6 hq6;go_enter Tryz.func24, Tryz.ntmps24;go_wp2_with fail;refine KB.out.mono ?_;rintro e w1 ⟨rfl, hb1⟩;have hz1 : w < w1.heap.size := νl (by simp) hb1.size;have HX1 := η (HX.out.up hb1 (by simp));have HB1 := η (HB.out.trans (hb1.mono (by simp)));clear hb1 HX HB KB;obtain ⟨q0, s0, q1, s1, q2, s2⟩ := sqX3 HX1.out;have KB2 := η (KR.out w1 (HR2.out.upto BdR.keep HB1.out)).1;go_wp2_with fail;refine KB2.out.mono ?_;rintro e w2 ⟨rfl, hb2⟩;have hz2 : w < w2.heap.size := νl hz1 hb2.size;have HX2 := η (HX1.out.up hb2 hz1);have HB2 := η (HB1.out.trans (hb2.mono (κl hz1)));clear hb2 HX1 HB1 KB2 KR q0 q1 q2 s0 s1 s2;obtain ⟨q0, s0, q1, s1, q2, s2⟩ := sqX3 HX2.out;have KI := η (K3.out w2 (HT.out.below HB2.out));clear K3;go_wp2_with fail;refine KI.out.mono ?_;rintro e w3 ⟨rfl, hb3⟩;have HB3 := η (HB2.out.trans (hb3.mono (κl hz2)));clear hb3 HX2 HB2 KI q0 q1 q2 s0 s1 s2;go_wp2_with fail;go_ret2;exact ⟨by rw [ER.out]; rfl, HB3.out⟩
theorem fD (y : Bytes) (A : Option Addr) (c : Nat) (l : List Hr) (w : World) (hl : RowR HrR 3 w w A l) (hn : l.length ≤ 100) (hy : y.length ≤ 100) (nb : Int) (hnb : nb ≤ 6) (hok : ∀ x ∈ l, HrOk nb x) (htab : TabW w) :
  Calls Tryz.prog 23 #[.string (bstr y), .slice A l.length c, .func (.func 24) #[] #[]] w (TxtE w (listS y (l.map (hourS)))) ∧ (listS y (l.map (hourS))).length ≤ y.length + l.length * 6001 + 2 := by
 obtain ⟨i0, hi, hy0, hy1, hy2⟩ := info_parts kU;have hlen : ∀ x ∈ l, ((hourS) x).length ≤ 6000 := fun x hx => by
  exact eP hnb (hok x hx)
 have hjl : (joinS y (l.map (hourS))).length ≤ y.length + l.length * 6001 := by
  have := jZ (y := y) (ts := l.map (hourS)) (m := 6000) (fun t ht => by obtain ⟨x, hx, rfl⟩ := List.mem_map.1 ht; exact hlen x hx);rw [List.length_map] at this;exact this
 refine ⟨?_, by unfold listS; simp only [κc, κa, κn]; omega⟩;obtain ⟨J, hJ⟩ : ∃ J, J = joinS y (l.map (hourS)) := ⟨_, rfl⟩;rw [← hJ] at hjl;have ELS : Hid (listS y (l.map (hourS)) = 40 :: (J ++ [41])) := by show _ = _; rw [listS, hJ]
 have HJ := η hJ;generalize listS y (l.map (hourS)) = LS at *;have HL := η hl;have HOK := η hok;have HTB := η htab;clear hl hok htab hlen hJ;go_enter Tryz.func23, Tryz.ntmps23;go_wp2_with fail;go_loopg [8, 17] l.length (fun gk s8 s17 wr => ∃ k : Nat, k + gk = l.length ∧ s17 = .int .i64 (k : Int) ∧ wr.ownsRow w 9 1 s8 (k + 1) ((y :: (l.take k).map (hourS)).map strV) ∧ Below w w wr)
 case atStart => exact ⟨0, by omega, rfl, ⟨rfl, .inr ⟨w, 1, _, rfl, νr _, heap_alloc_new w _, νr _, by unfold maxLen; omega, rfl, rfl⟩⟩, βA _⟩
 case round =>
  obtain ⟨k, hkg, rfl, hrow, hbl⟩ := hrel;have HR := η hrow;have HB := η hbl;have hzw : w ≤ wr.heap.size := hbl.size;clear hrow hbl;cases gk with
  | zero =>
   obtain rfl : k = l.length := by omega
   clear hkg;rw [List.take_length] at HR;obtain ⟨g, cap, rfl⟩ : ∃ g c, u8 = .slice (some ⟨g, 0, none⟩) (l.length + 1) c := by
    rcases HR.out.2 with ⟨_, h⟩ | ⟨g, cap, cur, hv, _⟩
    ·omega
    ·exact ⟨g, cap, hv⟩
   have KJ := η (vV g cap y (l.map (hourS)) (l.length + 1) w wr (by simp) HR.out (by rw [← HJ.out]; omega) (by simp; omega));rw [← HJ.out] at KJ;have ep1 : ∀ W : World, (Op.stringOp .add ⟨#[40]⟩ (bstr J)).run Tryz.prog W = .ok (.string (bstr (40 :: J))) W := fun W => zF [40] J W (by simp; omega)
   have ep2 : ∀ W : World, (Op.stringOp .add (bstr (40 :: J)) ⟨#[41]⟩).run Tryz.prog W = .ok (.string (bstr (40 :: (J ++ [41])))) W := fun W => zF (40 :: J) [41] W (by simp; omega)
   clear HR;go_wp2_with fail;refine KJ.out.mono ?_;rintro e w1 ⟨rfl, hb1⟩;have HB1 := η (HB.out.trans (hb1.mono hzw));clear hb1 KJ HB;go_wp2_with fail;go_ret2;exact ⟨by rw [ELS.out]; rfl, HB1.out⟩
  | succ g =>
   have hk : k < l.length := by omega
   have HG := η hkg;clear hkg;obtain ⟨b, off, cc, rfl, hb, hc1, hc2, hc3⟩ := (HL.out.up HrR.keep HB.out).at_ k hr0 hk;have HXM := η (show l.getD k hr0 ∈ l by rw [zM l k _ hk]; exact List.getElem_mem hk);have HT : Hid (l.take (k + 1) = l.take k ++ [l.getD k hr0]) := by show _ = _; rw [κs hk, zM l k _ hk]
   generalize hxx : l.getD k hr0 = x at *;have HXX := η hxx;clear hxx;obtain ⟨Ax, cx, Ay, cy, rfl, _, _, hst, hsu⟩ := hc2;have HST := η hst;clear hst;have HSU := η hsu;clear hsu;have hbw : b < wr := by omega
   have f0 := hc3 0 _ rfl;have f1 := hc3 1 _ rfl;have f2 := hc3 2 _ rfl;rw [κz] at f0;clear hc1 hc3;have KF := η (eU x nb Ax Ay cx cy (wr.alloc (.cells #[.slice Ax x.bids.length cx, .slice Ay x.real.length cy, .int .i64 x.need] 49)) (HST.out.keep BdR.keep (fun p hp => World.cell?_alloc_lt _ _ _ (by omega)) (by simp; omega)) (HSU.out.keep BdR.keep (fun p hp => World.cell?_alloc_lt _ _ _ (by omega)) (by simp; omega)) hnb (HOK.out x HXM.out) (HTB.out.below (HB.out.alloc hzw _)));have HB1 : Hid (Below w w (wr.alloc (.cells #[.slice Ax x.bids.length cx, .slice Ay x.real.length cy, .int .i64 x.need] 49))) := HB.out.alloc hzw _;have HR1 := η (qS HR.out (w' := (wr.alloc (.cells #[.slice Ax x.bids.length cx, .slice Ay x.real.length cy, .int .i64 x.need] 49))) (βA _));go_wp2_with fail;refine KF.out.mono ?_;rintro e w2 ⟨rfl, hb2⟩;have hz2 : w ≤ w2.heap.size := Nat.le_trans (by simp; omega) hb2.size;have hown := qS HR1.out hb2;have HB2 := η (HB1.out.trans (hb2.mono (by simp; omega)));clear hb2 KF HB1 HR1 HR HB f0 f1 f2 HST HSU;obtain ⟨tx, htx⟩ : ∃ t, t = (hourS) x := ⟨_, rfl⟩;have HTX := η htx
   try dsimp only at htx
   rw [← htx];clear htx;go_wp2_with (at_builtin; refine wpList_append_own _ rfl _ _ 71 rfl w 9 i0 _ 1 16 Tryz.underlying71 hi hy0 hy1 hy2 rfl (by decide) _ _ _ rfl (hown.alloc _) ⟨w2, 0, none⟩ 1 1 [.string (bstr tx)] rfl rfl (cell_one_new _ _ _) (by simp [Value.oneCell']) (by unfold maxLen; omega) (by omega) (by simp; omega) ?_; intro v' w3 hown' hgrow _);have HR3 : Hid (w3.ownsRow w 9 1 v' (k + 1 + 1) ((y :: (l.take (k + 1)).map (hourS)).map strV)) := by
    show World.ownsRow _ _ _ _ _ _ _
    rw [HT.out, List.map_append, ← κw, List.map_append, show List.map strV (List.map (hourS) [x]) = [.string (bstr tx)] by rw [HTX.out]; rfl];exact hown'
   have HB3 := η (HB2.out.trans (zH hown hz2 hgrow));clear hown' hgrow hown HB2;go_wp2_with fail;go_roundg g
   case measure => omega
   case rel => exact ⟨k + 1, by have := HG.out; omega, by go_num, HR3.out, HB3.out⟩
theorem gE (y : Bytes) (A : Option Addr) (c : Nat) (l : List Rt) (w : World) (hl : RowR RtE 3 w w A l) (hn : l.length ≤ 100) (hy : y.length ≤ 100) (hok : ∀ x ∈ l, RtOk x) (htab : TabW w) :
  Calls Tryz.prog 27 #[.string (bstr y), .slice A l.length c, .func (.func 28) #[] #[]] w (TxtE w (listS y (l.map (qZ)))) ∧ (listS y (l.map (qZ))).length ≤ y.length + l.length * 301 + 2 := by
 obtain ⟨i0, hi, hy0, hy1, hy2⟩ := info_parts kU;have hlen : ∀ x ∈ l, ((qZ) x).length ≤ 300 := fun x hx => by
  exact aE (hok x hx)
 have hjl : (joinS y (l.map (qZ))).length ≤ y.length + l.length * 301 := by
  have := jZ (y := y) (ts := l.map (qZ)) (m := 300) (fun t ht => by obtain ⟨x, hx, rfl⟩ := List.mem_map.1 ht; exact hlen x hx);rw [List.length_map] at this;exact this
 refine ⟨?_, by unfold listS; simp only [κc, κa, κn]; omega⟩;obtain ⟨J, hJ⟩ : ∃ J, J = joinS y (l.map (qZ)) := ⟨_, rfl⟩;rw [← hJ] at hjl;have ELS : Hid (listS y (l.map (qZ)) = 40 :: (J ++ [41])) := by show _ = _; rw [listS, hJ]
 have HJ := η hJ;generalize listS y (l.map (qZ)) = LS at *;have HL := η hl;have HOK := η hok;have HTB := η htab;clear hl hok htab hlen hJ;go_enter Tryz.func27, Tryz.ntmps27;go_wp2_with fail;go_loopg [8, 17] l.length (fun gk s8 s17 wr => ∃ k : Nat, k + gk = l.length ∧ s17 = .int .i64 (k : Int) ∧ wr.ownsRow w 9 1 s8 (k + 1) ((y :: (l.take k).map (qZ)).map strV) ∧ Below w w wr)
 case atStart => exact ⟨0, by omega, rfl, ⟨rfl, .inr ⟨w, 1, _, rfl, νr _, heap_alloc_new w _, νr _, by unfold maxLen; omega, rfl, rfl⟩⟩, βA _⟩
 case round =>
  obtain ⟨k, hkg, rfl, hrow, hbl⟩ := hrel;have HR := η hrow;have HB := η hbl;have hzw : w ≤ wr.heap.size := hbl.size;clear hrow hbl;cases gk with
  | zero =>
   obtain rfl : k = l.length := by omega
   clear hkg;rw [List.take_length] at HR;obtain ⟨g, cap, rfl⟩ : ∃ g c, u8 = .slice (some ⟨g, 0, none⟩) (l.length + 1) c := by
    rcases HR.out.2 with ⟨_, h⟩ | ⟨g, cap, cur, hv, _⟩
    ·omega
    ·exact ⟨g, cap, hv⟩
   have KJ := η (vV g cap y (l.map (qZ)) (l.length + 1) w wr (by simp) HR.out (by rw [← HJ.out]; omega) (by simp; omega));rw [← HJ.out] at KJ;have ep1 : ∀ W : World, (Op.stringOp .add ⟨#[40]⟩ (bstr J)).run Tryz.prog W = .ok (.string (bstr (40 :: J))) W := fun W => zF [40] J W (by simp; omega)
   have ep2 : ∀ W : World, (Op.stringOp .add (bstr (40 :: J)) ⟨#[41]⟩).run Tryz.prog W = .ok (.string (bstr (40 :: (J ++ [41])))) W := fun W => zF (40 :: J) [41] W (by simp; omega)
   clear HR;go_wp2_with fail;refine KJ.out.mono ?_;rintro e w1 ⟨rfl, hb1⟩;have HB1 := η (HB.out.trans (hb1.mono hzw));clear hb1 KJ HB;go_wp2_with fail;go_ret2;exact ⟨by rw [ELS.out]; rfl, HB1.out⟩
  | succ g =>
   have hk : k < l.length := by omega
   have HG := η hkg;clear hkg;obtain ⟨b, off, cc, rfl, hb, hc1, hc2, hc3⟩ := (HL.out.up RtE.keep HB.out).at_ k (0, 0, 0) hk;have HXM := η (show l.getD k (0, 0, 0) ∈ l by rw [zM l k _ hk]; exact List.getElem_mem hk);have HT : Hid (l.take (k + 1) = l.take k ++ [l.getD k (0, 0, 0)]) := by show _ = _; rw [κs hk, zM l k _ hk]
   generalize hxx : l.getD k (0, 0, 0) = x at *;have HXX := η hxx;clear hxx;replace hc2 : cc = _ := hc2;subst hc2;have hbw : b < wr := by omega
   have f0 := hc3 0 _ rfl;have f1 := hc3 1 _ rfl;have f2 := hc3 2 _ rfl;rw [κz] at f0;clear hc1 hc3;have KF := η (bA x (wr.alloc (.cells #[.int .i64 x.1, .int .i64 x.2.1, .int .i64 x.2.2] 51)) (HOK.out x HXM.out) (HTB.out.below (HB.out.alloc hzw _)));have HB1 : Hid (Below w w (wr.alloc (.cells #[.int .i64 x.1, .int .i64 x.2.1, .int .i64 x.2.2] 51))) := HB.out.alloc hzw _;have HR1 := η (qS HR.out (w' := (wr.alloc (.cells #[.int .i64 x.1, .int .i64 x.2.1, .int .i64 x.2.2] 51))) (βA _));go_wp2_with fail;refine KF.out.mono ?_;rintro e w2 ⟨rfl, hb2⟩;have hz2 : w ≤ w2.heap.size := Nat.le_trans (by simp; omega) hb2.size;have hown := qS HR1.out hb2;have HB2 := η (HB1.out.trans (hb2.mono (by simp; omega)));clear hb2 KF HB1 HR1 HR HB f0 f1 f2;obtain ⟨tx, htx⟩ : ∃ t, t = (qZ) x := ⟨_, rfl⟩;have HTX := η htx
   try dsimp only at htx
   rw [← htx];clear htx;go_wp2_with (at_builtin; refine wpList_append_own _ rfl _ _ 71 rfl w 9 i0 _ 1 16 Tryz.underlying71 hi hy0 hy1 hy2 rfl (by decide) _ _ _ rfl (hown.alloc _) ⟨w2, 0, none⟩ 1 1 [.string (bstr tx)] rfl rfl (cell_one_new _ _ _) (by simp [Value.oneCell']) (by unfold maxLen; omega) (by omega) (by simp; omega) ?_; intro v' w3 hown' hgrow _);have HR3 : Hid (w3.ownsRow w 9 1 v' (k + 1 + 1) ((y :: (l.take (k + 1)).map (qZ)).map strV)) := by
    show World.ownsRow _ _ _ _ _ _ _
    rw [HT.out, List.map_append, ← κw, List.map_append, show List.map strV (List.map (qZ) [x]) = [.string (bstr tx)] by rw [HTX.out]; rfl];exact hown'
   have HB3 := η (HB2.out.trans (zH hown hz2 hgrow));clear hown' hgrow hown HB2;go_wp2_with fail;go_roundg g
   case measure => omega
   case rel => exact ⟨k + 1, by have := HG.out; omega, by go_num, HR3.out, HB3.out⟩
end Go.Proofs.YtkfhpefmmhljmaaGreatDoor
namespace Go.Proofs.YtkfhpefmmhljmaaGreatDoor
theorem fV {α : Type} {f : α → Int} : ∀ {l : List α}, fstE f l = 0 → ∀ x ∈ l, f x = 0 := by
 intro l
 induction l with
 | nil => intro _ x hx; cases hx
 | cons a l ih =>
  intro h x hx;rw [fstE] at h;by_cases h1 : f a ≠ 0
  ·rw [if_pos h1] at h; exact absurd h h1
  rw [if_neg h1] at h;rcases List.mem_cons.1 hx with rfl | hx
  ·exact Decidable.not_not.1 h1
  ·exact ih h x hx
theorem tF {f : Og → Int} : ∀ {l : List Og} {i : Nat}, (chkG f l i).2 = 0 → ∀ x ∈ l, f x = 0 := by
 intro l
 induction l with
 | nil => intro _ _ x hx; cases hx
 | cons a l ih =>
  intro i h x hx;rw [chkG] at h;by_cases h1 : f a = 0
  ·rw [if_pos h1] at h;rcases List.mem_cons.1 hx with rfl | hx
   ·exact h1
   ·exact ih h x hx
  ·rw [if_neg h1] at h; exact absurd h h1
structure CsOk (x : Cs) : Prop where
 net : zX x.net.buses x.net.lines = 0
 un : x.units.length ≤ 5
 us : ∀ u ∈ x.units, unitE x.net.buses u = 0
 hn : 0 < x.hours.length ∧ x.hours.length ≤ 8
 hs : ∀ h ∈ x.hours, HrOk x.net.buses h
 on : x.outs.length ≤ 16
 os : ∀ o ∈ x.outs, (o.1 = 1 ∨ o.1 = 2 ∨ o.1 = 3) ∧ qG o = true
 rn : x.rights.length ≤ 8
 rs : ∀ r ∈ x.rights, RtOk r
theorem iM {n : Int} : ∀ {real bids : List Bd}, real.length = bids.length → fstE realE (real.zip bids) = 0 → (∀ b ∈ bids, bidE n b = 0) → ∀ b ∈ real, bidE n b = 0 := by
 intro real
 induction real with
 | nil => intro _ _ _ _ b hb; cases hb
 | cons a real ih =>
  intro bids hl hf hb b hm;cases bids with
  | nil => simp at hl
  | cons c bids =>
   rw [List.zip_cons_cons, fstE] at hf;by_cases h1 : realE (a, c) ≠ 0
   ·rw [if_pos h1] at hf; exact absurd hf h1
   rw [if_neg h1] at hf;have h2 : realE (a, c) = 0 := Decidable.not_not.1 h1;rcases List.mem_cons.1 hm with rfl | hm
   ·have hc := hb c (by simp);unfold realE at h2;by_cases h3 : (b, c).1.bus ≠ (b, c).2.bus
    ·rw [if_pos h3] at h2; cases h2
    rw [if_neg h3] at h2;have h3' : b.bus = c.bus := Decidable.not_not.1 h3;unfold bidE at hc ⊢;rw [h3'];cases hi : inB c.bus n with
    | false => rw [hi] at hc; cases hc
    | true => exact h2
   ·exact ih (by simpa using hl) hf (fun d hd => hb d (by simp [hd])) b hm
theorem sT {n : Int} {f h : Hr} (hh : hourE n f h = 0) : HrOk n h := by
 unfold hourE at hh;by_cases h1 : 6 < h.bids.length
 ·rw [if_pos h1] at hh; cases hh
 rw [if_neg h1] at hh;by_cases h2 : fstE (bidE n) h.bids ≠ 0
 ·rw [if_pos h2] at hh; exact absurd hh h2
 rw [if_neg h2] at hh;by_cases h3 : h.real.length ≠ h.bids.length
 ·rw [if_pos h3] at hh; cases hh
 rw [if_neg h3] at hh;by_cases h4 : fstE realE (h.real.zip h.bids) ≠ 0
 ·rw [if_pos h4] at hh; exact absurd hh h4
 rw [if_neg h4] at hh;by_cases h5 : h.need < 0 ∨ 1000000 < h.need
 ·rw [if_pos h5] at hh; cases hh
 have k2 := fV (Decidable.not_not.1 h2);have k3 := Decidable.not_not.1 h3;exact ⟨k2, iM k3 (Decidable.not_not.1 h4) k2, by omega, by omega, by unfold small; omega⟩
theorem eX {x : Cs} (h : dayE x = 0) : CsOk x := by
 unfold dayE at h;by_cases h1 : zX x.net.buses x.net.lines ≠ 0
 ·rw [if_pos h1] at h; exact absurd h h1
 rw [if_neg h1] at h;by_cases h2 : 5 < x.units.length
 ·rw [if_pos h2] at h; cases h
 rw [if_neg h2] at h;by_cases h3 : fstE (unitE x.net.buses) x.units ≠ 0
 ·rw [if_pos h3] at h; exact absurd h h3
 rw [if_neg h3] at h;by_cases h4 : x.hours.length = 0
 ·rw [if_pos h4] at h; cases h
 rw [if_neg h4] at h;by_cases h5 : 8 < x.hours.length
 ·rw [if_pos h5] at h; cases h
 rw [if_neg h5] at h;by_cases h6 : fstE (hourE x.net.buses (x.hours.getD 0 hr0)) x.hours ≠ 0
 ·rw [if_pos h6] at h; exact absurd h h6
 rw [if_neg h6] at h;by_cases h7 : qV x.net.lines.length x.units.length x.hours.length x.outs ≠ 0
 ·rw [if_pos h7] at h; exact absurd h h7
 rw [if_neg h7] at h;have k1 := Decidable.not_not.1 h1;have k7 := Decidable.not_not.1 h7;obtain ⟨_, _, hll, _⟩ := xC k1;unfold qV ogChk at k7;by_cases h8 : 16 < x.outs.length
 ·rw [if_pos h8] at k7; cases k7
 rw [if_neg h8] at k7;have k8 := tF k7;unfold jF at h;by_cases h9 : 8 < x.rights.length
 ·rw [if_pos h9] at h; cases h
 rw [if_neg h9] at h;by_cases h10 : x.rights.all (rtOk x.net.buses) = true
 ·refine ⟨k1, by omega, fV (Decidable.not_not.1 h3), by omega, fun y hy => sT (fV (Decidable.not_not.1 h6) y hy), by omega, fun o ho => ?_, by omega, fun r hr => ?_⟩
  ·have h11 := k8 o ho;unfold ogWr at h11;by_cases h12 : o.1 ≠ 1 ∧ o.1 ≠ 2 ∧ o.1 ≠ 3
   ·rw [if_pos h12] at h11; cases h11
   rw [if_neg h12] at h11;refine ⟨by omega, ?_⟩;unfold qG;simp only [κb, κe];by_cases hk3 : o.1 = 3
   ·simp only [hk3, if_true] at h11 ⊢;by_cases h13 : o.2.1 < 0 ∨ (x.units.length : Int) ≤ o.2.1 ∨ o.2.2.1 < 0 ∨ o.2.2.2 < o.2.2.1 ∨ (x.hours.length : Int) ≤ o.2.2.2
    ·rw [if_pos h13] at h11; cases h11
    ·omega
   ·simp only [hk3, if_false] at h11 ⊢;by_cases h13 : o.2.1 < 0 ∨ (x.net.lines.length : Int) ≤ o.2.1 ∨ o.2.2.1 < 0 ∨ o.2.2.2 < o.2.2.1 ∨ (x.hours.length : Int) ≤ o.2.2.2
    ·rw [if_pos h13] at h11; cases h11
    ·omega
  ·have h11 := List.all_eq_true.1 h10 r hr;obtain ⟨_, hb6, _, _⟩ := xC k1;unfold rtOk inB at h11;simp only [κb, κe] at h11;unfold RtOk small;omega
 ·rw [if_neg h10] at h; cases h
def caseS (x : Cs) : Bytes := [40, 99, 97, 115, 101, 32] ++ joinS (fmtT (netT x.net)) [listS [117, 110, 105, 116, 115] (x.units.map (fun x => fmtT (unitT x))), listS [104, 111, 117, 114, 115] (x.hours.map hourS), listS [111, 117, 116, 97, 103, 101, 115] (x.outs.map (fun x => fmtT (outT x))), listS [114, 105, 103, 104, 116, 115] (x.rights.map qZ)] ++ [41]
def fmtR (x : Cs) : Bytes × Int := if dayE x = 0 then (caseS x, 0) else ([], dayE x)
end Go.Proofs.YtkfhpefmmhljmaaGreatDoor
