/- Texts in one: FmF, FmG. -/
import Derived.Test.YtkfhpefmmhljmaaGreatDoorE26
import Derived.Test.YtkfhpefmmhljmaaGreatDoorE25
import Derived.Test.YtkfhpefmmhljmaaGreatDoorE27
set_option linter.unusedVariables false
set_option linter.unusedSimpArgs false
set_option maxHeartbeats 16000000
set_option maxRecDepth 100000
namespace Go.Proofs.YtkfhpefmmhljmaaGreatDoor
open Go.RowKit
theorem nG (n : Int) (ng : Bool) (A : Option Addr) (k c : Nat) (w : World) (h : NumR w w (.agg #[.bool ng, .slice A k c]) n) (h0 : -2147483648 < n) (h1 : n < 2147483648) :
  Calls Tryz.prog 208 #[.agg #[.bool ng, .slice A k c, .bool false, .slice none 0 0]] w fun e w' => e = .returned (.tuple #[.int .i64 n, .int .i64 1, .bool true]) ∧ Below w w w' := by
 have HX : Hid (Box (w.alloc (.cells #[.bool ng, .slice A k c, .bool false, .slice none 0 0] 85)) w [.bool ng, .slice A k c, .bool false, .slice none 0 0]) := Box.new w #[.bool ng, .slice A k c, .bool false, .slice none 0 0] 85;have HB : Hid (Below w w (w.alloc (.cells #[.bool ng, .slice A k c, .bool false, .slice none 0 0] 85))) := βA _;have K1 := η (yS (.agg #[.bool ng, .slice A k c]) n (w.alloc (.cells #[.bool ng, .slice A k c, .bool false, .slice none 0 0] 85)) (h.upto HB.out));have K2 := η (fun W => yS (.agg #[.bool false, .slice none 0 0]) 0 W (NumR.zero _ _));rw [gJ (by omega)] at K1 K2;have d0 : decide (n ≤ -2147483648) = false := κf (by omega);have d1 : decide (2147483648 ≤ n) = false := κf (by omega);clear h h0 h1;go_enter Tryz.func208, Tryz.ntmps208;go_wp2_with fail;refine K1.out.mono ?_;rintro e w1 ⟨rfl, hb1⟩;have HX1 := η (HX.out.up hb1 (by simp));have HB1 := η (HB.out.trans (hb1.mono (by simp)));clear hb1 HX HB K1;obtain ⟨q0, s0, q1, s1, q2, s2, q3, s3⟩ := sqX4 HX1.out;go_wp2_with fail;refine (K2.out _).mono ?_;rintro e w2 ⟨rfl, hb2⟩;have HB2 := βT HB1 hb2;clear hb2 K2 HX1 HB1 q0 q1 q2 q3 s0 s1 s2 s3;go_wp2_with fail;go_ret3;exact ⟨rfl, HB2.out⟩
theorem nL (n : Int) (w : World) (h0 : -2147483648 < n) (h1 : n < 2147483648) :
  Calls Tryz.prog 209 #[.int .i64 n, .int .i64 1] w (Q1E w n) := by
 have HX : Hid (Box (w.alloc (.cells #[.bool false, .slice none 0 0, .bool false, .slice none 0 0] 85)) w [.bool false, .slice none 0 0, .bool false, .slice none 0 0]) := Box.new w #[.bool false, .slice none 0 0, .bool false, .slice none 0 0] 85;have HB : Hid (Below w w (w.alloc (.cells #[.bool false, .slice none 0 0, .bool false, .slice none 0 0] 85))) := βA _;have K := η fun W => fL n W (by omega) (by omega)
 have hm : n.tmod 1 = 0 := Int.tmod_one n;have hd : n.tdiv 1 = n := Int.tdiv_one n;have hw : IntKind.i64.wrap n = n := IntWalk.i64_in _ (by omega);clear h0 h1;go_enter Tryz.func209, Tryz.ntmps209;go_wp2_with fail;go_loopg [5, 6] 1 (fun gk s5 s6 wr => ((gk = 1 ∧ s5 = .int .i64 n ∧ s6 = .int .i64 1) ∨ (gk = 0 ∧ s5 = .int .i64 1 ∧ s6 = .int .i64 0)) ∧ Box wr w [.bool false, .slice none 0 0, .bool false, .slice none 0 0] ∧ Below w w wr ∧ w < wr.heap.size)
 case atStart => exact ⟨.inl ⟨rfl, rfl, rfl⟩, HX.out, HB.out, by simp⟩
 case round =>
  obtain ⟨hc, hx, hb, hz⟩ := hrel;have HX1 := η hx;have HB1 := η hb;clear hx hb HX HB;rcases hc with ⟨rfl, rfl, rfl⟩ | ⟨rfl, rfl, rfl⟩
  ·go_wp2_with fail;go_quiet (fail);go_wp2_with fail;go_roundg 0
   case measure => omega
   case rel => exact ⟨.inr ⟨rfl, rfl, rfl⟩, HX1.out, uE HB1.out _, hz⟩
  ·have HK := η (K.out wr);obtain ⟨q0, s0, q1, s1, q2, s2, q3, s3⟩ := sqX4 HX1.out;go_wp2_with fail;refine HK.out.mono ?_;rintro e w1 ⟨a0, a1, rfl, hv, hb1⟩;obtain ⟨ng, A, k, c, rfl, rfl⟩ := hv.form;have hz1 : w < w1.heap.size := νl hz hb1.size;have HX2 := η (HX1.out.up hb1 hz);have HB2 := η (HB1.out.trans (hb1.mono (κl hz)));have HN := η (hv.mono (base' := w + 1) hz);clear q0 q1 q2 q3 s0 s1 s2 s3 HX1 HB1 hv hb1 HK K;obtain ⟨q0, s0, q1, s1, q2, s2, q3, s3⟩ := sqX4 HX2.out;go_wp2_with fail;have HF : Hid (Below w w ((((w1.setCell ⟨w, 0, none⟩ (.bool ng)).setCell ⟨w, 1, none⟩ (.slice A k c)).setCell ⟨w, 2, none⟩ (.bool false)).setCell ⟨w, 3, none⟩ (.slice none 0 0))) := zE HB2.out (νr w) [.bool ng, .slice A k c, .bool false, .slice none 0 0] 0;have HM : Hid (N1 ((((w1.setCell ⟨w, 0, none⟩ (.bool ng)).setCell ⟨w, 1, none⟩ (.slice A k c)).setCell ⟨w, 2, none⟩ (.bool false)).setCell ⟨w, 3, none⟩ (.slice none 0 0)) w (.bool ng) (.slice A k c) n) := ((((HN.out.set (p := ⟨w, 0, none⟩) (by simp) (.bool ng)).set (p := ⟨w, 1, none⟩) (by simp) (.slice A k c)).set (p := ⟨w, 2, none⟩) (by simp) (.bool false)).set (p := ⟨w, 3, none⟩) (by simp) (.slice none 0 0)).mono (by omega);exact κr (v := .agg #[.bool ng, .slice A k c, .bool false, .slice none 0 0]) (by simp [results, Tryz.results209, go_sem, q0, q1, q2, q3]) rfl ⟨_, _, rfl, HM.out, HF.out⟩
theorem aO (n : Int) (ng : Bool) (A : Option Addr) (k c : Nat) (w : World) (h : NumR w w (.agg #[.bool ng, .slice A k c]) n) (h0 : -2147483648 < n) (h1 : n < 2147483648) :
  Calls Tryz.prog 176 #[.agg #[.bool ng, .slice A k c, .bool false, .slice none 0 0]] w (Q1E w n) := by
 have HX : Hid (Box ((w.alloc (.cells #[.bool ng, .slice A k c, .bool false, .slice none 0 0] 85)).alloc (.cells #[.bool false, .slice none 0 0, .bool false, .slice none 0 0] 85)) w [.bool ng, .slice A k c, .bool false, .slice none 0 0]) := (Box.new w #[.bool ng, .slice A k c, .bool false, .slice none 0 0] 85).alloc (by simp) _;have HY : Hid (Box ((w.alloc (.cells #[.bool ng, .slice A k c, .bool false, .slice none 0 0] 85)).alloc (.cells #[.bool false, .slice none 0 0, .bool false, .slice none 0 0] 85)) (w + 1) [.bool false, .slice none 0 0, .bool false, .slice none 0 0]) := by
  have := Box.new (w.alloc (.cells #[.bool ng, .slice A k c, .bool false, .slice none 0 0] 85)) #[.bool false, .slice none 0 0, .bool false, .slice none 0 0] 85;show Box _ _ _
  simpa using this
 have HB : Hid (Below w w ((w.alloc (.cells #[.bool ng, .slice A k c, .bool false, .slice none 0 0] 85)).alloc (.cells #[.bool false, .slice none 0 0, .bool false, .slice none 0 0] 85))) := (βA _).alloc (by simp) _;have K1 := η (nG n ng A k c ((w.alloc (.cells #[.bool ng, .slice A k c, .bool false, .slice none 0 0] 85)).alloc (.cells #[.bool false, .slice none 0 0, .bool false, .slice none 0 0] 85)) (h.upto HB.out) h0 h1);have K2 := η fun W => nL n W h0 h1
 clear h h0 h1;go_enter Tryz.func176, Tryz.ntmps176;go_wp2_with fail;refine K1.out.mono ?_;rintro e w1 ⟨rfl, hb1⟩;have hz1 : w + 1 < w1.heap.size := νl (by simp) hb1.size;have HY1 := η (HY.out.up hb1 (by simp));have HB1 := η (HB.out.trans (hb1.mono (by simp; omega)));clear hb1 HX HY HB K1;go_wp2_with fail;refine (K2.out _).mono ?_;rintro e w2 ⟨a0, a1, rfl, hv, hb2⟩;obtain ⟨ng, A, k, c, rfl, rfl⟩ := hv.form;have hz2 : w + 1 < w2.heap.size := νl hz1 hb2.size;have HY2 := η (HY1.out.up hb2 hz1);have HB2 := η (HB1.out.trans (hb2.mono (by omega)));have HN := η (hv.mono (base' := w + 2) hz1);clear hb2 HY1 HB1 hv K2;obtain ⟨q0, s0, q1, s1, q2, s2, q3, s3⟩ := sqX4 HY2.out;go_wp2_with fail;have HF : Hid (Below w w ((((w2.setCell ⟨w + 1, 0, none⟩ (.bool ng)).setCell ⟨w + 1, 1, none⟩ (.slice A k c)).setCell ⟨w + 1, 2, none⟩ (.bool false)).setCell ⟨w + 1, 3, none⟩ (.slice none 0 0))) := zE HB2.out (show w ≤ w.heap.size + 1 by omega) [.bool ng, .slice A k c, .bool false, .slice none 0 0] 0;have HM : Hid (N1 ((((w2.setCell ⟨w + 1, 0, none⟩ (.bool ng)).setCell ⟨w + 1, 1, none⟩ (.slice A k c)).setCell ⟨w + 1, 2, none⟩ (.bool false)).setCell ⟨w + 1, 3, none⟩ (.slice none 0 0)) w (.bool ng) (.slice A k c) n) := ((((HN.out.set (p := ⟨w + 1, 0, none⟩) (by simp) (.bool ng)).set (p := ⟨w + 1, 1, none⟩) (by simp) (.slice A k c)).set (p := ⟨w + 1, 2, none⟩) (by simp) (.bool false)).set (p := ⟨w + 1, 3, none⟩) (by simp) (.slice none 0 0)).mono (by omega);exact κr (v := .agg #[.bool ng, .slice A k c, .bool false, .slice none 0 0]) (by simp [results, Tryz.results176, go_sem, q0, q1, q2, q3]) rfl ⟨_, _, rfl, HM.out, HF.out⟩
theorem vI (n : Int) (ng : Bool) (A : Option Addr) (k c : Nat) (w : World) (h : NumR w w (.agg #[.bool ng, .slice A k c]) n) (h0 : -2147483648 < n) (h1 : n < 2147483648) :
  Calls Tryz.prog 131 #[.agg #[.bool ng, .slice A k c, .bool false, .slice none 0 0]] w fun e w' => e = .returned (.string (bstr (Lib.itoa n))) ∧ Below w w w' := by
 have HB : Hid (Below w w (w.alloc (.cells #[.bool ng, .slice A k c, .bool false, .slice none 0 0] 85))) := βA _;have K1 := η (aO n ng A k c (w.alloc (.cells #[.bool ng, .slice A k c, .bool false, .slice none 0 0] 85)) (h.upto HB.out) h0 h1);clear h h0 h1;go_enter Tryz.func131, Tryz.ntmps131;go_wp2_with fail;refine K1.out.mono ?_;rintro e w1 ⟨a0, a1, rfl, hv, hb1⟩;obtain ⟨ng, A, k, c, rfl, rfl⟩ := hv.form;have HB1 := η ((HB.out.trans (hb1.mono (by simp))).alloc (by have := hb1.size; simp at this; omega) (.cells #[.bool ng, .slice A k c, .bool false, .slice none 0 0] 85));have K2 := η (fS n _ _ _ (w1.alloc (.cells #[.bool ng, .slice A k c, .bool false, .slice none 0 0] 85)) (hv.below (βA _)));clear hb1 hv K1 HB;go_wp2_with fail;refine K2.out.mono ?_;rintro e w2 ⟨rfl, hb2⟩;have HB2 := βT HB1 hb2;clear hb2 HB1 K2;go_wp2_with fail;go_ret;exact ⟨rfl, HB2.out⟩
def TkR : Enc Tk := fun w B c t => match t with
 | .op => c = [.int .u8 1, .string ⟨#[]⟩, .bool false, .slice none 0 0, .bool false, .slice none 0 0]
 | .cl => c = [.int .u8 2, .string ⟨#[]⟩, .bool false, .slice none 0 0, .bool false, .slice none 0 0]
 | .wd y => c = [.int .u8 3, .string (bstr y), .bool false, .slice none 0 0, .bool false, .slice none 0 0]
 | .nm n => ∃ ng A k c', c = [.int .u8 4, .string ⟨#[]⟩, .bool ng, .slice A k c', .bool false, .slice none 0 0] ∧ NumR w B (.agg #[.bool ng, .slice A k c']) n
theorem NumR.keep {w w' : World} {B B' : Nat} {v : Value} {n : Int} (h : NumR w B v n) (hk : ∀ p : Addr, p.block < B → w'.cell? p = w.cell? p) (hB : B ≤ B') : NumR w' B' v n := by
 obtain ⟨neg, A, ws, c, h1, h2, h2', h3, h4⟩ := h;exact ⟨neg, A, ws, c, h1, h2, h2', (h3.keep hk).more hB, h4⟩
theorem TkR.keep : EKeep TkR := ⟨fun {w w' B B' c x} hk hB h => by
 cases x with
 | op => exact h
 | cl => exact h
 | wd y => exact h
 | nm n => obtain ⟨ng, A, k, c', h1, h2⟩ := h; exact ⟨ng, A, k, c', h1, h2.keep hk hB⟩⟩
theorem TkO.read {w : World} {base : Nat} {c : List Value} {t : Tk} (h : TkO w base c t) : TkR w w c t := by
 cases t with
 | op => exact h
 | cl => exact h
 | wd y => exact h
 | nm n =>
  obtain ⟨a0, a1, rfl, h2⟩ := h;obtain ⟨ng, A, k, c, rfl, rfl⟩ := h2.form;exact ⟨ng, A, k, c, rfl, h2.num⟩
theorem TkR.kind {w : World} {B : Nat} {c : List Value} {t : Tk} (h : TkR w B c t) : c[0]? = some (.int .u8 (qB t)) := by
 cases t with
 | op => replace h : c = _ := h; subst h; rfl
 | cl => replace h : c = _ := h; subst h; rfl
 | wd y => replace h : c = _ := h; subst h; rfl
 | nm n => obtain ⟨ng, A, k, c', rfl, _⟩ := h; rfl
theorem qS (B b : Nat) (bs : List Value) (s : ByteArray) (w : World) (h : Lib.IsBuilder 115 5 B b bs w) (hlen : bs.length + s.size ≤ 140737488355328) (hBw : B ≤ w) :
  Calls Tryz.prog 60 #[.pointer (some ⟨b, 0, none⟩), .string s] w fun e w' => e = .returned (.tuple #[.int .i64 s.size, .nilIface]) ∧ Lib.IsBuilder 115 5 B b (bs ++ Lib.strCells s) w' ∧ Below B w w' :=
 (Any.Builder_WriteString (P := Tryz.prog) (ρ := Tryz.lays156_ren) { Tryz.lays156 with } Tryz.Builder_Extra_156 B b bs s w h hlen hBw).mono fun e w' h => ⟨h.1, .inr h.2.1, h.2.2⟩
theorem jL (B b : Nat) (T : Bytes) (w : World) (h : Lib.IsBuilder 115 5 B b (Lib.byteCells T) w) : Calls Tryz.prog 61 #[.pointer (some ⟨b, 0, none⟩)] w fun e w' => e = .returned (.int .i64 (T.length : Int)) ∧ w' = w :=
 (Tryz.Builder_Len B b _ w h).mono (by rintro e w' ⟨rfl, rfl⟩; rw [Lib.byteCells_length]; exact ⟨rfl, rfl⟩)
theorem zU (a b : Bytes) (w : World) (h : a.length + b.length ≤ 1000000) : (Op.stringOp .add (bstr a) (bstr b)).run Tryz.prog w = .ok (.string (bstr (a ++ b))) w := by
 have := run_string_add_sum (P := Tryz.prog) (w := w) (bstr a) (bstr b) (by rw [zM, zM]; omega);rw [this, dR]
theorem gI {t : Tk} (h : qB t = 1) : isOp t = true := by
 cases t with
 | op => rfl
 | cl => exact absurd (show (2 : Int) = 1 from h) (by decide)
 | wd y => exact absurd (show (3 : Int) = 1 from h) (by decide)
 | nm n => exact absurd (show (4 : Int) = 1 from h) (by decide)
theorem pE {t : Tk} (h : qB t ≠ 1) : isOp t = false := by
 cases t with
 | op => exact absurd rfl h
 | cl => rfl
 | wd y => rfl
 | nm n => rfl
theorem jG {w w' : World} {T e : TypeId} {B b : Nat} {bs : List Value} (h : Lib.IsBuilder T e B b bs w) (hb : Below w w w') : Lib.IsBuilder T e B b bs w' := by
 have key : ∀ p, Lib.BuilderAt T e B b p bs w → Lib.BuilderAt T e B b p bs w' := fun p ⟨h1, v, h2, h3, h4⟩ =>
  ⟨h1, v, (hb.block b (κi h2).1).trans h2, qK h3 hb, h4⟩
 exact h.imp (key _) (key _)
def TxtE (w : World) (t : Bytes) (e : Ending) (w' : World) : Prop := e = .returned (.tuple #[.string (bstr t), .int .i64 0]) ∧ Below w w w'
theorem jS (base : Nat) (A : Option Addr) (c : Nat) (l : List Tk) (w : World) (hl : RowO TkO 87 6 w base (.slice A l.length c) l) (hw : ∀ t ∈ l, TkWf t) (hn : (fmtT l).length ≤ 65536) (hm : l.length ≤ 100000) :
  Calls Tryz.prog 65 #[.slice A l.length c] w (TxtE w (fmtT l)) := by
 obtain ⟨A', c', hA, _, hrow⟩ := hl.read (E' := TkR) (fun _ _ h => h.read);injection hA with hA _ _
 subst hA;have HL := η hrow;have HW := η hw;have HN := η hn;clear hl hrow hw hn;have HB0 : Hid (Below w w (w.alloc (.cells #[.pointer none, .slice none 0 0] 115))) := βA _;have HS0 : Hid (Lib.IsBuilder 115 5 w w (Lib.byteCells (fmtT (l.take 0))) (w.alloc (.cells #[.pointer none, .slice none 0 0] 115))) := by
  show Lib.IsBuilder _ _ _ _ _ _
  rw [List.take_zero];exact Lib.fresh_isBuilder _ _ w
 go_enter Tryz.func65, Tryz.ntmps65;go_wp2_with fail;go_loopg [5, 11] l.length (fun gk s5 s11 wr => ∃ k : Nat, k + gk = l.length ∧ s11 = .int .i64 (k : Int) ∧ s5 = .bool false ∧ Lib.IsBuilder 115 5 w w (Lib.byteCells (fmtT (l.take k))) wr ∧ Below w w wr)
 case atStart => exact ⟨0, by omega, rfl, rfl, HS0.out, HB0.out⟩
 case round =>
  obtain ⟨k, hkg, rfl, rfl, hbu, hbl⟩ := hrel;have HS := η hbu;have HB := η hbl;clear hbu hbl HS0 HB0;cases gk with
  | zero =>
   obtain rfl : k = l.length := by omega
   clear hkg;go_wp2_with fail;refine (Tryz.Builder_String_any w w _ wr HS.out HB.out.size).mono ?_;rintro e w1 ⟨rfl, hb1⟩;have HB1 := η (HB.out.trans hb1);clear hb1 HS HB;go_wp2_with fail;go_ret2;exact ⟨rfl, HB1.out⟩
  | succ g =>
   have hk : k < l.length := by omega
   have HG := η hkg;clear hkg;have HLR := η (HL.out.up TkR.keep HB.out);obtain ⟨b, off, cc, rfl, hb, hc1, hc2, hc3⟩ := HLR.out.at_ k .op hk;have HT : Hid (l.take (k + 1) = l.take k ++ [l.getD k .op]) := by show _ = _; rw [κs hk, zL l k .op hk]
   have HWF := η (HW.out (l.getD k .op) (by rw [zL l k .op hk]; exact List.getElem_mem hk));generalize htt : l.getD k .op = tk at *;have HTT := η htt;clear htt;have HLE : Hid ((fmtT (l.take k)).length + (sepO (l.take k).getLast? tk ++ tkStr tk).length ≤ 65536) := by
    show _ ≤ _
    have h1 := fM l (k + 1);rw [HT.out, fN, κa] at h1;exact Nat.le_trans h1 HN.out
   have hzw : w ≤ wr.heap.size := HB.out.size;have hbw : b < wr := by omega
   obtain ⟨T0, hT0⟩ : ∃ T, T = fmtT (l.take k) := ⟨_, rfl⟩;rw [← hT0] at HS HLE;have HTN : Hid (fmtT (l.take (k + 1)) = T0 ++ (sepO (l.take k).getLast? tk ++ tkStr tk)) := by show _ = _; rw [HT.out, fN, hT0]
   clear hT0 HT;cases tk with
   | op =>
    replace hc2 : cc = _ := hc2;subst hc2;have f0 := hc3 0 _ rfl;have f1 := hc3 1 _ rfl;have f2 := hc3 2 _ rfl;have f3 := hc3 3 _ rfl;have f4 := hc3 4 _ rfl;have f5 := hc3 5 _ rfl;rw [κz] at f0;clear hc3 hc1;have HS1 : Hid (Lib.IsBuilder 115 5 w w (Lib.byteCells T0) (wr.alloc (.cells #[.int .u8 1, .string ⟨#[]⟩, .bool false, .slice none 0 0, .bool false, .slice none 0 0] 87))) := jG HS.out (βA _);have HB1 : Hid (Below w w (wr.alloc (.cells #[.int .u8 1, .string ⟨#[]⟩, .bool false, .slice none 0 0, .bool false, .slice none 0 0] 87))) := HB.out.alloc hzw _;by_cases hk0 : k = 0
    ·subst hk0;rw [Nat.zero_mul, κz] at f0;rw [Nat.zero_mul, κz] at f1;rw [Nat.zero_mul, κz] at f2;rw [Nat.zero_mul, κz] at f3;rw [Nat.zero_mul, κz] at f4;rw [Nat.zero_mul, κz] at f5;obtain ⟨o, ho⟩ : ∃ o, o = (l.take 0).getLast? := ⟨_, rfl⟩;have hsep : ∀ t, sepO o t = [] := fun t => by rw [ho]; rfl
     rw [← ho] at HLE HTN;rw [hsep] at HLE HTN;have hle : T0.length + 1 ≤ 65536 := by
      have h := HLE.out;simp only [tkStr, κa, κc, κn] at h;omega
     have d6 : decide ((65536 : Int) < (T0.length : Int) + 1) = false := κf (by omega);have hcells : Hid (Lib.byteCells T0 ++ Lib.strCells ⟨#[40]⟩ = Lib.byteCells (fmtT (l.take (0 + 1)))) := by
      show _ = _
      rw [HTN.out]; simp [Lib.byteCells, Lib.strCells, tkStr, bstr]
     clear HLE HTN ho;have KL := η fun W (hS : Lib.IsBuilder 115 5 w w (Lib.byteCells T0) W) => jL _ _ T0 W hS
     have KW := η fun W hS hB => qS w w (Lib.byteCells T0) ⟨#[40]⟩ W hS (by rw [Lib.byteCells_length]; show T0.length + 1 ≤ _; omega) hB
     go_wp2_with fail;refine (KL.out _ HS1.out).mono ?_;rintro e w' ⟨rfl, rfl⟩;go_wp2_with fail;refine (KW.out _ HS1.out HB1.out.size).mono ?_;rintro e w4 ⟨rfl, hbu4, hb4⟩;rw [hcells.out] at hbu4;have HS4 := η hbu4;have HB4 := η (HB1.out.trans hb4);clear hbu4 hb4 KW KL HS1 HB1;go_wp2_with fail;go_roundg g
     case measure => omega
     case rel => exact ⟨0 + 1, by have := HG.out; omega, by go_num, rfl, HS4.out, HB4.out⟩
    obtain ⟨j, rfl⟩ : ∃ j, k = j + 1 := ⟨k - 1, by omega⟩;obtain ⟨b2, off2, c2, he2, hb2, hd1, hd2, hd3⟩ := HLR.out.at_ j .op (by omega);injection he2 with he2
    injection he2 with he3 he4 _
    subst he3 he4;have p0 := hd3 0 _ hd2.kind;rw [κz] at p0;obtain ⟨o, ho⟩ : ∃ o, o = (l.take (j + 1)).getLast? := ⟨_, rfl⟩;have hlast : o = some (l.getD j .op) := by rw [ho, vS l j (by omega)]
    rw [← ho] at HLE HTN;generalize l.getD j .op = pt at *;clear hd1 hd2 hd3 hk0;by_cases hpo : qB pt = 1
    ·have hop : isOp pt = true := gI hpo;have hsep : ∀ t, sepO o t = [] := fun t => by rw [hlast]; show sepB pt t = []; rw [sepB, hop]; rfl
     rw [hpo] at p0;rw [hsep] at HLE HTN;have hle : T0.length + 1 ≤ 65536 := by
      have h := HLE.out;simp only [tkStr, κa, κc, κn] at h;omega
     have d6 : decide ((65536 : Int) < (T0.length : Int) + 1) = false := κf (by omega);have hcells : Hid (Lib.byteCells T0 ++ Lib.strCells ⟨#[40]⟩ = Lib.byteCells (fmtT (l.take ((j + 1) + 1)))) := by
      show _ = _
      rw [HTN.out]; simp [Lib.byteCells, Lib.strCells, tkStr, bstr]
     clear HLE HTN ho hlast hop hpo;have KL := η fun W (hS : Lib.IsBuilder 115 5 w w (Lib.byteCells T0) W) => jL _ _ T0 W hS
     have KW := η fun W hS hB => qS w w (Lib.byteCells T0) ⟨#[40]⟩ W hS (by rw [Lib.byteCells_length]; show T0.length + 1 ≤ _; omega) hB
     go_wp2_with fail;refine (KL.out _ HS1.out).mono ?_;rintro e w' ⟨rfl, rfl⟩;go_wp2_with fail;refine (KW.out _ HS1.out HB1.out.size).mono ?_;rintro e w4 ⟨rfl, hbu4, hb4⟩;rw [hcells.out] at hbu4;have HS4 := η hbu4;have HB4 := η (HB1.out.trans hb4);clear hbu4 hb4 KW KL HS1 HB1;go_wp2_with fail;go_roundg g
     case measure => omega
     case rel => exact ⟨(j + 1) + 1, by have := HG.out; omega, by go_num, rfl, HS4.out, HB4.out⟩
    ·have hop : isOp pt = false := pE hpo;have e1 : (qB pt == 1) = false := βf hpo;have e2 : (qB pt != 1) = true := βt hpo;have hsep : sepO o (.op) = [32] := by rw [hlast]; show sepB pt _ = [32]; rw [sepB, hop]; rfl
     rw [hsep] at HLE HTN;have ep : (⟨#[32]⟩ : ByteArray) ++ ⟨#[40]⟩ = ⟨#[32, 40]⟩ := rfl;have hle : T0.length + 2 ≤ 65536 := by
      have h := HLE.out;simp only [tkStr, κa, κc, κn] at h;omega
     have d6 : decide ((65536 : Int) < (T0.length : Int) + 2) = false := κf (by omega);have hcells : Hid (Lib.byteCells T0 ++ Lib.strCells ⟨#[32, 40]⟩ = Lib.byteCells (fmtT (l.take ((j + 1) + 1)))) := by
      show _ = _
      rw [HTN.out]; simp [Lib.byteCells, Lib.strCells, tkStr, bstr]
     clear HLE HTN ho hlast hop hpo;have KL := η fun W (hS : Lib.IsBuilder 115 5 w w (Lib.byteCells T0) W) => jL _ _ T0 W hS
     have KW := η fun W hS hB => qS w w (Lib.byteCells T0) ⟨#[32, 40]⟩ W hS (by rw [Lib.byteCells_length]; show T0.length + 2 ≤ _; omega) hB
     go_wp2_with fail;refine (KL.out _ HS1.out).mono ?_;rintro e w' ⟨rfl, rfl⟩;go_wp2_with fail;refine (KW.out _ HS1.out HB1.out.size).mono ?_;rintro e w4 ⟨rfl, hbu4, hb4⟩;rw [hcells.out] at hbu4;have HS4 := η hbu4;have HB4 := η (HB1.out.trans hb4);clear hbu4 hb4 KW KL HS1 HB1;go_wp2_with fail;go_roundg g
     case measure => omega
     case rel => exact ⟨(j + 1) + 1, by have := HG.out; omega, by go_num, rfl, HS4.out, HB4.out⟩
   | cl =>
    replace hc2 : cc = _ := hc2;subst hc2;have f0 := hc3 0 _ rfl;have f1 := hc3 1 _ rfl;have f2 := hc3 2 _ rfl;have f3 := hc3 3 _ rfl;have f4 := hc3 4 _ rfl;have f5 := hc3 5 _ rfl;rw [κz] at f0;clear hc3 hc1;have HS1 : Hid (Lib.IsBuilder 115 5 w w (Lib.byteCells T0) (wr.alloc (.cells #[.int .u8 2, .string ⟨#[]⟩, .bool false, .slice none 0 0, .bool false, .slice none 0 0] 87))) := jG HS.out (βA _);have HB1 : Hid (Below w w (wr.alloc (.cells #[.int .u8 2, .string ⟨#[]⟩, .bool false, .slice none 0 0, .bool false, .slice none 0 0] 87))) := HB.out.alloc hzw _;by_cases hk0 : k = 0
    ·subst hk0;rw [Nat.zero_mul, κz] at f0;rw [Nat.zero_mul, κz] at f1;rw [Nat.zero_mul, κz] at f2;rw [Nat.zero_mul, κz] at f3;rw [Nat.zero_mul, κz] at f4;rw [Nat.zero_mul, κz] at f5;obtain ⟨o, ho⟩ : ∃ o, o = (l.take 0).getLast? := ⟨_, rfl⟩;have hsep : ∀ t, sepO o t = [] := fun t => by rw [ho]; rfl
     rw [← ho] at HLE HTN;rw [hsep] at HLE HTN;have hle : T0.length + 1 ≤ 65536 := by
      have h := HLE.out;simp only [tkStr, κa, κc, κn] at h;omega
     have d6 : decide ((65536 : Int) < (T0.length : Int) + 1) = false := κf (by omega);have hcells : Hid (Lib.byteCells T0 ++ Lib.strCells ⟨#[41]⟩ = Lib.byteCells (fmtT (l.take (0 + 1)))) := by
      show _ = _
      rw [HTN.out]; simp [Lib.byteCells, Lib.strCells, tkStr, bstr]
     clear HLE HTN ho;have KL := η fun W (hS : Lib.IsBuilder 115 5 w w (Lib.byteCells T0) W) => jL _ _ T0 W hS
     have KW := η fun W hS hB => qS w w (Lib.byteCells T0) ⟨#[41]⟩ W hS (by rw [Lib.byteCells_length]; show T0.length + 1 ≤ _; omega) hB
     go_wp2_with fail;refine (KL.out _ HS1.out).mono ?_;rintro e w' ⟨rfl, rfl⟩;go_wp2_with fail;refine (KW.out _ HS1.out HB1.out.size).mono ?_;rintro e w4 ⟨rfl, hbu4, hb4⟩;rw [hcells.out] at hbu4;have HS4 := η hbu4;have HB4 := η (HB1.out.trans hb4);clear hbu4 hb4 KW KL HS1 HB1;go_wp2_with fail;go_roundg g
     case measure => omega
     case rel => exact ⟨0 + 1, by have := HG.out; omega, by go_num, rfl, HS4.out, HB4.out⟩
    obtain ⟨j, rfl⟩ : ∃ j, k = j + 1 := ⟨k - 1, by omega⟩;obtain ⟨b2, off2, c2, he2, hb2, hd1, hd2, hd3⟩ := HLR.out.at_ j .op (by omega);injection he2 with he2
    injection he2 with he3 he4 _
    subst he3 he4;have p0 := hd3 0 _ hd2.kind;rw [κz] at p0;obtain ⟨o, ho⟩ : ∃ o, o = (l.take (j + 1)).getLast? := ⟨_, rfl⟩;have hlast : o = some (l.getD j .op) := by rw [ho, vS l j (by omega)]
    rw [← ho] at HLE HTN;generalize l.getD j .op = pt at *;clear hd1 hd2 hd3 hk0;by_cases hpo : qB pt = 1
    ·have hop : isOp pt = true := gI hpo;have hsep : ∀ t, sepO o t = [] := fun t => by rw [hlast]; show sepB pt t = []; rw [sepB, hop]; rfl
     rw [hpo] at p0;rw [hsep] at HLE HTN;have hle : T0.length + 1 ≤ 65536 := by
      have h := HLE.out;simp only [tkStr, κa, κc, κn] at h;omega
     have d6 : decide ((65536 : Int) < (T0.length : Int) + 1) = false := κf (by omega);have hcells : Hid (Lib.byteCells T0 ++ Lib.strCells ⟨#[41]⟩ = Lib.byteCells (fmtT (l.take ((j + 1) + 1)))) := by
      show _ = _
      rw [HTN.out]; simp [Lib.byteCells, Lib.strCells, tkStr, bstr]
     clear HLE HTN ho hlast hop hpo;have KL := η fun W (hS : Lib.IsBuilder 115 5 w w (Lib.byteCells T0) W) => jL _ _ T0 W hS
     have KW := η fun W hS hB => qS w w (Lib.byteCells T0) ⟨#[41]⟩ W hS (by rw [Lib.byteCells_length]; show T0.length + 1 ≤ _; omega) hB
     go_wp2_with fail;refine (KL.out _ HS1.out).mono ?_;rintro e w' ⟨rfl, rfl⟩;go_wp2_with fail;refine (KW.out _ HS1.out HB1.out.size).mono ?_;rintro e w4 ⟨rfl, hbu4, hb4⟩;rw [hcells.out] at hbu4;have HS4 := η hbu4;have HB4 := η (HB1.out.trans hb4);clear hbu4 hb4 KW KL HS1 HB1;go_wp2_with fail;go_roundg g
     case measure => omega
     case rel => exact ⟨(j + 1) + 1, by have := HG.out; omega, by go_num, rfl, HS4.out, HB4.out⟩
    ·have hop : isOp pt = false := pE hpo;have e1 : (qB pt == 1) = false := βf hpo;have e2 : (qB pt != 1) = true := βt hpo;have hsep : sepO o .cl = [] := by rw [hlast]; show sepB pt .cl = []; rw [sepB, hop]; rfl
     rw [hsep] at HLE HTN;have hle : T0.length + 1 ≤ 65536 := by
      have h := HLE.out;simp only [tkStr, κa, κc, κn] at h;omega
     have d6 : decide ((65536 : Int) < (T0.length : Int) + 1) = false := κf (by omega);have hcells : Hid (Lib.byteCells T0 ++ Lib.strCells ⟨#[41]⟩ = Lib.byteCells (fmtT (l.take ((j + 1) + 1)))) := by
      show _ = _
      rw [HTN.out]; simp [Lib.byteCells, Lib.strCells, tkStr, bstr]
     clear HLE HTN ho hlast hop hpo;have KL := η fun W (hS : Lib.IsBuilder 115 5 w w (Lib.byteCells T0) W) => jL _ _ T0 W hS
     have KW := η fun W hS hB => qS w w (Lib.byteCells T0) ⟨#[41]⟩ W hS (by rw [Lib.byteCells_length]; show T0.length + 1 ≤ _; omega) hB
     go_wp2_with fail;refine (KL.out _ HS1.out).mono ?_;rintro e w' ⟨rfl, rfl⟩;go_wp2_with fail;refine (KW.out _ HS1.out HB1.out.size).mono ?_;rintro e w4 ⟨rfl, hbu4, hb4⟩;rw [hcells.out] at hbu4;have HS4 := η hbu4;have HB4 := η (HB1.out.trans hb4);clear hbu4 hb4 KW KL HS1 HB1;go_wp2_with fail;go_roundg g
     case measure => omega
     case rel => exact ⟨(j + 1) + 1, by have := HG.out; omega, by go_num, rfl, HS4.out, HB4.out⟩
   | wd y =>
    replace hc2 : cc = _ := hc2;subst hc2;have f0 := hc3 0 _ rfl;have f1 := hc3 1 _ rfl;have f2 := hc3 2 _ rfl;have f3 := hc3 3 _ rfl;have f4 := hc3 4 _ rfl;have f5 := hc3 5 _ rfl;rw [κz] at f0;clear hc3 hc1;have HS1 : Hid (Lib.IsBuilder 115 5 w w (Lib.byteCells T0) (wr.alloc (.cells #[.int .u8 3, .string (bstr y), .bool false, .slice none 0 0, .bool false, .slice none 0 0] 87))) := jG HS.out (βA _);have HB1 : Hid (Below w w (wr.alloc (.cells #[.int .u8 3, .string (bstr y), .bool false, .slice none 0 0, .bool false, .slice none 0 0] 87))) := HB.out.alloc hzw _;by_cases hk0 : k = 0
    ·subst hk0;rw [Nat.zero_mul, κz] at f0;rw [Nat.zero_mul, κz] at f1;rw [Nat.zero_mul, κz] at f2;rw [Nat.zero_mul, κz] at f3;rw [Nat.zero_mul, κz] at f4;rw [Nat.zero_mul, κz] at f5;obtain ⟨o, ho⟩ : ∃ o, o = (l.take 0).getLast? := ⟨_, rfl⟩;have hsep : ∀ t, sepO o t = [] := fun t => by rw [ho]; rfl
     rw [← ho] at HLE HTN;rw [hsep] at HLE HTN;have hsz : (bstr y).size = y.length := by rw [zM]
     have hle : T0.length + y.length ≤ 65536 := by
      have h := HLE.out;simp only [tkStr, κa, κc, κn] at h;omega
     have d6 : decide ((65536 : Int) < (T0.length : Int) + (y.length : Int)) = false := κf (by omega);have hcells : Hid (Lib.byteCells T0 ++ Lib.strCells (bstr y) = Lib.byteCells (fmtT (l.take (0 + 1)))) := by
      show _ = _
      rw [HTN.out]; simp [Lib.byteCells, Lib.strCells, tkStr, bstr]
     clear HLE HTN ho;have KL := η fun W (hS : Lib.IsBuilder 115 5 w w (Lib.byteCells T0) W) => jL _ _ T0 W hS
     have KW := η fun W hS hB => qS w w (Lib.byteCells T0) (bstr y) W hS (by rw [Lib.byteCells_length]; rw [hsz]; show T0.length + y.length ≤ _; omega) hB
     have K1 := η fE;have K2 : Hid (∀ W, Calls Tryz.prog 95 #[lowV, .string (bstr y)] W fun e w' => e = .returned (.bool true) ∧ Below W W w') := fun W => by
      have := gF y W (by have := HWF.out.2; omega);rw [HWF.out.1] at this;exact this
     have HXT : Hid (Box (wr.alloc (.cells #[.int .u8 3, .string (bstr y), .bool false, .slice none 0 0, .bool false, .slice none 0 0] 87)) wr [.int .u8 3, .string (bstr y), .bool false, .slice none 0 0, .bool false, .slice none 0 0]) := Box.new wr #[.int .u8 3, .string (bstr y), .bool false, .slice none 0 0, .bool false, .slice none 0 0] 87;have hzt : wr < (wr.alloc (.cells #[.int .u8 3, .string (bstr y), .bool false, .slice none 0 0, .bool false, .slice none 0 0] 87)).heap.size := by simp
     go_wp2_with fail;refine zI (w0 := (wr.alloc (.cells #[.int .u8 3, .string (bstr y), .bool false, .slice none 0 0, .bool false, .slice none 0 0] 87))) [(7, .pointer (some ⟨wr, 0, none⟩)), (24, lowV), (25, .pointer (some ⟨wr, 1, none⟩)), (26, .string (bstr y)), (27, .bool true), (28, .bool false)] [] [7] ?_ ?_
     ·intro T hT W hI;simp only [zA, and_true] at hT;have c1 := (HXT.out.up hI hzt).c 1 _ rfl;have g1 : wr < W.heap.size := νl hzt hI.size
      repeat' first | exact AllO.nil | apply AllO.cons
      all_goals try ((first | refine oV ?_ | refine oN ?_ | refine oG (t := by simp only [hT]) (h := ?_)); simp [go_sem, EvT, hT, c1, g1, valT]; done)
      ·refine opT_r (zO 94 #[] (by simp [go_sem, EvT, hT, c1, g1]) ?_);simp only [valT, hT];exact K1.out W
      ·refine opT_r (zO 95 #[lowV, .string (bstr y)] (by simp [go_sem, EvT, hT, c1, g1]) ?_);simp only [valT, hT];exact K2.out W
     intro wx hb;simp (decide := true) only [putT, valT, look, Act.put, σi, σo, σs, Nat.reduceAdd, if_true, if_false];have HS2 := η (jG HS1.out hb);have HB2 := η (HB1.out.trans (hb.mono (by simp; omega)));have HX2 := η (HXT.out.up hb hzt);have t1 := HX2.out.c 1 _ rfl;have t0 := HX2.out.c 0 _ rfl;have hzx : wr < wx.heap.size := νl hzt hb.size;clear hb HS1 HB1 HXT K1 K2;have HS1 := HS2;have HB1 := HB2;clear HS2 HB2;have hbx : b < wx := by omega
     go_wp2_with fail;refine (KL.out _ HS1.out).mono ?_;rintro e w' ⟨rfl, rfl⟩;go_wp2_with fail;refine (KW.out _ HS1.out HB1.out.size).mono ?_;rintro e w4 ⟨rfl, hbu4, hb4⟩;rw [hcells.out] at hbu4;have HS4 := η hbu4;have HB4 := η (HB1.out.trans hb4);clear hbu4 hb4 KW KL HS1 HB1;go_wp2_with fail;go_roundg g
     case measure => omega
     case rel => exact ⟨0 + 1, by have := HG.out; omega, by go_num, rfl, HS4.out, HB4.out⟩
    obtain ⟨j, rfl⟩ : ∃ j, k = j + 1 := ⟨k - 1, by omega⟩;obtain ⟨b2, off2, c2, he2, hb2, hd1, hd2, hd3⟩ := HLR.out.at_ j .op (by omega);injection he2 with he2
    injection he2 with he3 he4 _
    subst he3 he4;have p0 := hd3 0 _ hd2.kind;rw [κz] at p0;obtain ⟨o, ho⟩ : ∃ o, o = (l.take (j + 1)).getLast? := ⟨_, rfl⟩;have hlast : o = some (l.getD j .op) := by rw [ho, vS l j (by omega)]
    rw [← ho] at HLE HTN;generalize l.getD j .op = pt at *;clear hd1 hd2 hd3 hk0;by_cases hpo : qB pt = 1
    ·have hop : isOp pt = true := gI hpo;have hsep : ∀ t, sepO o t = [] := fun t => by rw [hlast]; show sepB pt t = []; rw [sepB, hop]; rfl
     rw [hpo] at p0;rw [hsep] at HLE HTN;have hsz : (bstr y).size = y.length := by rw [zM]
     have hle : T0.length + y.length ≤ 65536 := by
      have h := HLE.out;simp only [tkStr, κa, κc, κn] at h;omega
     have d6 : decide ((65536 : Int) < (T0.length : Int) + (y.length : Int)) = false := κf (by omega);have hcells : Hid (Lib.byteCells T0 ++ Lib.strCells (bstr y) = Lib.byteCells (fmtT (l.take ((j + 1) + 1)))) := by
      show _ = _
      rw [HTN.out]; simp [Lib.byteCells, Lib.strCells, tkStr, bstr]
     clear HLE HTN ho hlast hop hpo;have KL := η fun W (hS : Lib.IsBuilder 115 5 w w (Lib.byteCells T0) W) => jL _ _ T0 W hS
     have KW := η fun W hS hB => qS w w (Lib.byteCells T0) (bstr y) W hS (by rw [Lib.byteCells_length]; rw [hsz]; show T0.length + y.length ≤ _; omega) hB
     have K1 := η fE;have K2 : Hid (∀ W, Calls Tryz.prog 95 #[lowV, .string (bstr y)] W fun e w' => e = .returned (.bool true) ∧ Below W W w') := fun W => by
      have := gF y W (by have := HWF.out.2; omega);rw [HWF.out.1] at this;exact this
     have HXT : Hid (Box (wr.alloc (.cells #[.int .u8 3, .string (bstr y), .bool false, .slice none 0 0, .bool false, .slice none 0 0] 87)) wr [.int .u8 3, .string (bstr y), .bool false, .slice none 0 0, .bool false, .slice none 0 0]) := Box.new wr #[.int .u8 3, .string (bstr y), .bool false, .slice none 0 0, .bool false, .slice none 0 0] 87;have hzt : wr < (wr.alloc (.cells #[.int .u8 3, .string (bstr y), .bool false, .slice none 0 0, .bool false, .slice none 0 0] 87)).heap.size := by simp
     go_wp2_with fail;refine zI (w0 := (wr.alloc (.cells #[.int .u8 3, .string (bstr y), .bool false, .slice none 0 0, .bool false, .slice none 0 0] 87))) [(7, .pointer (some ⟨wr, 0, none⟩)), (24, lowV), (25, .pointer (some ⟨wr, 1, none⟩)), (26, .string (bstr y)), (27, .bool true), (28, .bool false)] [] [7] ?_ ?_
     ·intro T hT W hI;simp only [zA, and_true] at hT;have c1 := (HXT.out.up hI hzt).c 1 _ rfl;have g1 : wr < W.heap.size := νl hzt hI.size
      repeat' first | exact AllO.nil | apply AllO.cons
      all_goals try ((first | refine oV ?_ | refine oN ?_ | refine oG (t := by simp only [hT]) (h := ?_)); simp [go_sem, EvT, hT, c1, g1, valT]; done)
      ·refine opT_r (zO 94 #[] (by simp [go_sem, EvT, hT, c1, g1]) ?_);simp only [valT, hT];exact K1.out W
      ·refine opT_r (zO 95 #[lowV, .string (bstr y)] (by simp [go_sem, EvT, hT, c1, g1]) ?_);simp only [valT, hT];exact K2.out W
     intro wx hb;simp (decide := true) only [putT, valT, look, Act.put, σi, σo, σs, Nat.reduceAdd, if_true, if_false];have HS2 := η (jG HS1.out hb);have HB2 := η (HB1.out.trans (hb.mono (by simp; omega)));have HX2 := η (HXT.out.up hb hzt);have t1 := HX2.out.c 1 _ rfl;have t0 := HX2.out.c 0 _ rfl;have hzx : wr < wx.heap.size := νl hzt hb.size;replace p0 : wx.cell? ⟨b, off + j * 6, none⟩ = _ := (hb.cell (p := ⟨b, off + j * 6, none⟩) (by simp; omega)).trans ((World.cell?_alloc_lt _ _ _ (by omega)).trans p0);clear hb HS1 HB1 HXT K1 K2;have HS1 := HS2;have HB1 := HB2;clear HS2 HB2;have hbx : b < wx := by omega
     go_wp2_with fail;refine (KL.out _ HS1.out).mono ?_;rintro e w' ⟨rfl, rfl⟩;go_wp2_with fail;refine (KW.out _ HS1.out HB1.out.size).mono ?_;rintro e w4 ⟨rfl, hbu4, hb4⟩;rw [hcells.out] at hbu4;have HS4 := η hbu4;have HB4 := η (HB1.out.trans hb4);clear hbu4 hb4 KW KL HS1 HB1;go_wp2_with fail;go_roundg g
     case measure => omega
     case rel => exact ⟨(j + 1) + 1, by have := HG.out; omega, by go_num, rfl, HS4.out, HB4.out⟩
    ·have hop : isOp pt = false := pE hpo;have e1 : (qB pt == 1) = false := βf hpo;have e2 : (qB pt != 1) = true := βt hpo;have hsep : sepO o (.wd y) = [32] := by rw [hlast]; show sepB pt _ = [32]; rw [sepB, hop]; rfl
     rw [hsep] at HLE HTN;have ep : ∀ W : World, (Op.stringOp .add ⟨#[32]⟩ (bstr y)).run Tryz.prog W = .ok (.string (bstr (32 :: y))) W := fun W => zU [32] y W (by have h := HLE.out; simp only [tkStr, κa, κc, κn] at h ⊢; omega)
     have hsz : (bstr (32 :: y)).size = (y.length + 1) := by rw [zM]; rfl
     have hle : T0.length + (y.length + 1) ≤ 65536 := by
      have h := HLE.out;simp only [tkStr, κa, κc, κn] at h;omega
     have d6 : decide ((65536 : Int) < (T0.length : Int) + ((y.length : Int) + 1)) = false := κf (by omega);have hcells : Hid (Lib.byteCells T0 ++ Lib.strCells (bstr (32 :: y)) = Lib.byteCells (fmtT (l.take ((j + 1) + 1)))) := by
      show _ = _
      rw [HTN.out]; simp [Lib.byteCells, Lib.strCells, tkStr, bstr]
     clear HLE HTN ho hlast hop hpo;have KL := η fun W (hS : Lib.IsBuilder 115 5 w w (Lib.byteCells T0) W) => jL _ _ T0 W hS
     have KW := η fun W hS hB => qS w w (Lib.byteCells T0) (bstr (32 :: y)) W hS (by rw [Lib.byteCells_length]; rw [hsz]; show T0.length + (y.length + 1) ≤ _; omega) hB
     have K1 := η fE;have K2 : Hid (∀ W, Calls Tryz.prog 95 #[lowV, .string (bstr y)] W fun e w' => e = .returned (.bool true) ∧ Below W W w') := fun W => by
      have := gF y W (by have := HWF.out.2; omega);rw [HWF.out.1] at this;exact this
     have HXT : Hid (Box (wr.alloc (.cells #[.int .u8 3, .string (bstr y), .bool false, .slice none 0 0, .bool false, .slice none 0 0] 87)) wr [.int .u8 3, .string (bstr y), .bool false, .slice none 0 0, .bool false, .slice none 0 0]) := Box.new wr #[.int .u8 3, .string (bstr y), .bool false, .slice none 0 0, .bool false, .slice none 0 0] 87;have hzt : wr < (wr.alloc (.cells #[.int .u8 3, .string (bstr y), .bool false, .slice none 0 0, .bool false, .slice none 0 0] 87)).heap.size := by simp
     go_wp2_with fail;refine zI (w0 := (wr.alloc (.cells #[.int .u8 3, .string (bstr y), .bool false, .slice none 0 0, .bool false, .slice none 0 0] 87))) [(7, .pointer (some ⟨wr, 0, none⟩)), (24, lowV), (25, .pointer (some ⟨wr, 1, none⟩)), (26, .string (bstr y)), (27, .bool true), (28, .bool false)] [] [7] ?_ ?_
     ·intro T hT W hI;simp only [zA, and_true] at hT;have c1 := (HXT.out.up hI hzt).c 1 _ rfl;have g1 : wr < W.heap.size := νl hzt hI.size
      repeat' first | exact AllO.nil | apply AllO.cons
      all_goals try ((first | refine oV ?_ | refine oN ?_ | refine oG (t := by simp only [hT]) (h := ?_)); simp [go_sem, EvT, hT, c1, g1, valT]; done)
      ·refine opT_r (zO 94 #[] (by simp [go_sem, EvT, hT, c1, g1]) ?_);simp only [valT, hT];exact K1.out W
      ·refine opT_r (zO 95 #[lowV, .string (bstr y)] (by simp [go_sem, EvT, hT, c1, g1]) ?_);simp only [valT, hT];exact K2.out W
     intro wx hb;simp (decide := true) only [putT, valT, look, Act.put, σi, σo, σs, Nat.reduceAdd, if_true, if_false];have HS2 := η (jG HS1.out hb);have HB2 := η (HB1.out.trans (hb.mono (by simp; omega)));have HX2 := η (HXT.out.up hb hzt);have t1 := HX2.out.c 1 _ rfl;have t0 := HX2.out.c 0 _ rfl;have hzx : wr < wx.heap.size := νl hzt hb.size;replace p0 : wx.cell? ⟨b, off + j * 6, none⟩ = _ := (hb.cell (p := ⟨b, off + j * 6, none⟩) (by simp; omega)).trans ((World.cell?_alloc_lt _ _ _ (by omega)).trans p0);clear hb HS1 HB1 HXT K1 K2;have HS1 := HS2;have HB1 := HB2;clear HS2 HB2;have hbx : b < wx := by omega
     go_wp2_with fail;refine (KL.out _ HS1.out).mono ?_;rintro e w' ⟨rfl, rfl⟩;go_wp2_with fail;refine (KW.out _ HS1.out HB1.out.size).mono ?_;rintro e w4 ⟨rfl, hbu4, hb4⟩;rw [hcells.out] at hbu4;have HS4 := η hbu4;have HB4 := η (HB1.out.trans hb4);clear hbu4 hb4 KW KL HS1 HB1;go_wp2_with fail;go_roundg g
     case measure => omega
     case rel => exact ⟨(j + 1) + 1, by have := HG.out; omega, by go_num, rfl, HS4.out, HB4.out⟩
   | nm n =>
    obtain ⟨ng, Az, kz, cz, rfl, hnum⟩ : ∃ ng A k c', cc = [.int .u8 4, .string ⟨#[]⟩, .bool ng, .slice A k c', .bool false, .slice none 0 0] ∧ NumR wr w (.agg #[.bool ng, .slice A k c']) n := hc2;have HNM := η hnum;clear hnum;have f0 := hc3 0 _ rfl;have f1 := hc3 1 _ rfl;have f2 := hc3 2 _ rfl;have f3 := hc3 3 _ rfl;have f4 := hc3 4 _ rfl;have f5 := hc3 5 _ rfl;rw [κz] at f0;clear hc3 hc1;have HS1 : Hid (Lib.IsBuilder 115 5 w w (Lib.byteCells T0) (wr.alloc (.cells #[.int .u8 4, .string ⟨#[]⟩, .bool ng, .slice Az kz cz, .bool false, .slice none 0 0] 87))) := jG HS.out (βA _);have HB1 : Hid (Below w w (wr.alloc (.cells #[.int .u8 4, .string ⟨#[]⟩, .bool ng, .slice Az kz cz, .bool false, .slice none 0 0] 87))) := HB.out.alloc hzw _;by_cases hk0 : k = 0
    ·subst hk0;rw [Nat.zero_mul, κz] at f0;rw [Nat.zero_mul, κz] at f1;rw [Nat.zero_mul, κz] at f2;rw [Nat.zero_mul, κz] at f3;rw [Nat.zero_mul, κz] at f4;rw [Nat.zero_mul, κz] at f5;obtain ⟨o, ho⟩ : ∃ o, o = (l.take 0).getLast? := ⟨_, rfl⟩;have hsep : ∀ t, sepO o t = [] := fun t => by rw [ho]; rfl
     rw [← ho] at HLE HTN;rw [hsep] at HLE HTN;obtain ⟨tt, htt⟩ : ∃ t, t = Lib.itoa n := ⟨_, rfl⟩;have hsz : (bstr tt).size = tt.length := by rw [zM]
     have HTT2 := η htt;have hle : T0.length + tt.length ≤ 65536 := by
      have h := HLE.out;simp only [tkStr, κa, κc, κn, ← htt] at h;omega
     have d6 : decide ((65536 : Int) < (T0.length : Int) + (tt.length : Int)) = false := κf (by omega);have hcells : Hid (Lib.byteCells T0 ++ Lib.strCells (bstr tt) = Lib.byteCells (fmtT (l.take (0 + 1)))) := by
      show _ = _
      rw [HTN.out]; simp [Lib.byteCells, Lib.strCells, tkStr, bstr, ← HTT2.out]
     clear HLE HTN ho htt;have KL := η fun W (hS : Lib.IsBuilder 115 5 w w (Lib.byteCells T0) W) => jL _ _ T0 W hS
     have KW := η fun W hS hB => qS w w (Lib.byteCells T0) (bstr tt) W hS (by rw [Lib.byteCells_length]; rw [hsz]; show T0.length + tt.length ≤ _; omega) hB
     have KQ := η (vI n ng Az kz cz (wr.alloc (.cells #[.int .u8 4, .string ⟨#[]⟩, .bool ng, .slice Az kz cz, .bool false, .slice none 0 0] 87)) ((HNM.out.alloc hzw _).more HB1.out.size) HWF.out.1 HWF.out.2);rw [← HTT2.out] at KQ;go_wp2_with fail;refine KQ.out.mono ?_;rintro e wx ⟨rfl, hb⟩;have HXT : Hid (Box (wr.alloc (.cells #[.int .u8 4, .string ⟨#[]⟩, .bool ng, .slice Az kz cz, .bool false, .slice none 0 0] 87)) wr [.int .u8 4, .string ⟨#[]⟩, .bool ng, .slice Az kz cz, .bool false, .slice none 0 0]) := Box.new wr #[.int .u8 4, .string ⟨#[]⟩, .bool ng, .slice Az kz cz, .bool false, .slice none 0 0] 87;have HS2 := η (jG HS1.out hb);have HB2 := η (HB1.out.trans (hb.mono (by simp; omega)));have hzx : wr < wx.heap.size := νl (by simp) hb.size;have t0 := (HXT.out.up hb (by simp)).c 0 _ rfl;clear hb HS1 HB1 HXT KQ;have HS1 := HS2;have HB1 := HB2;clear HS2 HB2;have hbx : b < wx := by omega
     go_wp2_with fail;refine (KL.out _ HS1.out).mono ?_;rintro e w' ⟨rfl, rfl⟩;go_wp2_with fail;refine (KW.out _ HS1.out HB1.out.size).mono ?_;rintro e w4 ⟨rfl, hbu4, hb4⟩;rw [hcells.out] at hbu4;have HS4 := η hbu4;have HB4 := η (HB1.out.trans hb4);clear hbu4 hb4 KW KL HS1 HB1;go_wp2_with fail;go_roundg g
     case measure => omega
     case rel => exact ⟨0 + 1, by have := HG.out; omega, by go_num, rfl, HS4.out, HB4.out⟩
    obtain ⟨j, rfl⟩ : ∃ j, k = j + 1 := ⟨k - 1, by omega⟩;obtain ⟨b2, off2, c2, he2, hb2, hd1, hd2, hd3⟩ := HLR.out.at_ j .op (by omega);injection he2 with he2
    injection he2 with he3 he4 _
    subst he3 he4;have p0 := hd3 0 _ hd2.kind;rw [κz] at p0;obtain ⟨o, ho⟩ : ∃ o, o = (l.take (j + 1)).getLast? := ⟨_, rfl⟩;have hlast : o = some (l.getD j .op) := by rw [ho, vS l j (by omega)]
    rw [← ho] at HLE HTN;generalize l.getD j .op = pt at *;clear hd1 hd2 hd3 hk0;by_cases hpo : qB pt = 1
    ·have hop : isOp pt = true := gI hpo;have hsep : ∀ t, sepO o t = [] := fun t => by rw [hlast]; show sepB pt t = []; rw [sepB, hop]; rfl
     rw [hpo] at p0;rw [hsep] at HLE HTN;obtain ⟨tt, htt⟩ : ∃ t, t = Lib.itoa n := ⟨_, rfl⟩;have hsz : (bstr tt).size = tt.length := by rw [zM]
     have HTT2 := η htt;have hle : T0.length + tt.length ≤ 65536 := by
      have h := HLE.out;simp only [tkStr, κa, κc, κn, ← htt] at h;omega
     have d6 : decide ((65536 : Int) < (T0.length : Int) + (tt.length : Int)) = false := κf (by omega);have hcells : Hid (Lib.byteCells T0 ++ Lib.strCells (bstr tt) = Lib.byteCells (fmtT (l.take ((j + 1) + 1)))) := by
      show _ = _
      rw [HTN.out]; simp [Lib.byteCells, Lib.strCells, tkStr, bstr, ← HTT2.out]
     clear HLE HTN ho hlast hop hpo htt;have KL := η fun W (hS : Lib.IsBuilder 115 5 w w (Lib.byteCells T0) W) => jL _ _ T0 W hS
     have KW := η fun W hS hB => qS w w (Lib.byteCells T0) (bstr tt) W hS (by rw [Lib.byteCells_length]; rw [hsz]; show T0.length + tt.length ≤ _; omega) hB
     have KQ := η (vI n ng Az kz cz (wr.alloc (.cells #[.int .u8 4, .string ⟨#[]⟩, .bool ng, .slice Az kz cz, .bool false, .slice none 0 0] 87)) ((HNM.out.alloc hzw _).more HB1.out.size) HWF.out.1 HWF.out.2);rw [← HTT2.out] at KQ;go_wp2_with fail;refine KQ.out.mono ?_;rintro e wx ⟨rfl, hb⟩;have HXT : Hid (Box (wr.alloc (.cells #[.int .u8 4, .string ⟨#[]⟩, .bool ng, .slice Az kz cz, .bool false, .slice none 0 0] 87)) wr [.int .u8 4, .string ⟨#[]⟩, .bool ng, .slice Az kz cz, .bool false, .slice none 0 0]) := Box.new wr #[.int .u8 4, .string ⟨#[]⟩, .bool ng, .slice Az kz cz, .bool false, .slice none 0 0] 87;have HS2 := η (jG HS1.out hb);have HB2 := η (HB1.out.trans (hb.mono (by simp; omega)));have hzx : wr < wx.heap.size := νl (by simp) hb.size;have t0 := (HXT.out.up hb (by simp)).c 0 _ rfl;replace p0 : wx.cell? ⟨b, off + j * 6, none⟩ = _ := (hb.cell (p := ⟨b, off + j * 6, none⟩) (by simp; omega)).trans ((World.cell?_alloc_lt _ _ _ (by omega)).trans p0);clear hb HS1 HB1 HXT KQ;have HS1 := HS2;have HB1 := HB2;clear HS2 HB2;have hbx : b < wx := by omega
     go_wp2_with fail;refine (KL.out _ HS1.out).mono ?_;rintro e w' ⟨rfl, rfl⟩;go_wp2_with fail;refine (KW.out _ HS1.out HB1.out.size).mono ?_;rintro e w4 ⟨rfl, hbu4, hb4⟩;rw [hcells.out] at hbu4;have HS4 := η hbu4;have HB4 := η (HB1.out.trans hb4);clear hbu4 hb4 KW KL HS1 HB1;go_wp2_with fail;go_roundg g
     case measure => omega
     case rel => exact ⟨(j + 1) + 1, by have := HG.out; omega, by go_num, rfl, HS4.out, HB4.out⟩
    ·have hop : isOp pt = false := pE hpo;have e1 : (qB pt == 1) = false := βf hpo;have e2 : (qB pt != 1) = true := βt hpo;have hsep : sepO o (.nm n) = [32] := by rw [hlast]; show sepB pt _ = [32]; rw [sepB, hop]; rfl
     rw [hsep] at HLE HTN;obtain ⟨tt, htt⟩ : ∃ t, t = Lib.itoa n := ⟨_, rfl⟩;have ep : ∀ W : World, (Op.stringOp .add ⟨#[32]⟩ (bstr tt)).run Tryz.prog W = .ok (.string (bstr (32 :: tt))) W := fun W => zU [32] tt W (by have h := HLE.out; simp only [tkStr, κa, κc, κn, ← htt] at h ⊢; omega)
     have hsz : (bstr (32 :: tt)).size = (tt.length + 1) := by rw [zM]; rfl
     have HTT2 := η htt;have hle : T0.length + (tt.length + 1) ≤ 65536 := by
      have h := HLE.out;simp only [tkStr, κa, κc, κn, ← htt] at h;omega
     have d6 : decide ((65536 : Int) < (T0.length : Int) + ((tt.length : Int) + 1)) = false := κf (by omega);have hcells : Hid (Lib.byteCells T0 ++ Lib.strCells (bstr (32 :: tt)) = Lib.byteCells (fmtT (l.take ((j + 1) + 1)))) := by
      show _ = _
      rw [HTN.out]; simp [Lib.byteCells, Lib.strCells, tkStr, bstr, ← HTT2.out]
     clear HLE HTN ho hlast hop hpo htt;have KL := η fun W (hS : Lib.IsBuilder 115 5 w w (Lib.byteCells T0) W) => jL _ _ T0 W hS
     have KW := η fun W hS hB => qS w w (Lib.byteCells T0) (bstr (32 :: tt)) W hS (by rw [Lib.byteCells_length]; rw [hsz]; show T0.length + (tt.length + 1) ≤ _; omega) hB
     have KQ := η (vI n ng Az kz cz (wr.alloc (.cells #[.int .u8 4, .string ⟨#[]⟩, .bool ng, .slice Az kz cz, .bool false, .slice none 0 0] 87)) ((HNM.out.alloc hzw _).more HB1.out.size) HWF.out.1 HWF.out.2);rw [← HTT2.out] at KQ;go_wp2_with fail;refine KQ.out.mono ?_;rintro e wx ⟨rfl, hb⟩;have HXT : Hid (Box (wr.alloc (.cells #[.int .u8 4, .string ⟨#[]⟩, .bool ng, .slice Az kz cz, .bool false, .slice none 0 0] 87)) wr [.int .u8 4, .string ⟨#[]⟩, .bool ng, .slice Az kz cz, .bool false, .slice none 0 0]) := Box.new wr #[.int .u8 4, .string ⟨#[]⟩, .bool ng, .slice Az kz cz, .bool false, .slice none 0 0] 87;have HS2 := η (jG HS1.out hb);have HB2 := η (HB1.out.trans (hb.mono (by simp; omega)));have hzx : wr < wx.heap.size := νl (by simp) hb.size;have t0 := (HXT.out.up hb (by simp)).c 0 _ rfl;replace p0 : wx.cell? ⟨b, off + j * 6, none⟩ = _ := (hb.cell (p := ⟨b, off + j * 6, none⟩) (by simp; omega)).trans ((World.cell?_alloc_lt _ _ _ (by omega)).trans p0);clear hb HS1 HB1 HXT KQ;have HS1 := HS2;have HB1 := HB2;clear HS2 HB2;have hbx : b < wx := by omega
     go_wp2_with fail;refine (KL.out _ HS1.out).mono ?_;rintro e w' ⟨rfl, rfl⟩;go_wp2_with fail;refine (KW.out _ HS1.out HB1.out.size).mono ?_;rintro e w4 ⟨rfl, hbu4, hb4⟩;rw [hcells.out] at hbu4;have HS4 := η hbu4;have HB4 := η (HB1.out.trans hb4);clear hbu4 hb4 KW KL HS1 HB1;go_wp2_with fail;go_roundg g
     case measure => omega
     case rel => exact ⟨(j + 1) + 1, by have := HG.out; omega, by go_num, rfl, HS4.out, HB4.out⟩
end Go.Proofs.YtkfhpefmmhljmaaGreatDoor
