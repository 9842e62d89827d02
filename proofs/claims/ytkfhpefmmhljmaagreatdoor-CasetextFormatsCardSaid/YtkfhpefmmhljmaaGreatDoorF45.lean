/- Texts in one: FrP, FrK. -/
import Derived.Test.YtkfhpefmmhljmaaGreatDoorF40
import Derived.Test.YtkfhpefmmhljmaaGreatDoorF44
set_option linter.unusedVariables false
set_option linter.unusedSimpArgs false
set_option maxHeartbeats 16000000
set_option maxRecDepth 100000
namespace Go.Proofs.YtkfhpefmmhljmaaGreatDoor
def numS (n : Int) : Bytes := 32 :: Lib.itoa n
def lineS (x : Ln) : Bytes := [32, 40, 108, 105, 110, 101] ++ numS x.1 ++ numS x.2.1 ++ numS x.2.2.1 ++ numS x.2.2.2 ++ [41]
def netS (x : Nt) : Bytes := [40, 110, 101, 116] ++ numS x.buses ++ x.lines.flatMap lineS ++ [41]
def stepS (x : St) : Bytes := [32, 40] ++ Lib.itoa x.1 ++ numS x.2 ++ [41]
def bidS (b : Bd) : Bytes := [40, 98, 105, 100] ++ numS b.bus ++ b.steps.flatMap stepS ++ [41]
def unitS (u : Un) : Bytes := [40, 117, 110, 105, 116] ++ numS u.bus ++ numS u.min ++ numS u.up ++ numS u.down ++ numS u.start ++ numS u.idle ++ numS u.spin ++ numS u.on ++ u.steps.flatMap stepS ++ [41]
def outS (o : Og) : Bytes := 40 :: kindW o.1 ++ numS o.2.1 ++ numS o.2.2.1 ++ numS o.2.2.2 ++ [41]
theorem nN {α : Type} {f : α → List Tk} {g : α → Bytes} (h : ∀ x (r : List Tk) p, isOp p = false → fmtGo (some p) (f x ++ r) = g x ++ fmtGo (some .cl) r) : ∀ (l : List α) (p : Tk), isOp p = false → fmtGo (some p) (l.flatMap f ++ [.cl]) = l.flatMap g ++ [41] := by
 intro l
 induction l with
 | nil => intro p hp; simp [fmtGo, sepB, isCl, tkStr]
 | cons x l ih => intro p hp; rw [List.flatMap_cons, List.flatMap_cons, κq, h x _ p hp, ih _ rfl, κq]
theorem lL (x : Nt) : fmtT (netT x) = netS x := by
 have h := nN (f := lineT) (g := lineS) (fun x r p hp => by cases p <;> first | exact absurd hp (by decide) | simp [lineT, lineS, numS, fmtGo, sepB, isOp, isCl, tkStr]) x.lines (.nm x.buses) rfl;simp only [fmtT, netT, fmtGo, h];simp [netS, numS, sepB, isOp, isCl, tkStr]
theorem pF (l : List St) (n : Int) : fmtGo (some (.nm n)) (l.flatMap stepT ++ [.cl]) = l.flatMap stepS ++ [41] :=
 nN (f := stepT) (g := stepS) (fun x r p hp => by cases p <;> first | exact absurd hp (by decide) | simp [stepT, stepS, numS, fmtGo, sepB, isOp, isCl, tkStr]) l (.nm n) rfl
theorem eS (b : Bd) : fmtT (bidT b) = bidS b := by
 simp only [fmtT, bidT, fmtGo, pF];simp [bidS, numS, sepB, isOp, isCl, tkStr]
theorem sY (u : Un) : fmtT (unitT u) = unitS u := by
 simp only [fmtT, unitT, zW, List.map_cons, List.map_nil, κw, List.nil_append, fmtGo, pF];simp [unitS, numS, sepB, isOp, isCl, tkStr]
theorem lK (o : Og) : fmtT (outT o) = outS o := by
 simp [fmtT, outT, outS, numS, fmtGo, sepB, isOp, isCl, tkStr]
def rowS {α : Type} (f : α → Bytes) (l : List α) : Bytes := l.flatMap fun x => 32 :: f x
def bidsS (y : Bytes) (l : List Bd) : Bytes := [32, 40] ++ y ++ rowS bidS l ++ [41]
def hrS (x : Hr) : Bytes := [40, 104, 111, 117, 114] ++ numS x.need ++ bidsS [98, 105, 100, 115] x.bids ++ bidsS [114, 101, 97, 108] x.real ++ [41]
def rtS (x : Rt) : Bytes := [40, 114, 105, 103, 104, 116] ++ numS x.1 ++ numS x.2.1 ++ numS x.2.2 ++ [41]
def refS (x : Cs) : Bytes := [40, 99, 97, 115, 101, 32] ++ netS x.net ++ [32, 40, 117, 110, 105, 116, 115] ++ rowS unitS x.units ++ [41, 32, 40, 104, 111, 117, 114, 115] ++ rowS hrS x.hours ++ [41, 32, 40, 111, 117, 116, 97, 103, 101, 115] ++ rowS outS x.outs ++ [41, 32, 40, 114, 105, 103, 104, 116, 115] ++ rowS rtS x.rights ++ [41, 41]
theorem vU {α : Type} (y : Bytes) (f g : α → Bytes) (h : ∀ x, f x = g x) (l : List α) : listS y (l.map f) = 40 :: (y ++ rowS g l ++ [41]) := by
 have : f = g := funext h;subst this;unfold listS joinS rowS;rw [List.flatMap_map]
theorem lI (x : Hr) : hourS x = hrS x := by
 unfold hourS hrS bidsS;rw [vU _ _ bidS eS, vU _ _ bidS eS];simp [numS]
theorem rX (x : Rt) : qZ x = rtS x := by simp [qZ, rtS, numS]
theorem tL (x : Cs) : caseS x = refS x := by
 unfold caseS refS;rw [vU _ _ unitS sY, vU _ _ hrS lI, vU _ _ outS lK, vU _ _ rtS rX, lL];simp [joinS]
end Go.Proofs.YtkfhpefmmhljmaaGreatDoor
namespace Go.Proofs.YtkfhpefmmhljmaaGreatDoor
open Go.RowKit
set_option maxHeartbeats 4000000
theorem oU (x : Nat) (s : Bytes) : s.length ≤ (dT x s).length := by
 unfold dT;by_cases h : s = []
 ·rw [h]; simp
 ·rw [if_neg h]; split <;> simp
theorem xG {a b : Bytes} (h : a = b) : Ending.returned (.string (bstr a)) = .returned (.string (bstr b)) := by rw [h]
def StrE (w : World) (s : Bytes) (e : Ending) (w' : World) : Prop := e = .returned (.string (bstr s)) ∧ Below w w w'
theorem tE (y : Int) (w : World) (h : 0 ≤ y ∧ y < 10) : (convert 113 9 (.slice (some ⟨w, 0, none⟩) 1 1)).run Tryz.prog (w.alloc (.cells #[.int .u8 (48 + y)] 5)) = .ok (.string (bstr [UInt8.ofNat (48 + y.toNat)])) (w.alloc (.cells #[.int .u8 (48 + y)] 5)) := by
 rw [run_convert_bytes_arg (P := Tryz.prog) _ 113 5 Tryz.underlying113 Tryz.underlying5 w 0 1 1 [48 + y] rfl (fun i hi => by obtain rfl : i = 0 := (by omega); simp) _ Tryz.underlying9];have : (48 + y).toNat = 48 + y.toNat := by omega
 simp [strOfNums, bstr, this]
theorem uP (a0 a1 : Value) (n : Int) (w : World) (h : ZvR w a0 a1 (decide (n < 0)) n.natAbs) (h0 : -4294967296 < n) (h1 : n < 4294967296) : Calls Tryz.prog 81 #[.agg #[a0, a1]] w (StrE w (Lib.itoa n)) := by
 obtain ⟨A, c, rfl, rfl, hr⟩ := h;obtain ⟨m, hm⟩ : ∃ m : Nat, m = n.natAbs := ⟨_, rfl⟩;obtain ⟨ng, hng⟩ : ∃ ng, ng = decide (n < 0) := ⟨_, rfl⟩;have E : Hid (Lib.itoa n = if ng = true then 45 :: Lib.decDigits m else Lib.decDigits m) := by
  show _ = _
  unfold Lib.itoa;rw [hng, hm];by_cases hn : n < 0
  ·rw [if_pos hn, if_pos (κt hn)]
  ·rw [if_neg hn, if_neg (by simp [hn]), show n.toNat = n.natAbs by omega]
 rw [← hm] at hr ⊢;rw [← hng];have hm2 : m < 4294967296 := by omega
 have HD : Hid ((Lib.decDigits m).length ≤ 10) := mQ m 10 (by decide) (by omega);have KH := η fun W h => vZ A c (wD m) W h (by have := bL m; omega) (mY (by omega) (by omega))
 rw [nC (by omega) (by omega)] at KH;have KS := η fun W h => cJ ng A c m W h (by omega) (by omega) (fun hz => by rw [hng]; exact κf (by omega))
 have HA := η hr;have HB0 := η ((Below.refl w w).alloc (νr _) (.cells #[.bool ng, .slice A (wD m).length c] 83));have HX0 : Hid (Box (w.alloc (.cells #[.bool ng, .slice A (wD m).length c] 83)) w [.bool ng, .slice A (wD m).length c]) := Box.new w #[.bool ng, .slice A (wD m).length c] _;generalize Lib.itoa n = R at *;clear hr hng hm h0 h1;generalize hwl : (wD (m : Int)).length = wl at *;go_enter Tryz.func81, Tryz.ntmps81;go_wp2_with fail;refine (KH.out _ (HA.out.upto HB0.out)).mono ?_;rintro e w1 ⟨A1, c1, rfl, hc1, hr1, hb1⟩;have HX1 := η (HX0.out.up hb1 (by simp));have HB1 := η (HB0.out.trans (hb1.mono (by simp)));have HR1 := η hr1;have hlt : w < w1.heap.size := HX1.out.lt (by simp);clear hr1 hb1 HX0 HB0 KH;have hem : (bstr [] : ByteArray) = ⟨#[]⟩ := rfl;go_wp2_with fail;go_loopg [3, 4, 5, 6] (m + 1) (fun g s3 s4 s5 s6 wr => ∃ (x : Nat) (s : Bytes) (A : Option Addr) (c : Nat), s3 = .slice A (hD x).length c ∧ IntsR wr wr A (hD x) ∧ s4 = .string (bstr s) ∧ dT x s = Lib.decDigits m ∧ x < 4294967296 ∧ (if s = [] then x + 1 else x) ≤ g ∧ Below w1 w1 wr)
 case atStart => exact ⟨m, [], A1, c1, rfl, HR1.out, rfl, by unfold dT; rw [if_pos rfl], hm2, by rw [if_pos rfl]; exact νr _, Below.refl _ _⟩
 case round =>
  obtain ⟨x, s, A2, c2, rfl, hr, rfl, hd, hx, hg, hb⟩ := hrel;have HR := η hr;have HDT := η hd;have HB := βT HB1 hb;have HBO := η hb;have HGm := η hg;have hsl : s.length ≤ 10 := by have := oU x s; have := HD.out; rw [hd] at *; omega
  have HL := η (pC (v := x) (by omega) (by omega));clear hr hd hb hg;by_cases hend : x = 0 ∧ s ≠ []
  ·obtain ⟨hx0, hs⟩ := hend;have d1 : ¬ 0 < (hD (x : Int)).length := by have := HL.out.2.2 (by omega); omega
   have d2 : decide ((0 : Int) < ((hD (x : Int)).length : Int)) = false := κf (by omega);have d3 : (bstr s).toList.isEmpty = false := by rw [qB]; cases s with | nil => exact absurd rfl hs | cons _ _ => rfl
   have d4 : ¬ (bstr s).toList = [] := by rw [qB]; exact hs
   have ES : Hid (s = Lib.decDigits m) := by
    show _ = _
    have := HDT.out;rw [hx0, oW s hs] at this;exact this
   have HXr := HX1.out.up HBO.out hlt;have hlr : w < wr.heap.size := HXr.lt (by simp);have q0 := HXr.c 0 _ rfl;have q1 := HXr.c 1 _ rfl;clear HXr hx0 hs HDT HGm;go_wp2_with fail;refine (KS.out wr (HA.out.upto HB.out)).mono ?_;rintro e w2 ⟨sg, rfl, hsg, hb2⟩;have HB2 := βT HB hb2;clear hb2 KS;cases ng with
   | true =>
    have e1 : decide (sg < 0) = true := hsg;have ep := zF [45] s w2 (by simp; omega);rw [show bstr [45] = ⟨#[45]⟩ from rfl] at ep;go_wp2_with fail
    try rw [κx]
    go_ret;exact ⟨xG (by rw [E.out, ← ES.out]; simp), HB2.out⟩
   | false =>
    have e1 : decide (sg < 0) = false := hsg;go_wp2_with fail
    try rw [κx]
    go_ret;exact ⟨xG (by rw [E.out, ← ES.out]; simp), HB2.out⟩
  ·have hc : 0 < x ∨ (x = 0 ∧ s = []) := by
    by_cases h : 0 < x
    ·exact .inl h
    ·refine .inr ⟨by omega, ?_⟩;by_cases hs : s = []
     ·exact hs
     ·exact absurd ⟨by omega, hs⟩ hend
   have hor : 0 < x ∨ s = [] := hc.imp id (fun h => h.2);have HST := η ((lQ x s hor).trans HDT.out);have HGN : Hid (∀ g, gk = g + 1 → x / 10 ≤ g) := fun g hg => by
    have := HGm.out;split at this <;> omega
   have hgp : 0 < gk := by
    have := HGm.out;rcases hor with h | h
    ·split at this <;> omega
    ·rw [if_pos h] at this; omega
   obtain ⟨g, rfl⟩ : ∃ g, gk = g + 1 := ⟨gk - 1, by omega⟩;have HB10 : Hid (Below wr wr (wr.alloc (.cells #[.int .i64 10] 3))) := βA _;have KD := sA A2 (some ⟨wr, 0, none⟩) c2 1 x (wr.alloc (.cells #[.int .i64 10] 3)) (HR.out.upto HB10.out) (IntsR.litN wr 3 [10] #[.int .i64 10] rfl) (by omega) (by omega);rw [show ((x : Int) / 10) = ((x / 10 : Nat) : Int) by omega, show ((x : Int) % 10) = ((x % 10 : Nat) : Int) by omega] at KD;have HKD := η KD;have HL10 := η (pC (v := ((x % 10 : Nat) : Int)) (by omega) (by omega));have HAT := η (hD_at (v := ((x % 10 : Nat) : Int)) (by omega) (by omega));obtain ⟨xd, hxd⟩ : ∃ d, d = x / 10 := ⟨_, rfl⟩;obtain ⟨xm, hxm⟩ : ∃ d, d = x % 10 := ⟨_, rfl⟩;rw [← hxd, ← hxm] at HKD;rw [← hxm] at HL10 HAT;obtain ⟨bt, hbt⟩ : ∃ b, b = UInt8.ofNat (48 + xm) := ⟨_, rfl⟩;rw [← hxd, ← hxm, ← hbt] at HST;have hxd2 : xd < 4294967296 := by omega
   have HG2 := η (HGN.out g rfl);rw [← hxd] at HG2;have hm10 : xm < 10 := by omega
   have p1 : IntKind.u8.wrap (xm : Int) = (xm : Int) := IntWalk.u8_in _ (by omega);have p2 : IntKind.u8.wrap (48 + (xm : Int)) = 48 + (xm : Int) := IntWalk.u8_in _ (by omega);have KC : ∀ W : World, (convert 113 9 (.slice (some ⟨W, 0, none⟩) 1 1)).run Tryz.prog (W.alloc (.cells #[.int .u8 (48 + (xm : Int))] 5)) = .ok (.string (bstr [bt])) (W.alloc (.cells #[.int .u8 (48 + (xm : Int))] 5)) := fun W => by
    rw [hbt];have := tE (xm : Int) W (by omega);rwa [Int.toNat_natCast] at this
   have ep : ∀ W : World, (Op.stringOp .add (bstr [bt]) (bstr s)).run Tryz.prog W = .ok (.string (bstr (bt :: s))) W := fun W => zF [bt] s W (by simp; omega)
   clear hend hor HDT HGm HGN hgp KD hxd hxm hbt;have hcc : (0 < (hD (x : Int)).length ∧ decide ((0 : Int) < ((hD (x : Int)).length : Int)) = true) ∨ (¬ 0 < (hD (x : Int)).length ∧ decide ((0 : Int) < ((hD (x : Int)).length : Int)) = false ∧ (bstr s).toList.isEmpty = true ∧ (bstr s).toList = []) := by
    rcases hc with hp | ⟨hx0, hs0⟩
    ·have : 0 < (hD (x : Int)).length := by have := HL.out; omega
     exact .inl ⟨this, κt (by omega)⟩
    ·have : ¬ 0 < (hD (x : Int)).length := by have := HL.out.2.2 (by omega); omega
     exact .inr ⟨this, κf (by omega), by rw [qB, hs0]; rfl, by rw [qB, hs0]⟩
   clear hc;rcases hcc with ⟨d1, d2⟩ | ⟨d1, d2, d3, d4⟩
   all_goals
    go_wp2_with fail;refine HKD.out.mono ?_;rintro e w2 ⟨A3, c3, A4, c4, rfl, hc3, hc4, hr3, hr4, hb2⟩;have HBO2 := η ((HBO.out.alloc HBO.out.size (.cells #[.int .i64 10] 3)).trans (hb2.mono (by have := HBO.out.size; simp; omega)));have HR3 := η hr3;have KA := η (cO A4 c4 (hD (xm : Int)) 0 w2 hr4 (by have := HL10.out; omega) (by decide));rw [HAT.out] at KA;clear hr3 hr4 hb2;go_wp2_with fail;refine KA.out.mono ?_;rintro e w3 ⟨rfl, hb3⟩;have HBO3 := η ((HBO2.out.trans (hb3.mono HBO2.out.size)).alloc (Nat.le_trans HBO2.out.size hb3.size) (.cells #[.int .u8 (48 + (xm : Int))] 5));have HR5 := η ((HR3.out.upto hb3).upto (βA (.cells #[.int .u8 (48 + (xm : Int))] 5)));have KC3 := KC w3;clear hb3;go_wp2_with fail;go_roundg g
    case measure => omega
    case rel => exact ⟨xd, _, A3, c3, rfl, HR5.out, rfl, HST.out, hxd2, by rw [if_neg (by simp)]; exact HG2.out, HBO3.out⟩
theorem xK (n : Int) (w : World) (h : small n) : Calls Tryz.prog 140 #[.int .i64 n] w (StrE w (numS n)) := by
 have hl := qO h;unfold small at h;have KF := η (uR n w (by omega) (by omega));have KT := η fun a0 a1 W hz => uP a0 a1 n W hz (by omega) (by omega)
 have EN : Hid (numS n = 32 :: Lib.itoa n) := rfl;clear h;generalize numS n = R at *;generalize Lib.itoa n = t at *;have ep : ∀ W : World, (Op.stringOp .add ⟨#[32]⟩ (bstr t)).run Tryz.prog W = .ok (.string (bstr (32 :: t))) W := fun W => zF [32] t W (by simp; omega)
 go_enter Tryz.func140, Tryz.ntmps140;go_wp2_with fail;refine KF.out.mono ?_;rintro e w1 ⟨a0, a1, rfl, hz, hb1⟩;have HB1 := η hb1;have HZ := η hz;clear hb1 hz;go_wp2_with fail;refine (KT.out a0 a1 w1 HZ.out).mono ?_;rintro e w2 ⟨rfl, hb2⟩;have HB2 := βT HB1 hb2;clear hb2;go_wp2_with fail;go_ret;exact ⟨xG EN.out.symm, HB2.out⟩
theorem qK (n : Int) (w : World) (h : small n) : Calls Tryz.prog 79 #[.int .i64 n] w (StrE w (numS n)) := by
 have hl := qO h;unfold small at h;have KF := η (uR n w (by omega) (by omega));have KT := η fun a0 a1 W hz => uP a0 a1 n W hz (by omega) (by omega)
 have EN : Hid (numS n = 32 :: Lib.itoa n) := rfl;clear h;generalize numS n = R at *;generalize Lib.itoa n = t at *;have ep : ∀ W : World, (Op.stringOp .add ⟨#[32]⟩ (bstr t)).run Tryz.prog W = .ok (.string (bstr (32 :: t))) W := fun W => zF [32] t W (by simp; omega)
 go_enter Tryz.func79, Tryz.ntmps79;go_wp2_with fail;refine KF.out.mono ?_;rintro e w1 ⟨a0, a1, rfl, hz, hb1⟩;have HB1 := η hb1;have HZ := η hz;clear hb1 hz;go_wp2_with fail;refine (KT.out a0 a1 w1 HZ.out).mono ?_;rintro e w2 ⟨rfl, hb2⟩;have HB2 := βT HB1 hb2;clear hb2;go_wp2_with fail;go_ret;exact ⟨xG EN.out.symm, HB2.out⟩
theorem vS (n : Int) (w : World) (h : small n) : Calls Tryz.prog 33 #[.int .i64 n] w (StrE w (numS n)) := by
 have hl := qO h;unfold small at h;have KF := η (uR n w (by omega) (by omega));have KT := η fun a0 a1 W hz => uP a0 a1 n W hz (by omega) (by omega)
 have EN : Hid (numS n = 32 :: Lib.itoa n) := rfl;clear h;generalize numS n = R at *;generalize Lib.itoa n = t at *;have ep : ∀ W : World, (Op.stringOp .add ⟨#[32]⟩ (bstr t)).run Tryz.prog W = .ok (.string (bstr (32 :: t))) W := fun W => zF [32] t W (by simp; omega)
 go_enter Tryz.func33, Tryz.ntmps33;go_wp2_with fail;refine KF.out.mono ?_;rintro e w1 ⟨a0, a1, rfl, hz, hb1⟩;have HB1 := η hb1;have HZ := η hz;clear hb1 hz;go_wp2_with fail;refine (KT.out a0 a1 w1 HZ.out).mono ?_;rintro e w2 ⟨rfl, hb2⟩;have HB2 := βT HB1 hb2;clear hb2;go_wp2_with fail;go_ret;exact ⟨xG EN.out.symm, HB2.out⟩
end Go.Proofs.YtkfhpefmmhljmaaGreatDoor
