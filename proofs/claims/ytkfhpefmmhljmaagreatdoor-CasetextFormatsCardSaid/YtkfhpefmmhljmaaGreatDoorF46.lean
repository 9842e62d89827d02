/- The text FrL. -/
import Derived.Test.YtkfhpefmmhljmaaGreatDoorF45
import Derived.Test.YtkfhpefmmhljmaaGreatDoorF33
set_option linter.unusedVariables false
set_option linter.unusedSimpArgs false
set_option maxHeartbeats 16000000
set_option maxRecDepth 100000
namespace Go.Proofs.YtkfhpefmmhljmaaGreatDoor
open Go.RowKit
set_option maxHeartbeats 4000000
theorem zN {n : Int} (h : small n) : (numS n).length ≤ 12 := by
 have := qO h;show (32 :: Lib.itoa n).length ≤ _
 rw [κc];omega
theorem kX {α : Type} {f : α → Bytes} {m : Nat} : ∀ {l : List α}, (∀ x ∈ l, (f x).length ≤ m) → (l.flatMap f).length ≤ l.length * m := by
 intro l
 induction l with
 | nil => intro _; simp
 | cons x l ih =>
  intro h;have h1 := h x (by simp);have h2 := ih fun y hy => h y (by simp [hy])
  rw [List.flatMap_cons, κa, κc, Nat.succ_mul];omega
theorem hM {α : Type} (f : α → Bytes) {l : List α} {k : Nat} (d : α) (hk : k < l.length) : (l.take (k + 1)).flatMap f = (l.take k).flatMap f ++ f (l.getD k d) := by
 rw [κs hk, List.flatMap_append, zM l k d hk];simp
theorem dE {s : St} (h : small s.1 ∧ small s.2) : (stepS s).length ≤ 30 := by
 have h1 := qO h.1;have h2 := zN h.2;unfold stepS;simp only [κa, κc, κn];omega
theorem gS (A : Option Addr) (c : Nat) (l : List St) (w : World) (hr : RowR StE 2 w w A l) (hs : ∀ s ∈ l, small s.1 ∧ small s.2) (hl : l.length ≤ 3) :
  Calls Tryz.prog 80 #[.slice A l.length c] w (StrE w (l.flatMap stepS)) := by
 have HR := η hr;have HS := η hs;have HB0 := η (Below.refl w w);clear hr hs;go_enter Tryz.func80, Tryz.ntmps80;go_wp2_with fail;go_loopg [3, 4] l.length (fun g s3 s4 wr => ∃ k : Nat, k + g = l.length ∧ s4 = .int .i64 (k : Int) ∧ s3 = .string (bstr ((l.take k).flatMap stepS)) ∧ Below w w wr)
 case atStart => exact ⟨0, by omega, rfl, rfl, HB0.out⟩
 case round =>
  clear HB0;obtain ⟨k, hkg, rfl, rfl, hb⟩ := hrel;have HB := η hb;clear hb;cases gk with
  | zero =>
   obtain rfl : k = l.length := by omega
   clear hkg;rw [List.take_length];go_wp2_with fail
   try rw [κx]
   go_ret;exact ⟨rfl, HB.out⟩
  | succ g =>
   have hk : k < l.length := by omega
   have HG := η hkg;clear hkg;obtain ⟨b, off, cc, rfl, hbl, hcn, hce, hcc⟩ := HR.out.at_ k (0, 0) hk;rw [show cc = stC (l.getD k (0, 0)) from hce] at hcc;have f0 := (HB.out.cell (p := ⟨b, off + k * 2, none⟩) hbl).trans (hcc 0 _ rfl);have f1 := (HB.out.cell (p := ⟨b, off + k * 2 + 1, none⟩) hbl).trans (hcc 1 _ rfl);have hsm := HS.out (l.getD k (0, 0)) (xW (0, 0) hk);have h0 := kX (f := stepS) (l := l.take k) (m := 30) fun x hx => dE (HS.out x (List.mem_of_mem_take hx))
   rw [κk] at h0;have HT := η (hM stepS (0, 0) hk);have hbw : b < wr := νl hbl HB.out.size;clear hcc hce hcn;generalize (l.take k).flatMap stepS = s at *;obtain ⟨⟨q, p⟩, hx⟩ : ∃ x, l.getD k (0, 0) = x := ⟨_, rfl⟩;rw [hx] at f0 f1 hsm HT;clear hx;dsimp only at f0 f1 hsm;have K1 := η fun W => qK q W hsm.1
   have K2 := η fun W => qK p W hsm.2
   have h1 := zN hsm.1;have h2 := zN hsm.2;obtain ⟨t1, ht1⟩ : ∃ t, t = numS q := ⟨_, rfl⟩;obtain ⟨t2, ht2⟩ : ∃ t, t = numS p := ⟨_, rfl⟩;obtain ⟨t3, ht3⟩ : ∃ t, t = Lib.itoa q := ⟨_, rfl⟩;have z1 : (1 : Int) ≤ ((bstr t1).size : Int) := by rw [zQ, ht1]; simp [numS]; omega
   have z2 : (bstr t1).extract 1 (bstr t1).size = bstr t3 := by
    rw [vK, zQ, ht3, ht1, show (numS q).drop 1 = Lib.itoa q from rfl, κy (by simp [numS])]
   have h3 := qO hsm.1;rw [← ht1] at K1 h1;rw [← ht2] at K2 h2;rw [← ht3] at h3;have hq : s.length ≤ 90 := by omega
   obtain ⟨s1, hs1⟩ : ∃ x, x = s ++ [32, 40] := ⟨_, rfl⟩;have qs1 : s1.length ≤ 92 := by rw [hs1]; simp only [κa, κc, κn]; omega
   have es1 : ∀ W : World, (Op.stringOp .add (bstr s) ⟨#[32, 40]⟩).run Tryz.prog W = .ok (.string (bstr s1)) W := fun W => by rw [hs1]; exact zF (s) ([32, 40]) W (by (try simp only [κc, κn]); omega)
   obtain ⟨s2, hs2⟩ : ∃ x, x = s1 ++ t3 := ⟨_, rfl⟩;have qs2 : s2.length ≤ 103 := by rw [hs2]; simp only [κa, κc, κn]; omega
   have es2 : ∀ W : World, (Op.stringOp .add (bstr s1) (bstr t3)).run Tryz.prog W = .ok (.string (bstr s2)) W := fun W => by rw [hs2]; exact zF (s1) (t3) W (by (try simp only [κc, κn]); omega)
   obtain ⟨s3, hs3⟩ : ∃ x, x = s2 ++ t2 := ⟨_, rfl⟩;have qs3 : s3.length ≤ 115 := by rw [hs3]; simp only [κa, κc, κn]; omega
   have es3 : ∀ W : World, (Op.stringOp .add (bstr s2) (bstr t2)).run Tryz.prog W = .ok (.string (bstr s3)) W := fun W => by rw [hs3]; exact zF (s2) (t2) W (by (try simp only [κc, κn]); omega)
   obtain ⟨s4, hs4⟩ : ∃ x, x = s3 ++ [41] := ⟨_, rfl⟩;have qs4 : s4.length ≤ 116 := by rw [hs4]; simp only [κa, κc, κn]; omega
   have es4 : ∀ W : World, (Op.stringOp .add (bstr s3) ⟨#[41]⟩).run Tryz.prog W = .ok (.string (bstr s4)) W := fun W => by rw [hs4]; exact zF (s3) ([41]) W (by (try simp only [κc, κn]); omega)
   have HT2 : Hid ((l.take (k + 1)).flatMap stepS = s4) := by
    show _ = _
    rw [HT.out, hs4, hs3, hs2, hs1, ht3, ht2];simp [stepS]
   have hkl : (k : Int) < (l.length : Int) := by omega
   clear HT hs1 hs2 hs3 hs4 qs1 qs2 qs3 qs4 ht1 ht2 ht3 hq h0 h1 h2 h3 hsm;go_wp2_with fail;refine zE (w0 := wr) [(3, .string (bstr s)), (0, .slice (some ⟨b, off, none⟩) l.length c), (4, .int .i64 (k : Int)), (11, .string (bstr s)), (12, .string (bstr s1)), (13, .slice (some ⟨b, off, none⟩) l.length c), (14, .int .i64 (k : Int)), (15, .pointer (some ⟨b, off + k * 2, none⟩)), (16, .pointer (some ⟨b, off + k * 2, none⟩)), (17, .int .i64 q), (18, .string (bstr t1)), (19, .string (bstr t3)), (20, .string (bstr s2)), (21, .slice (some ⟨b, off, none⟩) l.length c), (22, .int .i64 (k : Int)), (23, .pointer (some ⟨b, off + k * 2, none⟩)), (24, .pointer (some ⟨b, off + k * 2 + 1, none⟩)), (25, .int .i64 p), (26, .string (bstr t2)), (27, .string (bstr s3)), (28, .string (bstr s4))] [(3, .string (bstr s4))] [3, 0, 4] ?_ ?_
   ·intro T hT W hI;simp only [zA, and_true] at hT;have F0 := (hI.cell (p := ⟨b, off + k * 2, none⟩) hbw).trans f0;have F1 := (hI.cell (p := ⟨b, off + k * 2 + 1, none⟩) hbw).trans f1
    repeat' first | exact AllO.nil | apply AllO.cons
    all_goals try ((first | refine oV ?_ | refine oN ?_ | refine oG (t := by simp only [hT]) (h := ?_)); simp [go_sem, EvT, hT, hkl, hk, F0, F1, z1, z2, es1, es2, es3, es4, valT]; done)
    ·refine opT_r (zO 79 #[.int .i64 q] (by simp [go_sem, EvT, hT, hkl, hk, F0, F1, z1, z2, es1, es2, es3, es4]) ?_);simp only [valT, hT];exact K1.out W
    ·refine opT_r (zO 79 #[.int .i64 p] (by simp [go_sem, EvT, hT, hkl, hk, F0, F1, z1, z2, es1, es2, es3, es4]) ?_);simp only [valT, hT];exact K2.out W
   intro wx hbx;simp (decide := true) only [putT, valT, look, Act.put, σi, σo, σs, Nat.reduceAdd, if_true, if_false];have HB2 := βT HB hbx;clear hbx f0 f1 K1 K2 z1 z2 es1 es2 es3 es4;go_wp2_with fail;go_roundg g
   case measure => omega
   case rel => exact ⟨k + 1, by have := HG.out; omega, by go_num, by rw [HT2.out], HB2.out⟩
theorem vQ {l : List St} (h : ∀ s ∈ l, small s.1 ∧ small s.2) (hl : l.length ≤ 3) : (l.flatMap stepS).length ≤ 90 := by
 have := kX (f := stepS) (l := l) (m := 30) fun x hx => dE (h x hx)
 omega
theorem sB (bus : Int) (steps : List St) (A : Option Addr) (c : Nat) (w : World) (hr : RowR StE 2 w w A steps) (hb : small bus) (hs : ∀ s ∈ steps, small s.1 ∧ small s.2) (hl : steps.length ≤ 3) :
  Calls Tryz.prog 83 #[.agg #[.int .i64 bus, .slice A steps.length c]] w (StrE w (bidS ⟨bus, steps⟩)) := by
 have HR := η hr;have K1 := η fun W => qK bus W hb
 have K2 := η fun W h => gS A c steps W h hs hl
 have HB0 : Hid (Below w w (w.alloc (.cells #[.int .i64 bus, .slice A steps.length c] 133))) := (Below.refl w w).alloc (νr _) _;have HX0 : Hid (Box (w.alloc (.cells #[.int .i64 bus, .slice A steps.length c] 133)) w [.int .i64 bus, .slice A steps.length c]) := Box.new w #[.int .i64 bus, .slice A steps.length c] _;have hz0 : w < (w.alloc (.cells #[.int .i64 bus, .slice A steps.length c] 133)).heap.size := by simp
 have h1 := zN hb;have h2 := vQ hs hl;obtain ⟨t1, ht1⟩ : ∃ t, t = numS bus := ⟨_, rfl⟩;obtain ⟨t2, ht2⟩ : ∃ t, t = steps.flatMap stepS := ⟨_, rfl⟩;rw [← ht1] at K1 h1;rw [← ht2] at K2 h2;obtain ⟨s1, hs1⟩ : ∃ x, x = [40, 98, 105, 100] ++ t1 := ⟨_, rfl⟩;have qs1 : s1.length ≤ 16 := by rw [hs1]; simp only [κa, κc, κn]; omega
 have es1 : ∀ W : World, (Op.stringOp .add ⟨#[40, 98, 105, 100]⟩ (bstr t1)).run Tryz.prog W = .ok (.string (bstr s1)) W := fun W => by rw [hs1]; exact zF ([40, 98, 105, 100]) (t1) W (by (try simp only [κc, κn]); omega)
 obtain ⟨s2, hs2⟩ : ∃ x, x = s1 ++ t2 := ⟨_, rfl⟩;have qs2 : s2.length ≤ 106 := by rw [hs2]; simp only [κa, κc, κn]; omega
 have es2 : ∀ W : World, (Op.stringOp .add (bstr s1) (bstr t2)).run Tryz.prog W = .ok (.string (bstr s2)) W := fun W => by rw [hs2]; exact zF (s1) (t2) W (by (try simp only [κc, κn]); omega)
 obtain ⟨s3, hs3⟩ : ∃ x, x = s2 ++ [41] := ⟨_, rfl⟩;have qs3 : s3.length ≤ 107 := by rw [hs3]; simp only [κa, κc, κn]; omega
 have es3 : ∀ W : World, (Op.stringOp .add (bstr s2) ⟨#[41]⟩).run Tryz.prog W = .ok (.string (bstr s3)) W := fun W => by rw [hs3]; exact zF (s2) ([41]) W (by (try simp only [κc, κn]); omega)
 have ER : Hid (bidS ⟨bus, steps⟩ = s3) := by
  show _ = _
  rw [hs3, hs2, hs1, ht2, ht1];simp [bidS]
 generalize bidS ⟨bus, steps⟩ = R at *;clear hr hb hs hs1 hs2 hs3 qs1 qs2 qs3 ht1 ht2 h1 h2;go_enter Tryz.func83, Tryz.ntmps83;go_wp2_with fail;refine zE (w0 := (w.alloc (.cells #[.int .i64 bus, .slice A steps.length c] 133))) [(1, .pointer (some ⟨w, 0, none⟩)), (3, .pointer (some ⟨w, 0, none⟩)), (4, .int .i64 bus), (5, .string (bstr t1)), (6, .string (bstr s1)), (7, .pointer (some ⟨w, 1, none⟩)), (8, .slice A steps.length c), (9, .string (bstr t2)), (10, .string (bstr s2)), (11, .string (bstr s3))] [(2, .string (bstr s3))] [1] ?_ ?_
 ·intro T hT W hI;simp only [zA, and_true] at hT;have hx := HX0.out.up hI hz0;have c0 := hx.c 0 _ rfl;have c1 := hx.c 1 _ rfl
  repeat' first | exact AllO.nil | apply AllO.cons
  all_goals try ((first | refine oV ?_ | refine oN ?_ | refine oG (t := by simp only [hT]) (h := ?_)); simp [go_sem, EvT, hT, c0, c1, es1, es2, es3, valT]; done)
  ·refine opT_r (zO 79 #[.int .i64 bus] (by simp [go_sem, EvT, hT, c0, c1, es1, es2, es3]) ?_);simp only [valT, hT];exact K1.out W
  ·refine opT_r (zO 80 #[.slice A steps.length c] (by simp [go_sem, EvT, hT, c0, c1, es1, es2, es3]) ?_);simp only [valT, hT];exact K2.out W (HR.out.upto StE.keep (HB0.out.trans (hI.mono (κl hz0))))
 intro wx hbx;simp (decide := true) only [putT, valT, look, Act.put, σi, σo, σs, Nat.reduceAdd, if_true, if_false];have HB2 := η (HB0.out.trans (hbx.mono (κl hz0)));clear hbx;go_wp2_with fail;go_ret;exact ⟨xG ER.out.symm, HB2.out⟩
theorem nT {bus : Int} {steps : List St} (hb : small bus) (hs : ∀ s ∈ steps, small s.1 ∧ small s.2) (hl : steps.length ≤ 3) : (bidS ⟨bus, steps⟩).length ≤ 110 := by
 have h1 := zN hb;have h2 := vQ hs hl;unfold bidS;simp only [κa, κc, κn];omega
theorem cH (bus mn up down start idle spin on : Int) (steps : List St) (A : Option Addr) (c : Nat) (w : World) (hr : RowR StE 2 w w A steps) (hn : ∀ n ∈ zW ⟨bus, mn, steps, up, down, start, idle, spin, on⟩, small n) (hs : ∀ s ∈ steps, small s.1 ∧ small s.2) (hl : steps.length ≤ 3) :
  Calls Tryz.prog 32 #[.agg #[.int .i64 bus, .int .i64 mn, .slice A steps.length c, .int .i64 up, .int .i64 down, .int .i64 start, .int .i64 idle, .int .i64 spin, .int .i64 on]] w (StrE w (unitS ⟨bus, mn, steps, up, down, start, idle, spin, on⟩)) := by
 have HR := η hr;have K1 := η fun W => qK bus W (hn _ (by simp [zW]))
 have K2 := η fun W => qK mn W (hn _ (by simp [zW]))
 have K3 := η fun W => qK up W (hn _ (by simp [zW]))
 have K4 := η fun W => qK down W (hn _ (by simp [zW]))
 have K5 := η fun W => qK start W (hn _ (by simp [zW]))
 have K6 := η fun W => qK idle W (hn _ (by simp [zW]))
 have K7 := η fun W => qK spin W (hn _ (by simp [zW]))
 have K8 := η fun W => qK on W (hn _ (by simp [zW]))
 have K9 := η fun W h => gS A c steps W h hs hl
 have HB0 : Hid (Below w w (w.alloc (.cells #[.int .i64 bus, .int .i64 mn, .slice A steps.length c, .int .i64 up, .int .i64 down, .int .i64 start, .int .i64 idle, .int .i64 spin, .int .i64 on] 62))) := (Below.refl w w).alloc (νr _) _;have HX0 : Hid (Box (w.alloc (.cells #[.int .i64 bus, .int .i64 mn, .slice A steps.length c, .int .i64 up, .int .i64 down, .int .i64 start, .int .i64 idle, .int .i64 spin, .int .i64 on] 62)) w [.int .i64 bus, .int .i64 mn, .slice A steps.length c, .int .i64 up, .int .i64 down, .int .i64 start, .int .i64 idle, .int .i64 spin, .int .i64 on]) := Box.new w #[.int .i64 bus, .int .i64 mn, .slice A steps.length c, .int .i64 up, .int .i64 down, .int .i64 start, .int .i64 idle, .int .i64 spin, .int .i64 on] _;have hz0 : w < (w.alloc (.cells #[.int .i64 bus, .int .i64 mn, .slice A steps.length c, .int .i64 up, .int .i64 down, .int .i64 start, .int .i64 idle, .int .i64 spin, .int .i64 on] 62)).heap.size := by simp
 have h1 : (numS bus).length ≤ 12 := zN (hn _ (by simp [zW]));have h2 : (numS mn).length ≤ 12 := zN (hn _ (by simp [zW]));have h3 : (numS up).length ≤ 12 := zN (hn _ (by simp [zW]));have h4 : (numS down).length ≤ 12 := zN (hn _ (by simp [zW]));have h5 : (numS start).length ≤ 12 := zN (hn _ (by simp [zW]));have h6 : (numS idle).length ≤ 12 := zN (hn _ (by simp [zW]));have h7 : (numS spin).length ≤ 12 := zN (hn _ (by simp [zW]));have h8 : (numS on).length ≤ 12 := zN (hn _ (by simp [zW]));have h9 := vQ hs hl;obtain ⟨t1, ht1⟩ : ∃ t, t = numS bus := ⟨_, rfl⟩;rw [← ht1] at K1 h1;obtain ⟨t2, ht2⟩ : ∃ t, t = numS mn := ⟨_, rfl⟩;rw [← ht2] at K2 h2;obtain ⟨t3, ht3⟩ : ∃ t, t = numS up := ⟨_, rfl⟩;rw [← ht3] at K3 h3;obtain ⟨t4, ht4⟩ : ∃ t, t = numS down := ⟨_, rfl⟩;rw [← ht4] at K4 h4;obtain ⟨t5, ht5⟩ : ∃ t, t = numS start := ⟨_, rfl⟩;rw [← ht5] at K5 h5;obtain ⟨t6, ht6⟩ : ∃ t, t = numS idle := ⟨_, rfl⟩;rw [← ht6] at K6 h6;obtain ⟨t7, ht7⟩ : ∃ t, t = numS spin := ⟨_, rfl⟩;rw [← ht7] at K7 h7;obtain ⟨t8, ht8⟩ : ∃ t, t = numS on := ⟨_, rfl⟩;rw [← ht8] at K8 h8;obtain ⟨t9, ht9⟩ : ∃ t, t = steps.flatMap stepS := ⟨_, rfl⟩;rw [← ht9] at K9 h9;obtain ⟨s1, hs1⟩ : ∃ x, x = [40, 117, 110, 105, 116] ++ t1 := ⟨_, rfl⟩;have qs1 : s1.length ≤ 17 := by rw [hs1]; simp only [κa, κc, κn]; omega
 have es1 : ∀ W : World, (Op.stringOp .add ⟨#[40, 117, 110, 105, 116]⟩ (bstr t1)).run Tryz.prog W = .ok (.string (bstr s1)) W := fun W => by rw [hs1]; exact zF ([40, 117, 110, 105, 116]) (t1) W (by (try simp only [κc, κn]); omega)
 obtain ⟨s2, hs2⟩ : ∃ x, x = s1 ++ t2 := ⟨_, rfl⟩;have qs2 : s2.length ≤ 29 := by rw [hs2]; simp only [κa, κc, κn]; omega
 have es2 : ∀ W : World, (Op.stringOp .add (bstr s1) (bstr t2)).run Tryz.prog W = .ok (.string (bstr s2)) W := fun W => by rw [hs2]; exact zF (s1) (t2) W (by (try simp only [κc, κn]); omega)
 obtain ⟨s3, hs3⟩ : ∃ x, x = s2 ++ t3 := ⟨_, rfl⟩;have qs3 : s3.length ≤ 41 := by rw [hs3]; simp only [κa, κc, κn]; omega
 have es3 : ∀ W : World, (Op.stringOp .add (bstr s2) (bstr t3)).run Tryz.prog W = .ok (.string (bstr s3)) W := fun W => by rw [hs3]; exact zF (s2) (t3) W (by (try simp only [κc, κn]); omega)
 obtain ⟨s4, hs4⟩ : ∃ x, x = s3 ++ t4 := ⟨_, rfl⟩;have qs4 : s4.length ≤ 53 := by rw [hs4]; simp only [κa, κc, κn]; omega
 have es4 : ∀ W : World, (Op.stringOp .add (bstr s3) (bstr t4)).run Tryz.prog W = .ok (.string (bstr s4)) W := fun W => by rw [hs4]; exact zF (s3) (t4) W (by (try simp only [κc, κn]); omega)
 obtain ⟨s5, hs5⟩ : ∃ x, x = s4 ++ t5 := ⟨_, rfl⟩;have qs5 : s5.length ≤ 65 := by rw [hs5]; simp only [κa, κc, κn]; omega
 have es5 : ∀ W : World, (Op.stringOp .add (bstr s4) (bstr t5)).run Tryz.prog W = .ok (.string (bstr s5)) W := fun W => by rw [hs5]; exact zF (s4) (t5) W (by (try simp only [κc, κn]); omega)
 obtain ⟨s6, hs6⟩ : ∃ x, x = s5 ++ t6 := ⟨_, rfl⟩;have qs6 : s6.length ≤ 77 := by rw [hs6]; simp only [κa, κc, κn]; omega
 have es6 : ∀ W : World, (Op.stringOp .add (bstr s5) (bstr t6)).run Tryz.prog W = .ok (.string (bstr s6)) W := fun W => by rw [hs6]; exact zF (s5) (t6) W (by (try simp only [κc, κn]); omega)
 obtain ⟨s7, hs7⟩ : ∃ x, x = s6 ++ t7 := ⟨_, rfl⟩;have qs7 : s7.length ≤ 89 := by rw [hs7]; simp only [κa, κc, κn]; omega
 have es7 : ∀ W : World, (Op.stringOp .add (bstr s6) (bstr t7)).run Tryz.prog W = .ok (.string (bstr s7)) W := fun W => by rw [hs7]; exact zF (s6) (t7) W (by (try simp only [κc, κn]); omega)
 obtain ⟨s8, hs8⟩ : ∃ x, x = s7 ++ t8 := ⟨_, rfl⟩;have qs8 : s8.length ≤ 101 := by rw [hs8]; simp only [κa, κc, κn]; omega
 have es8 : ∀ W : World, (Op.stringOp .add (bstr s7) (bstr t8)).run Tryz.prog W = .ok (.string (bstr s8)) W := fun W => by rw [hs8]; exact zF (s7) (t8) W (by (try simp only [κc, κn]); omega)
 obtain ⟨s9, hs9⟩ : ∃ x, x = s8 ++ t9 := ⟨_, rfl⟩;have qs9 : s9.length ≤ 191 := by rw [hs9]; simp only [κa, κc, κn]; omega
 have es9 : ∀ W : World, (Op.stringOp .add (bstr s8) (bstr t9)).run Tryz.prog W = .ok (.string (bstr s9)) W := fun W => by rw [hs9]; exact zF (s8) (t9) W (by (try simp only [κc, κn]); omega)
 obtain ⟨s10, hs10⟩ : ∃ x, x = s9 ++ [41] := ⟨_, rfl⟩;have qs10 : s10.length ≤ 192 := by rw [hs10]; simp only [κa, κc, κn]; omega
 have es10 : ∀ W : World, (Op.stringOp .add (bstr s9) ⟨#[41]⟩).run Tryz.prog W = .ok (.string (bstr s10)) W := fun W => by rw [hs10]; exact zF (s9) ([41]) W (by (try simp only [κc, κn]); omega)
 have ER : Hid (unitS ⟨bus, mn, steps, up, down, start, idle, spin, on⟩ = s10) := by
  show _ = _
  rw [hs10, hs9, hs8, hs7, hs6, hs5, hs4, hs3, hs2, hs1, ht9, ht8, ht7, ht6, ht5, ht4, ht3, ht2, ht1];simp [unitS]
 generalize unitS ⟨bus, mn, steps, up, down, start, idle, spin, on⟩ = R at *;clear hr hn hs hs1 hs2 hs3 hs4 hs5 hs6 hs7 hs8 hs9 hs10 qs1 qs2 qs3 qs4 qs5 qs6 qs7 qs8 qs9 qs10 ht1 ht2 ht3 ht4 ht5 ht6 ht7 ht8 ht9 h1 h2 h3 h4 h5 h6 h7 h8 h9;go_enter Tryz.func32, Tryz.ntmps32;go_wp2_with fail;refine zE (w0 := (w.alloc (.cells #[.int .i64 bus, .int .i64 mn, .slice A steps.length c, .int .i64 up, .int .i64 down, .int .i64 start, .int .i64 idle, .int .i64 spin, .int .i64 on] 62))) [(1, .pointer (some ⟨w, 0, none⟩)), (4, .pointer (some ⟨w, 0, none⟩)), (5, .int .i64 bus), (6, .string (bstr t1)), (7, .string (bstr s1)), (8, .pointer (some ⟨w, 1, none⟩)), (9, .int .i64 mn), (10, .string (bstr t2)), (11, .string (bstr s2)), (12, .pointer (some ⟨w, 3, none⟩)), (13, .int .i64 up), (14, .string (bstr t3)), (15, .string (bstr s3)), (16, .pointer (some ⟨w, 4, none⟩)), (17, .int .i64 down), (18, .string (bstr t4)), (19, .string (bstr s4)), (20, .pointer (some ⟨w, 5, none⟩)), (21, .int .i64 start), (22, .string (bstr t5)), (23, .string (bstr s5)), (24, .pointer (some ⟨w, 6, none⟩)), (25, .int .i64 idle), (26, .string (bstr t6)), (27, .string (bstr s6)), (28, .pointer (some ⟨w, 7, none⟩)), (29, .int .i64 spin), (30, .string (bstr t7)), (31, .string (bstr s7)), (32, .pointer (some ⟨w, 8, none⟩)), (33, .int .i64 on), (34, .string (bstr t8)), (35, .string (bstr s8))] [(3, .string (bstr s8))] [1] ?_ ?_
 ·intro T hT W hI;simp only [zA, and_true] at hT;have hx := HX0.out.up hI hz0;have c0 := hx.c 0 _ rfl;have c1 := hx.c 1 _ rfl;have c3 := hx.c 3 _ rfl;have c4 := hx.c 4 _ rfl;have c5 := hx.c 5 _ rfl;have c6 := hx.c 6 _ rfl;have c7 := hx.c 7 _ rfl;have c8 := hx.c 8 _ rfl
  repeat' first | exact AllO.nil | apply AllO.cons
  all_goals try ((first | refine oV ?_ | refine oN ?_ | refine oG (t := by simp only [hT]) (h := ?_)); simp [go_sem, EvT, hT, c0, c1, c3, c4, c5, c6, c7, c8, es1, es2, es3, es4, es5, es6, es7, es8, valT]; done)
  ·refine opT_r (zO 79 #[.int .i64 bus] (by simp [go_sem, EvT, hT, c0, c1, c3, c4, c5, c6, c7, c8, es1, es2, es3, es4, es5, es6, es7, es8]) ?_);simp only [valT, hT];exact K1.out W
  ·refine opT_r (zO 79 #[.int .i64 mn] (by simp [go_sem, EvT, hT, c0, c1, c3, c4, c5, c6, c7, c8, es1, es2, es3, es4, es5, es6, es7, es8]) ?_);simp only [valT, hT];exact K2.out W
  ·refine opT_r (zO 79 #[.int .i64 up] (by simp [go_sem, EvT, hT, c0, c1, c3, c4, c5, c6, c7, c8, es1, es2, es3, es4, es5, es6, es7, es8]) ?_);simp only [valT, hT];exact K3.out W
  ·refine opT_r (zO 79 #[.int .i64 down] (by simp [go_sem, EvT, hT, c0, c1, c3, c4, c5, c6, c7, c8, es1, es2, es3, es4, es5, es6, es7, es8]) ?_);simp only [valT, hT];exact K4.out W
  ·refine opT_r (zO 79 #[.int .i64 start] (by simp [go_sem, EvT, hT, c0, c1, c3, c4, c5, c6, c7, c8, es1, es2, es3, es4, es5, es6, es7, es8]) ?_);simp only [valT, hT];exact K5.out W
  ·refine opT_r (zO 79 #[.int .i64 idle] (by simp [go_sem, EvT, hT, c0, c1, c3, c4, c5, c6, c7, c8, es1, es2, es3, es4, es5, es6, es7, es8]) ?_);simp only [valT, hT];exact K6.out W
  ·refine opT_r (zO 79 #[.int .i64 spin] (by simp [go_sem, EvT, hT, c0, c1, c3, c4, c5, c6, c7, c8, es1, es2, es3, es4, es5, es6, es7, es8]) ?_);simp only [valT, hT];exact K7.out W
  ·refine opT_r (zO 79 #[.int .i64 on] (by simp [go_sem, EvT, hT, c0, c1, c3, c4, c5, c6, c7, c8, es1, es2, es3, es4, es5, es6, es7, es8]) ?_);simp only [valT, hT];exact K8.out W
 intro wx hbx;simp (decide := true) only [putT, valT, look, Act.put, σi, σo, σs, Nat.reduceAdd, if_true, if_false];have HB2 := η (HB0.out.trans (hbx.mono (κl hz0)));have HX2 := η (HX0.out.up hbx hz0);have hz2 : w < wx.heap.size := νl hz0 hbx.size;clear hbx HX0 HB0 hz0 K1 K2 K3 K4 K5 K6 K7 K8 es1 es2 es3 es4 es5 es6 es7 es8;have q2 := HX2.out.c 2 _ rfl;go_wp2_with fail;refine (K9.out _ (HR.out.upto StE.keep HB2.out)).mono ?_;rintro e w3 ⟨rfl, hb3⟩;have HB3 := βT HB2 hb3;clear hb3;go_wp2_with fail;go_ret;exact ⟨xG ER.out.symm, HB3.out⟩
end Go.Proofs.YtkfhpefmmhljmaaGreatDoor
