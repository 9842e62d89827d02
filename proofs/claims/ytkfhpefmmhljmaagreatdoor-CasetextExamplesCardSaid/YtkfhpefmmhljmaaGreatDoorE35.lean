/- Texts in one: SmA, SmB. -/
import Derived.Test.YtkfhpefmmhljmaaGreatDoorE21
set_option linter.unusedVariables false
set_option linter.unusedSimpArgs false
set_option maxHeartbeats 16000000
set_option maxRecDepth 100000
namespace Go.Proofs.YtkfhpefmmhljmaaGreatDoor
open Go.RowKit
def BoolE (b : Bool) (w : World) (e : Ending) (w' : World) : Prop := e = .returned (.bool b) ∧ Below w w w'
theorem eR (a b : Int) (w : World) : (binOp .neq 205 (.agg #[.int .i64 a, .int .i64 b]) (.agg #[.int .i64 a, .int .i64 b])).run Tryz.prog w = .ok (.bool false) w := by
 have u3 := Tryz.underlying3;have a3 := Tryz.isAgg3;have z3 := Tryz.sizeOf3;have u2 := Tryz.underlying2;have a2 := Tryz.isAgg2;have z2 := Tryz.sizeOf2;have u5 := Tryz.underlying5;have a5 := Tryz.isAgg5;have z5 := Tryz.sizeOf5;have hS : Tryz.prog.underlying 205 = some (.struct (Tryz.prog.fieldsOf 205)) := by kernel_rfl
 have hp : Tryz.prog.stoodInHeld 205 = false := by kernel_rfl
 rw [run_neq_struct, show (10000 : Nat) = 9999 + 1 from rfl, run_equalIn_agg w 9999 205 _ _ hS hp];simp only [Program.fieldsOf, Tryz.underlying205];go_simp
theorem eS (a b c d : Int) (w : World) : (binOp .neq 127 (.agg #[.int .i64 a, .int .i64 b, .int .i64 c, .int .i64 d]) (.agg #[.int .i64 a, .int .i64 b, .int .i64 c, .int .i64 d])).run Tryz.prog w = .ok (.bool false) w := by
 have u3 := Tryz.underlying3;have a3 := Tryz.isAgg3;have z3 := Tryz.sizeOf3;have u2 := Tryz.underlying2;have a2 := Tryz.isAgg2;have z2 := Tryz.sizeOf2;have u5 := Tryz.underlying5;have a5 := Tryz.isAgg5;have z5 := Tryz.sizeOf5;have hS : Tryz.prog.underlying 127 = some (.struct (Tryz.prog.fieldsOf 127)) := by kernel_rfl
 have hp : Tryz.prog.stoodInHeld 127 = false := by kernel_rfl
 rw [run_neq_struct, show (10000 : Nat) = 9999 + 1 from rfl, run_equalIn_agg w 9999 127 _ _ hS hp];simp only [Program.fieldsOf, Tryz.underlying127];go_simp
theorem nE (a b c d : Int) (w : World) : (binOp .neq 53 (.agg #[.int .u8 a, .int .i64 b, .int .i64 c, .int .i64 d]) (.agg #[.int .u8 a, .int .i64 b, .int .i64 c, .int .i64 d])).run Tryz.prog w = .ok (.bool false) w := by
 have u3 := Tryz.underlying3;have a3 := Tryz.isAgg3;have z3 := Tryz.sizeOf3;have u2 := Tryz.underlying2;have a2 := Tryz.isAgg2;have z2 := Tryz.sizeOf2;have u5 := Tryz.underlying5;have a5 := Tryz.isAgg5;have z5 := Tryz.sizeOf5;have hS : Tryz.prog.underlying 53 = some (.struct (Tryz.prog.fieldsOf 53)) := by kernel_rfl
 have hp : Tryz.prog.stoodInHeld 53 = false := by kernel_rfl
 rw [run_neq_struct, show (10000 : Nat) = 9999 + 1 from rfl, run_equalIn_agg w 9999 53 _ _ hS hp];simp only [Program.fieldsOf, Tryz.underlying53];go_simp
theorem nD (a b c : Int) (w : World) : (binOp .neq 51 (.agg #[.int .i64 a, .int .i64 b, .int .i64 c]) (.agg #[.int .i64 a, .int .i64 b, .int .i64 c])).run Tryz.prog w = .ok (.bool false) w := by
 have u3 := Tryz.underlying3;have a3 := Tryz.isAgg3;have z3 := Tryz.sizeOf3;have u2 := Tryz.underlying2;have a2 := Tryz.isAgg2;have z2 := Tryz.sizeOf2;have u5 := Tryz.underlying5;have a5 := Tryz.isAgg5;have z5 := Tryz.sizeOf5;have hS : Tryz.prog.underlying 51 = some (.struct (Tryz.prog.fieldsOf 51)) := by kernel_rfl
 have hp : Tryz.prog.stoodInHeld 51 = false := by kernel_rfl
 rw [run_neq_struct, show (10000 : Nat) = 9999 + 1 from rfl, run_equalIn_agg w 9999 51 _ _ hS hp];simp only [Program.fieldsOf, Tryz.underlying51];go_simp
theorem uP (A A' : Option Addr) (c c' : Nat) (l : List St) (w : World) (hl : RowR StE 2 w w A l) (hl' : RowR StE 2 w w A' l) (hn : l.length ≤ 1000000) :
  Calls Tryz.prog 98 #[.slice A l.length c, .slice A' l.length c'] w (BoolE true w) := by
 have HA := η hl;have HA2 := η hl';clear hl hl';go_enter Tryz.func98, Tryz.ntmps98;go_wp2_with fail;go_loopg [5] l.length (fun gk s5 wr => ∃ k : Nat, k + gk = l.length ∧ s5 = .int .i64 (k : Int) ∧ Below w w wr)
 case atStart => exact ⟨0, by omega, rfl, Below.refl _ _⟩
 case round =>
  obtain ⟨k, hkg, rfl, hbl⟩ := hrel;have HB := η hbl;have hzw : w ≤ wr.heap.size := hbl.size;clear hbl;cases gk with
  | zero =>
   obtain rfl : k = l.length := by omega
   clear hkg;go_wp2_with fail;go_ret;exact ⟨rfl, HB.out⟩
  | succ g =>
   have hk : k < l.length := by omega
   have HG := η hkg;clear hkg;obtain ⟨b, off, cc, rfl, hb, hc1, hc2, hc3⟩ := (HA.out.up StE.keep HB.out).at_ k (0, 0) hk;obtain ⟨b2, off2, cc2, rfl, hb2, hd1, hd2, hd3⟩ := (HA2.out.up StE.keep HB.out).at_ k (0, 0) hk;generalize hxx : l.getD k (0, 0) = x at *;clear hxx;replace hc2 : cc = _ := hc2;subst hc2;replace hd2 : cc2 = _ := hd2;subst hd2;have f0 := hc3 0 _ rfl;have f1 := hc3 1 _ rfl;have g0 := hd3 0 _ rfl;have g1 := hd3 1 _ rfl;rw [κz] at f0 g0;clear hc3 hd3;have hbw : b < wr := by omega
   have hbw2 : b2 < wr := by omega
   have i2 : (k : Int) < (l.length : Int) := by omega
   have hneq := eR x.1 x.2;go_wp2_with fail;refine zI (w0 := wr) [(0, .slice (some ⟨b, off, none⟩) l.length c), (1, .slice (some ⟨b2, off2, none⟩) l.length c'), (5, .int .i64 (k : Int)), (17, .slice (some ⟨b, off, none⟩) l.length c), (18, .int .i64 (k : Int)), (19, .pointer (some ⟨b, off + k * 2, none⟩)), (20, .agg #[.int .i64 x.1, .int .i64 x.2]), (21, .slice (some ⟨b2, off2, none⟩) l.length c'), (22, .int .i64 (k : Int)), (23, .pointer (some ⟨b2, off2 + k * 2, none⟩)), (24, .agg #[.int .i64 x.1, .int .i64 x.2]), (25, .bool false)] [] [0, 1, 5] ?_ ?_
   ·intro T hT W hI;simp only [zA, and_true] at hT;have zf0 : W.cell? ⟨b, off + k * 2, none⟩ = _ := (hI.cell (p := ⟨b, off + k * 2, none⟩) hbw).trans f0;have zf1 : W.cell? ⟨b, off + k * 2 + 1, none⟩ = _ := (hI.cell (p := ⟨b, off + k * 2 + 1, none⟩) hbw).trans f1;have yf : b < W := νl hbw hI.size;have zg0 : W.cell? ⟨b2, off2 + k * 2, none⟩ = _ := (hI.cell (p := ⟨b2, off2 + k * 2, none⟩) hbw2).trans g0;have zg1 : W.cell? ⟨b2, off2 + k * 2 + 1, none⟩ = _ := (hI.cell (p := ⟨b2, off2 + k * 2 + 1, none⟩) hbw2).trans g1;have yg : b2 < W := νl hbw2 hI.size
    repeat' first | exact AllO.nil | apply AllO.cons
    all_goals try ((first | refine oV ?_ | refine oN ?_ | refine oG (t := by simp only [hT]) (h := ?_)); simp [go_sem, EvT, hT, i2, zf0, zf1, yf, zg0, zg1, yg, hneq, valT]; done)
   intro wx hb;simp (decide := true) only [putT, valT, look, Act.put, σi, σo, σs, Nat.reduceAdd, if_true, if_false];have HB2 := η (HB.out.trans (hb.mono hzw));clear hb HB;go_wp2_with fail;go_roundg g
   case measure => omega
   case rel => exact ⟨k + 1, by have := HG.out; omega, by go_num, HB2.out⟩
theorem bL (nb : Int) (A A' : Option Addr) (c c' : Nat) (l : List Ln) (w : World) (hl : RowR LnE 4 w w A l) (hl' : RowR LnE 4 w w A' l) (hn : l.length ≤ 1000000) :
  Calls Tryz.prog 42 #[.agg #[.int .i64 nb, .slice A l.length c], .agg #[.int .i64 nb, .slice A' l.length c']] w (BoolE true w) := by
 have HA := η hl;have HA2 := η hl';clear hl hl';have HXa : Hid (Box ((w.alloc (.cells #[.int .i64 nb, .slice A l.length c] 24)).alloc (.cells #[.int .i64 nb, .slice A' l.length c'] 24)) w [.int .i64 nb, .slice A l.length c]) := (Box.new w #[.int .i64 nb, .slice A l.length c] 24).alloc (by simp) _;have HXb : Hid (Box ((w.alloc (.cells #[.int .i64 nb, .slice A l.length c] 24)).alloc (.cells #[.int .i64 nb, .slice A' l.length c'] 24)) (w + 1) [.int .i64 nb, .slice A' l.length c']) := by
  have := Box.new (w.alloc (.cells #[.int .i64 nb, .slice A l.length c] 24)) #[.int .i64 nb, .slice A' l.length c'] 24;show Box _ _ _
  simpa using this
 have HB0 : Hid (Below w w ((w.alloc (.cells #[.int .i64 nb, .slice A l.length c] 24)).alloc (.cells #[.int .i64 nb, .slice A' l.length c'] 24))) := (βA _).alloc (by simp) _;have hz1 : w + 1 < ((w.alloc (.cells #[.int .i64 nb, .slice A l.length c] 24)).alloc (.cells #[.int .i64 nb, .slice A' l.length c'] 24)).heap.size := by simp
 generalize hW1 : ((w.alloc (.cells #[.int .i64 nb, .slice A l.length c] 24)).alloc (.cells #[.int .i64 nb, .slice A' l.length c'] 24)) = W1 at HXa HXb HB0 hz1;have HW1 := η hW1;clear hW1;go_enter Tryz.func42, Tryz.ntmps42;go_upto_region 1 with fail
 rw [HW1.out];clear HW1;obtain ⟨q0, s0, q1, s1⟩ := sqX2 HXa.out;obtain ⟨u0, v0, u1, v1⟩ := sqX2 HXb.out;go_wp2_with fail;go_loopg [5] l.length (fun gk s5 wr => ∃ k : Nat, k + gk = l.length ∧ s5 = .int .i64 (k : Int) ∧ Below W1 W1 wr)
 case atStart => exact ⟨0, by omega, rfl, Below.refl _ _⟩
 case round =>
  obtain ⟨k, hkg, rfl, hbl⟩ := hrel;have HB := βT HB0 hbl;have hzw : w + 1 < wr.heap.size := νl hz1 hbl.size;have hzw0 : w < wr.heap.size := by omega
  have HYa := η (HXa.out.up hbl (by omega));have HYb := η (HXb.out.up hbl hz1);have HBL := η hbl;clear hbl q0 q1 s0 s1 u0 u1 v0 v1;obtain ⟨q0, s0, q1, s1⟩ := sqX2 HYa.out;obtain ⟨u0, v0, u1, v1⟩ := sqX2 HYb.out;cases gk with
  | zero =>
   obtain rfl : k = l.length := by omega
   clear hkg;go_wp2_with fail;go_ret;exact ⟨rfl, HB.out⟩
  | succ g =>
   have hk : k < l.length := by omega
   have HG := η hkg;clear hkg;obtain ⟨b, off, cc, rfl, hb, hc1, hc2, hc3⟩ := (HA.out.up LnE.keep HB.out).at_ k (0, 0, 0, 0) hk;obtain ⟨b2, off2, cc2, rfl, hb2, hd1, hd2, hd3⟩ := (HA2.out.up LnE.keep HB.out).at_ k (0, 0, 0, 0) hk;generalize hxx : l.getD k (0, 0, 0, 0) = x at *;clear hxx;replace hc2 : cc = _ := hc2;subst hc2;replace hd2 : cc2 = _ := hd2;subst hd2;have f0 := hc3 0 _ rfl;have f1 := hc3 1 _ rfl;have f2 := hc3 2 _ rfl;have f3 := hc3 3 _ rfl;have g0 := hd3 0 _ rfl;have g1 := hd3 1 _ rfl;have g2 := hd3 2 _ rfl;have g3 := hd3 3 _ rfl;rw [κz] at f0 g0;clear hc3 hd3;have hbw : b < wr := by omega
   have hbw2 : b2 < wr := by omega
   have i2 : (k : Int) < (l.length : Int) := by omega
   have hneq := eS x.1 x.2.1 x.2.2.1 x.2.2.2;go_wp2_with fail;refine zI (w0 := wr) [(2, .pointer (some ⟨w, 0, none⟩)), (3, .pointer (some ⟨w + 1, 0, none⟩)), (5, .int .i64 (k : Int)), (27, .pointer (some ⟨w, 1, none⟩)), (28, .slice (some ⟨b, off, none⟩) l.length c), (29, .int .i64 (k : Int)), (30, .pointer (some ⟨b, off + k * 4, none⟩)), (31, .agg #[.int .i64 x.1, .int .i64 x.2.1, .int .i64 x.2.2.1, .int .i64 x.2.2.2]), (32, .pointer (some ⟨w + 1, 1, none⟩)), (33, .slice (some ⟨b2, off2, none⟩) l.length c'), (34, .int .i64 (k : Int)), (35, .pointer (some ⟨b2, off2 + k * 4, none⟩)), (36, .agg #[.int .i64 x.1, .int .i64 x.2.1, .int .i64 x.2.2.1, .int .i64 x.2.2.2]), (37, .bool false)] [] [2, 3, 5] ?_ ?_
   ·intro T hT W hI;simp only [zA, and_true] at hT;have da1 := (HYa.out.up hI hzw0).c 1 _ rfl;have eda1 : w < W.heap.size := νl hzw0 hI.size;have zf0 : W.cell? ⟨b, off + k * 4, none⟩ = _ := (hI.cell (p := ⟨b, off + k * 4, none⟩) hbw).trans f0;have zf1 : W.cell? ⟨b, off + k * 4 + 1, none⟩ = _ := (hI.cell (p := ⟨b, off + k * 4 + 1, none⟩) hbw).trans f1;have zf2 : W.cell? ⟨b, off + k * 4 + 2, none⟩ = _ := (hI.cell (p := ⟨b, off + k * 4 + 2, none⟩) hbw).trans f2;have zf3 : W.cell? ⟨b, off + k * 4 + 3, none⟩ = _ := (hI.cell (p := ⟨b, off + k * 4 + 3, none⟩) hbw).trans f3;have yf : b < W := νl hbw hI.size;have db1 := (HYb.out.up hI hzw).c 1 _ rfl;have edb1 : w + 1 < W.heap.size := νl hzw hI.size;have zg0 : W.cell? ⟨b2, off2 + k * 4, none⟩ = _ := (hI.cell (p := ⟨b2, off2 + k * 4, none⟩) hbw2).trans g0;have zg1 : W.cell? ⟨b2, off2 + k * 4 + 1, none⟩ = _ := (hI.cell (p := ⟨b2, off2 + k * 4 + 1, none⟩) hbw2).trans g1;have zg2 : W.cell? ⟨b2, off2 + k * 4 + 2, none⟩ = _ := (hI.cell (p := ⟨b2, off2 + k * 4 + 2, none⟩) hbw2).trans g2;have zg3 : W.cell? ⟨b2, off2 + k * 4 + 3, none⟩ = _ := (hI.cell (p := ⟨b2, off2 + k * 4 + 3, none⟩) hbw2).trans g3;have yg : b2 < W := νl hbw2 hI.size
    repeat' first | exact AllO.nil | apply AllO.cons
    all_goals try ((first | refine oV ?_ | refine oN ?_ | refine oG (t := by simp only [hT]) (h := ?_)); simp [go_sem, EvT, hT, da1, eda1, i2, zf0, zf1, zf2, zf3, yf, db1, edb1, zg0, zg1, zg2, zg3, yg, hneq, valT]; done)
   intro wx hb;simp (decide := true) only [putT, valT, look, Act.put, σi, σo, σs, Nat.reduceAdd, if_true, if_false];have HB2 := βT HBL hb;clear hb HB HBL;go_wp2_with fail;go_roundg g
   case measure => omega
   case rel => exact ⟨k + 1, by have := HG.out; omega, by go_num, HB2.out⟩
theorem bM (x : Bd) (A A' : Option Addr) (c c' : Nat) (w : World) (hl : RowR StE 2 w w A x.steps) (hl' : RowR StE 2 w w A' x.steps) (hn : x.steps.length ≤ 1000000) :
  Calls Tryz.prog 99 #[.agg #[.int .i64 x.bus, .slice A x.steps.length c], .agg #[.int .i64 x.bus, .slice A' x.steps.length c']] w (BoolE true w) := by
 have HXa : Hid (Box ((w.alloc (.cells #[.int .i64 x.bus, .slice A x.steps.length c] 133)).alloc (.cells #[.int .i64 x.bus, .slice A' x.steps.length c'] 133)) w [.int .i64 x.bus, .slice A x.steps.length c]) := (Box.new w #[.int .i64 x.bus, .slice A x.steps.length c] 133).alloc (by simp) _;have HXb : Hid (Box ((w.alloc (.cells #[.int .i64 x.bus, .slice A x.steps.length c] 133)).alloc (.cells #[.int .i64 x.bus, .slice A' x.steps.length c'] 133)) (w + 1) [.int .i64 x.bus, .slice A' x.steps.length c']) := by
  have := Box.new (w.alloc (.cells #[.int .i64 x.bus, .slice A x.steps.length c] 133)) #[.int .i64 x.bus, .slice A' x.steps.length c'] 133;show Box _ _ _
  simpa using this
 have HB0 : Hid (Below w w ((w.alloc (.cells #[.int .i64 x.bus, .slice A x.steps.length c] 133)).alloc (.cells #[.int .i64 x.bus, .slice A' x.steps.length c'] 133))) := (βA _).alloc (by simp) _;have hz1 : w + 1 < ((w.alloc (.cells #[.int .i64 x.bus, .slice A x.steps.length c] 133)).alloc (.cells #[.int .i64 x.bus, .slice A' x.steps.length c'] 133)).heap.size := by simp
 have KS := η (uP A A' c c' x.steps ((w.alloc (.cells #[.int .i64 x.bus, .slice A x.steps.length c] 133)).alloc (.cells #[.int .i64 x.bus, .slice A' x.steps.length c'] 133)) (hl.upto StE.keep HB0.out) (hl'.upto StE.keep HB0.out) hn);clear hl hl' HXa HXb;go_enter Tryz.func99, Tryz.ntmps99;go_wp2_with fail;refine KS.out.mono ?_;rintro e w1 ⟨rfl, hb1⟩;have HB1 := βT HB0 hb1;clear hb1 KS HB0 hz1;go_wp2_with fail;go_ret;exact ⟨rfl, HB1.out⟩
theorem gW (A A' : Option Addr) (c c' : Nat) (l : List Bd) (w : World) (hl : RowR BdR 2 w w A l) (hl' : RowR BdR 2 w w A' l) (hn : l.length ≤ 1000000) (hst : ∀ x ∈ l, x.steps.length ≤ 1000000) :
  Calls Tryz.prog 44 #[.slice A l.length c, .slice A' l.length c'] w (BoolE true w) := by
 have HA := η hl;have HA2 := η hl';clear hl hl';go_enter Tryz.func44, Tryz.ntmps44;go_wp2_with fail;go_loopg [5] l.length (fun gk s5 wr => ∃ k : Nat, k + gk = l.length ∧ s5 = .int .i64 (k : Int) ∧ Below w w wr)
 case atStart => exact ⟨0, by omega, rfl, Below.refl _ _⟩
 case round =>
  obtain ⟨k, hkg, rfl, hbl⟩ := hrel;have HB := η hbl;have hzw : w ≤ wr.heap.size := hbl.size;clear hbl;cases gk with
  | zero =>
   obtain rfl : k = l.length := by omega
   clear hkg;go_wp2_with fail;go_ret;exact ⟨rfl, HB.out⟩
  | succ g =>
   have hk : k < l.length := by omega
   have HG := η hkg;clear hkg;have HXM := η (hst (l.getD k bd0) (by rw [zL l k _ hk]; exact List.getElem_mem hk));obtain ⟨b, off, cc, rfl, hb, hc1, hc2, hc3⟩ := (HA.out.up BdR.keep HB.out).at_ k bd0 hk;obtain ⟨b2, off2, cc2, rfl, hb2, hd1, hd2, hd3⟩ := (HA2.out.up BdR.keep HB.out).at_ k bd0 hk;generalize hxx : l.getD k bd0 = x at *;clear hxx;obtain ⟨Ax, cx, rfl, _, hsx⟩ := hc2;obtain ⟨Ay, cy, rfl, _, hsy⟩ := hd2;have f0 := hc3 0 _ rfl;have f1 := hc3 1 _ rfl;have g0 := hd3 0 _ rfl;have g1 := hd3 1 _ rfl;rw [κz] at f0 g0;clear hc3 hd3;have hbw : b < wr := by omega
   have hbw2 : b2 < wr := by omega
   have i2 : (k : Int) < (l.length : Int) := by omega
   have HSX := η (hsx.keep StE.keep (fun p hp => rfl) hzw);have HSY := η (hsy.keep StE.keep (fun p hp => rfl) hzw);clear hsx hsy;go_wp2_with fail;refine zI (w0 := wr) [(0, .slice (some ⟨b, off, none⟩) l.length c), (1, .slice (some ⟨b2, off2, none⟩) l.length c'), (5, .int .i64 (k : Int)), (17, .slice (some ⟨b, off, none⟩) l.length c), (18, .int .i64 (k : Int)), (19, .pointer (some ⟨b, off + k * 2, none⟩)), (20, .agg #[.int .i64 x.bus, .slice Ax x.steps.length cx]), (21, .slice (some ⟨b2, off2, none⟩) l.length c'), (22, .int .i64 (k : Int)), (23, .pointer (some ⟨b2, off2 + k * 2, none⟩)), (24, .agg #[.int .i64 x.bus, .slice Ay x.steps.length cy]), (25, .bool true), (26, .bool false)] [] [0, 1, 5] ?_ ?_
   ·intro T hT W hI;simp only [zA, and_true] at hT;have zf0 : W.cell? ⟨b, off + k * 2, none⟩ = _ := (hI.cell (p := ⟨b, off + k * 2, none⟩) hbw).trans f0;have zf1 : W.cell? ⟨b, off + k * 2 + 1, none⟩ = _ := (hI.cell (p := ⟨b, off + k * 2 + 1, none⟩) hbw).trans f1;have yf : b < W := νl hbw hI.size;have zg0 : W.cell? ⟨b2, off2 + k * 2, none⟩ = _ := (hI.cell (p := ⟨b2, off2 + k * 2, none⟩) hbw2).trans g0;have zg1 : W.cell? ⟨b2, off2 + k * 2 + 1, none⟩ = _ := (hI.cell (p := ⟨b2, off2 + k * 2 + 1, none⟩) hbw2).trans g1;have yg : b2 < W := νl hbw2 hI.size
    repeat' first | exact AllO.nil | apply AllO.cons
    all_goals try ((first | refine oV ?_ | refine oN ?_ | refine oG (t := by simp only [hT]) (h := ?_)); simp [go_sem, EvT, hT, i2, zf0, zf1, yf, zg0, zg1, yg, valT]; done)
    ·refine opT_r (zO 99 #[.agg #[.int .i64 x.bus, .slice Ax x.steps.length cx], .agg #[.int .i64 x.bus, .slice Ay x.steps.length cy]] (by simp [go_sem, EvT, hT, i2, zf0, zf1, yf, zg0, zg1, yg]) ?_);simp only [valT, hT];exact bM x Ax Ay cx cy W (HSX.out.upto StE.keep hI) (HSY.out.upto StE.keep hI) HXM.out
   intro wx hb;simp (decide := true) only [putT, valT, look, Act.put, σi, σo, σs, Nat.reduceAdd, if_true, if_false];have HB2 := η (HB.out.trans (hb.mono hzw));clear hb HB;go_wp2_with fail;go_roundg g
   case measure => omega
   case rel => exact ⟨k + 1, by have := HG.out; omega, by go_num, HB2.out⟩
theorem nI (x : Un) (A A' : Option Addr) (c c' : Nat) (w : World) (hl : RowR StE 2 w w A x.steps) (hl' : RowR StE 2 w w A' x.steps) (hn : x.steps.length ≤ 1000000) :
  Calls Tryz.prog 43 #[.agg #[.int .i64 x.bus, .int .i64 x.min, .slice A x.steps.length c, .int .i64 x.up, .int .i64 x.down, .int .i64 x.start, .int .i64 x.idle, .int .i64 x.spin, .int .i64 x.on], .agg #[.int .i64 x.bus, .int .i64 x.min, .slice A' x.steps.length c', .int .i64 x.up, .int .i64 x.down, .int .i64 x.start, .int .i64 x.idle, .int .i64 x.spin, .int .i64 x.on]] w (BoolE true w) := by
 have HXa : Hid (Box ((w.alloc (.cells #[.int .i64 x.bus, .int .i64 x.min, .slice A x.steps.length c, .int .i64 x.up, .int .i64 x.down, .int .i64 x.start, .int .i64 x.idle, .int .i64 x.spin, .int .i64 x.on] 62)).alloc (.cells #[.int .i64 x.bus, .int .i64 x.min, .slice A' x.steps.length c', .int .i64 x.up, .int .i64 x.down, .int .i64 x.start, .int .i64 x.idle, .int .i64 x.spin, .int .i64 x.on] 62)) w [.int .i64 x.bus, .int .i64 x.min, .slice A x.steps.length c, .int .i64 x.up, .int .i64 x.down, .int .i64 x.start, .int .i64 x.idle, .int .i64 x.spin, .int .i64 x.on]) := (Box.new w #[.int .i64 x.bus, .int .i64 x.min, .slice A x.steps.length c, .int .i64 x.up, .int .i64 x.down, .int .i64 x.start, .int .i64 x.idle, .int .i64 x.spin, .int .i64 x.on] 62).alloc (by simp) _;have HXb : Hid (Box ((w.alloc (.cells #[.int .i64 x.bus, .int .i64 x.min, .slice A x.steps.length c, .int .i64 x.up, .int .i64 x.down, .int .i64 x.start, .int .i64 x.idle, .int .i64 x.spin, .int .i64 x.on] 62)).alloc (.cells #[.int .i64 x.bus, .int .i64 x.min, .slice A' x.steps.length c', .int .i64 x.up, .int .i64 x.down, .int .i64 x.start, .int .i64 x.idle, .int .i64 x.spin, .int .i64 x.on] 62)) (w + 1) [.int .i64 x.bus, .int .i64 x.min, .slice A' x.steps.length c', .int .i64 x.up, .int .i64 x.down, .int .i64 x.start, .int .i64 x.idle, .int .i64 x.spin, .int .i64 x.on]) := by
  have := Box.new (w.alloc (.cells #[.int .i64 x.bus, .int .i64 x.min, .slice A x.steps.length c, .int .i64 x.up, .int .i64 x.down, .int .i64 x.start, .int .i64 x.idle, .int .i64 x.spin, .int .i64 x.on] 62)) #[.int .i64 x.bus, .int .i64 x.min, .slice A' x.steps.length c', .int .i64 x.up, .int .i64 x.down, .int .i64 x.start, .int .i64 x.idle, .int .i64 x.spin, .int .i64 x.on] 62;show Box _ _ _
  simpa using this
 have HB0 : Hid (Below w w ((w.alloc (.cells #[.int .i64 x.bus, .int .i64 x.min, .slice A x.steps.length c, .int .i64 x.up, .int .i64 x.down, .int .i64 x.start, .int .i64 x.idle, .int .i64 x.spin, .int .i64 x.on] 62)).alloc (.cells #[.int .i64 x.bus, .int .i64 x.min, .slice A' x.steps.length c', .int .i64 x.up, .int .i64 x.down, .int .i64 x.start, .int .i64 x.idle, .int .i64 x.spin, .int .i64 x.on] 62))) := (βA _).alloc (by simp) _;have hz1 : w + 1 < ((w.alloc (.cells #[.int .i64 x.bus, .int .i64 x.min, .slice A x.steps.length c, .int .i64 x.up, .int .i64 x.down, .int .i64 x.start, .int .i64 x.idle, .int .i64 x.spin, .int .i64 x.on] 62)).alloc (.cells #[.int .i64 x.bus, .int .i64 x.min, .slice A' x.steps.length c', .int .i64 x.up, .int .i64 x.down, .int .i64 x.start, .int .i64 x.idle, .int .i64 x.spin, .int .i64 x.on] 62)).heap.size := by simp
 have KS := η (uP A A' c c' x.steps ((w.alloc (.cells #[.int .i64 x.bus, .int .i64 x.min, .slice A x.steps.length c, .int .i64 x.up, .int .i64 x.down, .int .i64 x.start, .int .i64 x.idle, .int .i64 x.spin, .int .i64 x.on] 62)).alloc (.cells #[.int .i64 x.bus, .int .i64 x.min, .slice A' x.steps.length c', .int .i64 x.up, .int .i64 x.down, .int .i64 x.start, .int .i64 x.idle, .int .i64 x.spin, .int .i64 x.on] 62)) (hl.upto StE.keep HB0.out) (hl'.upto StE.keep HB0.out) hn);clear hl hl';go_enter Tryz.func43, Tryz.ntmps43;go_wp2_with fail;refine KS.out.mono ?_;rintro e w1 ⟨rfl, hb1⟩;have HB1 := βT HB0 hb1;have HYa := η (HXa.out.up hb1 (by omega));have HYb := η (HXb.out.up hb1 hz1);clear hb1 KS HB0 hz1 HXa HXb;obtain ⟨q0, s0, q1, s1, q2, s2, q3, s3, q4, s4, q5, s5, q6, s6, q7, s7, q8, s8⟩ := sqX9 HYa.out;obtain ⟨u0, v0, u1, v1, u2, v2, u3, v3, u4, v4, u5, v5, u6, v6, u7, v7, u8, v8⟩ := sqX9 HYb.out;go_wp2_with fail;go_ret;exact ⟨rfl, HB1.out⟩
end Go.Proofs.YtkfhpefmmhljmaaGreatDoor
