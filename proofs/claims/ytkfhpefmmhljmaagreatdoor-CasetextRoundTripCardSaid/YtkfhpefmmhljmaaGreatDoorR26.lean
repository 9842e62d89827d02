/- Texts in one: KnK, KnL, KnM. -/
import Derived.Test.YtkfhpefmmhljmaaGreatDoorR25
set_option linter.unusedVariables false
set_option linter.unusedSimpArgs false
set_option maxHeartbeats 16000000
set_option maxRecDepth 100000
namespace Go.Proofs.YtkfhpefmmhljmaaGreatDoor
open Go.RowKit
structure Num4 (w : World) (B : Nat) (ng : Bool) (A : Option Addr) (ws : List Int) (c : Nat) : Prop where
 cap : ws.length ≤ c
 len : ws.length ≤ 1000000
 row : WrdR w B A ws
 ok : Words ws
 trim : trimL ws = ws
 zero : ws = [] → ng = false
theorem Num4.num {w : World} {B : Nat} {ng : Bool} {A : Option Addr} {ws : List Int} {c : Nat} (h : Num4 w B ng A ws c) : NumR w B (.agg #[.bool ng, .slice A ws.length c]) (sgnI ng (wv ws)) :=
 ⟨ng, A, ws, c, rfl, h.cap, h.len, h.row, h.ok, h.trim, h.zero, rfl⟩
theorem Num4.upto {w w' : World} {ng : Bool} {A : Option Addr} {ws : List Int} {c : Nat} (h : Num4 w w ng A ws c) (hb : Below w w w') : Num4 w' w' ng A ws c := ⟨h.cap, h.len, h.row.upto hb, h.ok, h.trim, h.zero⟩
theorem zCt : (10 : Int) ^ 1000 < 4294967296 ^ 900000 := by
 have h1 : (10 : Int) ^ 1000 < 4294967296 ^ 200 := by decide +kernel
 have h2 := bp_le (show 200 ≤ 900000 by decide);exact Int.lt_of_lt_of_le h1 h2
theorem nR {w : World} {B : Nat} {v : Value} {n : Int} (h : NumR w B v n) (h0 : -(10 ^ 1000) < n) (h1 : n < 10 ^ 1000) : ∃ ng A ws c, v = .agg #[.bool ng, .slice A ws.length c] ∧ Num4 w B ng A ws c ∧ ws.length ≤ 900000 := by
 obtain ⟨ng, A, ws, c, rfl, a1, a2, a3, a4, a5, a6, rfl⟩ := h;refine ⟨ng, A, ws, c, rfl, ⟨a1, a2, a3, a4, a5, a6⟩, ?_⟩;rcases Nat.lt_or_ge 900000 ws.length with hl | hl
 ·exfalso;have h2 := wv_ge a4 a5 (fun e => by rw [e] at hl; simp at hl);have h3 := bp_le (show 900000 ≤ ws.length - 1 by omega);have h4 := zCt;have h5 : wv ws < 10 ^ 1000 := by
   cases ng
   ·exact h1
   ·have : -(10 ^ 1000 : Int) < -wv ws := h0;omega
  omega
 ·exact hl
def SomeB (w : World) (e : Ending) (w' : World) : Prop := ∃ b : Bool, e = .returned (.bool b) ∧ Below w w w'
theorem aQ (ng : Bool) (A : Option Addr) (ws : List Int) (c : Nat) (w : World) (h : Num4 w w ng A ws c) : Calls Tryz.prog 199 #[.agg #[.bool ng, .slice A ws.length c]] w (SomeB w) := by
 have HX : Hid (Box (w.alloc (.cells #[.bool ng, .slice A ws.length c] 83)) w [.bool ng, .slice A ws.length c]) := Box.new w #[.bool ng, .slice A ws.length c] 83;have HB : Hid (Below w w (w.alloc (.cells #[.bool ng, .slice A ws.length c] 83))) := βA _;have HN := η (h.upto HB.out);clear h;by_cases hz : ws.length = 0
 ·have z0 : ((ws.length : Int) == 0) = true := by rw [hz]; rfl
  rw [hz] at HX ⊢;go_enter Tryz.func199, Tryz.ntmps199;go_wp2_with fail;go_ret;exact ⟨_, rfl, by rw [hz] at HB; exact HB.out⟩
 ·have z0 : ((ws.length : Int) == 0) = false := βf (by omega);obtain ⟨m, hm⟩ : ∃ m, m + 1 = ws.length := ⟨ws.length - 1, by omega⟩;obtain ⟨b, off, rfl, hb, hcc⟩ := HN.out.row (by omega);have f0 := hcc m (by omega);have hlen := HN.out.len;have w0 : IntKind.i64.wrap ((ws.length : Int) - 1) = (m : Int) := by rw [IntWalk.i64_in _ (by omega)]; omega
  have w1 : (m : Int) < (ws.length : Int) := by omega
  have w2 : ¬ (ws.length : Int) = 0 := by omega
  generalize ws.getD m 0 = x at *;clear hcc hm hz hlen HN;generalize ws.length = n at *;go_enter Tryz.func199, Tryz.ntmps199;go_wp2_with fail;go_ret;exact ⟨_, rfl, HB.out⟩
def cmpZ (ng : Bool) (xs : List Int) (nh : Bool) (ys : List Int) : Int :=
 if sgn (sgnI ng (wv xs)) < sgn (sgnI nh (wv ys)) then -1 else if sgn (sgnI nh (wv ys)) < sgn (sgnI ng (wv xs)) then 1 else if sgn (sgnI ng (wv xs)) < 0 then cmpW ys xs else cmpW xs ys
theorem bR (ng nh : Bool) (A D : Option Addr) (xs ys : List Int) (c d : Nat) (w : World) (hx : Num4 w w ng A xs c) (hy : Num4 w w nh D ys d) :
  Calls Tryz.prog 200 #[.agg #[.bool ng, .slice A xs.length c], .agg #[.bool nh, .slice D ys.length d]] w fun e w' => e = .returned (.int .i64 (cmpZ ng xs nh ys)) ∧ Below w w w' := by
 have HA : Hid (Box ((w.alloc (.cells #[.bool ng, .slice A xs.length c] 83)).alloc (.cells #[.bool nh, .slice D ys.length d] 83)) w [.bool ng, .slice A xs.length c]) := (Box.new w #[.bool ng, .slice A xs.length c] 83).alloc (by simp) _;have HB : Hid (Box ((w.alloc (.cells #[.bool ng, .slice A xs.length c] 83)).alloc (.cells #[.bool nh, .slice D ys.length d] 83)) (w + 1) [.bool nh, .slice D ys.length d]) := by
  have := Box.new (w.alloc (.cells #[.bool ng, .slice A xs.length c] 83)) #[.bool nh, .slice D ys.length d] 83;show Box _ _ _
  simpa using this
 have HL : Hid (Below w w ((w.alloc (.cells #[.bool ng, .slice A xs.length c] 83)).alloc (.cells #[.bool nh, .slice D ys.length d] 83))) := (βA _).alloc (by simp) _;have hz : w + 1 < ((w.alloc (.cells #[.bool ng, .slice A xs.length c] 83)).alloc (.cells #[.bool nh, .slice D ys.length d] 83)).heap.size := by simp
 have HX := η (hx.upto HL.out);have HY := η (hy.upto HL.out);clear hx hy;have KX := η fun W (hW : Below ((w.alloc (.cells #[.bool ng, .slice A xs.length c] 83)).alloc (.cells #[.bool nh, .slice D ys.length d] 83)).heap.size ((w.alloc (.cells #[.bool ng, .slice A xs.length c] 83)).alloc (.cells #[.bool nh, .slice D ys.length d] 83)) W) => gC _ _ W (HX.out.upto hW).num
 have KY := η fun W (hW : Below ((w.alloc (.cells #[.bool ng, .slice A xs.length c] 83)).alloc (.cells #[.bool nh, .slice D ys.length d] 83)).heap.size ((w.alloc (.cells #[.bool ng, .slice A xs.length c] 83)).alloc (.cells #[.bool nh, .slice D ys.length d] 83)) W) => gC _ _ W (HY.out.upto hW).num
 have TX := η fun W (hW : Below ((w.alloc (.cells #[.bool ng, .slice A xs.length c] 83)).alloc (.cells #[.bool nh, .slice D ys.length d] 83)).heap.size ((w.alloc (.cells #[.bool ng, .slice A xs.length c] 83)).alloc (.cells #[.bool nh, .slice D ys.length d] 83)) W) => (show Calls Tryz.prog 198 #[.slice A xs.length c] W fun e w' => e = .returned (.slice A xs.length c) ∧ Below W W w' by have := jS A c xs W (HX.out.upto hW).row HX.out.len HX.out.cap; rwa [HX.out.trim] at this)
 have TY := η fun W (hW : Below ((w.alloc (.cells #[.bool ng, .slice A xs.length c] 83)).alloc (.cells #[.bool nh, .slice D ys.length d] 83)).heap.size ((w.alloc (.cells #[.bool ng, .slice A xs.length c] 83)).alloc (.cells #[.bool nh, .slice D ys.length d] 83)) W) => (show Calls Tryz.prog 198 #[.slice D ys.length d] W fun e w' => e = .returned (.slice D ys.length d) ∧ Below W W w' by have := jS D d ys W (HY.out.upto hW).row HY.out.len HY.out.cap; rwa [HY.out.trim] at this)
 have CXY := η fun W (hW : Below ((w.alloc (.cells #[.bool ng, .slice A xs.length c] 83)).alloc (.cells #[.bool nh, .slice D ys.length d] 83)).heap.size ((w.alloc (.cells #[.bool ng, .slice A xs.length c] 83)).alloc (.cells #[.bool nh, .slice D ys.length d] 83)) W) => kY A D c d xs ys W (HX.out.upto hW).row (HY.out.upto hW).row (by have := HX.out.len; omega) (by have := HY.out.len; omega)
 have CYX := η fun W (hW : Below ((w.alloc (.cells #[.bool ng, .slice A xs.length c] 83)).alloc (.cells #[.bool nh, .slice D ys.length d] 83)).heap.size ((w.alloc (.cells #[.bool ng, .slice A xs.length c] 83)).alloc (.cells #[.bool nh, .slice D ys.length d] 83)) W) => kY D A d c ys xs W (HY.out.upto hW).row (HX.out.upto hW).row (by have := HY.out.len; omega) (by have := HX.out.len; omega)
 clear HX HY;obtain ⟨res, hres⟩ : ∃ res, cmpZ ng xs nh ys = res := ⟨_, rfl⟩;rw [hres];unfold cmpZ at hres;generalize sgn (sgnI ng (wv xs)) = p at *;generalize sgn (sgnI nh (wv ys)) = q at *;generalize cmpW xs ys = rxy at *;generalize cmpW ys xs = ryx at *;have HRES := η hres;clear hres;go_enter Tryz.func200, Tryz.ntmps200;go_upto_region 1 with fail
 generalize ((w.alloc (.cells #[.bool ng, .slice A xs.length c] 83)).alloc (.cells #[.bool nh, .slice D ys.length d] 83)) = w1 at *;go_wp2_with fail;refine zH (w0 := w1) [(2, .pointer (some ⟨w, 0, none⟩)), (3, .pointer (some ⟨w + 1, 0, none⟩)), (7, .agg #[.bool ng, .slice A xs.length c]), (8, .int .i64 p), (9, .agg #[.bool nh, .slice D ys.length d]), (10, .int .i64 q), (5, .int .i64 p), (6, .int .i64 q)] [] [2, 3] ?_ ?_
 ·intro T hT W hI;simp only [zA, and_true] at hT;have a0 := (HA.out.up hI (by omega)).c 0 _ rfl;have a1 := (HA.out.up hI (by omega)).c 1 _ rfl;have b0 := (HB.out.up hI (by omega)).c 0 _ rfl;have b1 := (HB.out.up hI (by omega)).c 1 _ rfl;have e0 : w < W.heap.size := by have := hI.size; omega
  have e1 : w + 1 < W.heap.size := by have := hI.size; omega
  repeat' first | exact AllO.nil | apply AllO.cons
  all_goals try ((first | refine oV ?_ | refine oN ?_ | refine oG (t := by simp only [hT]) (h := ?_)); simp [go_sem, EvT, hT, a0, a1, b0, b1, e0, e1, valT]; done)
  ·refine opT_r (zR 163 #[.agg #[.bool ng, .slice A xs.length c]] (by simp [go_sem, EvT, hT, a0, a1, b0, b1, e0, e1]) ?_);simp only [valT, hT];exact KX.out W hI
  ·refine opT_r (zR 163 #[.agg #[.bool nh, .slice D ys.length d]] (by simp [go_sem, EvT, hT, a0, a1, b0, b1, e0, e1]) ?_);simp only [valT, hT];exact KY.out W hI
 intro wx hbx;simp (decide := true) only [putT, valT, look, Act.put, σi, σo, σs, Nat.reduceAdd, if_true, if_false];have HBX := η hbx;clear hbx KX KY;by_cases h1 : p < q
 ·have HE : Hid (res = -1) := by show _ = _; rw [← HRES.out, if_pos h1]
  go_wp2_with fail;go_ret;exact ⟨by rw [HE.out]; rfl, HL.out.trans (HBX.out.mono HL.out.size)⟩
 by_cases h2 : q < p
 ·have HE : Hid (res = 1) := by show _ = _; rw [← HRES.out, if_neg h1, if_pos h2]
  go_wp2_with fail;go_ret;exact ⟨by rw [HE.out]; rfl, HL.out.trans (HBX.out.mono HL.out.size)⟩
 by_cases h3 : p < 0
 ·have HE : Hid (res = ryx) := by show _ = _; rw [← HRES.out, if_neg h1, if_neg h2, if_pos h3]
  go_wp2_with fail;refine zH (w0 := wx) [(2, .pointer (some ⟨w, 0, none⟩)), (3, .pointer (some ⟨w + 1, 0, none⟩)), (22, .pointer (some ⟨w + 1, 1, none⟩)), (23, .slice D ys.length d), (24, .slice D ys.length d), (25, .pointer (some ⟨w, 1, none⟩)), (26, .slice A xs.length c), (27, .slice A xs.length c), (28, .int .i64 ryx), (4, .int .i64 ryx)] [] [2, 3] ?_ ?_
  ·intro T hT W hI;simp only [zA, and_true] at hT;have hI := HBX.out.trans (hI.mono HBX.out.size);have a0 := (HA.out.up hI (by omega)).c 0 _ rfl;have a1 := (HA.out.up hI (by omega)).c 1 _ rfl;have b0 := (HB.out.up hI (by omega)).c 0 _ rfl;have b1 := (HB.out.up hI (by omega)).c 1 _ rfl;have e0 : w < W.heap.size := by have := hI.size; omega
   have e1 : w + 1 < W.heap.size := by have := hI.size; omega
   repeat' first | exact AllO.nil | apply AllO.cons
   all_goals try ((first | refine oV ?_ | refine oN ?_ | refine oG (t := by simp only [hT]) (h := ?_)); simp [go_sem, EvT, hT, a0, a1, b0, b1, e0, e1, valT]; done)
   ·refine opT_r (zR 198 #[.slice D ys.length d] (by simp [go_sem, EvT, hT, a0, a1, b0, b1, e0, e1]) ?_);simp only [valT, hT];exact TY.out W hI
   ·refine opT_r (zR 198 #[.slice A xs.length c] (by simp [go_sem, EvT, hT, a0, a1, b0, b1, e0, e1]) ?_);simp only [valT, hT];exact TX.out W hI
   ·refine opT_r (zR 223 #[.slice D ys.length d, .slice A xs.length c] (by simp [go_sem, EvT, hT, a0, a1, b0, b1, e0, e1]) ?_);simp only [valT, hT];exact CYX.out W hI
  intro wy hby;simp (decide := true) only [putT, valT, look, Act.put, σi, σo, σs, Nat.reduceAdd, if_true, if_false];have HBY := βT HBX hby;clear hby;go_wp2_with fail;go_ret;exact ⟨by rw [HE.out]; rfl, HL.out.trans (HBY.out.mono HL.out.size)⟩
 have HE : Hid (res = rxy) := by show _ = _; rw [← HRES.out, if_neg h1, if_neg h2, if_neg h3]
 go_wp2_with fail;refine zH (w0 := wx) [(2, .pointer (some ⟨w, 0, none⟩)), (3, .pointer (some ⟨w + 1, 0, none⟩)), (29, .pointer (some ⟨w, 1, none⟩)), (30, .slice A xs.length c), (31, .slice A xs.length c), (32, .pointer (some ⟨w + 1, 1, none⟩)), (33, .slice D ys.length d), (34, .slice D ys.length d), (35, .int .i64 rxy), (4, .int .i64 rxy)] [] [2, 3] ?_ ?_
 ·intro T hT W hI;simp only [zA, and_true] at hT;have hI := HBX.out.trans (hI.mono HBX.out.size);have a0 := (HA.out.up hI (by omega)).c 0 _ rfl;have a1 := (HA.out.up hI (by omega)).c 1 _ rfl;have b0 := (HB.out.up hI (by omega)).c 0 _ rfl;have b1 := (HB.out.up hI (by omega)).c 1 _ rfl;have e0 : w < W.heap.size := by have := hI.size; omega
  have e1 : w + 1 < W.heap.size := by have := hI.size; omega
  repeat' first | exact AllO.nil | apply AllO.cons
  all_goals try ((first | refine oV ?_ | refine oN ?_ | refine oG (t := by simp only [hT]) (h := ?_)); simp [go_sem, EvT, hT, a0, a1, b0, b1, e0, e1, valT]; done)
  ·refine opT_r (zR 198 #[.slice A xs.length c] (by simp [go_sem, EvT, hT, a0, a1, b0, b1, e0, e1]) ?_);simp only [valT, hT];exact TX.out W hI
  ·refine opT_r (zR 198 #[.slice D ys.length d] (by simp [go_sem, EvT, hT, a0, a1, b0, b1, e0, e1]) ?_);simp only [valT, hT];exact TY.out W hI
  ·refine opT_r (zR 223 #[.slice A xs.length c, .slice D ys.length d] (by simp [go_sem, EvT, hT, a0, a1, b0, b1, e0, e1]) ?_);simp only [valT, hT];exact CXY.out W hI
 intro wy hby;simp (decide := true) only [putT, valT, look, Act.put, σi, σo, σs, Nat.reduceAdd, if_true, if_false];have HBY := βT HBX hby;clear hby;go_wp2_with fail;go_ret;exact ⟨by rw [HE.out]; rfl, HL.out.trans (HBY.out.mono HL.out.size)⟩
theorem oQ (ng nh : Bool) (A D : Option Addr) (xs ys : List Int) (c d : Nat) (w : World) (hx : Num4 w w ng A xs c) (hy : Num4 w w nh D ys d) (hxl : xs.length ≤ 900000) (hyl : ys.length ≤ 900000) :
  Calls Tryz.prog 164 #[.agg #[.bool ng, .slice A xs.length c, .bool nh, .slice D ys.length d]] w (SomeB w) := by
 have HA : Hid (Box (w.alloc (.cells #[.bool ng, .slice A xs.length c, .bool nh, .slice D ys.length d] 85)) w [.bool ng, .slice A xs.length c, .bool nh, .slice D ys.length d]) := Box.new w #[.bool ng, .slice A xs.length c, .bool nh, .slice D ys.length d] 85;have HL : Hid (Below w w (w.alloc (.cells #[.bool ng, .slice A xs.length c, .bool nh, .slice D ys.length d] 85))) := βA _;have hz : w < (w.alloc (.cells #[.bool ng, .slice A xs.length c, .bool nh, .slice D ys.length d] 85)).heap.size := by simp
 have HX := η (hx.upto HL.out);have HY := η (hy.upto HL.out);clear hx hy;have KX := η (aQ ng A xs c (w.alloc (.cells #[.bool ng, .slice A xs.length c, .bool nh, .slice D ys.length d] 85)) HX.out);go_enter Tryz.func164, Tryz.ntmps164;go_upto_region 1 with fail
 generalize (w.alloc (.cells #[.bool ng, .slice A xs.length c, .bool nh, .slice D ys.length d] 85)) = w1 at *;obtain ⟨q0, s0, q1, s1, q2, s2, q3, s3⟩ := sqX4 HA.out;go_wp2_with fail;refine KX.out.mono ?_;rintro e w2 ⟨b1, rfl, hb2⟩;have hz2 : w < w2.heap.size := νl hz hb2.size;have HA2 := η (HA.out.up hb2 hz);have HX2 := η (HX.out.upto hb2);have HY2 := η (HY.out.upto hb2);have HL2 := βT HL hb2;clear hb2 KX HA HX HY HL hz q0 q1 q2 q3 s0 s1 s2 s3;cases b1 with
 | false =>
  go_wp2_with fail;go_ret;exact ⟨_, rfl, HL2.out⟩
 | true =>
  have KY := η (aQ nh D ys d w2 HY2.out);obtain ⟨q0, s0, q1, s1, q2, s2, q3, s3⟩ := sqX4 HA2.out;go_wp2_with fail;refine KY.out.mono ?_;rintro e w3 ⟨b2, rfl, hb3⟩;have hz3 : w < w3.heap.size := νl hz2 hb3.size;have HA3 := η (HA2.out.up hb3 hz2);have HX3 := η (HX2.out.upto hb3);have HY3 := η (HY2.out.upto hb3);have HL3 := βT HL2 hb3;clear hb3 KY HA2 HX2 HY2 HL2 hz2 q0 q1 q2 q3 s0 s1 s2 s3;cases b2 with
  | false =>
   go_wp2_with fail;go_ret;exact ⟨_, rfl, HL3.out⟩
  | true =>
   obtain ⟨q0, s0, q1, s1, q2, s2, q3, s3⟩ := sqX4 HA3.out;by_cases hy0 : ys.length = 0
   ·have z0 : ((ys.length : Int) == 0) = true := by rw [hy0]; rfl
    rw [hy0] at q3;go_wp2_with fail;go_ret;exact ⟨_, rfl, HL3.out⟩
   have z0 : ((ys.length : Int) == 0) = false := βf (by omega);have z1 : (ys.length : Int) ≠ 0 := by omega
   have z2 : ys ≠ [] := fun e => hy0 (by rw [e]; rfl)
   have K1 := η (oL 1 w3 (by decide) (by decide));go_wp2_with fail;refine K1.out.mono ?_;rintro e w4 ⟨v, rfl, hv, hb4⟩;obtain ⟨g1, A1, ws, c1, rfl, ho, _⟩ := nR hv (by decide +kernel) (by decide +kernel);have hb5 : Below w3 w3 (w4.alloc (.cells #[.bool g1, .slice A1 ws.length c1] 83)) := hb4.alloc hb4.size _;have hz5 : w < (w4.alloc (.cells #[.bool g1, .slice A1 ws.length c1] 83)).heap.size := νl hz3 hb5.size;have HA5 := η (HA3.out.up hb5 hz3);have HX5 := η (HX3.out.upto hb5);have HY5 := η (HY3.out.upto hb5);have HO5 := η (ho.upto (βA (.cells #[.bool g1, .slice A1 ws.length c1] 83)));have HB5 : Hid (Box (w4.alloc (.cells #[.bool g1, .slice A1 ws.length c1] 83)) w4 [.bool g1, .slice A1 ws.length c1]) := Box.new w4 #[.bool g1, .slice A1 ws.length c1] 83;have hz6 : w4 < (w4.alloc (.cells #[.bool g1, .slice A1 ws.length c1] 83)).heap.size := by simp
   have HL5 := βT HL3 hb5;clear hb4 hb5 hv ho K1 HA3 HX3 HY3 HL3 hz3 q0 q1 q2 q3 s0 s1 s2 s3;go_upto_region 6 with fail
   generalize (w4.alloc (.cells #[.bool g1, .slice A1 ws.length c1] 83)) = w5 at *;generalize w4.heap.size = b4 at *;have KC := η fun W (hW : Below w5 w5 W) => bR nh g1 D A1 ys ws d c1 W (HY5.out.upto hW) (HO5.out.upto hW)
   go_wp2_with fail;generalize cmpZ nh ys g1 ws = p at *;by_cases hp : 0 < p
   ·refine jF (X := (Bool × Option Addr × Nat × Nat) × Int) (w0 := w5) [3, 10, 12] (fun jq => [0, 0, 0, 1, 1, 1, 1, 1, 1, 1, 2, 1, 3, 3, 3, 3].getD jq 0) (fun _ => 3) (fun _ x jq => (match jq with | 0 => .pointer (some ⟨w, 2, none⟩) | 1 => .agg #[.bool nh, .slice D ys.length d] | 2 => .agg #[.bool g1, .slice A1 ws.length c1] | 3 => .int .i64 p | 4 => .bool true | 5 => .bool true | 6 => .pointer (some ⟨w, 0, none⟩) | 7 => .agg #[.bool ng, .slice A xs.length c] | 8 => .pointer (some ⟨w, 2, none⟩) | 9 => .agg #[.bool nh, .slice D ys.length d] | 10 => .agg #[.bool x.1.1, .slice x.1.2.1 x.1.2.2.1 x.1.2.2.2] | 11 => .agg #[.bool g1, .slice A1 ws.length c1] | 12 => .int .i64 x.2 | 13 => .bool (x.2 == 0) | 14 => .bool (x.2 == 0) | 15 => .bool (x.2 == 0) | _ => undef)) (fun t x W => match t with
     | 0 => Below w5 w5 W
     | 1 => Below w5 w5 W
     | 2 => Below w5 w5 W ∧ ∃ us : List Int, us.length = x.1.2.2.1 ∧ Num4 W W x.1.1 x.1.2.1 us x.1.2.2.2
     | _ => Below w5 w5 W) ((false, none, 0, 0), 0) (by kernel_rfl) (by kernel_rfl) (by kernel_rfl) (Below.refl _ _).drew ?_ ?_ ?_
    ·intro iq oq ho hnc aq W t x hI htl hcl hub hdep hrest hgd;have hdep := @sqD _ _ _ hdep;have hgd := @sqG _ _ _ _ hgd;have hI : Below w5 w5 W := by
      rcases t with _ | _ | _ | t
      ·exact hI
      ·exact hI
      ·exact hI.1
      ·exact hI
     have a0 := (HA5.out.up hI hz5).c 0 _ rfl;have a1 := (HA5.out.up hI hz5).c 1 _ rfl;have a2 := (HA5.out.up hI hz5).c 2 _ rfl;have a3 := (HA5.out.up hI hz5).c 3 _ rfl;have b0 := (HB5.out.up hI hz6).c 0 _ rfl;have b1 := (HB5.out.up hI hz6).c 1 _ rfl;have e0 : w < W.heap.size := νl hz5 hI.size;have e1 : b4 < W := νl hz6 hI.size;have hc := sqC aq;rcases iq with _|_|_|_|_|_|_|_|_|_|_|_|_|_|_|_|iq
     ·cases ho; refine sqJ ?_; simp [go_sem, hc, hrest 1 (by kernel_rfl)]
     ·cases ho; refine sqJ ?_; simp [go_sem, hc, hdep ⟨0, .data⟩, a0, a1, a2, a3, b0, b1, e0, e1]
     ·cases ho; refine sqJ ?_; simp [go_sem, hc, hrest 3 (by kernel_rfl), a0, a1, a2, a3, b0, b1, e0, e1]
     ·exact absurd rfl (hnc 0 (by decide))
     ·cases ho; refine sqJ ?_; simp [go_sem, hc, hdep ⟨3, .data⟩, hp]
     ·cases ho; refine sqJ ?_; simp [go_sem, hc, hdep ⟨4, .data⟩]
     ·cases ho; refine sqA (hgd 5 true true (hdep ⟨5, .guard⟩)) ?_; simp [go_sem, hc, hrest 1 (by kernel_rfl)]
     ·cases ho; refine sqA (hgd 5 true true (hdep ⟨5, .guard⟩)) ?_; simp [go_sem, hc, hdep ⟨6, .data⟩, a0, a1, a2, a3, b0, b1, e0, e1]
     ·cases ho; refine sqA (hgd 5 true true (hdep ⟨5, .guard⟩)) ?_; simp [go_sem, hc, hrest 1 (by kernel_rfl)]
     ·cases ho; refine sqA (hgd 5 true true (hdep ⟨5, .guard⟩)) ?_; simp [go_sem, hc, hdep ⟨8, .data⟩, a0, a1, a2, a3, b0, b1, e0, e1]
     ·exact absurd rfl (hnc 1 (by decide))
     ·cases ho; refine sqA (hgd 5 true true (hdep ⟨5, .guard⟩)) ?_; simp [go_sem, hc, hrest 3 (by kernel_rfl), a0, a1, a2, a3, b0, b1, e0, e1]
     ·exact absurd rfl (hnc 2 (by decide))
     ·cases ho; refine sqA (hgd 5 true true (hdep ⟨5, .guard⟩)) ?_; simp [go_sem, hc, hdep ⟨12, .data⟩]
     ·cases ho; refine sqJ ?_; simp [go_sem, hc, hdep ⟨5, .data⟩, hdep ⟨13, .data⟩]
     ·cases ho; refine sqJ ?_; simp [go_sem, hc, hdep ⟨14, .data⟩]
     ·simp at ho
    ·intro k oq hk ho aq W x hI hdep hrest;have hdep := @sqD _ _ _ hdep;have hc := sqC aq;have hfn := sqF aq;rcases k with _ | _ | _ | k
     ·cases ho;have d1 := hdep ⟨1, .data⟩;have d2 := hdep ⟨2, .data⟩;clear hdep hrest;have hI' : Below w5 w5 W := hI;refine ⟨by simp [Region.wanted], fun K Q hK => ?_⟩;refine zV (R := fun v w2 => v = .int .i64 p ∧ Below W W w2) (f := 200) (args := #[.agg #[.bool nh, .slice D ys.length d], .agg #[.bool g1, .slice A1 ws.length c1]]) (w' := W) (by simp [go_sem, d1, d2, hfn]) ((KC.out W hI').mono fun e w2 ⟨he, hb⟩ => ⟨_, he, rfl, hb⟩) ?_;rintro v w2 ⟨rfl, hbw⟩;exact hK _ w2 x (hI'.trans (hbw.mono hI'.size)) (fun d hd => rfl) (fun j hj hc => by rcases j with _ | _ | _ | _ | _ | _ | _ | _ | _ | _ | _ | _ | _ | _ | _ | _ | j <;> first | rfl | exact absurd hc (by decide))
     ·cases ho;have d1 := hdep ⟨7, .data⟩;have d2 := hdep ⟨9, .data⟩;have d5 := hdep ⟨5, .guard⟩;clear hdep hrest;have hI' : Below w5 w5 W := hI;have hx' := HX5.out.upto hI';have hy' := HY5.out.upto hI';refine ⟨xX (j := 5) (want := true) (b := true) rfl rfl rfl d5, fun K Q hK => ?_⟩;refine zV (R := fun v w2 => (∃ n, NumR w2 w2 v n) ∧ Below W W w2) (f := 201) (args := #[.agg #[.bool ng, .slice A xs.length c], .agg #[.bool nh, .slice D ys.length d]]) (w' := W) (by simp [go_sem, d1, d2, hfn]) ((zBs ng nh A D c d xs ys W hx'.row hy'.row hx'.ok hy'.ok hy'.trim hx'.trim hxl hyl hx'.cap hy'.cap).mono fun e w2 ⟨n, v, he, hr, hb⟩ => ⟨v, he, ⟨n, hr⟩, hb⟩) ?_;rintro v w2 ⟨⟨n, g2, A2, us, c2, rfl, a1, a2, a3, a4, a5, a6, a7⟩, hbw⟩;have hu : Num4 w2 w2 g2 A2 us c2 := ⟨a1, a2, a3, a4, a5, a6⟩;exact hK _ w2 ((g2, A2, us.length, c2), x.2) ⟨hI'.trans (hbw.mono hI'.size), us, rfl, hu⟩ (fun d hd => rfl) (fun j hj hc => by rcases j with _ | _ | _ | _ | _ | _ | _ | _ | _ | _ | _ | _ | _ | _ | _ | _ | j <;> first | rfl | exact absurd hc (by decide))
     ·cases ho;have d1 := hdep ⟨10, .data⟩;have d2 := hdep ⟨11, .data⟩;have d5 := hdep ⟨5, .guard⟩;clear hdep hrest;obtain ⟨⟨g2, A2, l2, c2⟩, r2⟩ := x;obtain ⟨hI', us, rfl, hu⟩ : Below w5 w5 W ∧ ∃ us : List Int, us.length = l2 ∧ Num4 W W g2 A2 us c2 := hI;refine ⟨xX (j := 5) (want := true) (b := true) rfl rfl rfl d5, fun K Q hK => ?_⟩;refine zV (R := fun v w2 => v = .int .i64 (cmpZ g2 us g1 ws) ∧ Below W W w2) (f := 200) (args := #[.agg #[.bool g2, .slice A2 us.length c2], .agg #[.bool g1, .slice A1 ws.length c1]]) (w' := W) (by simp [go_sem, d1, d2, hfn]) ((bR g2 g1 A2 A1 us ws c2 c1 W hu (HO5.out.upto hI')).mono fun e w2 ⟨he, hb⟩ => ⟨_, he, rfl, hb⟩) ?_;rintro v w2 ⟨rfl, hbw⟩;exact hK _ w2 ((g2, A2, us.length, c2), cmpZ g2 us g1 ws) (hI'.trans (hbw.mono hI'.size)) (fun d hd => rfl) (fun j hj hc => by rcases j with _ | _ | _ | _ | _ | _ | _ | _ | _ | _ | _ | _ | _ | _ | _ | _ | j <;> first | rfl | exact absurd hc (by decide))
     ·exact absurd hk (by simp)
    rintro ⟨⟨g2, A2, l2, c2⟩, r2⟩ wx hI;have hI' : Below w5 w5 wx := hI;simp only [qH, Act.put, σi, σo, σs, Nat.reduceAdd];have HLF := η (HL5.out.trans (hI'.mono HL5.out.size));clear hI' HL5;go_wp2_with fail;go_ret;exact ⟨_, rfl, HLF.out⟩
   ·have hp' : decide (0 < p) = false := κf hp;refine zH (w0 := w5) [(1, .pointer (some ⟨w, 0, none⟩)), (3, .pointer (some ⟨b4, 0, none⟩)), (20, .pointer (some ⟨w, 2, none⟩)), (21, .agg #[.bool nh, .slice D ys.length d]), (22, .agg #[.bool g1, .slice A1 ws.length c1]), (23, .int .i64 p), (24, .bool false), (25, .bool false), (26, undef), (27, undef), (28, undef), (29, undef), (30, undef), (31, undef), (32, undef), (33, undef), (34, .bool false), (2, .bool false)] [] [1, 3] ?_ ?_
    ·intro T hT W hI;simp only [zA, and_true] at hT;have a0 := (HA5.out.up hI hz5).c 0 _ rfl;have a1 := (HA5.out.up hI hz5).c 1 _ rfl;have a2 := (HA5.out.up hI hz5).c 2 _ rfl;have a3 := (HA5.out.up hI hz5).c 3 _ rfl;have b0 := (HB5.out.up hI hz6).c 0 _ rfl;have b1 := (HB5.out.up hI hz6).c 1 _ rfl;have e0 : w < W.heap.size := νl hz5 hI.size;have e1 : b4 < W := νl hz6 hI.size
     repeat' first | exact AllO.nil | apply AllO.cons
     all_goals try ((first | refine oV ?_ | refine oN ?_ | refine oG (t := by simp only [hT]) (h := ?_)); simp [go_sem, EvT, hT, a0, a1, a2, a3, b0, b1, e0, e1, hp, hp', valT]; done)
     all_goals try (exact opT_s true (t := by simp only [hT]) (n := by decide) (e := by simp [valT, hT]))
     all_goals try (exact opT_s false (t := by simp only [hT]) (n := by decide) (e := by simp [valT, hT]))
     ·refine opT_r (zR 200 #[.agg #[.bool nh, .slice D ys.length d], .agg #[.bool g1, .slice A1 ws.length c1]] (by simp [go_sem, EvT, hT, a0, a1, a2, a3, b0, b1, e0, e1, hp, hp']) ?_);simp only [valT, hT];exact KC.out W hI
    intro wx hbx;simp (decide := true) only [putT, valT, look, Act.put, σi, σo, σs, Nat.reduceAdd, if_true, if_false];have HLF := βT HL5 hbx;clear hbx HL5;go_wp2_with fail;go_ret;exact ⟨_, rfl, HLF.out⟩
theorem iT {r : Bytes} (h : r.any (· == 47) = true) : ∃ p, p < r.length ∧ r.getD p 0 = 47 ∧ ∀ k, k < p → r.getD k 0 ≠ 47 := by
 induction r with
 | nil => cases h
 | cons x r ih =>
  by_cases hx : x = 47
  ·exact ⟨0, by simp, by simp [hx], fun k hk => by omega⟩
  ·have h2 : r.any (· == 47) = true := by
    rw [List.any_cons, βf hx, Bool.false_or] at h;exact h
   obtain ⟨p, h3, h4, h5⟩ := ih h2;refine ⟨p + 1, by simp; omega, by simpa using h4, fun k hk => ?_⟩;rcases k with _ | k
   ·simpa using hx
   ·simpa using h5 k (by omega)
theorem zBv (l : Bytes) (M N : Nat) (hM : l.length ≤ M) (hN : N = 10 ^ M) (h : ∀ x ∈ l, isDig x = true) : dval l < N := hN ▸ νl (uX l h) (Nat.pow_le_pow_right (by decide) hM)
theorem oS (l : Bytes) (M : Nat) (N : Int) (hN : N = 10 ^ M) (h : dval l < 10 ^ M) : ((dval l : Nat) : Int) < N := by subst hN; exact_mod_cast h
theorem bF (r : Bytes) : -(10 ^ 1000) < (pz r).2 ∧ (pz r).2 < 10 ^ 1000 := by
 have hp : (0 : Int) < 10 ^ 1000 := Int.pow_pos (by decide);unfold pz;split
 ·exact ⟨by show -(10 ^ 1000 : Int) < 0; omega, hp⟩
 ·rename_i h1
  split
  ·exact ⟨by show -(10 ^ 1000 : Int) < 0; omega, hp⟩
  ·rename_i h2
   have hd : isDec (magn r) = true := by
    cases h : isDec (magn r)
    ·rw [h] at h2; exact absurd rfl h2
    ·rfl
   have hlt : dval (magn r) < 10 ^ 1000 := by
    refine zBv _ 1000 _ (by omega) rfl fun x hx => ?_
    unfold isDec at hd;simp only [κb] at hd;exact List.all_eq_true.1 (by rcases hd with ⟨⟨_, h⟩, h'⟩; first | exact h | exact h') x hx
   have hlt2 : ((dval (magn r) : Nat) : Int) < 10 ^ 1000 := oS _ 1000 _ rfl hlt;show -(10 ^ 1000 : Int) < (if isNeg r then -(dval (magn r) : Int) else dval (magn r)) ∧ (if isNeg r then -(dval (magn r) : Int) else dval (magn r)) < 10 ^ 1000
   split <;> omega
theorem zCs (l : Bytes) (p : Nat) (w : World) (hk : p < l.length) (h47 : l.getD p 0 = 47) (hn : ∀ k, k < p → l.getD k 0 ≠ 47) (hl : l.length ≤ 1000000) : Calls Tryz.prog 161 #[.string (bstr l)] w fun e w' => e = .returned (.tuple #[.string (bstr (l.take p)), .string (bstr (l.drop (p + 1))), .bool true]) ∧ Below w w w' := by
 have hsz := zO l;have HN := η hn;clear hn;go_enter Tryz.func161, Tryz.ntmps161;go_wp2;go_step3;go_wp2;go_step3;go_wp2;go_loopg [2, 3, 4, 5, 9] p (fun g s2 s3 s4 s5 s9 wr => ∃ k : Nat, k + g = p ∧ s2 = .string (bstr l) ∧ s3 = .string (bstr []) ∧ s4 = .bool false ∧ s9 = .int .i64 (k : Int) ∧ Below w w wr)
 case atStart => exact ⟨0, by omega, rfl, rfl, rfl, rfl, Below.refl _ _⟩
 case round =>
  obtain ⟨k, hkg, rfl, rfl, rfl, rfl, hb⟩ := hrel;have HB := η hb;clear hb;cases gk with
  | zero =>
   obtain rfl : k = p := by omega
   clear hkg;have i1 : (k : Int) < (l.length : Int) := by omega
   have hix := qA l k hk;have he : (((l.getD k 0).toNat : Int) == 47) = true := by rw [h47]; rfl
   have h1 := fun W => zCi l k (by omega) W
   have h2 := fun W => aT l (k + 1) (by omega) W
   have i3 : IntKind.i64.wrap ((k : Int) + 1) = (k : Int) + 1 := IntWalk.i64_in _ (by omega);have h3 : ∀ W, (Instr.sliceAt 9 (.string (bstr l)) (some (.int .i64 ((k : Int) + 1))) none none).run Tryz.prog W = .ok (.string (bstr (l.drop (k + 1)))) W := h2;clear h2;generalize ((l.getD k 0).toNat : Int) = c at *;go_wp2_with fail;refine zH (w0 := wr) [(0, .string (bstr l)), (5, .int .i64 (k : Int)), (17, .string (bstr l)), (18, .int .i64 (k : Int)), (19, .string (bstr (l.take k))), (20, .string (bstr l)), (21, .int .i64 (k : Int)), (22, .int .i64 ((k : Int) + 1)), (23, .string (bstr (l.drop (k + 1)))), (2, .string (bstr (l.take k))), (3, .string (bstr (l.drop (k + 1)))), (4, .bool true)] [] [0, 5] ?_ ?_
   ·intro T hT W hI;simp only [zA, and_true] at hT
    repeat' first | exact AllO.nil | apply AllO.cons
    all_goals try ((first | refine oV ?_ | refine oN ?_ | refine oG (t := by simp only [hT]) (h := ?_)); simp [go_sem, EvT, hT, h1, h3, i3, valT]; done)
   intro wx hbx;simp (decide := true) only [putT, valT, look, Act.put, σi, σo, σs, Nat.reduceAdd, if_true, if_false];have HBX := βT HB hbx;clear hbx HB;go_wp2_with fail
   try rw [κx]
   go_ret3;exact ⟨rfl, HBX.out⟩
  | succ g =>
   have hk' : k < l.length := by omega
   have i1 : (k : Int) < (l.length : Int) := by omega
   have HG := η hkg;have hix := qA l k hk';have hne : (((l.getD k 0).toNat : Int) == 47) = false := (u8_eq _ 47).trans (βf (HN.out k (by omega)));clear hkg;generalize ((l.getD k 0).toNat : Int) = c at *;generalize bstr l = s at *;generalize bstr (l.take p) = s1 at *;generalize bstr (l.drop (p + 1)) = s2 at *;go_wp2_with fail;go_roundg g
   case measure => omega
   case rel => exact ⟨k + 1, by have := HG.out; omega, rfl, rfl, rfl, by go_num, HB.out⟩
theorem zBt : bU := by
 intro r w hl h47;obtain ⟨p, hp, hp47, hpn⟩ := iT h47;have K1 := η fun W => zCs r p W hp hp47 hpn (by omega)
 have KP := η fun (s : Bytes) W (hs : s.length ≤ 65536) => mK s W (by omega)
 have hl1 : (r.take p).length ≤ 65536 := by rw [κk]; omega
 have hl2 : (r.drop (p + 1)).length ≤ 65536 := by rw [List.length_drop]; omega
 have KPa := η fun W => KP.out (r.take p) W hl1
 have KPb := η fun W => KP.out (r.drop (p + 1)) W hl2
 have HPA := η (bF (r.take p));have HPB := η (bF (r.drop (p + 1)));have HEA := η (rW (r.take p));have HEB := η (rW (r.drop (p + 1)));clear hl1 hl2 KP hp hp47 hpn h47;generalize pz (r.take p) = pa at *;generalize pz (r.drop (p + 1)) = pb at *;obtain ⟨ea, na⟩ := pa;obtain ⟨eb, nb⟩ := pb;generalize bstr (r.take p) = sa at *;generalize bstr (r.drop (p + 1)) = sb at *;generalize bstr r = s at *;have HQ : Hid (Box (w.alloc (.cells #[.bool false, .slice none 0 0, .bool false, .slice none 0 0] 85)) w [.bool false, .slice none 0 0, .bool false, .slice none 0 0]) := Box.new w #[.bool false, .slice none 0 0, .bool false, .slice none 0 0] 85;have HB : Hid (Below w w (w.alloc (.cells #[.bool false, .slice none 0 0, .bool false, .slice none 0 0] 85))) := βA _;have hz : w < (w.alloc (.cells #[.bool false, .slice none 0 0, .bool false, .slice none 0 0] 85)).heap.size := by simp
 go_enter Tryz.func97, Tryz.ntmps97;go_upto_region 1 with fail
 generalize (w.alloc (.cells #[.bool false, .slice none 0 0, .bool false, .slice none 0 0] 85)) = w0 at *;go_wp2_with fail;refine (K1.out _).mono ?_;rintro e w1 ⟨rfl, hb1⟩;have HQ1 := η (HQ.out.up hb1 hz);have HB1 := βT HB hb1;have hz1 : w < w1.heap.size := νl hz hb1.size;clear hb1 K1 HQ HB hz;go_wp2_with fail;refine (KPa.out _).mono ?_;rintro e w2 ⟨v, rfl, hv, hb2⟩;obtain ⟨g1, A1, y1, c1, rfl, h1, hl1⟩ := nR hv HPA.out.1 HPA.out.2;have hb2a : Below w1 w1 (w2.alloc (.cells #[.bool g1, .slice A1 y1.length c1] 83)) := hb2.alloc hb2.size _;have HQ2 := η (HQ1.out.up hb2a hz1);have HX2 : Hid (Box (w2.alloc (.cells #[.bool g1, .slice A1 y1.length c1] 83)) w2 [.bool g1, .slice A1 y1.length c1]) := Box.new w2 #[.bool g1, .slice A1 y1.length c1] 83;have HN2 := η (h1.upto (βA (.cells #[.bool g1, .slice A1 y1.length c1] 83)));have HB2 := βT HB1 hb2a;have hz2 : w < (w2.alloc (.cells #[.bool g1, .slice A1 y1.length c1] 83)).heap.size := νl hz1 hb2a.size;have hx2 : w2 < (w2.alloc (.cells #[.bool g1, .slice A1 y1.length c1] 83)).heap.size := by simp
 have hlt2 : w < w2.heap.size := νl hz1 hb2.size;clear hb2 hb2a hv h1 KPa HQ1 HB1 hz1 HPA;go_upto_region 5 with fail
 generalize (w2.alloc (.cells #[.bool g1, .slice A1 y1.length c1] 83)) = w3 at *;generalize w2.heap.size = b2 at *;go_wp2_with fail;refine (KPb.out _).mono ?_;rintro e w4 ⟨v, rfl, hv, hb4⟩;have HVN : Hid (NumR w4 w4 v nb) := hv;obtain ⟨g2, A2, y2, c2, hve, h2, hl2⟩ := nR hv HPB.out.1 HPB.out.2;subst hve;have hb4a : Below w3 w3 (w4.alloc (.cells #[.bool g2, .slice A2 y2.length c2] 83)) := hb4.alloc hb4.size _;have hn4 : Below w4 w4 (w4.alloc (.cells #[.bool g2, .slice A2 y2.length c2] 83)) := βA _;have HQ4 := η (HQ2.out.up hb4a hz2);have HX4 := η (HX2.out.up hb4a hx2);have HY4 : Hid (Box (w4.alloc (.cells #[.bool g2, .slice A2 y2.length c2] 83)) w4 [.bool g2, .slice A2 y2.length c2]) := Box.new w4 #[.bool g2, .slice A2 y2.length c2] 83;have HN4 := η (HN2.out.upto hb4a);have HM4 := η (h2.upto hn4);have HV4 := η (HVN.out.upto hn4);have HB4 := βT HB2 hb4a;have hz4 : w < (w4.alloc (.cells #[.bool g2, .slice A2 y2.length c2] 83)).heap.size := νl hz2 hb4a.size;have hx4 : b2 < (w4.alloc (.cells #[.bool g2, .slice A2 y2.length c2] 83)).heap.size := νl hx2 hb4a.size;have hy4 : w4 < (w4.alloc (.cells #[.bool g2, .slice A2 y2.length c2] 83)).heap.size := by simp
 have hlt4 : w < w4.heap.size := νl hz2 hb4.size;clear hb4 hb4a hn4 hv h2 KPb HQ2 HX2 HN2 HB2 HVN hz2 hx2 HPB;go_upto_region 6 with fail
 generalize (w4.alloc (.cells #[.bool g2, .slice A2 y2.length c2] 83)) = w5 at *;generalize w4.heap.size = b4 at *;have hea := HEA.out;have heb := HEB.out;clear HEA HEB;by_cases hc1 : ea = 5
 ·subst hc1;obtain ⟨q0, s0, q1, s1, q2, s2, q3, s3⟩ := sqX4 HQ4.out;have HBF := η (zD (b := w) HB4.out (νr _) [.bool false, .slice none 0 0, .bool false, .slice none 0 0] 0);go_wp2_with fail;refine κr (v := .tuple #[.agg #[.bool false, .slice none 0 0, .bool false, .slice none 0 0], .int .i64 5]) (by simp [results, Tryz.results97, go_sem, hz4, q0, q1, q2, q3]) rfl ⟨_, _, _, _, _, _, _, _, 5, rfl, HBF.out, .inl ⟨by decide, by decide⟩⟩
 by_cases hc2 : eb = 5
 ·subst hc2;have z1 : (ea == 5) = false := βf hc1;obtain ⟨q0, s0, q1, s1, q2, s2, q3, s3⟩ := sqX4 HQ4.out;have HBF := η (zD (b := w) HB4.out (νr _) [.bool false, .slice none 0 0, .bool false, .slice none 0 0] 0);go_wp2_with fail;refine κr (v := .tuple #[.agg #[.bool false, .slice none 0 0, .bool false, .slice none 0 0], .int .i64 5]) (by simp [results, Tryz.results97, go_sem, hz4, q0, q1, q2, q3]) rfl ⟨_, _, _, _, _, _, _, _, 5, rfl, HBF.out, .inl ⟨by decide, by decide⟩⟩
 have z1 : (ea == 5) = false := βf hc1;have z2 : (eb == 5) = false := βf hc2;obtain ⟨q0, s0, q1, s1⟩ := sqX2 HX4.out;obtain ⟨u0, v0, u1, v1⟩ := sqX2 HY4.out;have hb6 : Below w5 w5 (w5.alloc (.cells #[.bool g1, .slice A1 y1.length c1, .bool g2, .slice A2 y2.length c2] 85)) := βA _;have HQ6 := η (HQ4.out.up hb6 hz4);have HY6 := η (HY4.out.up hb6 hy4);have HZ6 : Hid (Box (w5.alloc (.cells #[.bool g1, .slice A1 y1.length c1, .bool g2, .slice A2 y2.length c2] 85)) w5 [.bool g1, .slice A1 y1.length c1, .bool g2, .slice A2 y2.length c2]) := Box.new w5 #[.bool g1, .slice A1 y1.length c1, .bool g2, .slice A2 y2.length c2] 85;have HN6 := η (HN4.out.upto hb6);have HM6 := η (HM4.out.upto hb6);have HV6 := η (HV4.out.upto hb6);have HB6 := βT HB4 hb6;have hz6 : w < (w5.alloc (.cells #[.bool g1, .slice A1 y1.length c1, .bool g2, .slice A2 y2.length c2] 85)).heap.size := νl hz4 hb6.size;have hy6 : b4 < (w5.alloc (.cells #[.bool g1, .slice A1 y1.length c1, .bool g2, .slice A2 y2.length c2] 85)).heap.size := νl hy4 hb6.size;have hw6 : w5 < (w5.alloc (.cells #[.bool g1, .slice A1 y1.length c1, .bool g2, .slice A2 y2.length c2] 85)).heap.size := by simp
 have hlt6 : w < w5.heap.size := hz4;go_upto_region 9 with fail
 clear hb6 HQ4 HX4 HY4 HN4 HM4 HV4 HB4 hz4 hx4 hy4 q0 q1 s0 s1 u0 u1 v0 v1 z1 z2;generalize (w5.alloc (.cells #[.bool g1, .slice A1 y1.length c1, .bool g2, .slice A2 y2.length c2] 85)) = w6 at *;generalize w5.heap.size = b5 at *;by_cases hd1 : ea = 0
 ·subst hd1;by_cases hd2 : eb = 0
  ·subst hd2;have KS := η (gC _ nb w6 HV6.out);obtain ⟨u0, v0, u1, v1⟩ := sqX2 HY6.out;obtain ⟨sg, hsg⟩ : ∃ sg, sgn nb = sg := ⟨_, rfl⟩;rw [hsg] at KS;go_wp2_with fail;refine KS.out.mono ?_;rintro e w7 ⟨rfl, hb7⟩;have HQ7 := η (HQ6.out.up hb7 hz6);have HZ7 := η (HZ6.out.up hb7 hw6);have HN7 := η (HN6.out.upto hb7);have HM7 := η (HM6.out.upto hb7);have HV7 := η (HV6.out.upto hb7);have HB7 := βT HB6 hb7;have hz7 : w < w7.heap.size := νl hz6 hb7.size;have hw7 : b5 < w7 := νl hw6 hb7.size;clear hb7 HQ6 HZ6 HN6 HM6 HV6 HB6 HY6 KS hz6 hw6 hy6 u0 u1 v0 v1;by_cases hs0 : sg = 0
   ·have e1 : (sg == 0) = true := by rw [hs0]; rfl
    obtain ⟨q0, s0, q1, s1, q2, s2, q3, s3⟩ := sqX4 HQ7.out;have HBF := η (zD (b := w) HB7.out (νr _) [.bool false, .slice none 0 0, .bool false, .slice none 0 0] 0);go_wp2_with fail;refine κr (v := .tuple #[.agg #[.bool false, .slice none 0 0, .bool false, .slice none 0 0], .int .i64 3]) (by simp [results, Tryz.results97, go_sem, hz7, q0, q1, q2, q3]) rfl ⟨_, _, _, _, _, _, _, _, 3, rfl, HBF.out, .inl ⟨by decide, by decide⟩⟩
   have e1 : (sg == 0) = false := βf hs0;have HNB : Hid (nb ≠ 0) := fun h => hs0 (by rw [← hsg, h]; rfl)
   clear hsg;have KI := η (oQ g1 g2 A1 A2 y1 y2 c1 c2 w7 HN7.out HM7.out hl1 hl2);obtain ⟨u0, v0, u1, v1, u2, v2, u3, v3⟩ := sqX4 HZ7.out;go_wp2_with fail;refine KI.out.mono ?_;rintro e w8 ⟨b, rfl, hb8⟩;have HQ8 := η (HQ7.out.up hb8 hz7);have HZ8 := η (HZ7.out.up hb8 hw7);have HN8 := η (HN7.out.upto hb8);have HV8 := η (HV7.out.upto hb8);have HB8 := βT HB7 hb8;have hz8 : w < w8.heap.size := νl hz7 hb8.size;have hw8 : b5 < w8 := νl hw7 hb8.size;clear hb8 HQ7 HZ7 HN7 HM7 HV7 HB7 KI hz7 hw7 u0 u1 u2 u3 v0 v1 v2 v3;cases b with
   | false =>
    obtain ⟨q0, s0, q1, s1, q2, s2, q3, s3⟩ := sqX4 HQ8.out;have HBF := η (zD (b := w) HB8.out (νr _) [.bool false, .slice none 0 0, .bool false, .slice none 0 0] 0);go_wp2_with fail;refine κr (v := .tuple #[.agg #[.bool false, .slice none 0 0, .bool false, .slice none 0 0], .int .i64 3]) (by simp [results, Tryz.results97, go_sem, hz8, q0, q1, q2, q3]) rfl ⟨_, _, _, _, _, _, _, _, 3, rfl, HBF.out, .inl ⟨by decide, by decide⟩⟩
   | true =>
    obtain ⟨u0, v0, u1, v1, u2, v2, u3, v3⟩ := sqX4 HZ8.out;obtain ⟨q0, s0, q1, s1, q2, s2, q3, s3⟩ := sqX4 HQ8.out;have HBF := η (zD (b := w) HB8.out (νr _) [.bool g1, .slice A1 y1.length c1, .bool g2, .slice A2 y2.length c2] 0);have HNF := η (HN8.out.num.sets HQ8.out (by simp) (vs' := [.bool g1, .slice A1 y1.length c1, .bool g2, .slice A2 y2.length c2]) (by simp));have HVF := η (HV8.out.sets HQ8.out (by simp) (vs' := [.bool g1, .slice A1 y1.length c1, .bool g2, .slice A2 y2.length c2]) (by simp));go_wp2_with fail;refine κr (v := .tuple #[.agg #[.bool g1, .slice A1 y1.length c1, .bool g2, .slice A2 y2.length c2], .int .i64 0]) (by simp [results, Tryz.results97, go_sem, hz8, q0, q1, q2, q3]) rfl ⟨_, _, _, _, _, _, _, _, 0, rfl, HBF.out, .inr ⟨rfl, _, nb, (show NumR _ _ _ _ from HNF.out).more ?_, (show NumR _ _ _ _ from HVF.out).more ?_, HNB.out⟩⟩
    all_goals (simp [zN])
  have e1 : (eb == 0) = false := βf hd2;have e2 : (eb != 0) = true := βt hd2;obtain ⟨q0, s0, q1, s1, q2, s2, q3, s3⟩ := sqX4 HQ6.out;have HBF := η (zD (b := w) HB6.out (νr _) [.bool false, .slice none 0 0, .bool false, .slice none 0 0] 0);go_wp2_with fail;refine κr (v := .tuple #[.agg #[.bool false, .slice none 0 0, .bool false, .slice none 0 0], .int .i64 3]) (by simp [results, Tryz.results97, go_sem, hz6, q0, q1, q2, q3]) rfl ⟨_, _, _, _, _, _, _, _, 3, rfl, HBF.out, .inl ⟨by decide, by decide⟩⟩
 have e1 : (ea == 0) = false := βf hd1;have e2 : (ea != 0) = true := βt hd1;obtain ⟨q0, s0, q1, s1, q2, s2, q3, s3⟩ := sqX4 HQ6.out;have HBF := η (zD (b := w) HB6.out (νr _) [.bool false, .slice none 0 0, .bool false, .slice none 0 0] 0);go_wp2_with fail;refine κr (v := .tuple #[.agg #[.bool false, .slice none 0 0, .bool false, .slice none 0 0], .int .i64 3]) (by simp [results, Tryz.results97, go_sem, hz6, q0, q1, q2, q3]) rfl ⟨_, _, _, _, _, _, _, _, 3, rfl, HBF.out, .inl ⟨by decide, by decide⟩⟩
end Go.Proofs.YtkfhpefmmhljmaaGreatDoor
