/- Texts in one: KnA, KnB. -/
import Derived.Test.YtkfhpefmmhljmaaGreatDoorR11
set_option linter.unusedVariables false
set_option linter.unusedSimpArgs false
set_option maxHeartbeats 16000000
set_option maxRecDepth 100000
namespace Go.Proofs.YtkfhpefmmhljmaaGreatDoor
theorem Words.app {a b : List Int} (ha : Words a) (hb : Words b) : Words (a ++ b) := fun x hx => (List.mem_append.1 hx).elim (ha x) (hb x)
theorem Words.take {a : List Int} (ha : Words a) (n : Nat) : Words (a.take n) := fun x hx => ha x (List.mem_of_mem_take hx)
theorem Words.drop {a : List Int} (ha : Words a) (n : Nat) : Words (a.drop n) := fun x hx => ha x (List.mem_of_mem_drop hx)
theorem Words.getD {a : List Int} (ha : Words a) (i : Nat) : 0 ≤ a.getD i 0 ∧ a.getD i 0 < 4294967296 := by
 rw [κd];rcases Nat.lt_or_ge i a.length with h | h
 ·rw [κg h]; exact ha _ (List.getElem_mem h)
 ·rw [List.getElem?_eq_none h]; exact ⟨Int.le_refl _, by decide⟩
theorem bp (n : Nat) : (0:Int) < 4294967296 ^ n := Int.pow_pos (by decide)
theorem wv_lt {l : List Int} (h : Words l) : wv l < 4294967296 ^ l.length := by
 induction l with
 | nil => decide
 | cons x l ih =>
  have h1 := h x (by simp);have h2 := ih h.tail;rw [κc, Int.pow_succ, wv];omega
theorem aS {l : List Int} {i : Nat} (h : i < l.length) : l.take (i + 1) = l.take i ++ [l.getD i 0] := by
 rw [κs h, κd, κg h]; rfl
theorem xG {l : List Int} {i : Nat} (h : i < l.length) : wv (l.take (i + 1)) = wv (l.take i) + 4294967296 ^ i * l.getD i 0 := by
 rw [aS h, jD, κk, Nat.min_eq_left (by omega)];simp [wv]
theorem kn_a {g f r top s u0 P V U vl ul : Int} (hP : 0 < P) (hV : V = (f*4294967296+s)*P + vl) (hU : U = (top*4294967296+u0)*P + ul) (hvl : 0 ≤ vl) (hul : ul < P) (hg : 0 ≤ g) (e : g*f + r = top) (h : r*4294967296+u0 < g*s) : U < g*V := by
 have h1 : (r*4294967296+u0+1)*P ≤ (g*s)*P := Int.mul_le_mul_of_nonneg_right (by omega) (by omega);have h2 : 0 ≤ g * vl := Int.mul_nonneg hg hvl;subst e hV hU;have e1 : g*((f*4294967296+s)*P + vl) = g*f*P*4294967296 + g*s*P + g*vl := by grind
 have e2 : ((g*f+r)*4294967296+u0)*P = (g*f*P+r*P)*4294967296 + u0*P := by grind
 have e3 : (r*4294967296+u0+1)*P = r*P*4294967296 + u0*P + P := by grind
 omega
theorem kn_b {g V' U' P V U vl ul : Int} (hP : 0 < P) (hV : V = V'*P + vl) (hU : U = U'*P + ul) (hvl : 0 ≤ vl) (hvP : vl < P) (hul : 0 ≤ ul) (hU0 : 0 ≤ U) (hg : 0 ≤ g) (hV' : 0 ≤ V') (hg2 : g ≤ V' + 1) (h : g*V' ≤ U') : (g-1)*V ≤ U := by
 rcases Int.lt_or_le 0 g with h0 | h0
 ·have h1 : (g*V')*P ≤ U'*P := Int.mul_le_mul_of_nonneg_right h (by omega);have h2 : (g-1)*vl ≤ (g-1)*P := Int.mul_le_mul_of_nonneg_left (by omega) (by omega);have h3 : 0 ≤ (V'+1-g)*P := Int.mul_nonneg (by omega) (by omega);subst hV hU;have e1 : (g-1)*(V'*P+vl) = g*V'*P - V'*P + (g-1)*vl := by grind
  have e2 : (V'+1-g)*P = V'*P + P - g*P := by grind
  have e3 : (g-1)*P = g*P - P := by grind
  omega
 ·have : g = 0 := by omega
  subst this;have : 0 ≤ V'*P := Int.mul_nonneg hV' (by omega);omega
structure Win (U V f s top u0 : Int) : Prop where
 f0 : 2147483648 ≤ f
 f1 : f < 4294967296
 s0 : 0 ≤ s
 s1 : s < 4294967296
 t0 : 0 ≤ top
 t1 : top < 4294967296 * f + 4294967296
 v0 : 0 ≤ u0
 v1 : u0 < 4294967296
 lt : U < V * 4294967296
 nn : 0 ≤ U
 ex : ∃ P vl ul : Int, 0 < P ∧ V = (f*4294967296+s)*P + vl ∧ U = (top*4294967296+u0)*P + ul ∧ 0 ≤ vl ∧ vl < P ∧ 0 ≤ ul ∧ ul < P
def EstOk (U V g : Int) : Prop := 0 ≤ g ∧ g ≤ 4294967296 ∧ U < (g+1)*V ∧ (g-1)*V ≤ U
structure EstI (U V f top g r : Int) : Prop where
 e : g*f + r = top
 r0 : 0 ≤ r
 g0 : 0 ≤ g
 g1 : g ≤ 4294967297
 lt : U < (g+1)*V
section
variable {U V f s top u0 g r : Int}
theorem Win.init (h : Win U V f s top u0) : EstI U V f top (top / f) (top % f) ∧ top % f < f := by
 have hf : 0 < f := by have := h.f0; omega
 have h1 : top / f * f + top % f = top := by rw [Int.mul_comm]; exact Int.mul_ediv_add_emod top f
 have h2 : 0 ≤ top % f := Int.emod_nonneg _ (by omega);have h3 : top % f < f := Int.emod_lt_of_pos _ hf;have h4 : 0 ≤ top / f := Int.ediv_nonneg h.t0 (by omega);refine ⟨⟨h1, h2, h4, ?_, ?_⟩, h3⟩
 ·have : top / f < 4294967298 := by
   apply Int.ediv_lt_of_lt_mul hf;have := h.t1; have := h.f0;omega
  omega
 ·obtain ⟨P, vl, ul, hP, hV, hU, a, b, c, d⟩ := h.ex;generalize top / f = g at *;generalize top % f = r at *;have k1 : 0 ≤ (g+1)*vl := Int.mul_nonneg (by omega) a;have k2 : (top + 1) * P ≤ ((g+1)*f) * P := Int.mul_le_mul_of_nonneg_right (by rw [Int.add_mul, Int.one_mul]; omega) (by omega);have k3 : 0 ≤ (g+1)*s*P := Int.mul_nonneg (Int.mul_nonneg (by omega) h.s0) (by omega);have k4 : (u0+1)*P ≤ 4294967296 * P := Int.mul_le_mul_of_nonneg_right (by have := h.v1; omega) (by omega);subst hV hU;have e1 : (g+1)*((f*4294967296+s)*P + vl) = 4294967296*((g+1)*f*P) + (g+1)*s*P + (g+1)*vl := by grind
  have e2 : (top*4294967296+u0)*P = 4294967296*((top+1)*P) + (u0+1)*P - P - 4294967296*P := by grind
  omega
theorem Win.more (h : Win U V f s top u0) (k : EstI U V f top g r) (ht : 4294967296 ≤ g ∨ r*4294967296+u0 < g*s) : EstI U V f top (g-1) (r+f) ∧ g - 1 ≤ 4294967296 ∧ 1 ≤ g := by
 obtain ⟨P, vl, ul, hP, hV, hU, a, b, c, d⟩ := h.ex;have hV0 : 0 ≤ V := by
  have := h.lt; have := h.nn; omega
 have k1 : U < g * V := by
  rcases ht with ht | ht
  ·have : 4294967296 * V ≤ g * V := Int.mul_le_mul_of_nonneg_right ht hV0;have := h.lt;omega
  ·exact kn_a hP hV hU a d k.g0 k.e ht
 have k2 : 1 ≤ g := by
  rcases Int.lt_or_le 0 g with h0 | h0
  ·omega
  ·exfalso;have : g = 0 := by have := k.g0; omega
   subst this;have := h.nn;omega
 refine ⟨⟨?_, ?_, by omega, by have := k.g1; omega, ?_⟩, by have := k.g1; omega, k2⟩
 ·have := k.e; grind
 ·have := k.r0; have := h.f0; omega
 ·rw [show g - 1 + 1 = g by omega]; exact k1
theorem Win.stop (h : Win U V f s top u0) (k : EstI U V f top g r) (hg : g ≤ 4294967296) (ht : g*s ≤ r*4294967296+u0) : EstOk U V g := by
 obtain ⟨P, vl, ul, hP, hV, hU, a, b, c, d⟩ := h.ex;refine ⟨k.g0, hg, k.lt, kn_b hP hV hU a b c h.nn k.g0 (by have := h.f0; have := h.s0; omega) (by have := h.f0; have := h.s0; omega) ?_⟩;have := k.e;subst this;have e : g * (f * 4294967296 + s) = g*f*4294967296 + g*s := by grind
 omega
theorem Win.over (h : Win U V f s top u0) (k : EstI U V f top g r) (hg : g ≤ 4294967296) (hr : 4294967296 ≤ r) : EstOk U V g := by
 refine h.stop k hg ?_;have h1 : g * s ≤ 4294967296 * s := Int.mul_le_mul_of_nonneg_right hg h.s0;have := h.s1; have := h.v0;omega
end
theorem zBo {U V g W1 W2 b c D : Int} (hk : EstOk U V g) (h0 : 0 ≤ W1) (h1 : W1 < D) (hD : V ≤ D) (hU : 0 ≤ U) (e1 : W1 + g * V = U + D * b) (hb : b = 0 ∨ b = 1) :
  (b = 0 → W1 < V) ∧ (b = 1 → W2 + D * c = W1 + V → 0 ≤ W2 → W2 < D → 0 ≤ c → c ≤ 1 → W2 < V) := by
 obtain ⟨g0, g1, a1, a2⟩ := hk;have e2 : (g+1)*V = g*V + V := by grind
 have e3 : (g-1)*V = g*V - V := by grind
 refine ⟨fun h => ?_, fun h e4 w0 w1 c0 c1 => ?_⟩
 ·subst h; omega
 ·subst h;rcases (by omega : c = 0 ∨ c = 1) with rfl | rfl <;> omega
structure SubI (us vs : List Int) (g : Int) (i : Nat) (ys : List Int) (c b : Int) : Prop where
 len : ys.length = i
 ok : Words ys
 c0 : 0 ≤ c
 c1 : c < 4294967296
 b01 : b = 0 ∨ b = 1
 e : wv ys + g * wv (vs.take i) = wv (us.take i) + 4294967296 ^ i * (c + b)
 z : vs.length < i → c = 0
theorem SubI.zero (us vs : List Int) (g : Int) : SubI us vs g 0 [] 0 0 := ⟨rfl, (fun _ h => by cases h), by decide, by decide, .inl rfl, by simp [wv], fun h => by omega⟩
theorem qT (l : List Int) (i : Nat) : wv (l.take (i + 1)) = wv (l.take i) + 4294967296 ^ i * l.getD i 0 := by
 rcases Nat.lt_or_ge i l.length with h | h
 ·exact xG h
 ·rw [κy (by omega), κy h, κd, List.getElem?_eq_none h]; simp
theorem gW {y g c : Int} (hy : 0 ≤ y ∧ y < 4294967296) (hg : 0 ≤ g ∧ g ≤ 4294967296) (hc : 0 ≤ c ∧ c < 4294967296) : 0 ≤ y * g ∧ y * g + c < 18446744073709551616 ∧ 0 ≤ (y * g + c) / 4294967296 ∧ (y * g + c) / 4294967296 < 4294967296 := by
 have h1 : 0 ≤ y * g := Int.mul_nonneg hy.1 hg.1;have h2 : y * g ≤ 4294967295 * 4294967296 := Int.mul_le_mul (by omega) (by omega) hg.1 (by omega);omega
theorem SubI.step {us vs : List Int} {g : Int} {i : Nat} {ys : List Int} {c b : Int} (h : SubI us vs g i ys c b) (hu : Words us) (hv : Words vs) (hg : 0 ≤ g ∧ g ≤ 4294967296) (x y t : Int) (hx : us.getD i 0 = x) (hy : vs.getD i 0 = y) (ht : (y * g + c) % 4294967296 = t) :
  SubI us vs g (i + 1) (ys ++ [(x - t - b) % 4294967296]) ((y * g + c) / 4294967296) (if x - t - b < 0 then 1 else 0) := by
 have hxx := hu.getD i;have hyy := hv.getD i;rw [hx] at hxx;rw [hy] at hyy;obtain ⟨m0, m1, m2, m3⟩ := gW hyy hg ⟨h.c0, h.c1⟩;have hb : 0 ≤ b ∧ b ≤ 1 := by rcases h.b01 with rfl | rfl <;> decide
 refine ⟨by simp [h.len], h.ok.app (fun z hz => ?_), m2, m3, by split <;> simp, ?_, fun hi => ?_⟩
 ·simp at hz; subst hz; omega
 ·rw [jD, qT, qT, hx, hy, h.len, Int.pow_succ];have e0 := h.e;have e1 : (x - t - b) % 4294967296 = x - t - b + 4294967296 * (if x - t - b < 0 then 1 else 0) := by split <;> omega
  have e2 : y * g + c = t + 4294967296 * ((y * g + c) / 4294967296) := by omega
  rw [e1];simp only [wv];generalize (y * g + c) / 4294967296 = c' at *;generalize (if x - t - b < 0 then (1:Int) else 0) = b' at *;generalize (4294967296:Int) ^ i = P at *;generalize wv ys = a1 at *;generalize wv (vs.take i) = a2 at *;generalize wv (us.take i) = a3 at *;have e3 : g * (a2 + P * y) = g * a2 + P * (y * g) := by grind
  have e4 : P * (y * g) + P * c = P * t + P * 4294967296 * c' := by
   have : P * (y*g + c) = P * (t + 4294967296 * c') := by rw [← e2]
   grind
  grind
 ·rcases Nat.lt_or_ge vs.length i with hi' | hi'
  ·have := h.z hi';subst this;have : y = 0 := by rw [← hy, κd, List.getElem?_eq_none (by omega)]; rfl
   subst this;simp
  ·have : y = 0 := by rw [← hy, κd, List.getElem?_eq_none (by omega)]; rfl
   subst this;have := h.c0; have := h.c1;omega
theorem SubI.fin {us vs ys : List Int} {g c b : Int} (h : SubI us vs g us.length ys c b) (hl : us.length = vs.length + 1) : wv ys + g * wv vs = wv us + 4294967296 ^ us.length * b ∧ ys.length = us.length := by
 have e := h.e;rw [κy (by omega), κy (by omega), h.z (by omega), Int.zero_add] at e;exact ⟨e, h.len⟩
structure AddI (us vs : List Int) (i : Nat) (ys : List Int) (c : Int) : Prop where
 len : ys.length = i
 ok : Words ys
 c0 : 0 ≤ c
 c1 : c ≤ 1
 e : wv ys + 4294967296 ^ i * c = wv (us.take i) + wv (vs.take i)
theorem AddI.zero (us vs : List Int) : AddI us vs 0 [] 0 := ⟨rfl, (fun _ h => by cases h), by decide, by decide, by simp [wv]⟩
theorem AddI.step {us vs : List Int} {i : Nat} {ys : List Int} {c : Int} (h : AddI us vs i ys c) (hu : Words us) (hv : Words vs) (x y : Int) (hx : us.getD i 0 = x) (hy : vs.getD i 0 = y) :
  AddI us vs (i + 1) (ys ++ [(x + y + c) % 4294967296]) ((x + y + c) / 4294967296) := by
 have hxx := hu.getD i;have hyy := hv.getD i;rw [hx] at hxx;rw [hy] at hyy;have := h.c0; have := h.c1;refine ⟨by simp [h.len], h.ok.app (fun z hz => ?_), by omega, by omega, ?_⟩
 ·simp at hz; subst hz; omega
 ·rw [jD, qT, qT, hx, hy, h.len, Int.pow_succ];have e0 := h.e;simp only [wv];have e2 : x + y + c = (x + y + c) % 4294967296 + 4294967296 * ((x + y + c) / 4294967296) := by omega
  generalize (x + y + c) / 4294967296 = c' at *;generalize (x + y + c) % 4294967296 = t at *;generalize (4294967296:Int) ^ i = P at *;have e4 : P * x + P * y + P * c = P * t + P * 4294967296 * c' := by
   have : P * (x + y + c) = P * (t + 4294967296 * c') := by rw [← e2]
   grind
  grind
theorem AddI.fin {us vs ys : List Int} {c : Int} (h : AddI us vs us.length ys c) (hl : us.length = vs.length + 1) : wv ys + 4294967296 ^ us.length * c = wv us + wv vs := by
 have e := h.e;rwa [κy (by omega), κy (by omega)] at e
def shrL (d : Int) : List Int → List Int
 | x :: y :: l => ((x + 4294967296 * y) / d % 4294967296) :: shrL d (y :: l)
 | _ => []
theorem bD (d : Int) : ∀ l : List Int, (shrL d l).length = l.length - 1
 | [] => rfl
 | [_] => rfl
 | x :: y :: l => by rw [shrL, κc, bD d (y :: l)]; rfl
theorem fY (d : Int) : ∀ l : List Int, Words (shrL d l)
 | [] => fun _ h => by cases h
 | [_] => fun _ h => by cases h
 | x :: y :: l => fun z hz => by
  rw [shrL, List.mem_cons] at hz;rcases hz with rfl | hz
  ·omega
  ·exact fY d (y :: l) z hz
theorem sN (Z : Int) {P : Int} (hP : 0 < P) : Z % (P * 4294967296) = Z % 4294967296 + 4294967296 * (Z / 4294967296 % P) := by
 have h1 : Z = 4294967296 * (Z / 4294967296) + Z % 4294967296 := (Int.mul_ediv_add_emod Z 4294967296).symm;have h2 : Z / 4294967296 = P * (Z / 4294967296 / P) + Z / 4294967296 % P := (Int.mul_ediv_add_emod _ P).symm;have h3 := Int.emod_nonneg (Z / 4294967296) (Int.ne_of_gt hP);have h4 := Int.emod_lt_of_pos (Z / 4294967296) hP;have h5 : 0 ≤ Z % 4294967296 ∧ Z % 4294967296 < 4294967296 := by omega
 generalize Z / 4294967296 % P = m at *;generalize Z / 4294967296 / P = w at *;generalize Z / 4294967296 = q at *;generalize Z % 4294967296 = r at *;subst h2 h1;rw [show 4294967296 * (P * w + m) + r = (4294967296 * m + r) + P * 4294967296 * w by grind, Int.add_mul_emod_self_left, Int.emod_eq_of_lt (by omega) (by omega), Int.add_comm]
theorem bC {d k : Int} (hd : 0 < d) (hk : d * k = 4294967296) : ∀ l : List Int, Words l → l ≠ [] → wv (shrL d l) = wv l / d % 4294967296 ^ (l.length - 1)
 | [], _, h => absurd rfl h
 | [x], _, _ => by simp [shrL, wv, Int.emod_one]
 | x :: y :: l, hw, _ => by
  have ih := bC hd hk (y :: l) hw.tail (by simp);have hx := hw x (by simp);rw [shrL, show wv ((x + 4294967296 * y) / d % 4294967296 :: shrL d (y :: l)) = (x + 4294967296 * y) / d % 4294967296 + 4294967296 * wv (shrL d (y :: l)) from rfl, ih];rw [show (x :: y :: l).length - 1 = ((y :: l).length - 1) + 1 by simp, Int.pow_succ, sN _ (bp _)];obtain ⟨Y, hY⟩ : ∃ Y, wv (y :: l) = Y := ⟨_, rfl⟩;have hYl : Y = y + 4294967296 * wv l := by rw [← hY, wv]
  rw [hY];rw [show wv (x :: y :: l) = x + 4294967296 * wv (y :: l) from rfl, hY];have a1 : (x + 4294967296 * Y) / d / 4294967296 = Y / d := by
   rw [Int.ediv_ediv_of_nonneg (by omega), Int.mul_comm d, ← Int.ediv_ediv_of_nonneg (by decide), Int.add_mul_ediv_left _ _ (by decide), Int.ediv_eq_zero_of_lt hx.1 hx.2, Int.zero_add]
  have a2 : (x + 4294967296 * Y) / d % 4294967296 = (x + 4294967296 * y) / d % 4294967296 := by
   rw [show x + 4294967296 * Y = (x + 4294967296 * y) + d * (4294967296 * (k * wv l)) by rw [hYl]; grind, Int.add_mul_ediv_left _ _ (by omega), Int.add_mul_emod_self_left]
  rw [a1, a2]
theorem zAm {d k V : Int} {l : List Int} (hd : 0 < d) (hk : d * k = 4294967296) (hw : Words l) (hn : l ≠ []) (hv : wv l < d * V) : wv (shrL d l) < V := by
 rw [bC hd hk l hw hn];have h1 : wv l / d < V := Int.ediv_lt_of_lt_mul hd (by rwa [Int.mul_comm]);have h2 : 0 ≤ wv l / d := Int.ediv_nonneg (zS hw) (by omega);have h3 := Int.mul_ediv_add_emod (wv l / d) (4294967296 ^ (l.length - 1));have h4 := Int.mul_nonneg (Int.le_of_lt (bp (l.length - 1))) (Int.ediv_nonneg h2 (Int.le_of_lt (bp (l.length - 1))));omega
theorem zCf {us vs : List Int} {n : Nat} (hu : Words us) (hv : Words vs) (hn : 2 ≤ n) (hul : us.length = n + 1) (hvl : vs.length = n) (hf : 2147483648 ≤ vs.getD (n - 1) 0) (hlt : wv us < wv vs * 4294967296) :
  Win (wv us) (wv vs) (vs.getD (n - 1) 0) (vs.getD (n - 2) 0) (us.getD n 0 * 4294967296 + us.getD (n - 1) 0) (us.getD (n - 2) 0) := by
 obtain ⟨m, rfl⟩ : ∃ m, n = m + 2 := ⟨n - 2, by omega⟩;rw [show m + 2 - 1 = m + 1 by omega, show m + 2 - 2 = m by omega] at *;have eu : wv us = wv (us.take m) + 4294967296 ^ m * us.getD m 0 + 4294967296 ^ m * 4294967296 * us.getD (m + 1) 0 + 4294967296 ^ m * 4294967296 * 4294967296 * us.getD (m + 2) 0 := by
  rw [← Int.pow_succ, ← Int.pow_succ, ← xG (by omega), ← xG (by omega), ← xG (by omega), κy (by omega)]
 have ev : wv vs = wv (vs.take m) + 4294967296 ^ m * vs.getD m 0 + 4294967296 ^ m * 4294967296 * vs.getD (m + 1) 0 := by
  rw [← Int.pow_succ, ← xG (by omega), ← xG (by omega), κy (by omega)]
 have a1 := hu.getD m;have a2 := hu.getD (m + 1);have a3 := hu.getD (m + 2);have b1 := hv.getD m;have b2 := hv.getD (m + 1);have c1 := zS (hu.take m);have c2 := wv_lt (hu.take m);have d1 := zS (hv.take m);have d2 := wv_lt (hv.take m);have hn0 := zS hu;rw [κk, Nat.min_eq_left (by omega)] at c2 d2;have hP := bp m;generalize (4294967296 : Int) ^ m = P at *;generalize us.getD m 0 = x0 at *;generalize us.getD (m + 1) 0 = x1 at *;generalize us.getD (m + 2) 0 = x2 at *;generalize vs.getD m 0 = s at *;generalize vs.getD (m + 1) 0 = f at *;generalize wv (us.take m) = ul at *;generalize wv (vs.take m) = vl at *;generalize wv us = U at *;generalize wv vs = V at *;refine ⟨hf, b2.2, b1.1, b1.2, by omega, ?_, a1.1, a1.2, hlt, hn0, P, vl, ul, hP, by grind, by grind, d1, d2, c1, c2⟩;have k : x2 < f + 1 := by
  apply Int.lt_of_mul_lt_mul_right (a := P) _ (by omega);have k1 : s * P ≤ 4294967295 * P := Int.mul_le_mul_of_nonneg_right (by omega) (by omega);have k2 : 0 ≤ x0 * P := Int.mul_nonneg a1.1 (by omega);have k3 : 0 ≤ x1 * P := Int.mul_nonneg a2.1 (by omega);have e1 : U = ul + x0 * P + 4294967296 * (x1 * P) + 18446744073709551616 * (x2 * P) := by grind
  have e2 : V = vl + s * P + 4294967296 * (f * P) := by grind
  have e3 : (f + 1) * P = f * P + P := by grind
  omega
 omega
theorem zCg {us vs : List Int} {k n : Nat} (hu : Words us) (hk : k + n + 1 ≤ us.length) (hvl : vs.length = n) (hv : Words vs) (hlt : wv (us.drop (k + 1)) < wv vs) :
  wv (us.drop (k + n + 1)) = 0 ∧ wv ((us.drop k).take (n + 1)) < wv vs * 4294967296 := by
 have h1 : us.drop (k + 1) = (us.drop (k + 1)).take n ++ us.drop (k + n + 1) := by
  rw [show us.drop (k + n + 1) = (us.drop (k + 1)).drop n by rw [List.drop_drop]; congr 1; omega, List.take_append_drop]
 have h2 : (us.drop k).take (n + 1) = us.getD k 0 :: (us.drop (k + 1)).take n := by
  rw [List.drop_eq_getElem_cons (by omega), List.take_succ_cons, κd, κg (by omega)]; rfl
 rw [h1, jD, κk, List.length_drop, Nat.min_eq_left (by omega)] at hlt;have a := zS (hu.drop (k + n + 1));have b := zS ((hu.drop (k + 1)).take n);have c := wv_lt hv;rw [hvl] at c;have d := bp n;have z : wv (us.drop (k + n + 1)) = 0 := by
  rcases Int.lt_or_le 0 (wv (us.drop (k + n + 1))) with h | h
  ·exfalso;have : 4294967296 ^ n * 1 ≤ 4294967296 ^ n * wv (us.drop (k + n + 1)) := Int.mul_le_mul_of_nonneg_left (by omega) (by omega);omega
  ·omega
 refine ⟨z, ?_⟩;rw [z, Int.mul_zero, Int.add_zero] at hlt;rw [h2, wv];have := hu.getD k;omega
theorem eL {us ws vs : List Int} {k n : Nat} (hk : k + n + 1 ≤ us.length) (hz : wv (us.drop (k + n + 1)) = 0) (hw : ws.length = n + 1) (hlt : wv ws < wv vs) :
  wv ((us.take k ++ ws ++ us.drop (k + n + 1)).drop k) < wv vs := by
 rw [κq, List.drop_append_of_le_length (by rw [κk]; omega), List.drop_of_length_le (by rw [κk]; omega), List.nil_append, jD, hz, Int.mul_zero, Int.add_zero];exact hlt
end Go.Proofs.YtkfhpefmmhljmaaGreatDoor
namespace Go.Proofs.YtkfhpefmmhljmaaGreatDoor
open Go.RowKit
def cmpN (xs ys : List Int) : Nat → Int
 | 0 => 0
 | i + 1 => if xs.getD i 0 = ys.getD i 0 then cmpN xs ys i else if xs.getD i 0 < ys.getD i 0 then -1 else 1
def cmpW (xs ys : List Int) : Int := if xs.length = ys.length then cmpN xs ys xs.length else if xs.length < ys.length then -1 else 1
theorem wv_ge {l : List Int} (hw : Words l) (ht : trimL l = l) (hn : l ≠ []) : 4294967296 ^ (l.length - 1) ≤ wv l := by
 revert ht hn hw
 refine xQ (P := fun l => Words l → trimL l = l → l ≠ [] → 4294967296 ^ (l.length - 1) ≤ wv l) (fun _ _ h => absurd rfl h) (fun l x _ hw ht _ => ?_) l;have hx : x ≠ 0 := by
  intro h;subst h;rw [qF] at ht;have := congrArg List.length ht;have := jE l;simp at *;omega
 have hx0 := hw x (by simp);have hl := zS (l := l) (fun y hy => hw y (by simp [hy]));rw [jD, κa, List.length_singleton, Nat.add_sub_cancel];have : (4294967296 : Int) ^ l.length * 1 ≤ 4294967296 ^ l.length * x := Int.mul_le_mul_of_nonneg_left (by omega) (Int.le_of_lt (bp _));simp only [wv, Int.mul_zero, Int.add_zero];omega
theorem bp_le {a b : Nat} (h : a ≤ b) : (4294967296 : Int) ^ a ≤ 4294967296 ^ b := by
 obtain ⟨k, rfl⟩ : ∃ k, b = a + k := ⟨b - a, by omega⟩;clear h
 induction k with
 | zero => exact Int.le_refl _
 | succ k ih =>
  rw [← Nat.add_assoc, Int.pow_succ];have := bp (a + k);omega
theorem tR {xs ys : List Int} (hx : Words xs) (hy : Words ys) : ∀ i, cmpN xs ys i < 0 → wv (xs.take i) < wv (ys.take i)
 | 0, h => by simp [cmpN] at h
 | i + 1, h => by
  have ih := tR hx hy i;have h1 := hx.getD i;have h2 := hy.getD i;rw [cmpN] at h;rw [qT, qT];have hP := bp i;by_cases he : xs.getD i 0 = ys.getD i 0
  ·rw [if_pos he] at h;have := ih h;rw [he];omega
  ·rw [if_neg he] at h;by_cases hl : xs.getD i 0 < ys.getD i 0
   ·have a := zS (hy.take i);have b := wv_lt (hx.take i);have c : (4294967296 : Int) ^ (xs.take i).length ≤ 4294967296 ^ i := bp_le (by rw [κk]; omega);have d : (4294967296 : Int) ^ i * (xs.getD i 0 + 1) ≤ 4294967296 ^ i * ys.getD i 0 := Int.mul_le_mul_of_nonneg_left (by omega) (by omega);rw [Int.mul_add, Int.mul_one] at d;omega
   ·rw [if_neg hl] at h; cases h
theorem zBz {xs ys : List Int} (hx : Words xs) (hy : Words ys) (ht : trimL ys = ys) (h : cmpW xs ys < 0) : wv xs < wv ys := by
 unfold cmpW at h;by_cases he : xs.length = ys.length
 ·rw [if_pos he] at h;have := tR hx hy _ h;rwa [κy (νr _), κy (by omega)] at this
 ·rw [if_neg he] at h;by_cases hl : xs.length < ys.length
  ·have a := wv_lt hx;have b := wv_ge hy ht (by rintro rfl; simp at hl);have c : (4294967296 : Int) ^ xs.length ≤ 4294967296 ^ (ys.length - 1) := bp_le (by omega);omega
  ·rw [if_neg hl] at h; cases h
theorem wB {xs ys : List Int} (h : ¬ cmpW xs ys < 0) : ys.length ≤ xs.length := by
 unfold cmpW at h;by_cases he : xs.length = ys.length
 ·omega
 ·rw [if_neg he] at h;by_cases hl : xs.length < ys.length
  ·rw [if_pos hl] at h; exact absurd (by decide) h
  ·omega
theorem kY (A D : Option Addr) (c d : Nat) (xs ys : List Int) (w : World) (hx : WrdR w w A xs) (hy : WrdR w w D ys) (hl : xs.length ≤ 1000000) (hm : ys.length ≤ 1000000) :
  Calls Tryz.prog 223 #[.slice A xs.length c, .slice D ys.length d] w fun e w' => e = .returned (.int .i64 (cmpW xs ys)) ∧ Below w w w' := by
 have HX := η hx;have HY := η hy;clear hx hy;by_cases hne : xs.length = ys.length
 ·have EC : Hid (cmpW xs ys = cmpN xs ys xs.length) := if_pos hne;have e1 : ((xs.length : Int) == (ys.length : Int)) = true := beq_iff_eq.2 (by omega);have e2 : ((xs.length : Int) != (ys.length : Int)) = false := by simp [hne]
  have HN := η hne;clear hne;generalize cmpW xs ys = R at *;have w0 : IntKind.i64.wrap ((xs.length : Int) - 1) = (xs.length : Int) - 1 := IntWalk.i64_in _ (by omega);go_enter Tryz.func223, Tryz.ntmps223;go_wp2_with fail;go_loopg [5] xs.length (fun g s5 wr => ∃ k : Nat, k ≤ xs.length ∧ k ≤ g ∧ s5 = .int .i64 ((k : Int) - 1) ∧ R = cmpN xs ys k ∧ Below w w wr)
  case atStart => exact ⟨xs.length, νr _, νr _, rfl, EC.out, Below.refl _ _⟩
  case round =>
   obtain ⟨k, hkl, hkg, rfl, hr, hb⟩ := hrel;have HR := η hr;have HB := η hb;clear hr hb EC w0;cases k with
   | zero =>
    go_wp2_with fail;go_ret;exact ⟨zI HR.out.symm, HB.out⟩
   | succ k =>
    obtain ⟨g2, rfl⟩ : ∃ g2, gk = g2 + 1 := ⟨gk - 1, by omega⟩;obtain ⟨b, off, rfl, hbl, hcc⟩ := HX.out (by omega);obtain ⟨b2, off2, rfl, hbl2, hcc2⟩ := HY.out (by have := HN.out; omega);have f0 := (HB.out.cell (p := ⟨b, off + k, none⟩) hbl).trans (hcc k (by omega));have f1 := (HB.out.cell (p := ⟨b2, off2 + k, none⟩) hbl2).trans (hcc2 k (by have := HN.out; omega));clear hcc hcc2;have w1 : ((k + 1 : Nat) : Int) - 1 = (k : Int) := by omega
    have w2 : decide ((0 : Int) ≤ (k : Int)) = true := κt (by omega);have w3 : (k : Int) < (xs.length : Int) := by omega
    have w4 : (k : Int) < (ys.length : Int) := by have := HN.out; omega
    have w5 : IntKind.i64.wrap ((k : Int) - 1) = (k : Int) - 1 := IntWalk.i64_in _ (by omega);rw [w1];have HR2 : Hid (R = if xs.getD k 0 = ys.getD k 0 then cmpN xs ys k else if xs.getD k 0 < ys.getD k 0 then -1 else 1) := HR.out;clear HR w1;generalize xs.getD k 0 = x at *;generalize ys.getD k 0 = y at *;by_cases he : x = y
    ·have a1 : (x == y) = true := beq_iff_eq.2 he;have a2 : (x != y) = false := by simp [he]
     have HR3 : Hid (R = cmpN xs ys k) := HR2.out.trans (if_pos he);clear he HR2;go_wp2_with fail;go_quiet (fail);go_wp2_with fail;go_roundg g2
     case measure => omega
     case rel => exact ⟨k, by omega, by omega, rfl, HR3.out, qM HB.out _⟩
    ·have a1 : (x == y) = false := βf he;have a2 : (x != y) = true := βt he;have HR3 := η (HR2.out.trans (if_neg he));clear he HR2;by_cases hlt : x < y
     ·have a3 : decide (x < y) = true := κt hlt;have HR4 : Hid (R = -1) := HR3.out.trans (if_pos hlt);clear hlt HR3;go_wp2_with fail;go_quiet (fail);go_wp2_with fail;go_quiet (fail);go_wp2_with fail;go_ret;exact ⟨zI HR4.out.symm, qM (qM HB.out _) _⟩
     ·have a3 : decide (x < y) = false := κf hlt;have HR4 : Hid (R = 1) := HR3.out.trans (if_neg hlt);clear hlt HR3;go_wp2_with fail;go_quiet (fail);go_wp2_with fail;go_quiet (fail);go_wp2_with fail;go_ret;exact ⟨zI HR4.out.symm, qM (qM HB.out _) _⟩
 ·have e1 : ((xs.length : Int) == (ys.length : Int)) = false := βf (by omega);have e2 : ((xs.length : Int) != (ys.length : Int)) = true := βt (by omega);by_cases hlt : xs.length < ys.length
  ·have a3 : decide (xs.length < ys.length) = true := κt hlt;have EC : Hid (cmpW xs ys = -1) := by show _ = _; unfold cmpW; rw [if_neg hne, if_pos hlt]
   clear hne hlt;go_enter Tryz.func223, Tryz.ntmps223;go_wp2_with fail;go_ret;exact ⟨zI EC.out.symm, Below.refl _ _⟩
  ·have a3 : decide (xs.length < ys.length) = false := κf hlt;have EC : Hid (cmpW xs ys = 1) := by show _ = _; unfold cmpW; rw [if_neg hne, if_neg hlt]
   clear hne hlt;go_enter Tryz.func223, Tryz.ntmps223;go_wp2_with fail;go_ret;exact ⟨zI EC.out.symm, Below.refl _ _⟩
end Go.Proofs.YtkfhpefmmhljmaaGreatDoor
