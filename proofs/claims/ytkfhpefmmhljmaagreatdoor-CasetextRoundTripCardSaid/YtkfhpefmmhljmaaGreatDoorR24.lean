/- Texts in one: FmA, FmE. -/
import Derived.Test.YtkfhpefmmhljmaaGreatDoorR8
import Derived.Test.YtkfhpefmmhljmaaGreatDoorR19
set_option linter.unusedVariables false
set_option linter.unusedSimpArgs false
set_option maxHeartbeats 16000000
set_option maxRecDepth 100000
namespace Go.Proofs.YtkfhpefmmhljmaaGreatDoor
open Go.RowKit
def N1 (w : World) (base : Nat) (a0 a1 : Value) (n : Int) : Prop :=
 (n = 0 ∧ a0 = .bool false ∧ a1 = .slice none 0 0) ∨ (n ≠ 0 ∧ n.natAbs < 4294967296 ∧ a0 = .bool (decide (n < 0)) ∧ ∃ b, base ≤ b ∧ a1 = .slice (some ⟨b, 0, none⟩) 1 1 ∧ w.heap[b]? = some (.cells #[.int .u32 n.natAbs] 192 (0, 0)))
section
variable {w w' : World} {base base' : Nat} {a0 a1 : Value} {n : Int}
theorem N1.keep (h : N1 w base a0 a1 n) (hb : base' ≤ base) (hk : ∀ k, base ≤ k → yA [192] w k → w'.heap[k]? = w.heap[k]?) : N1 w' base' a0 a1 n := by
 rcases h with h | ⟨h1, h2, h3, b, h4, h5, h6⟩
 ·exact .inl h
 ·exact .inr ⟨h1, h2, h3, b, by omega, h5, (hk b h4 ⟨_, by simp, _, _, h6⟩).trans h6⟩
theorem N1.below (h : N1 w base a0 a1 n) (hb : Below w w w') : N1 w' base a0 a1 n := h.keep (νr _) fun k _ ⟨t', _, cur, fz, hc⟩ => hb.block k (κi hc).1
theorem N1.mono (h : N1 w base a0 a1 n) (hb : base' ≤ base) : N1 w base' a0 a1 n := h.keep hb fun _ _ _ => rfl
theorem N1.set (h : N1 w base a0 a1 n) {p : Addr} (hp : p.block < base) (v : Value) : N1 (w.setCell p v) base a0 a1 n := h.keep (νr _) fun k hk _ => Below.heap_setCell w p v k (by omega)
theorem N1.form (h : N1 w base a0 a1 n) : ∃ ng A k c, a0 = .bool ng ∧ a1 = .slice A k c := by
 rcases h with ⟨_, rfl, rfl⟩ | ⟨_, _, rfl, b, _, rfl, _⟩
 ·exact ⟨_, _, _, _, rfl, rfl⟩
 ·exact ⟨_, _, _, _, rfl, rfl⟩
theorem N1.num (h : N1 w base a0 a1 n) : NumR w w (.agg #[a0, a1]) n := by
 rcases h with ⟨rfl, rfl, rfl⟩ | ⟨h1, h2, rfl, b, h4, rfl, h6⟩
 ·exact NumR.zero _ _
 ·refine ⟨decide (n < 0), some ⟨b, 0, none⟩, [(n.natAbs : Int)], 1, rfl, νr _, by simp, fun _ => ⟨b, 0, rfl, (κi h6).1, fun i hi => ?_⟩, fun x hx => ?_, yF (by omega), fun h => by simp at h, ?_⟩
  ·have hi0 : i = 0 := by simp at hi; exact hi
   subst hi0;rw [Lib.cell_of_heap h6]; rfl
  ·simp at hx; omega
  ·rw [aP]; unfold sgnI; by_cases hn : n < 0 <;> simp [hn] <;> omega
end
def N1E (w : World) (n : Int) (e : Ending) (w' : World) : Prop := ∃ a0 a1, e = .returned (.agg #[a0, a1]) ∧ N1 w' w a0 a1 n ∧ Below w w w'
def Q1E (w : World) (n : Int) (e : Ending) (w' : World) : Prop := ∃ a0 a1, e = .returned (.agg #[a0, a1, .bool false, .slice none 0 0]) ∧ N1 w' w a0 a1 n ∧ Below w w w'
theorem fX (neg : Bool) (n : Int) (w : World) (h0 : 0 ≤ n) (h1 : n < 4294967296) :
  Calls Tryz.prog 207 #[.bool neg, .int .u64 n] w (N1E w (sgnI neg n)) := by
 by_cases hz : n = 0
 ·subst hz;go_enter Tryz.func207, Tryz.ntmps207;go_wp2_with fail;refine κr (v := .agg #[.bool false, .slice none 0 0]) (by simp [results, Tryz.results207, go_sem]) rfl ⟨_, _, rfl, .inl ⟨yK _, rfl, rfl⟩, ?_⟩;exact βA _
 ·have hz' : (n == 0) = false := βf hz;have e1 : (n / 4294967296 == 0) = true := by rw [rF n h0 h1]; rfl
  have e2 : IntKind.u32.wrap n = n := IntWalk.u32_in _ (by omega);have HS : Hid (sgnI neg n ≠ 0 ∧ (sgnI neg n).natAbs < 4294967296 ∧ decide (sgnI neg n < 0) = neg ∧ ((sgnI neg n).natAbs : Int) = n) := by
   show _ ∧ _
   unfold sgnI;cases neg <;> simp <;> omega
  clear hz h0 h1;go_enter Tryz.func207, Tryz.ntmps207;go_wp2_with fail;have HB := η (((Below.refl w w).alloc (νr _) (.cells #[.bool neg, .slice (some ⟨w + 1, 0, none⟩) 1 1] 83)).alloc (by simp) (.cells #[.int .u32 n] 192));refine κr (v := .agg #[.bool neg, .slice (some ⟨w + 1, 0, none⟩) 1 1]) (by simp [results, Tryz.results207, go_sem]) rfl ⟨_, _, rfl, .inr ⟨HS.out.1, HS.out.2.1, by rw [HS.out.2.2.1], w + 1, by omega, rfl, ?_⟩, HB.out⟩;rw [HS.out.2.2.2];have := heap_alloc_new (w.alloc (.cells #[.bool neg, .slice (some ⟨w + 1, 0, none⟩) 1 1] 83)) (.cells #[.int .u32 n] 192);simpa using this
theorem mV (n : Int) (w : World) (h0 : -4294967296 < n) (h1 : n < 4294967296) : Calls Tryz.prog 175 #[.int .i64 n] w (N1E w n) := by
 have hb0 : Below w w (w.alloc (.cells #[.bool false, .slice none 0 0] 83)) := βA _;by_cases hn : n < 0
 ·have e1 : decide (n < 0) = true := κt hn;have e2 : IntKind.u64.wrap n = n + 18446744073709551616 := by show n % 18446744073709551616 = _; omega
  have e3 : IntKind.u64.wrap (-(n + 18446744073709551616)) = -n := by show (-(n + 18446744073709551616)) % 18446744073709551616 = _; omega
  have K := η (fX true (-n) (w.alloc (.cells #[.bool false, .slice none 0 0] 83)) (by omega) (by omega));have ES : Hid (sgnI true (-n) = n) := by show _ = _; unfold sgnI; simp
  clear hn h0 h1;go_enter Tryz.func175, Tryz.ntmps175;go_wp2_with fail;refine K.out.mono ?_;rintro e w1 ⟨a0, a1, rfl, hv, hb1⟩;obtain ⟨ng, A, k, c, rfl, rfl⟩ := hv.form;rw [ES.out] at hv;have q0 : w1.cell? ⟨w, 0, none⟩ = some (.bool false) := (hb1.cell (by simp)).trans (by simp);have q1 : w1.cell? ⟨w, 1, none⟩ = some (.slice none 0 0) := (hb1.cell (by simp)).trans (by simp);have s0 : w1.frozen? ⟨w, 0, none⟩ = false := (hb1.frozen (by simp)).trans (by simp);have s1 : w1.frozen? ⟨w, 1, none⟩ = false := (hb1.frozen (by simp)).trans (by simp);have HB := η (hb0.trans (hb1.mono (by simp)));have HN := η (((hv.set (p := ⟨w, 0, none⟩) (by simp) (.bool ng)).set (p := ⟨w, 1, none⟩) (by simp) (.slice A k c)).mono (base' := w) (by simp));have HF := η ((HB.out.setCell (p := ⟨w, 0, none⟩) (νr _) (.bool ng)).setCell (p := ⟨w, 1, none⟩) (νr _) (.slice A k c));clear hb1 hb0 K hv;go_wp2_with fail;refine κr (v := .agg #[.bool ng, .slice A k c]) (by simp [results, Tryz.results175, go_sem, q0, q1]) rfl ?_;exact ⟨_, _, rfl, HN.out, HF.out⟩
 ·have e1 : decide (n < 0) = false := κf hn;have e2 : IntKind.u64.wrap n = n := κu _ (by omega);have K := η (fX false n (w.alloc (.cells #[.bool false, .slice none 0 0] 83)) (by omega) (by omega));have ES : Hid (sgnI false n = n) := rfl;clear hn h0 h1;go_enter Tryz.func175, Tryz.ntmps175;go_wp2_with fail;refine K.out.mono ?_;rintro e w1 ⟨a0, a1, rfl, hv, hb1⟩;obtain ⟨ng, A, k, c, rfl, rfl⟩ := hv.form;rw [ES.out] at hv;have q0 : w1.cell? ⟨w, 0, none⟩ = some (.bool false) := (hb1.cell (by simp)).trans (by simp);have q1 : w1.cell? ⟨w, 1, none⟩ = some (.slice none 0 0) := (hb1.cell (by simp)).trans (by simp);have s0 : w1.frozen? ⟨w, 0, none⟩ = false := (hb1.frozen (by simp)).trans (by simp);have s1 : w1.frozen? ⟨w, 1, none⟩ = false := (hb1.frozen (by simp)).trans (by simp);have HB := η (hb0.trans (hb1.mono (by simp)));have HN := η (((hv.set (p := ⟨w, 0, none⟩) (by simp) (.bool ng)).set (p := ⟨w, 1, none⟩) (by simp) (.slice A k c)).mono (base' := w) (by simp));have HF := η ((HB.out.setCell (p := ⟨w, 0, none⟩) (νr _) (.bool ng)).setCell (p := ⟨w, 1, none⟩) (νr _) (.slice A k c));clear hb1 hb0 K hv;go_wp2_with fail;refine κr (v := .agg #[.bool ng, .slice A k c]) (by simp [results, Tryz.results175, go_sem, q0, q1]) rfl ?_;exact ⟨_, _, rfl, HN.out, HF.out⟩
theorem mU (n : Int) (w : World) (h0 : -4294967296 < n) (h1 : n < 4294967296) : Calls Tryz.prog 130 #[.int .i64 n] w (Q1E w n) := by
 have hb0 : Below w w (w.alloc (.cells #[.bool false, .slice none 0 0, .bool false, .slice none 0 0] 85)) := βA _;have K := η (mV n (w.alloc (.cells #[.bool false, .slice none 0 0, .bool false, .slice none 0 0] 85)) h0 h1);clear h0 h1;go_enter Tryz.func130, Tryz.ntmps130;go_wp2_with fail;refine K.out.mono ?_;rintro e w1 ⟨a0, a1, rfl, hv, hb1⟩;obtain ⟨ng, A, k, c, rfl, rfl⟩ := hv.form;have q0 : w1.cell? ⟨w, 0, none⟩ = some (.bool false) := (hb1.cell (by simp)).trans (by simp);have q1 : w1.cell? ⟨w, 1, none⟩ = some (.slice none 0 0) := (hb1.cell (by simp)).trans (by simp);have q2 : w1.cell? ⟨w, 2, none⟩ = some (.bool false) := (hb1.cell (by simp)).trans (by simp);have q3 : w1.cell? ⟨w, 3, none⟩ = some (.slice none 0 0) := (hb1.cell (by simp)).trans (by simp);have s0 : w1.frozen? ⟨w, 0, none⟩ = false := (hb1.frozen (by simp)).trans (by simp);have s1 : w1.frozen? ⟨w, 1, none⟩ = false := (hb1.frozen (by simp)).trans (by simp);have s2 : w1.frozen? ⟨w, 2, none⟩ = false := (hb1.frozen (by simp)).trans (by simp);have s3 : w1.frozen? ⟨w, 3, none⟩ = false := (hb1.frozen (by simp)).trans (by simp);have HB := η (hb0.trans (hb1.mono (by simp)));have HN := η (((((hv.set (p := ⟨w, 0, none⟩) (by simp) (.bool ng)).set (p := ⟨w, 1, none⟩) (by simp) (.slice A k c)).set (p := ⟨w, 2, none⟩) (by simp) (.bool false)).set (p := ⟨w, 3, none⟩) (by simp) (.slice none 0 0)).mono (base' := w) (by simp));have HF := η ((((HB.out.setCell (p := ⟨w, 0, none⟩) (νr _) (.bool ng)).setCell (p := ⟨w, 1, none⟩) (νr _) (.slice A k c)).setCell (p := ⟨w, 2, none⟩) (νr _) (.bool false)).setCell (p := ⟨w, 3, none⟩) (νr _) (.slice none 0 0));clear hb1 hb0 K hv;go_wp2_with fail;refine κr (v := .agg #[.bool ng, .slice A k c, .bool false, .slice none 0 0]) (by simp [results, Tryz.results130, go_sem, q0, q1, q2, q3]) rfl ?_;exact ⟨_, _, rfl, HN.out, HF.out⟩
def dV (d : Nat) : Int := 48 + d
theorem zBp : (Tryz.prog.info? 5).map (fun i => (i.zero, i.size, i.bytes)) = some (some (.int .u8 0), 1, 1) := by kernel_rfl
def DigO (w : World) (base : Nat) (v : Value) (ds : List Nat) : Prop := w.ownsRow base 5 1 v ds.length ((ds.map dV).map bV)
theorem DigO.cell {w : World} {base g m cap : Nat} {ds : List Nat} (h : DigO w base (.slice (some ⟨g, 0, none⟩) m cap) ds) (k : Nat) (hk : k < ds.length) : w.cell? ⟨g, k, none⟩ = some (.int .u8 (48 + (ds.getD k 0 : Int))) := by
 have hm : m = ds.length := by
  rcases h.2 with ⟨h, _⟩ | ⟨_, _, _, h, _⟩
  ·cases h
  ·injection h
 subst hm;rw [World.ownsRow.cellAt h k (by omega), zK ds k 0 hk];simp [bV, dV, hk]
theorem lM {w : World} {base : Nat} {e : TypeId} {g n cap m : Nat} {xs : List Value} (h : w.ownsRow base e 1 (.slice (some ⟨g, 0, none⟩) n cap) n xs) (hm : m ≤ n) : w.ownsRow base e 1 (.slice (some ⟨g, 0, none⟩) m cap) m (xs.take m) := by
 have h1 := h.1;refine ⟨by rw [κk]; omega, ?_⟩;rcases h.2 with ⟨h, _⟩ | ⟨g', cap', cur, h, h2, h3, h4, h5, h6, h7⟩
 ·cases h
 ·injection h with ha hb hc
  injection ha with ha
  injection ha with ha _ _
  subst ha;subst hc;refine .inr ⟨g, cap, cur, rfl, h2, h3, by omega, h5, h6, ?_⟩;rw [← h7, List.take_take]
  congr 1
  omega
theorem DigO.take {w : World} {base g m cap : Nat} {ds : List Nat} {d : Nat} (h : DigO w base (.slice (some ⟨g, 0, none⟩) m cap) (ds ++ [d])) : DigO w base (.slice (some ⟨g, 0, none⟩) ds.length cap) ds := by
 have hm : m = (ds ++ [d]).length := by
  rcases h.2 with ⟨h, _⟩ | ⟨_, _, _, h, _⟩
  ·cases h
  ·injection h
 subst hm;have := lM h (m := ds.length) (by simp);unfold DigO;simpa using this
theorem zBn {ds : List Nat} (h : ds ≠ []) : ∃ l d, ds = l ++ [d] := ⟨ds.dropLast, ds.getLast h, (List.dropLast_concat_getLast h).symm⟩
theorem bI (x : Nat) : ((ldN x).map dV).reverse = (Lib.decDigits x).map (fun b => (b.toNat : Int)) := by
 rw [zCr, ← List.map_reverse, ← List.map_reverse, List.map_map];apply List.map_congr_left;intro d hd;have h10 : d < 10 := by
  have : ∀ u, ∀ d ∈ ldN u, d < 10 := by
   intro u
   induction u using Nat.strongRecOn with
   | _ u ih =>
    intro d hd;by_cases h : u < 10
    ·rw [gZ h] at hd; simp at hd; omega
    ·rw [nX h] at hd;rcases List.mem_cons.1 hd with rfl | hd
     ·omega
     ·exact ih _ (by omega) d hd
  exact this x d (by simpa using hd)
 have : (asc d).toNat = 48 + d := by unfold asc; simp [UInt8.toNat_ofNat']; omega
 simp only [Function.comp, dV, this];omega
theorem bQ {w : World} {base g cap : Nat} (T : Bytes) (h : w.ownsRow base 5 1 (.slice (some ⟨g, 0, none⟩) T.length cap) T.length ((T.map fun b => (b.toNat : Int)).map bV)) :
  (convert 113 9 (.slice (some ⟨g, 0, none⟩) T.length cap)).run Tryz.prog w = .ok (.string (bstr T)) w := by
 refine run_convert_bytes_back w _ _ _ _ _ T Tryz.underlying113 Tryz.underlying5 Tryz.underlying9 (fun j hj => ?_);have ha : (⟨g, 0, none⟩ : Addr).add j = ⟨g, j, none⟩ := by unfold Addr.add; split <;> simp_all
 rw [ha, h.cellAt j (by omega)];simp [bV, hj]
def FmtR (base gw cw : Nat) (x : Nat) (W1 : World) (gk : Nat) (s3 s4 : Value) (wr : World) : Prop :=
 ∃ (r : Nat) (acc : List Nat), s3 = .slice (some ⟨gw, 0, none⟩) (if r = 0 then 0 else 1) cw ∧ r < 1000000000 ^ gk ∧ r < 4294967296 ∧ (∀ d ∈ acc, d < 10) ∧ ldv acc + 10 ^ acc.length * r = x ∧ acc.length + 9 * gk = 18 ∧
  DigO wr base s4 acc ∧ wr.ownsRow base 192 1 (.slice (some ⟨gw, 0, none⟩) 1 cw) 1 [.int .u32 r] ∧ Below base W1 wr
theorem nF (n : Int) (base : Nat) (a0 a1 : Value) (w : World) (h : N1 w base a0 a1 n) :
  Calls Tryz.prog 177 #[.agg #[a0, a1]] w fun e w' => e = .returned (.string (bstr (Lib.itoa n))) ∧ Below w w w' := by
 obtain ⟨j0, hj, hy0, hy1, hy2⟩ := info_parts zBp;rcases h with ⟨rfl, rfl, rfl⟩ | ⟨hn, hlt, rfl, b, hb, rfl, hcb⟩
 ·have KT := η fun W => jS none 0 [] W WrdR.nil_ (by simp) (νr _)
  have KC := η fun W => vG none 0 [] W WrdR.nil_ (by simp)
  have EI : Hid (bstr (Lib.itoa 0) = ⟨#[48]⟩) := by show _ = _; decide +kernel
  go_enter Tryz.func177, Tryz.ntmps177;go_wp2_with fail;refine (KT.out _).mono ?_;rintro e w1 ⟨rfl, hb1⟩;rw [show (trimL ([] : List Int)).length = 0 from rfl];go_wp2_with fail;refine (KC.out _).mono ?_;rintro e w2 ⟨v, rfl, hown, hb2⟩;obtain ⟨A, c, rfl, _⟩ := zQ hown;have HB := η ((((Below.refl w w).alloc (νr _) (.cells #[.bool false, .slice none 0 0] 83)).trans (hb1.mono (by simp))).trans (hb2.mono (by have := hb1.size; simp at this; omega)));rw [show ([] : List Int).length = 0 from rfl];clear hb1 hb2 hown;go_wp2_with fail;go_ret;exact ⟨by rw [EI.out]; rfl, HB.out⟩
 ·have hlb : b < w := (κi hcb).1;obtain ⟨x, hx⟩ : ∃ x, x = n.natAbs := ⟨_, rfl⟩;rw [← hx] at hlt hcb;have hx0 : 0 < x := by omega
  have HX := η hx;clear hx;have hwr : WrdR w w (some ⟨b, 0, none⟩) [(x : Int)] := fun _ => ⟨b, 0, rfl, hlb, fun i hi => by
   have hi0 : i = 0 := by simp at hi; exact hi
   subst hi0;rw [Lib.cell_of_heap hcb]; rfl⟩
  have HW := η hwr;have KT := η fun W h => jS (some ⟨b, 0, none⟩) 1 [(x : Int)] W h (by simp) (νr _)
  have KC := η fun W h => vG (some ⟨b, 0, none⟩) 1 [(x : Int)] W h (by simp)
  have ET : (trimL [(x : Int)]).length = 1 := by rw [yF (by omega)]; rfl
  rw [ET] at KT;rw [show [(x : Int)].length = 1 from rfl] at KT KC;clear hwr hcb ET hb hlb;obtain ⟨ng, hng⟩ : ∃ ng, ng = decide (n < 0) := ⟨_, rfl⟩;rw [← hng];have HNG := η hng;clear hng;have HB0 : Hid (Below w w (w.alloc (.cells #[.bool ng, .slice (some ⟨b, 0, none⟩) 1 1] 83))) := βA _;have HXB : Hid (Box (w.alloc (.cells #[.bool ng, .slice (some ⟨b, 0, none⟩) 1 1] 83)) w [.bool ng, .slice (some ⟨b, 0, none⟩) 1 1]) := Box.new w #[.bool ng, .slice (some ⟨b, 0, none⟩) 1 1] 83;have hz0 : w < (w.alloc (.cells #[.bool ng, .slice (some ⟨b, 0, none⟩) 1 1] 83)).heap.size := by simp
  go_enter Tryz.func177, Tryz.ntmps177;go_wp2_with fail;refine (KT.out _ (HW.out.upto HB0.out)).mono ?_;rintro e w1 ⟨rfl, hb1⟩;go_wp2_with fail;refine (KC.out _ (HW.out.upto (HB0.out.trans (hb1.mono (by simp))))).mono ?_;rintro e w2 ⟨v, rfl, hown, hb2⟩;obtain ⟨gw, cw, rfl⟩ : ∃ g c, v = .slice (some ⟨g, 0, none⟩) 1 c := by
   rcases hown.2 with ⟨_, h0⟩ | ⟨g, cap, cur, hv, _⟩
   ·simp at h0
   ·exact ⟨g, cap, hv⟩
  have hz1 := hb1.size;have hz2 := hb2.size;have HB2 := η ((hb1.mono (show w.heap.size + 1 ≤ _ by simp)).trans (hb2.mono (show w.heap.size + 1 ≤ _ by simp at hz1; omega)));have HO2 : Hid (w2.ownsRow (w + 1) 192 1 (.slice (some ⟨gw, 0, none⟩) 1 cw) 1 [.int .u32 (x : Int)]) := by
   show World.ownsRow _ _ _ _ _ _ _
   refine ⟨hown.1, ?_⟩;rcases hown.2 with h | ⟨g, cap, cur, h1, h2, h3⟩
   ·exact .inl h
   ·exact .inr ⟨g, cap, cur, h1, by simp at hz1; omega, h3⟩
  clear hown hb1 hb2 hz1 hz2 KC HW;obtain ⟨W1, hW1⟩ : ∃ W, W = w.alloc (.cells #[.bool ng, .slice (some ⟨b, 0, none⟩) 1 1] 83) := ⟨_, rfl⟩;rw [← hW1] at HB0 HXB HB2 hz0;clear hW1 KT;go_wp2_with fail;go_loopg [3, 4, 5] 2 (fun gk s3 s4 s5 wr => FmtR (w + 1) gw cw x W1 gk s3 s4 wr)
  case atStart => exact ⟨x, [], by rw [if_neg (by omega)], by omega, hlt, (by simp), by simp [ldv], rfl, World.ownsRow_nil _ _ _ _, HO2.out, HB2.out⟩
  case round =>
   obtain ⟨r, acc, rfl, hrk, hr32, hd10, hv, hla, hdig, hrow, hbl⟩ := hrel;have HD := η hdig;have HR := η hrow;have HB := η hbl;have HV := η hv;have H10 := η hd10;have HL := η hla;clear hdig hrow hbl hv hd10 HO2 HB2;have hbg : w + 1 ≤ gw := by
    rcases HR.out.2 with ⟨h, _⟩ | ⟨g', _, _, h, hb, _⟩
    ·cases h
    ·injection h with h _ _; injection h with h; injection h with h _ _; omega
   by_cases hr : r = 0
   ·subst hr;rw [if_pos rfl];have HXV : Hid (ldv acc = x) := by show _ = _; have := HV.out; rw [Nat.mul_zero, κz] at this; exact this
    have hla18 : acc.length ≤ 18 := by have := HL.out; omega
    clear HR HV HL hrk hr32 hbg;go_wp2_with fail;go_loopg [4] acc.length (fun gk s4 wi => ∃ (gd cd : Nat) (ds : List Nat), s4 = .slice (some ⟨gd, 0, none⟩) ds.length cd ∧ ds.length = gk ∧ ds.length ≤ 18 ∧ DigO wi (w + 1) (.slice (some ⟨gd, 0, none⟩) ds.length cd) ds ∧ strip ds = ldN x ∧ Below (w + 1) W1 wi)
    case atStart =>
     have hs : strip acc = ldN x := by rw [iL H10.out (by rw [HXV.out]; exact hx0), HXV.out]
     have hac : 0 < acc.length := by
      rcases acc with _ | ⟨a, l⟩
      ·have := HXV.out; simp [ldv] at this; omega
      ·simp
     have hd := HD.out;rcases hd.2 with ⟨_, h⟩ | ⟨g, cap, cur, rfl, _⟩
     ·omega
     ·exact ⟨g, cap, acc, rfl, rfl, hla18, HD.out, hs, HB.out⟩
    case round =>
     obtain ⟨gd, cd, ds, rfl, rfl, h18, hdig, hst, hbl⟩ := hrel;have HD2 := η hdig;have HB2 := η hbl;have HS := η hst;have hne : ds ≠ [] := by
      intro e;rw [e] at hst;have : ldN x ≠ [] := by rw [ldN]; split <;> simp
      exact this hst.symm
     obtain ⟨l, d, rfl⟩ := zBn hne;clear hdig hbl hst hne HD HB;have hll : (l ++ [d]).length = l.length + 1 := by simp
     rw [hll];rw [hll] at HD2 h18;have q0 := HD2.out.cell l.length (by simp);rw [show (l ++ [d]).getD l.length 0 = d by simp] at q0;have hsub : ((l.length + 1 : Nat) : Int) - 1 = (l.length : Int) := by omega
     have hcd : l.length + 1 ≤ cd := by
      rcases HD2.out.2 with ⟨h, _⟩ | ⟨g', _, _, h, _, _, hb, _⟩
      ·cases h
      ·injection h with _ _ h2; subst h2; simpa using hb
     by_cases hd0 : d = 0
     ·subst hd0;rw [show (48 + ((0 : Nat) : Int)) = 48 from rfl] at q0;have HD3 : Hid (DigO wr (w + 1) (.slice (some ⟨gd, 0, none⟩) l.length cd) l) := HD2.out.take;have HS3 : Hid (strip l = ldN x) := by show _ = _; rw [← HS.out, gN]
      clear HD2 HS;go_wp2_with fail;go_roundg l.length
      case measure => omega
      case rel => exact ⟨gd, cd, l, by go_num, rfl, by omega, HD3.out, HS3.out, HB2.out⟩
     ·have e0 : ((48 + (d : Int)) == 48) = false := βf (by omega);have HS3 : Hid (l ++ [d] = ldN x) := by show _ = _; rw [← HS.out, cD hd0]
      have HBX := η (HXB.out.up HB2.out (by omega));have b0 := HBX.out.c 0 _ rfl;clear HS;obtain ⟨ds, hds⟩ : ∃ ds, ds = l ++ [d] := ⟨_, rfl⟩;rw [← hds] at HD2 HS3;have hdl : ds.length = l.length + 1 := by rw [hds]; simp
      clear hds;have hown : wr.ownsRow (w + 1) 5 1 (.slice (some ⟨gd, 0, none⟩) (l.length + 1) cd) ds.length ((ds.map dV).map bV) := HD2.out;have hzw : w + 1 ≤ wr.heap.size := by have := HB2.out.size; omega
      cases ng with
      | true =>
       have HT : Hid (((ds.map dV) ++ [45]).reverse = (Lib.itoa n).map (fun b => (b.toNat : Int))) := by
        show _ = _
        have hneg : n < 0 := of_decide_eq_true HNG.out.symm;rw [HS3.out, List.reverse_append, bI, Lib.itoa, if_pos hneg, ← HX.out];rfl
       go_wp2_with (at_builtin; refine wpList_append_own _ rfl _ _ 113 rfl (w + 1) 5 j0 _ 1 1 Tryz.underlying113 hj hy0 hy1 hy2 rfl (by decide) _ _ _ rfl (hown.alloc _) ⟨wr, 0, none⟩ 1 1 [.int .u8 45] rfl rfl (cell_one_new _ _ _) (by simp [Value.oneCell']) (by unfold maxLen; omega) (by omega) (by simp; omega) ?_; intro v' w5 hown' hgrow _);have HB5 := η (HB2.out.trans (zF hown hzw hgrow));obtain ⟨g5, c5, rfl⟩ : ∃ g c, v' = .slice (some ⟨g, 0, none⟩) (ds.length + 1) c := by
        rcases hown'.2 with ⟨_, h⟩ | ⟨g, cap, cur, hv, _⟩
        ·omega
        ·exact ⟨g, cap, hv⟩
       have hlx : ((ds.map dV) ++ [45]).length = ds.length + 1 := by simp
       have KR := gS (w + 1) g5 c5 ((ds.map dV) ++ [45]) w5 (by rw [hlx]; simpa [bV] using hown') (by rw [hlx]; omega);rw [hlx, HT.out] at KR;have hlt' : (Lib.itoa n).length = ds.length + 1 := by have := congrArg List.length HT.out; simp at this; omega
       clear hown' hgrow hown HD2 HB2;have HKR := η KR;have HLT := η hlt';clear KR hlx hlt';go_wp2_with fail;refine HKR.out.mono ?_;rintro e w6 ⟨rfl, hown6, hb6⟩;rw [← HLT.out] at hown6 ⊢;have hcv := bQ _ hown6;have HB6 := η (HB0.out.trans ((HB5.out.trans hb6).mono (by omega)));clear hown6 hb6 HKR HB5;go_wp2_with fail;go_ret;exact ⟨rfl, HB6.out⟩
      | false =>
       have HT : Hid ((ds.map dV).reverse = (Lib.itoa n).map (fun b => (b.toNat : Int))) := by
        show _ = _
        have hneg : ¬ n < 0 := of_decide_eq_false HNG.out.symm;rw [HS3.out, bI, Lib.itoa, if_neg hneg, HX.out, show n.toNat = n.natAbs by omega]
       have hlx : (ds.map dV).length = l.length + 1 := by simp [hdl]
       have KR := gS (w + 1) gd cd (ds.map dV) wr (by rw [hlx]; rw [hdl] at hown; exact hown) (by rw [hlx]; omega);rw [hlx, HT.out] at KR;have hlt' : (Lib.itoa n).length = l.length + 1 := by have := congrArg List.length HT.out; simp at this; omega
       clear hown HD2;have HKR := η KR;have HLT := η hlt';clear KR hlx hlt';go_wp2_with fail;refine HKR.out.mono ?_;rintro e w6 ⟨rfl, hown6, hb6⟩;rw [← HLT.out] at hown6 ⊢;have hcv := bQ _ hown6;have HB6 := η (HB0.out.trans ((HB2.out.trans hb6).mono (by omega)));clear hown6 hb6 HKR HB2;go_wp2_with fail;go_ret;exact ⟨rfl, HB6.out⟩
   ·rw [if_neg hr];cases gk with
    | zero => exact absurd hrk (by simp; omega)
    | succ g =>
     have HRK : Hid (r / 1000000000 < 1000000000 ^ g) := by
      show _ < _
      rw [Nat.pow_succ] at hrk;exact Nat.div_lt_of_lt_mul (by omega)
     have q0 : wr.cell? ⟨gw, 0, none⟩ = some (.int .u32 (r : Int)) := by rw [HR.out.cellAt 0 (by omega)]; rfl
     have t0 : wr.frozen? ⟨gw, 0, none⟩ = false := HR.out.frozenAt 0;have K3 := η (dR gw cw r wr ⟨by omega, by omega⟩ q0 t0);have hne : u4.ownBlock ≠ some gw := by
      rcases wR HR.out HD.out (by decide) with h | h
      ·rw [h]; simp
      ·exact h
     clear q0 t0 hrk;go_wp2_with fail;refine K3.out.mono ?_;rintro e w3 ⟨rfl, hw3⟩;have HR3 : Hid (w3.ownsRow (w + 1) 192 1 (.slice (some ⟨gw, 0, none⟩) 1 cw) 1 [.int .u32 ((r / 1000000000 : Nat) : Int)]) := by
      show World.ownsRow _ _ _ _ _ _ _
      rw [hw3];exact (HR.out.stored 0 _).1
     have HD3 : Hid (DigO w3 (w + 1) u4 acc) := by
      show DigO _ _ _ _
      rw [hw3];exact zL (p := ⟨gw, 0, none⟩) HD.out hne _
     have HB3 : Hid (Below (w + 1) W1 w3) := by show Below _ _ _; rw [hw3]; exact HB.out.setCell (p := ⟨gw, 0, none⟩) hbg _
     clear hw3 K3 hne HR HD HB;obtain ⟨q, hq⟩ : ∃ q, q = r / 1000000000 := ⟨_, rfl⟩;rw [← hq] at HR3 HRK;have hq32 : q < 4294967296 := by omega
     have KT := η (jS (some ⟨gw, 0, none⟩) cw [(q : Int)] w3 (fun _ => ⟨gw, 0, rfl, by
      rcases HR3.out.2 with ⟨h, _⟩ | ⟨g', _, _, h, _, hb, _⟩
      ·cases h
      ·injection h with h _ _; injection h with h; injection h with h _ _; subst h; exact (κi hb).1, fun i hi => by
       have hi0 : i = 0 := by simp at hi; exact hi
       subst hi0;rw [HR3.out.cellAt 0 (by omega)]; rfl⟩) (by simp) (by
      rcases HR3.out.2 with ⟨h, _⟩ | ⟨g', _, _, h, _, _, hb, _⟩
      ·cases h
      ·injection h with h _ h2; subst h2; exact hb))
     have ET : (trimL [(q : Int)]).length = if q = 0 then 0 else 1 := by
      by_cases h : q = 0
      ·rw [if_pos h, h]; rfl
      ·rw [if_neg h, yF (by omega)]; rfl
     obtain ⟨lw, hlw⟩ : ∃ l, l = if q = 0 then 0 else 1 := ⟨_, rfl⟩
     rw [ET, ← hlw] at KT;rw [show [(q : Int)].length = 1 from rfl] at KT;have HLW := η hlw;clear hlw;obtain ⟨m, hm⟩ : ∃ m, m = r % 1000000000 := ⟨_, rfl⟩;have hmc : (r : Int) % 1000000000 = (m : Int) := by omega
     rw [hmc];have HM := η hm;have HQ := η hq;clear ET hm hq hmc;go_wp2_with fail;refine KT.out.mono ?_;rintro e w4 ⟨rfl, hb4⟩;have HR4 := η (qE HR3.out hb4);have HD4 : Hid (DigO w4 (w + 1) u4 acc) := qE HD3.out hb4;have HB4 := η (HB3.out.trans (hb4.mono (by have := HB3.out.size; omega)));clear hb4 HR3 HD3 HB3 KT;go_wp2_with fail;go_loopg [4, 5, 20] 9 (fun g' s4 s5 s20 wi => ∃ (k : Nat), k + g' = 9 ∧ s20 = .int .i64 (k : Int) ∧ s5 = .int .u64 ((m / 10 ^ k : Nat) : Int) ∧ DigO wi (w + 1) s4 (acc ++ digs m k) ∧ wi.ownsRow (w + 1) 192 1 (.slice (some ⟨gw, 0, none⟩) 1 cw) 1 [.int .u32 (q : Int)] ∧ Below (w + 1) W1 wi)
     case atStart => exact ⟨0, rfl, rfl, by simp, by simpa [digs] using HD4.out, HR4.out, HB4.out⟩
     case round =>
      obtain ⟨k, hkg, rfl, rfl, hdig, hrow, hbl⟩ := hrel;have HD := η hdig;have HR := η hrow;have HB := η hbl;clear hdig hrow hbl HD4 HR4 HB4;have HG := η hkg;clear hkg;cases gk with
      | zero =>
       obtain rfl : k = 9 := by have := HG.out; omega
       go_wp2_with fail;go_roundg g
       case measure => omega
       case rel =>
        have hdg := zBw 9 m;refine ⟨q, acc ++ digs m 9, by rw [HLW.out], HRK.out, hq32, fun d hd => ?_, ?_, ?_, HD.out, HR.out, HB.out⟩
        ·rcases List.mem_append.1 hd with hd | hd
         ·exact H10.out d hd
         ·exact hdg d hd
        ·have hm9 : m < 10 ^ 9 := by rw [HM.out]; exact Nat.mod_lt _ (by decide)
         rw [cW, oW 9 m hm9, κa, kX, Nat.pow_add, ← HV.out, Nat.add_assoc, Nat.mul_assoc, ← Nat.mul_add]
         congr 2
         have h1 := HM.out;have h2 := HQ.out;have e9 : (10 : Nat) ^ 9 = 1000000000 := by decide
         rw [e9];omega
        ·rw [κa, kX];have := HL.out;omega
      | succ g2 =>
       have hk : k < 9 := by have := HG.out; omega
       have d0 : decide ((k : Int) < 9) = true := κt (by omega);obtain ⟨y, hy⟩ : ∃ y, y = m / 10 ^ k := ⟨_, rfl⟩;rw [← hy];have HY := η hy;clear hy;obtain ⟨ac2, hac⟩ : ∃ l, l = acc ++ digs m k := ⟨_, rfl⟩;rw [← hac] at HD;have hl2 : ac2.length ≤ 18 := by rw [hac, κa, kX]; have := HL.out; omega
       have HAC := η hac;clear hac;have hown : World.ownsRow _ (w + 1) 5 1 _ ac2.length ((ac2.map dV).map bV) := HD.out;have hzw : w + 1 ≤ wr.heap.size := by have := HB.out.size; omega
       go_wp2_with (at_builtin; refine wpList_append_own _ rfl _ _ 113 rfl (w + 1) 5 j0 _ 1 1 Tryz.underlying113 hj hy0 hy1 hy2 rfl (by decide) _ _ _ rfl (hown.alloc _) ⟨wr, 0, none⟩ 1 1 [.int .u8 (48 + (y : Int) % 10)] rfl rfl (cell_one_new _ _ _) (by simp [Value.oneCell']) (by unfold maxLen; omega) (by omega) (by simp; omega) ?_; intro v' w5 hown' hgrow _);have HD5 : Hid (DigO w5 (w + 1) v' (ac2 ++ [y % 10])) := by
        show DigO _ _ _ _
        unfold DigO;simpa [dV, bV] using hown'
       have hne := wR hown HR.out (by decide);have HR5 := η ((HR.out.alloc (.cells #[.int .u8 (48 + (y : Int) % 10)] 5)).kept hgrow hne);have HB5 := η (HB.out.trans (zF hown hzw hgrow));clear hown' hgrow hne hown HD HR HB;go_wp2_with fail;go_roundg g2
       case measure => omega
       case rel =>
        refine ⟨k + 1, by have := HG.out; omega, by go_num, ?_, ?_, HR5.out, HB5.out⟩
        ·rw [Nat.pow_succ, ← Nat.div_div_eq_div_mul, ← HY.out, κu _ (by have h1 := Nat.div_le_self m (10 ^ k); rw [← HY.out] at h1; have h2 := HM.out; omega)]; congr 1
        ·have := HD5.out;rw [HAC.out, HY.out, κq, ← tN] at this;exact this
end Go.Proofs.YtkfhpefmmhljmaaGreatDoor
