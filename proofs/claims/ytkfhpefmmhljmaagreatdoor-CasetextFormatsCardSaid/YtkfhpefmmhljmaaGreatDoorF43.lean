/- Texts in one: FrN, FrG. -/
import Derived.Test.YtkfhpefmmhljmaaGreatDoorF27
set_option linter.unusedVariables false
set_option linter.unusedSimpArgs false
set_option maxHeartbeats 16000000
set_option maxRecDepth 100000
namespace Go.Proofs.YtkfhpefmmhljmaaGreatDoor
def hD (v : Int) : List Int := if v = 0 then [] else if v < 65536 then [v] else [v % 65536, v / 65536]
def wD (v : Int) : List Int := if v = 0 then [] else [v]
def hlv (ws : List Int) : List Int := ws.flatMap fun x => [x % 65536, x / 65536]
def hvl (l : List Int) : Int := l.foldr (fun x a => a * 65536 + x) 0
theorem xV {v : Int} (h : 0 ≤ v) (h2 : v < 4294967296) : (v = 0 ∧ hD v = []) ∨ (0 < v ∧ v < 65536 ∧ hD v = [v]) ∨ (65536 ≤ v ∧ 0 < v / 65536 ∧ v / 65536 < 65536 ∧ hD v = [v % 65536, v / 65536]) := by
 unfold hD;by_cases h0 : v = 0
 ·exact .inl ⟨h0, if_pos h0⟩
 rw [if_neg h0];by_cases h1 : v < 65536
 ·exact .inr (.inl ⟨by omega, h1, if_pos h1⟩)
 ·exact .inr (.inr ⟨by omega, by omega, by omega, if_neg h1⟩)
theorem lJ {v : Int} (h : 0 ≤ v) (h2 : v < 4294967296) : trimL (hD v) = hD v := by
 rcases xV h h2 with ⟨_, e⟩ | ⟨_, _, e⟩ | ⟨_, _, _, e⟩
 ·rw [e]; rfl
 ·rw [e]; exact qR [] (by omega)
 ·rw [e]; exact qR [_] (by omega)
theorem oO {v : Int} (h : 0 ≤ v) (h2 : v < 4294967296) : hvl (hD v) = v := by
 rcases xV h h2 with ⟨e', e⟩ | ⟨_, _, e⟩ | ⟨_, _, _, e⟩
 ·rw [e, e']; rfl
 ·rw [e]; simp [hvl]
 ·rw [e]; simp [hvl]; omega
theorem pC {v : Int} (h : 0 ≤ v) (h2 : v < 4294967296) : (hD v).length ≤ 2 ∧ ((hD v).length = 0 ↔ v = 0) := by
 rcases xV h h2 with ⟨e', e⟩ | ⟨_, _, e⟩ | ⟨_, _, _, e⟩
 ·rw [e]; simp [e']
 ·rw [e]; simp; omega
 ·rw [e]; simp; omega
theorem hD_in {v : Int} (h : 0 ≤ v) (h2 : v < 4294967296) : ∀ x ∈ hD v, 0 ≤ x ∧ x < 65536 := by
 rcases xV h h2 with ⟨e', e⟩ | ⟨_, _, e⟩ | ⟨_, _, _, e⟩
 ·rw [e]; simp
 ·rw [e]; simp; omega
 ·rw [e]; simp; omega
theorem hD_at {v : Int} (h : 0 ≤ v) (h2 : v < 65536) : (hD v).getD 0 0 = v := by
 rcases xV h (by omega) with ⟨e', e⟩ | ⟨_, _, e⟩ | ⟨_, _, _, e⟩
 ·rw [e, e']; rfl
 ·rw [e]; rfl
 ·omega
theorem uD {v : Int} (h : 0 ≤ v) (h2 : v < 4294967296) : trimL [v % 65536, v / 65536 % 65536, v / 65536 / 65536] = hD v := by
 have e3 : v / 65536 / 65536 = 0 := by omega
 have e2 : v / 65536 % 65536 = v / 65536 := by omega
 rw [e3, e2, show [v % 65536, v / 65536, (0 : Int)] = [v % 65536, v / 65536] ++ [0] from rfl, zS];rcases xV h h2 with ⟨e', e⟩ | ⟨_, _, e⟩ | ⟨_, _, _, e⟩
 ·subst e'; rw [e]; rfl
 ·rw [e, show v / 65536 = 0 by omega, show v % 65536 = v by omega, show [v, (0 : Int)] = [v] ++ [0] from rfl, zS]; exact qR [] (by omega)
 ·rw [e]; exact qR [_] (by omega)
theorem bP {v : Int} (h : 0 ≤ v) (h2 : v < 4294967296) : trimL (hlv [v, 0]) = hD v := by
 rw [show hlv [v, 0] = [v % 65536, v / 65536, 0] ++ [0] from rfl, zS];have := uD h h2;rwa [show v / 65536 % 65536 = v / 65536 by omega, show v / 65536 / 65536 = 0 by omega] at this
theorem nC {v : Int} (h : 0 ≤ v) (h2 : v < 4294967296) : trimL (hlv (wD v)) = hD v := by
 unfold wD;by_cases h0 : v = 0
 ·subst h0; rfl
 rw [if_neg h0, show hlv [v] = [v % 65536, v / 65536] from rfl, ← zS];have := uD h h2;rwa [show v / 65536 % 65536 = v / 65536 by omega, show v / 65536 / 65536 = 0 by omega] at this
def dT (x : Nat) (s : Bytes) : Bytes := if s = [] then Lib.decDigits x else if x = 0 then s else Lib.decDigits x ++ s
theorem oW (s : Bytes) (h : s ≠ []) : dT 0 s = s := by unfold dT; rw [if_neg h, if_pos rfl]
theorem lQ (x : Nat) (s : Bytes) (h : 0 < x ∨ s = []) : dT (x / 10) (UInt8.ofNat (48 + x % 10) :: s) = dT x s := by
 have hd : dT (x / 10) (UInt8.ofNat (48 + x % 10) :: s) = Lib.decDigits x ++ s := by
  have e := Lib.decDigits.eq_def x;unfold dT;rw [if_neg (by simp), e];by_cases h10 : x < 10
  ·rw [if_pos (by omega), dif_pos h10, show x % 10 = x by omega]; rfl
  ·rw [if_neg (by omega), dif_neg h10]; simp
 rw [hd];unfold dT;by_cases hs : s = []
 ·rw [if_pos hs, hs, κp]
 ·rw [if_neg hs, if_neg (by rcases h with h | h; omega; exact absurd h hs)]
end Go.Proofs.YtkfhpefmmhljmaaGreatDoor
namespace Go.Proofs.YtkfhpefmmhljmaaGreatDoor
open Go.RowKit
set_option maxHeartbeats 4000000
theorem und_n : Tryz.prog.underlying 210 = some (.slice (Tryz.prog.elem 210)) := by kernel_rfl
theorem oS : Tryz.prog.elem 210 = 3 := by kernel_rfl
theorem nF (A : Option Addr) (len c hi : Nat) (h2 : hi ≤ c) (w : World) : (Instr.sliceAt 210 (.slice A len c) none (some (.int .i64 (hi : Int))) none).run Tryz.prog w = .ok (.slice A hi c) w := by
 rw [run_sliceAt_slice w _ _ _ _ _ und_n, run_slice_h w _ A len c und_n .i64 _ (by omega) (by omega), oS, Tryz.sizeOf3];simp [Result.andThen, sliced, map0]
theorem IntsR.litN (w : World) (t : TypeId) (xs : List Int) (cs : Array Value) (h : cs = (xs.map (Value.int .i64)).toArray) : IntsR (w.alloc (.cells cs t)) (w.alloc (.cells cs t)).heap.size (some ⟨w, 0, none⟩) xs := fun hn => by
 refine ⟨w, 0, rfl, by simp, fun i hi => ?_⟩;rw [qP _ _ _ _ _ rfl, h];simp [hi]
theorem IntsR.take {w : World} {B : Nat} {A : Option Addr} {xs : List Int} (h : IntsR w B A xs) (n : Nat) : IntsR w B A (xs.take n) := fun hn => by
 have hl : 0 < xs.length := by rw [κk] at hn; omega
 obtain ⟨b, off, e, hb, hc⟩ := h hl;refine ⟨b, off, e, hb, fun i hi => ?_⟩;rw [κk] at hi;have : (xs.take n).getD i 0 = xs.getD i 0 := by rw [κd, κd, List.getElem?_take_of_lt (by omega)]
 rw [this];exact hc i (by omega)
def HlE (w : World) (l : List Int) (e : Ending) (w' : World) : Prop := ∃ A c, e = .returned (.slice A l.length c) ∧ l.length ≤ c ∧ IntsR w' w' A l ∧ Below w w w'
theorem uO (A : Option Addr) (c : Nat) (l : List Int) (w : World) (h : IntsR w w A l) (hl : l.length ≤ 1000000) (hc : l.length ≤ c) : Calls Tryz.prog 185 #[.slice A l.length c] w (HlE w (trimL l)) := by
 have H := η h;have HB0 := η (Below.refl w w);have hF : ∀ k w', trimL l = trimL (l.take k) → (k = 0 ∨ (trimL (l.take k)).length = k) → Below w w w' → HlE w (trimL l) (.returned (.slice A k c)) w' := fun k w' h1 h2 hb => by
  have h3 : (trimL l).length = k := by
   rcases h2 with rfl | h2
   ·rw [h1]; rfl
   ·rw [h1]; exact h2
  have h4 := jP l;exact ⟨A, c, by rw [h3], by omega, by rw [yC]; exact (h.upto hb).take _, hb⟩
 have HF := η hF;clear h hF;go_enter Tryz.func185, Tryz.ntmps185;go_wp2_with fail;go_loopg [3] l.length (fun g s3 wr => ∃ k : Nat, k ≤ l.length ∧ k ≤ g ∧ s3 = .int .i64 (k : Int) ∧ trimL l = trimL (l.take k) ∧ Below w w wr)
 case atStart => exact ⟨l.length, νr _, νr _, rfl, by rw [List.take_length], HB0.out⟩
 case round =>
  obtain ⟨k, hkl, hkg, rfl, ht, hb⟩ := hrel;have HB := η hb;have HT := η ht;clear hb ht HB0;cases k with
  | zero =>
   have hs := nF A l.length c 0 (by omega);go_wp2_with fail
   try rw [κx]
   go_ret;exact HF.out 0 _ HT.out (.inl rfl) HB.out
  | succ k =>
   obtain ⟨b, off, rfl, hbl, hcc⟩ := H.out (by omega);have f0 := (HB.out.cell (p := ⟨b, off + k, none⟩) hbl).trans (hcc k (by omega));clear hcc;have w0 : decide ((0 : Int) < ((k + 1 : Nat) : Int)) = true := κt (by omega);have w1 : IntKind.i64.wrap (((k + 1 : Nat) : Int) - 1) = (k : Int) := by rw [IntWalk.i64_in _ (by omega)]; omega
   have w3 : ((k : Nat) : Int) < (l.length : Int) := by omega
   have w4 : k < l.length := by omega
   have hs := nF (some ⟨b, off, none⟩) l.length c (k + 1) (by omega);by_cases hz : l.getD k 0 = 0
   ·have HZ := η (HT.out.trans (gJ (by omega) hz));rw [hz] at f0;clear hz HT;go_wp2_with fail;go_roundg k
    case measure => omega
    case rel => exact ⟨k, by omega, νr _, by go_num, HZ.out, HB.out⟩
   ·have HZ := η (gI (l := l) (k := k) (by omega) hz);have hz' : (l.getD k 0 == 0) = false := βf hz;clear hz;generalize l.getD k 0 = x at *;go_wp2_with fail
    try rw [κx]
    go_ret;exact HF.out (k + 1) _ HT.out (.inr HZ.out) HB.out
theorem cO (A : Option Addr) (c : Nat) (l : List Int) (i : Nat) (w : World) (h : IntsR w w A l) (hl : l.length ≤ 1000000) (hi : i ≤ 1000000) : Calls Tryz.prog 143 #[.slice A l.length c, .int .i64 (i : Int)] w (ErrE w (l.getD i 0)) := by
 have HB := η (Below.refl w w);by_cases hlt : i < l.length
 ·obtain ⟨b, off, rfl, hbl, hcc⟩ := h (by omega);have f0 := hcc i hlt;have d1 : decide ((i : Int) < (l.length : Int)) = true := κt (by omega);have d2 : (i : Int) < (l.length : Int) := by omega
  clear hcc h;generalize l.getD i 0 = x at *;go_enter Tryz.func143, Tryz.ntmps143;go_wp2_with fail;go_ret;exact ⟨rfl, HB.out⟩
 ·have d1 : decide ((i : Int) < (l.length : Int)) = false := κf (by omega);have E : Hid (l.getD i 0 = 0) := by show _ = _; rw [κd, List.getElem?_eq_none (by omega)]; rfl
  clear h;go_enter Tryz.func143, Tryz.ntmps143;go_wp2_with fail;go_ret;exact ⟨zC E.out.symm, HB.out⟩
theorem tW : ∀ (l : List Int), (∀ x ∈ l, 0 ≤ x ∧ x < 65536) → l.length ≤ 2 → 0 ≤ hvl l ∧ hvl l < 4294967296 := by
 intro l h hl
 match l, h, hl with
 | [], _, _ => simp [hvl]
 | [a], h, _ => have := h a (by simp); simp [hvl]; omega
 | [a, b], h, _ => have h1 := h a (by simp); have h2 := h b (by simp); simp [hvl]; omega
 | _ :: _ :: _ :: _, _, hl => simp at hl
theorem gT (A : Option Addr) (c : Nat) (l : List Int) (w : World) (h : IntsR w w A l) (hl : l.length ≤ 2) (hx : ∀ x ∈ l, 0 ≤ x ∧ x < 65536) : Calls Tryz.prog 187 #[.slice A l.length c] w (ErrE w (hvl l)) := by
 have H := η h;have HB0 := η (Below.refl w w);have HX := η hx;clear h hx;go_enter Tryz.func187, Tryz.ntmps187;go_wp2_with fail;go_loopg [3, 4] l.length (fun g s3 s4 wr => ∃ k : Nat, k ≤ l.length ∧ k ≤ g ∧ s4 = .int .i64 ((k : Int) - 1) ∧ s3 = .int .i64 (hvl (l.drop k)) ∧ Below w w wr)
 case atStart => exact ⟨l.length, νr _, νr _, by go_num, by rw [List.drop_length]; rfl, HB0.out⟩
 case round =>
  obtain ⟨k, hkl, hkg, rfl, rfl, hb⟩ := hrel;have HB := η hb;clear hb HB0;cases k with
  | zero =>
   rw [List.drop_zero];have d1 : decide ((0 : Int) ≤ ((0 : Nat) : Int) - 1) = false := by decide
   go_wp2_with fail
   try rw [κx]
   go_ret;exact ⟨rfl, HB.out⟩
  | succ k =>
   obtain ⟨b, off, rfl, hbl, hcc⟩ := H.out (by omega);have f0 := (HB.out.cell (p := ⟨b, off + k, none⟩) hbl).trans (hcc k (by omega));clear hcc;have hi := tW (l.drop (k + 1)) (fun x hx => HX.out x (List.mem_of_mem_drop hx)) (by rw [List.length_drop]; omega);have hi2 := tW (l.drop k) (fun x hx => HX.out x (List.mem_of_mem_drop hx)) (by rw [List.length_drop]; omega);have he : hvl (l.drop k) = hvl (l.drop (k + 1)) * 65536 + l.getD k 0 := by
    rw [List.drop_eq_getElem_cons (by omega : k < l.length), zM l k 0 (by omega)]; rfl
   have hxk := HX.out (l.getD k 0) (by rw [zM l k 0 (by omega)]; exact List.getElem_mem _);have HE := η he;have w5 : ((k + 1 : Nat) : Int) - 1 = (k : Int) := by omega
   rw [w5];have w0 : decide ((0 : Int) ≤ (k : Int)) = true := κt (by omega);have w3 : ((k : Nat) : Int) < (l.length : Int) := by omega
   have w6 : IntKind.i64.wrap (hvl (l.drop (k + 1)) * 65536) = hvl (l.drop (k + 1)) * 65536 := IntWalk.i64_in _ (by omega);have w7 : IntKind.i64.wrap (hvl (l.drop (k + 1)) * 65536 + l.getD k 0) = hvl (l.drop k) := by rw [← HE.out]; exact IntWalk.i64_in _ (by omega)
   clear he hi hi2 hxk;generalize hvl (l.drop (k + 1)) = a at *;obtain ⟨a', ha'⟩ : ∃ a', hvl (l.drop k) = a' := ⟨_, rfl⟩;rw [ha'] at w7;have HA := η ha';clear ha' HE;generalize l.getD k 0 = x at *;go_wp2_with fail;go_roundg k
   case measure => omega
   case rel => exact ⟨k, by omega, νr _, by go_num, by rw [HA.out], HB.out⟩
theorem dN (v : Int) (w : World) (h : 0 ≤ v) (h2 : v < 4294967296) : Calls Tryz.prog 186 #[.int .i64 v] w (HlE w (hD v)) := by
 have E := η (uD h h2);have KT := η fun W h => uO (some ⟨w, 0, none⟩) 3 [v % 65536, v / 65536 % 65536, v / 65536 / 65536] W h (by simp) (by simp)
 have HB0 := η ((Below.refl w w).alloc (νr _) (.cells #[.int .i64 (v % 65536), .int .i64 (v / 65536 % 65536), .int .i64 (v / 65536 / 65536)] 3));have HI := η (IntsR.litN w 3 [v % 65536, v / 65536 % 65536, v / 65536 / 65536] #[.int .i64 (v % 65536), .int .i64 (v / 65536 % 65536), .int .i64 (v / 65536 / 65536)] rfl);go_enter Tryz.func186, Tryz.ntmps186;go_wp2_with fail;refine (KT.out _ HI.out).mono ?_;rintro e w1 ⟨A, c, rfl, hc, hr, hb⟩;have HB1 := η (HB0.out.trans (hb.mono (by simp)));rw [E.out] at hr hc ⊢;have HR := η hr;clear hr hb;go_wp2_with fail;go_ret;exact ⟨A, c, rfl, hc, HR.out, HB1.out⟩
end Go.Proofs.YtkfhpefmmhljmaaGreatDoor
