/- Texts in one: CkA, CkB. -/
import Derived.BigQuiet
import Derived.BigGuardPart
import Derived.Laws.EntriesVeiled
import Derived.Test.YtkfhpefmmhljmaaGreatDoorF4
set_option linter.unusedVariables false
set_option linter.unusedSimpArgs false
set_option maxHeartbeats 16000000
set_option maxRecDepth 100000
namespace Go.Proofs.YtkfhpefmmhljmaaGreatDoor
open Go.RowKit
def chk (nb : Int) (l : Ln) : Nat → Bool
 | 0 => decide (0 ≤ l.1) && decide (l.1 < nb)
 | 1 => decide (0 ≤ l.2.1) && decide (l.2.1 < nb)
 | 2 => l.1 != l.2.1
 | 3 => decide (1 ≤ l.2.2.1) && decide (l.2.2.1 ≤ 1000)
 | _ => decide (0 ≤ l.2.2.2) && decide (l.2.2.2 ≤ 1000000)
def busB (nb b : Int) : Bool := decide (0 ≤ b) && decide (b < nb)
theorem pB (nb b : Int) (L : Value) (w : World) :
  Calls Tryz.prog 148 #[.agg #[.int .i64 nb, L], .int .i64 b] w fun e w' => e = .returned (.bool (busB nb b)) ∧ Below w w w' := by
 unfold busB;by_cases h0 : 0 ≤ b
 ·go_enter Tryz.func148, Tryz.ntmps148;go_wp2;go_ret;exact ⟨zU (by simp [h0]), βA _⟩
 ·go_enter Tryz.func148, Tryz.ntmps148;go_wp2;go_ret;exact ⟨zU (by simp; omega), βA _⟩
theorem qL (w : World) (o p : Obj) : Below w w ((w.alloc o).alloc p) := (βA o).alloc (by simp) p
theorem tK (nb f t x c : Int) (L : Value) (w : World) :
  Calls Tryz.prog 147 #[.agg #[.int .i64 nb, L], .agg #[.int .i64 f, .int .i64 t, .int .i64 x, .int .i64 c]] w fun e w' => e = .returned (.bool (chk nb (f, t, x, c) 0)) ∧ Below w w w' := by
 go_enter Tryz.func147, Tryz.ntmps147;go_wp2_with (go_at_call 148; refine (pB _ _ _ _).mono ?_; rintro e w' ⟨rfl, hb⟩);go_ret;exact ⟨rfl, (qL w _ _).trans (hb.mono (by simp; omega))⟩
theorem tJ (nb f t x c : Int) (L : Value) (w : World) :
  Calls Tryz.prog 149 #[.agg #[.int .i64 nb, L], .agg #[.int .i64 f, .int .i64 t, .int .i64 x, .int .i64 c]] w fun e w' => e = .returned (.bool (chk nb (f, t, x, c) 1)) ∧ Below w w w' := by
 go_enter Tryz.func149, Tryz.ntmps149;go_wp2_with (go_at_call 148; refine (pB _ _ _ _).mono ?_; rintro e w' ⟨rfl, hb⟩);go_ret;exact ⟨rfl, (qL w _ _).trans (hb.mono (by simp; omega))⟩
theorem tI (nb f t x c : Int) (L : Value) (w : World) :
  Calls Tryz.prog 150 #[.agg #[.int .i64 nb, L], .agg #[.int .i64 f, .int .i64 t, .int .i64 x, .int .i64 c]] w fun e w' => e = .returned (.bool (chk nb (f, t, x, c) 2)) ∧ Below w w w' := by
 go_enter Tryz.func150, Tryz.ntmps150;go_wp2;go_ret;exact ⟨rfl, qL w _ _⟩
theorem tH (nb f t x c : Int) (L : Value) (w : World) :
  Calls Tryz.prog 151 #[.agg #[.int .i64 nb, L], .agg #[.int .i64 f, .int .i64 t, .int .i64 x, .int .i64 c]] w fun e w' => e = .returned (.bool (chk nb (f, t, x, c) 3)) ∧ Below w w w' := by
 unfold chk;by_cases h0 : 1 ≤ x
 ·go_enter Tryz.func151, Tryz.ntmps151;go_wp2;go_ret;exact ⟨zU (by simp [h0]), qL w _ _⟩
 ·go_enter Tryz.func151, Tryz.ntmps151;go_wp2;go_ret;exact ⟨zU (by simp; omega), qL w _ _⟩
theorem tG (nb f t x c : Int) (L : Value) (w : World) :
  Calls Tryz.prog 152 #[.agg #[.int .i64 nb, L], .agg #[.int .i64 f, .int .i64 t, .int .i64 x, .int .i64 c]] w fun e w' => e = .returned (.bool (chk nb (f, t, x, c) 4)) ∧ Below w w w' := by
 unfold chk;by_cases h0 : 0 ≤ c
 ·go_enter Tryz.func152, Tryz.ntmps152;go_wp2;go_ret;exact ⟨zU (by simp [h0]), qL w _ _⟩
 ·go_enter Tryz.func152, Tryz.ntmps152;go_wp2;go_ret;exact ⟨zU (by simp; omega), qL w _ _⟩
def chkFn : Nat → Value
 | 0 => .func (.func 147) #[] #[]
 | 1 => .func (.func 149) #[] #[]
 | 2 => .func (.func 150) #[] #[]
 | 3 => .func (.func 151) #[] #[]
 | _ => .func (.func 152) #[] #[]
theorem bE (w : World) :
  Calls Tryz.prog 86 #[] w fun e w' => e = .returned (.slice (some ⟨w, 0, none⟩) 5 5) ∧ w' = w.alloc (.cells #[chkFn 0, chkFn 1, chkFn 2, chkFn 3, chkFn 4] 148) := by
 go_enter Tryz.func86, Tryz.ntmps86;go_wp2;go_ret;exact ⟨rfl, rfl⟩
def jA (nb : Int) (l : Ln) : Bool := chk nb l 0 && chk nb l 1 && chk nb l 2 && chk nb l 3 && chk nb l 4
def zX (nb : Int) (ls : List Ln) : Int :=
 if nb < 1 ∨ 6 < nb then 1 else if 10 < ls.length then 5 else if ls.all (jA nb) then 0 else 1
theorem mR (nb : Int) (f t x c : Int) (j : Nat) (hj : j < 5) : ∃ k : FuncId, chkFn j = .func (.func k) #[] #[] ∧ (k = 147 ∨ k = 149 ∨ k = 150 ∨ k = 151 ∨ k = 152) ∧
  ∀ (L : Value) (w : World), Calls Tryz.prog k #[.agg #[.int .i64 nb, L], .agg #[.int .i64 f, .int .i64 t, .int .i64 x, .int .i64 c]] w fun e w' => e = .returned (.bool (chk nb (f, t, x, c) j)) ∧ Below w w w' := by
 match j, hj with
 | 0, _ => exact ⟨_, rfl, by simp, fun L w => tK nb f t x c L w⟩
 | 1, _ => exact ⟨_, rfl, by simp, fun L w => tJ nb f t x c L w⟩
 | 2, _ => exact ⟨_, rfl, by simp, fun L w => tI nb f t x c L w⟩
 | 3, _ => exact ⟨_, rfl, by simp, fun L w => tH nb f t x c L w⟩
 | 4, _ => exact ⟨_, rfl, by simp, fun L w => tG nb f t x c L w⟩
theorem eH (nb : Int) (l : Ln) (h : ∀ i, i < 5 → chk nb l i = true) : jA nb l = true := by
 simp [jA, h 0 (by omega), h 1 (by omega), h 2 (by omega), h 3 (by omega), h 4 (by omega)]
theorem aU (nb : Int) (l : Ln) (i : Nat) (hi : i < 5) (h : chk nb l i = false) : jA nb l = false := by
 match i, hi with
 | 0, _ => simp [jA, h]
 | 1, _ => simp [jA, h]
 | 2, _ => simp [jA, h]
 | 3, _ => simp [jA, h]
 | 4, _ => simp [jA, h]
theorem jV {α : Type} (p : α → Bool) (d : α) (l : List α) (k : Nat) (hk : k < l.length) (h : (l.take k).all p = true) (h1 : p (l.getD k d) = true) : (l.take (k + 1)).all p = true := by
 rw [κs hk, List.all_append, h];rw [zM _ _ _ hk] at h1;simp [h1]
theorem fZ {α : Type} (p : α → Bool) (d : α) (l : List α) (k : Nat) (hk : k < l.length) (h1 : p (l.getD k d) = false) : l.all p = false := by
 rw [zM _ _ _ hk] at h1;rw [List.all_eq_false];exact ⟨_, List.getElem_mem hk, by simp [h1]⟩
theorem bF (nb : Int) (A : Option Addr) (c : Nat) (ls : List Ln) (w : World) (hl : qM w w A ls) (h0 : 1 ≤ nb) (h1 : nb ≤ 6) (h2 : ls.length ≤ 10) :
  Calls Tryz.prog 36 #[.agg #[.int .i64 nb, .slice A ls.length c]] w fun e w' => e = .returned (.int .i64 (if ls.all (jA nb) then 0 else 1)) ∧ Below w w w' := by
 have HL := η hl;clear hl;have b1 : decide (6 < nb) = false := by simp; omega
 have b2 : decide ((10 : Int) < ls.length) = false := by simp; omega
 go_enter Tryz.func36, Tryz.ntmps36;go_wp2;go_step3;go_wp2_with (go_at_call 86; refine (bE _).mono ?_; rintro e w' ⟨rfl, rfl⟩);go_step3;go_wp2;go_loopg [3, 25] ls.length (fun g e i w' => ∃ k : Nat, k + g = ls.length ∧ i = .int .i64 k ∧ e = .int .i64 0 ∧ (ls.take k).all (jA nb) = true ∧
  w'.cell? ⟨w, 0, none⟩ = some (.int .i64 nb) ∧ w'.cell? ⟨w, 1, none⟩ = some (.slice A ls.length c) ∧ (∀ j, j < 5 → w'.cell? ⟨w + 1, j, none⟩ = some (chkFn j)) ∧ w + 2 ≤ w'.heap.size ∧ Below w w w')
 case atStart =>
  exact ⟨0, by omega, rfl, rfl, by simp, by simp, by simp, by intro j hj; rcases j with _|_|_|_|_|j <;> first | (exfalso; omega) | simp, by simp, qL _ _ _⟩
 case round =>
  obtain ⟨k, hkg, rfl, rfl, hall, c0, c1, cf, hz, hb⟩ := hrel;have HA := η hall;have HC := η cf;have HB := η hb;clear hall cf hb;cases gk with
  | zero =>
   obtain rfl : k = ls.length := by omega
   clear hkg;have hA := HA.out;rw [List.take_length] at hA;have HA' := η hA;clear hA;go_wp2;rw [κx];go_ret;exact ⟨zC (by rw [if_pos HA'.out]), HB.out⟩
  | succ g =>
   have hk : k < ls.length := by omega
   have HG := η hkg;clear hkg;obtain ⟨b, off, rfl, hbl, hc⟩ := HL.out (by omega);obtain ⟨e0, e1, e2, e3⟩ := hc k (by omega);have f0 := (HB.out.cell (p := ⟨b, off + k * 4, none⟩) hbl).trans e0;have f1 := (HB.out.cell (p := ⟨b, off + k * 4 + 1, none⟩) hbl).trans e1;have f2 := (HB.out.cell (p := ⟨b, off + k * 4 + 2, none⟩) hbl).trans e2;have f3 := (HB.out.cell (p := ⟨b, off + k * 4 + 3, none⟩) hbl).trans e3;clear e0 e1 e2 e3 hc;have hgl : ∃ l, ls.getD k (0, 0, 0, 0) = l := ⟨_, rfl⟩;obtain ⟨l, hgl⟩ := hgl;rw [hgl] at f0 f1 f2 f3;have HGL := η hgl;clear hgl;obtain ⟨lf, lt, lx, lc⟩ := l;obtain ⟨wo, rfl⟩ : ∃ wo : World, wo = wr := ⟨_, rfl⟩;go_wp2;go_loopg [3, 31] 5 (fun g e i wx => ∃ j : Nat, j + g = 5 ∧ i = .int .i64 j ∧ e = .int .i64 0 ∧ (∀ i, i < j → chk nb (lf, lt, lx, lc) i = true) ∧ Below (wo + 1) (wo.alloc (.cells #[.int .i64 lf, .int .i64 lt, .int .i64 lx, .int .i64 lc] 127)) wx)
   case atStart => exact ⟨0, rfl, rfl, rfl, fun i hi => absurd hi (by omega), Below.refl _ _⟩
   case round =>
    obtain ⟨j, hjg, rfl, rfl, hch, hb2⟩ := hrel;have HCH := η hch;have HB2 := η hb2;clear hch;have hz2 : wo + 1 ≤ wr.heap.size := by have := hb2.size; simpa using this
    have g0 : wr.cell? ⟨w, 0, none⟩ = some (.int .i64 nb) := (hb2.cell (by show w.heap.size < _; omega)).trans ((World.cell?_alloc_lt _ _ _ (by show w.heap.size < _; omega)).trans c0);have g1 : wr.cell? ⟨w, 1, none⟩ = some (.slice (some ⟨b, off, none⟩) ls.length c) := (hb2.cell (by show w.heap.size < _; omega)).trans ((World.cell?_alloc_lt _ _ _ (by show w.heap.size < _; omega)).trans c1);have gf : ∀ j, j < 5 → wr.cell? ⟨w + 1, j, none⟩ = some (chkFn j) := fun j hj => (hb2.cell (by show w.heap.size + 1 < _; omega)).trans ((World.cell?_alloc_lt _ _ _ (by show w.heap.size + 1 < _; omega)).trans (HC.out j hj))
    have l0 : wr.cell? ⟨wo, 0, none⟩ = some (.int .i64 lf) := (hb2.cell (by show wo.heap.size < _; omega)).trans (by simp);have l1 : wr.cell? ⟨wo, 1, none⟩ = some (.int .i64 lt) := (hb2.cell (by show wo.heap.size < _; omega)).trans (by simp);have l2 : wr.cell? ⟨wo, 2, none⟩ = some (.int .i64 lx) := (hb2.cell (by show wo.heap.size < _; omega)).trans (by simp);have l3 : wr.cell? ⟨wo, 3, none⟩ = some (.int .i64 lc) := (hb2.cell (by show wo.heap.size < _; omega)).trans (by simp);have HF := η gf;have q1 : w < wr.heap.size := by omega
    have q2 : w + 1 < wr.heap.size := by omega
    have q3 : wo < wr.heap.size := by omega
    clear gf c0 c1 f0 f1 f2 f3 hb2;cases gk with
    | zero =>
     obtain rfl : j = 5 := by omega
     clear hjg;go_wp2;go_roundg g
     case measure => omega
     case rel =>
      refine ⟨k + 1, by have := HG.out; omega, by go_num, rfl, jV _ _ _ _ hk HA.out (by rw [HGL.out]; exact eH _ _ HCH.out), g0, g1, HF.out, by omega, ?_⟩;exact (HB.out.alloc (by omega) _).trans (HB2.out.mono (by omega))
    | succ g2 =>
     have hj5 : j < 5 := by omega
     have HJG := η hjg;clear hjg;obtain ⟨fk, hfk, hwh, hcall⟩ := mR nb lf lt lx lc j hj5;have gj := HF.out j hj5;rw [hfk] at gj;clear hfk;by_cases hck : chk nb (lf, lt, lx, lc) j = true
     ·rw [hck] at hcall;have HCK := η hck;have HCALL := η hcall;clear hcall hck;rcases hwh with rfl | rfl | rfl | rfl | rfl
      all_goals
       go_wp2_with (first
        | (go_at_call 147; (with_reducible refine (HCALL.out _ _).mono ?_); rintro e w3 ⟨rfl, hb3⟩)
        | (go_at_call 149; (with_reducible refine (HCALL.out _ _).mono ?_); rintro e w3 ⟨rfl, hb3⟩)
        | (go_at_call 150; (with_reducible refine (HCALL.out _ _).mono ?_); rintro e w3 ⟨rfl, hb3⟩)
        | (go_at_call 151; (with_reducible refine (HCALL.out _ _).mono ?_); rintro e w3 ⟨rfl, hb3⟩)
        | (go_at_call 152; (with_reducible refine (HCALL.out _ _).mono ?_); rintro e w3 ⟨rfl, hb3⟩))
       go_roundg g2
       case measure => omega
       case rel =>
        refine ⟨j + 1, by have := HJG.out; omega, by go_num, rfl, ?_, ?_⟩
        ·intro i hi;rcases Nat.lt_or_ge i j with h | h
         ·exact HCH.out i h
         ·obtain rfl : i = j := by omega
          exact HCK.out
        ·exact (HB2.out.alloc hz2 _).trans (hb3.mono (by simp; omega))
     ·have hck' : chk nb (lf, lt, lx, lc) j = false := by simpa using hck
      rw [hck'] at hcall;have HCK := η hck';have HCALL := η hcall;clear hcall hck hck';rcases hwh with rfl | rfl | rfl | rfl | rfl
      all_goals
       go_wp2_with (first
        | (go_at_call 147; (with_reducible refine (HCALL.out _ _).mono ?_); rintro e w3 ⟨rfl, hb3⟩)
        | (go_at_call 149; (with_reducible refine (HCALL.out _ _).mono ?_); rintro e w3 ⟨rfl, hb3⟩)
        | (go_at_call 150; (with_reducible refine (HCALL.out _ _).mono ?_); rintro e w3 ⟨rfl, hb3⟩)
        | (go_at_call 151; (with_reducible refine (HCALL.out _ _).mono ?_); rintro e w3 ⟨rfl, hb3⟩)
        | (go_at_call 152; (with_reducible refine (HCALL.out _ _).mono ?_); rintro e w3 ⟨rfl, hb3⟩))
       rw [κx];go_ret;refine ⟨zC ?_, ?_⟩
       ·rw [if_neg];rw [fZ _ _ _ _ hk (by rw [HGL.out]; exact aU _ _ _ hj5 HCK.out)];simp
       ·exact (HB.out.alloc (by omega) _).trans ((HB2.out.mono (by omega)).trans (((Below.refl _ _).alloc (by omega) _).trans (hb3.mono (by simp; omega))))
theorem yA (nb : Int) (A : Option Addr) (c : Nat) (ls : List Ln) (w : World) (hl : qM w w A ls) :
  Calls Tryz.prog 36 #[.agg #[.int .i64 nb, .slice A ls.length c]] w fun e w' => e = .returned (.int .i64 (zX nb ls)) ∧ Below w w w' := by
 have HL := η hl;clear hl;by_cases h0 : nb < 1
 ·go_enter Tryz.func36, Tryz.ntmps36;go_wp2;go_step3;go_wp2
  try rw [κx]
  go_ret;exact ⟨zC (by simp [zX, h0]), βA _⟩
 by_cases h1 : 6 < nb
 ·go_enter Tryz.func36, Tryz.ntmps36;go_wp2;go_step3;go_wp2
  try rw [κx]
  go_ret;exact ⟨zC (by simp [zX, h1]), βA _⟩
 by_cases h2 : 10 < ls.length
 ·go_enter Tryz.func36, Tryz.ntmps36;go_wp2;go_step3;go_wp2
  try rw [κx]
  go_ret;exact ⟨zC (by rw [zX, if_neg (by omega), if_pos h2]), βA _⟩
 have hE : zX nb ls = if ls.all (jA nb) then 0 else 1 := by rw [zX, if_neg (by omega), if_neg h2]
 rw [hE];exact bF nb A c ls w HL.out (by omega) (by omega) (by omega)
end Go.Proofs.YtkfhpefmmhljmaaGreatDoor
