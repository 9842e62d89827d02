/- The text NetD. -/
import Derived.RangeFuncBox
import Derived.RangeFuncLeaves
import Derived.Shelf.Abstract
import Derived.WalkKit
import Derived.OwnWalkIn
import Derived.TacticsInMore
import Derived.LoopNIn
import Derived.LoopIn
import Derived.Maps.AppendAt
import Derived.Test.YtmojjfdamdgegaaMg6
/- The iterator over the lines in service: its contract. -/
namespace Go.Proofs.Ytmojjfdamdgegaa
open Go.RowKit Go.Shelf
set_option linter.unusedVariables false
attribute [local go_sem] Oper.semAt_some

/-- After k lines: those in service, and how many entries of the list of outages are used up. -/
def svc (out : List Int) : Nat → List Int × Nat
  | 0 => ([], 0)
  | k + 1 => if (svc out k).2 < out.length ∧ out.getD (svc out k).2 0 = (k : Int) then ((svc out k).1, (svc out k).2 + 1) else ((svc out k).1 ++ [(k : Int)], (svc out k).2)
def svcL (out : List Int) (k : Nat) : List Int := (svc out k).1
def svcN (out : List Int) (k : Nat) : Nat := (svc out k).2
theorem svc_hit {out : List Int} {k : Nat} (h : svcN out k < out.length) (e : out.getD (svcN out k) 0 = (k : Int)) : svcL out (k + 1) = svcL out k ∧ svcN out (k + 1) = svcN out k + 1 := by
  unfold svcL svcN at *; rw [svc, if_pos ⟨h, e⟩]; exact ⟨rfl, rfl⟩
theorem svc_miss {out : List Int} {k : Nat} (h : ¬ (svcN out k < out.length ∧ out.getD (svcN out k) 0 = (k : Int))) : svcL out (k + 1) = svcL out k ++ [(k : Int)] ∧ svcN out (k + 1) = svcN out k := by
  unfold svcL svcN at *; rw [svc, if_neg h]; exact ⟨rfl, rfl⟩
theorem svcL_le (out : List Int) (k : Nat) : (svcL out k).length ≤ k := by
  induction k with
  | zero => simp [svcL, svc]
  | succ k ih =>
    by_cases h : svcN out k < out.length ∧ out.getD (svcN out k) 0 = (k : Int)
    · rw [(svc_hit h.1 h.2).1]; omega
    · rw [(svc_miss h).1]; simp; omega
theorem svcN_le (out : List Int) (k : Nat) : svcN out k ≤ out.length := by
  induction k with
  | zero => simp [svcN, svc]
  | succ k ih =>
    by_cases h : svcN out k < out.length ∧ out.getD (svcN out k) 0 = (k : Int)
    · rw [(svc_hit h.1 h.2).2]; omega
    · rw [(svc_miss h).2]; exact ih

/-- Below n₁ only the blocks B and B' may have turned. -/
def KeptBut (n₁ B B' : Nat) (W W' : World) : Prop := ∀ k, k < n₁ → k ≠ B → k ≠ B' → W'.heap[k]? = W.heap[k]?
theorem KeptBut.refl (n₁ B B' : Nat) (W : World) : KeptBut n₁ B B' W W := fun _ _ _ _ => rfl
theorem KeptBut.trans {n₁ B B' : Nat} {X Y Z : World} (h : KeptBut n₁ B B' X Y) (k : KeptBut n₁ B B' Y Z) : KeptBut n₁ B B' X Z := fun i h1 h2 h3 => (k i h1 h2 h3).trans (h i h1 h2 h3)
theorem KeptBut.cell {n₁ B B' : Nat} {W W' : World} (h : KeptBut n₁ B B' W W') {p : Addr} (h1 : p.block < n₁) (h2 : p.block ≠ B) (h3 : p.block ≠ B') : W'.cell? p = W.cell? p := World.cell?_of_block (h p.block h1 h2 h3)
theorem keptBut_put {n₁ B B' : Nat} {w : World} (hn : n₁ ≤ w.heap.size) (W : World) (l : Nat) (o o' : Obj) (hl : w.heap.size ≤ l) (_ : W.heap[l]? = some o) (_ : o.isCells = false) (_ : o.isWalk = false) : KeptBut n₁ B B' W (W.putObj l o') :=
  fun k hk _ _ => World.putObj_heap_other (by omega)

set_option maxRecDepth 100000 in
set_option maxHeartbeats 2000000 in
theorem inService1_in (n : Nat) (hn : 1 ≤ n) (l Bn Bo n₀ n₁ B B' m : Nat) (A A' : Option Addr) (c c' : Nat) (out : List Int) (J Jx : List Int → World → Prop) (hm : m ≤ 1000000) (ho : out.length ≤ 1000000)
    (h01 : n₀ ≤ n₁) (hB : n₀ ≤ B) (hB' : n₀ ≤ B') (hBn : Bn < n₁) (hBo : Bo < n₁) (q1 : Bn ≠ B) (q2 : Bn ≠ B') (q3 : Bo ≠ B) (q4 : Bo ≠ B')
    (hY : ∀ pre (x : Int) W, J pre W → pre.length < m → 0 ≤ x → x < m → YieldAt Fence.wide (n - 1) Try.prog l #[.int .i64 x] W fun e W' =>
      (e = .returned (.bool true) ∧ J (pre ++ [x]) W' ∧ KeptBut n₁ B B' W W') ∨ (e = .returned (.bool false) ∧ Jx (pre ++ [x]) W'))
    (W : World) (hcn : W.cell? ⟨Bn, 1, none⟩ = some (.slice A m c)) (hco : W.cell? ⟨Bo, 0, none⟩ = some (.slice A' out.length c')) (hO : IntsR W n₀ A' out) (h0 : J [] W) :
    CallsIn Fence.wide n Try.prog 59 #[.func (.yield l) #[] #[], .pointer (some ⟨Bn, 0, none⟩), .pointer (some ⟨Bo, 0, none⟩)] W fun e W' => (∃ v, e = .returned v) ∧
      ((∃ ys, ys = svcL out m ∧ J ys W') ∨ (∃ pre, True ∧ Jx pre W')) := by
  have HO := Lib.hid hO
  have HQ : Hid (Bo < n₁ ∧ Bo ≠ B ∧ Bo ≠ B') := ⟨hBo, q3, q4⟩
  have HN : Hid (n₀ ≤ n₁ ∧ n₀ ≤ B ∧ n₀ ≤ B') := ⟨h01, hB, hB'⟩
  clear hO q1 q2 q3 q4 hBo hBn h01 hB hB'
  refine callsIn_of_wp Try.func59 rfl trivial ?_ rfl
  simp only [Try.ntmps59, List.size_toArray, List.length_cons, List.length_nil, Nat.reduceAdd, Nat.reduceSub, Array.replicate_succ, Array.replicate_zero, List.push_toArray, List.append_toArray, List.nil_append, List.cons_append]
  gi_wp2
  gi_loopw [4, 9] (fun nx i wr => ∃ k : Nat, k ≤ m ∧ i = .int .i64 k ∧ nx = .int .i64 (svcN out k) ∧ J (svcL out k) wr ∧ KeptBut n₁ B B' W wr)
    (fun _ i _ => m - (intOf i).toNat)
  case atStart => exact ⟨0, Nat.zero_le _, rfl, rfl, h0, KeptBut.refl _ _ _ _⟩
  case round =>
    obtain ⟨k, hk, rfl, rfl, hJs, hkb⟩ := hrel
    have g2 := (hkb.cell (p := ⟨Bo, 0, none⟩) HQ.out.1 HQ.out.2.1 HQ.out.2.2).trans hco
    have HKB := Lib.hid hkb
    have hle := svcN_le out k
    have hll := svcL_le out k
    clear hkb hcn hco
    by_cases hlt : k < m
    · by_cases hcond : svcN out k < out.length ∧ out.getD (svcN out k) 0 = (k : Int)
      · obtain ⟨hc1, hc2⟩ := hcond
        obtain ⟨e1, e2⟩ := svc_hit hc1 hc2
        have HE := Lib.hid (And.intro e1 e2)
        clear e1 e2
        obtain ⟨b, off, rfl, hb, hc⟩ := HO.out (by omega)
        have f0 : wr.cell? ⟨b, off + svcN out k, none⟩ = some (.int .i64 (k : Int)) := by
          rw [← hc2]; exact (HKB.out.cell (p := ⟨b, off + svcN out k, none⟩) (by show b < _; have := HN.out; omega) (by show b ≠ _; have := HN.out; omega) (by show b ≠ _; have := HN.out; omega)).trans (hc _ hc1)
        clear hc hc2
        have HJ := Lib.hid hJs
        clear hJs
        generalize svcN out k = sn at *
        gi_wp2
        go_roundw
        case rel => exact ⟨k + 1, by omega, by go_num, by rw [HE.out.2]; go_num, by rw [HE.out.1]; exact HJ.out, HKB.out⟩
        case measure => simp [intOf]; omega
      · obtain ⟨e1, e2⟩ := svc_miss hcond
        have HE := Lib.hid (And.intro e1 e2)
        clear e1 e2
        obtain ⟨fn, tmps, assign, body, hy, hR⟩ := hY _ (k : Int) wr hJs (by omega) (by omega) (by omega)
        by_cases hc1 : svcN out k < out.length
        · have hc2 : out.getD (svcN out k) 0 ≠ (k : Int) := fun h => hcond ⟨hc1, h⟩
          obtain ⟨b, off, rfl, hb, hc⟩ := HO.out (by omega)
          have f0 : wr.cell? ⟨b, off + svcN out k, none⟩ = some (.int .i64 (out.getD (svcN out k) 0)) := 
            (HKB.out.cell (p := ⟨b, off + svcN out k, none⟩) (by show b < _; have := HN.out; omega) (by show b ≠ _; have := HN.out; omega) (by show b ≠ _; have := HN.out; omega)).trans (hc _ hc1)
          have hne : (out.getD (svcN out k) 0 == (k : Int)) = false := by rw [beq_eq_false_iff_ne]; exact hc2
          clear hc hc2 hcond
          have HJ := Lib.hid hJs
          clear hJs
          generalize out.getD (svcN out k) 0 = x at *
          generalize svcN out k = sn at *
          gi_wp2
          refine hR.mono ?_
          rintro e W3 (⟨rfl, hJ3, hk3⟩ | ⟨rfl, hJx3⟩)
          · gi_wp2
            go_roundw
            case rel => exact ⟨k + 1, by omega, by go_num, by rw [HE.out.2], by rw [HE.out.1]; exact hJ3, HKB.out.trans hk3⟩
            case measure => simp [intOf]; omega
          · gi_wp2
            refine bodyPost_ret (results_none rfl _ _ _) rfl ?_
            exact ⟨⟨_, rfl⟩, .inr ⟨_, trivial, hJx3⟩⟩
        · have hc1' : out.length ≤ svcN out k := by omega
          have hnl : decide ((svcN out k : Int) < (out.length : Int)) = false := by simp; omega
          clear hcond hc1
          have HJ := Lib.hid hJs
          clear hJs
          generalize svcN out k = sn at *
          gi_wp2
          refine hR.mono ?_
          rintro e W3 (⟨rfl, hJ3, hk3⟩ | ⟨rfl, hJx3⟩)
          · gi_wp2
            go_roundw
            case rel => exact ⟨k + 1, by omega, by go_num, by rw [HE.out.2], by rw [HE.out.1]; exact hJ3, HKB.out.trans hk3⟩
            case measure => simp [intOf]; omega
          · gi_wp2
            refine bodyPost_ret (results_none rfl _ _ _) rfl ?_
            exact ⟨⟨_, rfl⟩, .inr ⟨_, trivial, hJx3⟩⟩
    · obtain rfl : k = m := by omega
      gi_wp2
      go_end0
      exact ⟨⟨_, rfl⟩, .inl ⟨_, rfl, hJs⟩⟩

set_option maxHeartbeats 1000000 in
theorem inService_in (n : Nat) (nb : Value) (L O : Value) (A A' : Option Addr) (c c' m k : Nat) (w : World) (hL : L = .slice A m c) (hO : O = .slice A' k c') :
    CallsIn Fence.wide n Try.prog 46 #[.agg #[nb, L], O] w fun e w' => e = .returned (.func (.func 59) #[] #[.pointer (some ⟨w.heap.size, 0, none⟩), .pointer (some ⟨w.heap.size + 1, 0, none⟩)]) ∧ w' = (w.alloc (.cells #[nb, L] 24)).alloc (.cells #[O] 25) := by
  subst hL hO
  refine callsIn_of_wp Try.func46 rfl trivial ?_ rfl
  simp only [Try.ntmps46, List.size_toArray, List.length_cons, List.length_nil, Nat.reduceAdd, Nat.reduceSub, Array.replicate_succ, Array.replicate_zero, List.push_toArray, List.append_toArray, List.nil_append, List.cons_append]
  gi_wp2
  go_ret
  exact ⟨rfl, rfl⟩

theorem inService_stops (n : Nat) (hn : 1 ≤ n) (Bn Bo n₀ n₁ B B' m : Nat) (A A' : Option Addr) (c c' : Nat) (out : List Int) (hm : m ≤ 1000000) (ho : out.length ≤ 1000000)
    (h01 : n₀ ≤ n₁) (hB : n₀ ≤ B) (hB' : n₀ ≤ B') (hBn : Bn < n₁) (hBo : Bo < n₁) (q1 : Bn ≠ B) (q2 : Bn ≠ B') (q3 : Bo ≠ B) (q4 : Bo ≠ B') (w : World) (hw : n₁ ≤ w.heap.size)
    (hcn : w.cell? ⟨Bn, 1, none⟩ = some (.slice A m c)) (hco : w.cell? ⟨Bo, 0, none⟩ = some (.slice A' out.length c')) (hO : IntsR w n₀ A' out) :
    SeqStopsK Fence.wide n Try.prog 59 #[.pointer (some ⟨Bn, 0, none⟩), .pointer (some ⟨Bo, 0, none⟩)] (fun x : Int => #[Value.int .i64 x]) (KeptBut n₁ B B') (fun ys => ys = svcL out m) (fun _ => True) m w := fun l J Jx W hW _ _ hY h0 =>
  inService1_in n hn l Bn Bo n₀ n₁ B B' m A A' c c' out J Jx hm ho h01 hB hB' hBn hBo q1 q2 q3 q4 (fun pre x W hj hp _ _ => hY pre x W hj hp) W ((hW.cell (p := ⟨Bn, 1, none⟩) (by show Bn < _; omega)).trans hcn) ((hW.cell (p := ⟨Bo, 0, none⟩) (by show Bo < _; omega)).trans hco) (hO.below (hW.mono (by omega))) h0

/-- The same, where the rounds are told that the line exists. -/
theorem inService_stopsR (n : Nat) (hn : 1 ≤ n) (Bn Bo n₀ n₁ B B' m : Nat) (A A' : Option Addr) (c c' : Nat) (out : List Int) (hm : m ≤ 1000000) (ho : out.length ≤ 1000000)
    (h01 : n₀ ≤ n₁) (hB : n₀ ≤ B) (hB' : n₀ ≤ B') (hBn : Bn < n₁) (hBo : Bo < n₁) (q1 : Bn ≠ B) (q2 : Bn ≠ B') (q3 : Bo ≠ B) (q4 : Bo ≠ B') (w : World) (hw : n₁ ≤ w.heap.size)
    (hcn : w.cell? ⟨Bn, 1, none⟩ = some (.slice A m c)) (hco : w.cell? ⟨Bo, 0, none⟩ = some (.slice A' out.length c')) (hO : IntsR w n₀ A' out) :
    SeqStopsK Fence.wide n Try.prog 59 #[.pointer (some ⟨Bn, 0, none⟩), .pointer (some ⟨Bo, 0, none⟩)] (fun x : { x : Int // 0 ≤ x ∧ x < m } => #[Value.int .i64 x.1]) (KeptBut n₁ B B') (fun ys => ys.map (·.1) = svcL out m) (fun _ => True) m w := fun l J Jx W hW _ _ hY h0 => by
  have h := inService1_in n hn l Bn Bo n₀ n₁ B B' m A A' c c' out (fun pre W => ∃ pre' : List { x : Int // 0 ≤ x ∧ x < m }, pre'.map (·.1) = pre ∧ J pre' W) (fun pre W => ∃ pre' : List { x : Int // 0 ≤ x ∧ x < m }, pre'.map (·.1) = pre ∧ Jx pre' W) hm ho h01 hB hB' hBn hBo q1 q2 q3 q4
    (fun pre x W hj hp h1 h2 => by
      obtain ⟨pre', rfl, hj⟩ := hj
      obtain ⟨fn, tmps, assign, body, hy, hR⟩ := hY pre' ⟨x, h1, h2⟩ W hj (by simpa using hp)
      refine ⟨fn, tmps, assign, body, hy, hR.mono ?_⟩
      rintro e W' (⟨he, hj, hk⟩ | ⟨he, hj⟩)
      · exact .inl ⟨he, ⟨_, by simp, hj⟩, hk⟩
      · exact .inr ⟨he, ⟨_, by simp, hj⟩⟩)
    W ((hW.cell (p := ⟨Bn, 1, none⟩) (by show Bn < _; omega)).trans hcn) ((hW.cell (p := ⟨Bo, 0, none⟩) (by show Bo < _; omega)).trans hco) (hO.below (hW.mono (by omega))) ⟨[], rfl, h0⟩
  refine h.mono ?_
  rintro e W' ⟨hv, (⟨ys, hy, pre', hp, hj⟩ | ⟨pre, _, pre', hp, hj⟩)⟩
  · exact ⟨hv, .inl ⟨pre', hp.trans hy, hj⟩⟩
  · exact ⟨hv, .inr ⟨pre', trivial, hj⟩⟩
end Go.Proofs.Ytmojjfdamdgegaa
