/- outage.covering: the iterator over the outages that cover an hour. -/
import Derived.Test.YtklfijhlibpmaaaOgD
import Derived.RangeFuncNested
import Derived.RangeFuncBox
import Derived.RangeFuncLeaves
import Derived.RangeFuncWrites
import Derived.Shelf.Abstract
import Derived.WalkKit
import Derived.OwnWalkIn
import Derived.TacticsInMore
import Derived.LoopNIn
import Derived.LoopIn
import Derived.Maps.AppendAt
namespace Go.Proofs.Ytklfijhlibpmaaa
open Go.RowKit Go.Shelf
set_option linter.unusedVariables false
attribute [local go_sem] Oper.semAt_some

/-- Below n₁ only the block B may have turned. -/
structure KeptS (n₁ B : Nat) (W W' : World) : Prop where
  size : W.heap.size ≤ W'.heap.size
  kept : ∀ k, k < n₁ → k ≠ B → W'.heap[k]? = W.heap[k]?
theorem KeptS.refl (n₁ B : Nat) (W : World) : KeptS n₁ B W W := ⟨Nat.le_refl _, fun _ _ _ => rfl⟩
theorem KeptS.trans {n₁ B : Nat} {X Y Z : World} (h : KeptS n₁ B X Y) (k : KeptS n₁ B Y Z) : KeptS n₁ B X Z := ⟨Nat.le_trans h.size k.size, fun i h1 h2 => (k.kept i h1 h2).trans (h.kept i h1 h2)⟩
theorem KeptS.cell {n₁ B : Nat} {W W' : World} (h : KeptS n₁ B W W') {p : Addr} (h1 : p.block < n₁) (h2 : p.block ≠ B) : W'.cell? p = W.cell? p := World.cell?_of_block (h.kept p.block h1 h2)
theorem KeptS.alloc {n₁ B : Nat} {W W' : World} (h : KeptS n₁ B W W') (hn : n₁ ≤ W.heap.size) (o : Obj) : KeptS n₁ B W (W'.alloc o) :=
  ⟨Nat.le_trans h.size (by simp), fun k hk hne => (Below.heap_alloc W' o k (Nat.lt_of_lt_of_le (Nat.lt_of_lt_of_le hk hn) h.size)).trans (h.kept k hk hne)⟩
theorem keptS_put {n₁ B : Nat} {w : World} (hn : n₁ ≤ w.heap.size) (W : World) (l : Nat) (o o' : Obj) (hl : w.heap.size ≤ l) (_ : W.heap[l]? = some o) (_ : o.isCells = false) (_ : o.isWalk = false) : KeptS n₁ B W (W.putObj l o') :=
  ⟨by simp, fun k hk _ => World.putObj_heap_other (by omega)⟩
theorem filter_take_succ {α : Type} (p : α → Bool) (l : List α) (k : Nat) (d : α) (hk : k < l.length) : (l.take (k + 1)).filter p = (l.take k).filter p ++ (if p (l.getD k d) then [l.getD k d] else []) := by
  rw [List.take_succ_eq_append_getElem hk, List.filter_append, getD_eq l k d hk]
  by_cases h : p l[k] = true <;> simp [h]

set_option maxRecDepth 100000 in
set_option maxHeartbeats 2000000 in
theorem covering1_in (n : Nat) (hn : 1 ≤ n) (l Bn Bh n₀ n₁ B : Nat) (A : Option Addr) (c : Nat) (ls : List Og) (h : Int) (J Jx : List Og → World → Prop) (hm : ls.length ≤ 1000000)
    (h01 : n₀ ≤ n₁) (hB : n₀ ≤ B) (hBn : Bn < n₁) (hBh : Bh < n₁) (q1 : Bn ≠ B) (q2 : Bh ≠ B) (W : World) (hA : AbidesFrom W.heap.size J)
    (hY : ∀ pre (x : Og) W1, J pre W1 → pre.length < ls.length → YieldAt Fence.wide (n - 1) Try.prog l #[ogV x] W1 fun e W' =>
      (e = .returned (.bool true) ∧ J (pre ++ [x]) W' ∧ KeptS n₁ B W1 W') ∨ (e = .returned (.bool false) ∧ Jx (pre ++ [x]) W'))
    (hcn : W.cell? ⟨Bn, 0, none⟩ = some (.slice A ls.length c)) (hch : W.cell? ⟨Bh, 0, none⟩ = some (.int .i64 h)) (hO : OgsR W n₀ A ls) (hn1 : n₁ ≤ W.heap.size) (h0 : J [] W) :
    CallsIn Fence.wide n Try.prog 50 #[.func (.yield l) #[] #[], .pointer (some ⟨Bn, 0, none⟩), .pointer (some ⟨Bh, 0, none⟩)] W fun e W' => (∃ v, e = .returned v) ∧
      ((∃ ys, ys = ls.filter (covB · h) ∧ J ys W') ∨ (∃ pre, True ∧ Jx pre W')) := by
  have HO := Lib.hid hO
  have HQ : Hid (Bh < n₁ ∧ Bh ≠ B) := ⟨hBh, q2⟩
  have HN : Hid (n₀ ≤ n₁ ∧ n₀ ≤ B) := ⟨h01, hB⟩
  clear hO q1 q2 hBh hBn h01 hB
  have hAl : ∀ s W1 o, J s W1 → J s (W1.alloc o) := fun s W1 o hs => hA s W1 _ none hs (World.grownBy_alloc W1 o none) (fun r e => by cases e)
  have HAL := Lib.hid hAl
  clear hAl hA
  refine callsIn_of_wp Try.func50 rfl trivial ?_ rfl
  simp only [Try.ntmps50, List.size_toArray, List.length_cons, List.length_nil, Nat.reduceAdd, Nat.reduceSub, Array.replicate_succ, Array.replicate_zero, List.push_toArray, List.append_toArray, List.nil_append, List.cons_append]
  gi_wp2
  gi_loopw [5, 8] (fun s5 i wr => ∃ k : Nat, k ≤ ls.length ∧ i = .int .i64 k ∧ J ((ls.take k).filter (covB · h)) wr ∧ KeptS n₁ B W wr)
    (fun _ i _ => ls.length - (intOf i).toNat)
  case atStart => exact ⟨0, Nat.zero_le _, rfl, h0, KeptS.refl _ _ _⟩
  case round =>
    obtain ⟨k, hk, rfl, hJs, hkb⟩ := hrel
    have g2 := (hkb.cell (p := ⟨Bh, 0, none⟩) HQ.out.1 HQ.out.2).trans hch
    have hsz := hkb.size
    have hBh : Bh < wr.heap.size := by have := HQ.out.1; omega
    have HKB := Lib.hid hkb
    clear hkb hcn hch
    by_cases hlt : k < ls.length
    · obtain ⟨b, off, rfl, hb, hc⟩ := HO.out (by omega)
      have kp : ∀ j, wr.cell? ⟨b, off + j, none⟩ = W.cell? ⟨b, off + j, none⟩ := fun j => HKB.out.cell (p := ⟨b, off + j, none⟩) (by show b < _; have := HN.out; omega) (by show b ≠ _; have := HN.out; omega)
      obtain ⟨e0, e1, e2, e3⟩ := hc k hlt
      rw [Nat.add_assoc] at e1 e2 e3
      rw [← kp] at e0 e1 e2 e3
      rw [← Nat.add_assoc] at e1 e2 e3
      clear hc kp
      have hF := filter_take_succ (covB · h) ls k (0, 0, 0, 0) hlt
      have hFl : ((ls.take k).filter (covB · h)).length < ls.length := Nat.lt_of_le_of_lt (List.length_filter_le _ _) (by simp; omega)
      obtain ⟨o, hgl⟩ : ∃ o, ls.getD k (0, 0, 0, 0) = o := ⟨_, rfl⟩
      rw [hgl] at e0 e1 e2 e3 hF
      clear hgl
      generalize (ls.take k).filter (covB · h) = pre at *
      obtain ⟨ok, ox, of', ot⟩ := o
      simp only at e0 e1 e2 e3
      have hcv := fun W1 => covers_any (ok, ox, of', ot) h W1
      unfold ogV at hcv
      simp only at hcv
      have hbw : b < wr.heap.size := by have := HN.out; omega
      cases hcb : covB (ok, ox, of', ot) h with
      | true =>
        rw [hcb] at hcv
        rw [if_pos hcb] at hF
        have HF := Lib.hid hF
        have HC := Lib.hid hcv
        clear hF hcv hcb
        obtain ⟨fn, tmps, assign, body, hy, hR⟩ := hY _ (ok, ox, of', ot) ((wr.alloc (.cells #[.int .u8 ok, .int .i64 ox, .int .i64 of', .int .i64 ot] 27)).alloc (.cells #[.int .u8 ok, .int .i64 ox, .int .i64 of', .int .i64 ot] 27)) (HAL.out _ _ _ (HAL.out _ _ _ hJs)) hFl
        simp only [ogV] at hy
        have HJ := Lib.hid hJs
        have HR := Lib.hid hR
        clear hJs hR
        gi_wp2_with (refine ⟨trivial, ?_⟩; gi_at_call 51; refine (callsIn_wide.2 (HC.out _)).mono ?_; rintro e w' ⟨rfl, rfl⟩)
        refine HR.out.mono ?_
        rintro e W3 (⟨rfl, hJ3, hk3⟩ | ⟨rfl, hJx3⟩)
        · gi_wp2
          go_roundw
          case rel => exact ⟨k + 1, by omega, by go_num, by rw [HF.out]; exact hJ3, ((HKB.out.alloc hn1 _).alloc hn1 _).trans hk3⟩
          case measure => simp [intOf]; omega
        · gi_wp2
          refine bodyPost_ret (results_none rfl _ _ _) rfl ?_
          exact ⟨⟨_, rfl⟩, .inr ⟨_, trivial, hJx3⟩⟩
      | false =>
        rw [hcb] at hcv
        rw [if_neg (by rw [hcb]; simp), List.append_nil] at hF
        have HF := Lib.hid hF
        have HC := Lib.hid hcv
        clear hF hcv hcb
        have HJ := Lib.hid hJs
        clear hJs
        gi_wp2_with (refine ⟨trivial, ?_⟩; gi_at_call 51; refine (callsIn_wide.2 (HC.out _)).mono ?_; rintro e w' ⟨rfl, rfl⟩)
        refine ⟨fun _ _ => trivial, ?_⟩
        gi_wp2
        go_roundw
        case rel => exact ⟨k + 1, by omega, by go_num, by rw [HF.out]; exact HAL.out _ _ _ (HAL.out _ _ _ HJ.out), (HKB.out.alloc hn1 _).alloc hn1 _⟩
        case measure => simp [intOf]; omega
    · obtain rfl : k = ls.length := by omega
      rw [List.take_length] at hJs
      gi_wp2
      go_end0
      exact ⟨⟨_, rfl⟩, .inl ⟨_, rfl, hJs⟩⟩

set_option maxHeartbeats 1000000 in
theorem covering_in (n : Nat) (O : Value) (A : Option Addr) (c k : Nat) (h : Int) (w : World) (hO : O = .slice A k c) :
    CallsIn Fence.wide n Try.prog 36 #[O, .int .i64 h] w fun e w' => e = .returned (.func (.func 50) #[] #[.pointer (some ⟨w.heap.size, 0, none⟩), .pointer (some ⟨w.heap.size + 1, 0, none⟩)]) ∧ w' = (w.alloc (.cells #[O] 22)).alloc (.cells #[.int .i64 h] 3) := by
  subst hO
  refine callsIn_of_wp Try.func36 rfl trivial ?_ rfl
  simp only [Try.ntmps36, List.size_toArray, List.length_cons, List.length_nil, Nat.reduceAdd, Nat.reduceSub, Array.replicate_succ, Array.replicate_zero, List.push_toArray, List.append_toArray, List.nil_append, List.cons_append]
  gi_wp2
  go_ret
  exact ⟨rfl, rfl⟩

theorem covering_stops (n : Nat) (hn : 1 ≤ n) (Bn Bh n₀ n₁ B : Nat) (A : Option Addr) (c : Nat) (ls : List Og) (h : Int) (hm : ls.length ≤ 1000000)
    (h01 : n₀ ≤ n₁) (hB : n₀ ≤ B) (hBn : Bn < n₁) (hBh : Bh < n₁) (q1 : Bn ≠ B) (q2 : Bh ≠ B) (w : World) (hw : n₁ ≤ w.heap.size)
    (hcn : w.cell? ⟨Bn, 0, none⟩ = some (.slice A ls.length c)) (hch : w.cell? ⟨Bh, 0, none⟩ = some (.int .i64 h)) (hO : OgsR w n₀ A ls) :
    SeqStopsK Fence.wide n Try.prog 50 #[.pointer (some ⟨Bn, 0, none⟩), .pointer (some ⟨Bh, 0, none⟩)] (fun x : Og => #[ogV x]) (KeptS n₁ B) (fun ys => ys = ls.filter (covB · h)) (fun _ => True) ls.length w := fun l J Jx W hW hJ _ hY h0 =>
  covering1_in n hn l Bn Bh n₀ n₁ B A c ls h J Jx hm h01 hB hBn hBh q1 q2 W hJ (fun pre x W hj hp => hY pre x W hj hp) ((hW.cell (p := ⟨Bn, 0, none⟩) (by show Bn < _; omega)).trans hcn) ((hW.cell (p := ⟨Bh, 0, none⟩) (by show Bh < _; omega)).trans hch) (hO.below (hW.mono (by omega))) (Nat.le_trans hw hW.size) h0
end Go.Proofs.Ytklfijhlibpmaaa
