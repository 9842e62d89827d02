/- Turning a line round: plain facts of layer 14. -/
import Derived.Test.YtcacaiakkfgdpaaRevB
import Derived.Test.YtcacaiakkfgdpaaAtB
import Derived.Test.YtcacaiakkfgdpaaEquB
import Derived.Test.YtcacaiakkfgdpaaIslB
namespace Go.Proofs.Ytcacaiakkfgdpaa
open Go.RowKit
set_option linter.unusedVariables false

theorem lineOk_turn (nb a b x c : Int) : lineOk nb (b, a, x, c) = lineOk nb (a, b, x, c) := by
  simp only [lineOk, chk]
  have : (b != a) = (a != b) := by rw [Bool.eq_iff_iff, bne_iff_ne, bne_iff_ne]; exact ⟨Ne.symm, Ne.symm⟩
  rw [this, Bool.and_comm (decide (0 ≤ b) && decide (b < nb))]
theorem swap_getD (ls : List Ln) (k i : Nat) (hk : k < ls.length) : (swapAt ls k).getD i (0, 0, 0, 0) = if k = i then ((ls.getD k (0, 0, 0, 0)).2.1, (ls.getD k (0, 0, 0, 0)).1, (ls.getD k (0, 0, 0, 0)).2.2) else ls.getD i (0, 0, 0, 0) := by
  unfold swapAt
  by_cases h : k = i
  · subst h
    rw [if_pos rfl, List.getD_eq_getElem?_getD, List.getElem?_set_self hk]
    rfl
  · rw [if_neg h, List.getD_eq_getElem?_getD, List.getElem?_set_ne h, ← List.getD_eq_getElem?_getD]
theorem swap_check {nb : Int} {ls : List Ln} {k : Nat} (hk : k < ls.length) (h : checkE nb ls = 0) : checkE nb (swapAt ls k) = 0 := by
  unfold checkE at *
  rw [swapAt_length]
  split at h
  · omega
  · rename_i h0
    rw [if_neg h0]
    split at h
    · omega
    · rename_i h1
      rw [if_neg h1]
      split at h
      · rename_i h2
        rw [if_pos]
        rw [List.all_eq_true] at h2 ⊢
        intro x hx
        unfold swapAt at hx
        rcases List.mem_or_eq_of_mem_set hx with hx | rfl
        · exact h2 x hx
        · have hm : ls.getD k (0, 0, 0, 0) ∈ ls := by rw [getD_eq _ _ _ hk]; exact List.getElem_mem hk
          have := h2 _ hm
          generalize ls.getD k (0, 0, 0, 0) = l at *
          obtain ⟨a, b, x, c⟩ := l
          show lineOk nb (b, a, x, c) = true
          rw [lineOk_turn]
          exact this
      · omega
theorem swap_swap {ls : List Ln} {k : Nat} (hk : k < ls.length) : swapAt (swapAt ls k) k = ls := by
  refine List.ext_getElem (by rw [swapAt_length, swapAt_length]) fun i h1 h2 => ?_
  have e := swap_getD (swapAt ls k) k i (by rw [swapAt_length]; exact hk)
  rw [swap_getD ls k k hk, if_pos rfl, swap_getD ls k i hk] at e
  rw [getD_eq _ _ _ h1] at e
  rw [e]
  by_cases h : k = i
  · subst h
    rw [if_pos rfl, getD_eq _ _ _ hk]
  · rw [if_neg h, if_neg h, getD_eq _ _ _ h2]
theorem swap_ne {nb : Int} {ls : List Ln} {k : Nat} (hk : k < ls.length) (h : checkE nb ls = 0) : swapAt ls k ≠ ls := by
  intro e
  have hv := (valid_of_check h).ok k hk
  have := swap_getD ls k k hk
  rw [if_pos rfl, e] at this
  have h1 := congrArg Prod.fst this
  simp only at h1
  omega
theorem swap_outs {nb : Int} {ls : List Ln} {out : List Int} {k : Nat} (hk : k < ls.length) (h : checkE nb ls = 0) : outsE nb (swapAt ls k) out = outsE nb ls out := by
  unfold outsE
  rw [h, swap_check hk h, swapAt_length]
theorem swap_atF (ls : List Ln) (bus : Int) (k : Nat) (hk : k < ls.length) (ks : List Int) : atF (swapAt ls k) bus ks = atF ls bus ks := by
  unfold atF
  refine List.filter_congr fun x _ => ?_
  rw [swap_getD ls k _ hk]
  by_cases h : k = x.toNat
  · rw [if_pos h, ← h]
    unfold lnAt
    simp only
    rw [Bool.or_comm]
  · rw [if_neg h]
theorem swap_at {nb : Int} {ls : List Ln} {out : List Int} {bus : Int} {k : Nat} (hk : k < ls.length) (h : checkE nb ls = 0) : atE nb (swapAt ls k) out bus = atE nb ls out bus ∧ atL nb (swapAt ls k) out bus = atL nb ls out bus := by
  unfold atE atL
  rw [swap_outs hk h, swap_atF ls bus k hk, swapAt_length]
  exact ⟨rfl, rfl⟩
end Go.Proofs.Ytcacaiakkfgdpaa
