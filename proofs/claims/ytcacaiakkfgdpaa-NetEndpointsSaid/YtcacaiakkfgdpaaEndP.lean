/- Every line in service is at two buses: plain. -/
import Derived.Test.YtcacaiakkfgdpaaSvcP
import Derived.Test.YtcacaiakkfgdpaaAtB
namespace Go.Proofs.Ytcacaiakkfgdpaa
open Go.RowKit
set_option linter.unusedVariables false

/-- What At answers for the buses below n, one after the other. -/
def allAt (ls : List Ln) (sv : List Int) : Nat → List Int
  | 0 => []
  | n + 1 => allAt ls sv n ++ atF ls (n : Int) sv
/-- At how many of the buses below n the line is. -/
def degTo (l : Ln) : Nat → Nat
  | 0 => 0
  | n + 1 => degTo l n + if lnAt l (n : Int) = true then 1 else 0
theorem degTo_eq (l : Ln) (h : l.1 ≠ l.2.1) (h1 : 0 ≤ l.1) (h2 : 0 ≤ l.2.1) (n : Nat) : degTo l n = (if l.1 < n then 1 else 0) + (if l.2.1 < n then 1 else 0) := by
  induction n with
  | zero =>
    rw [if_neg (by omega), if_neg (by omega)]
    rfl
  | succ n ih =>
    unfold degTo
    rw [ih]
    unfold lnAt
    by_cases a : l.1 = (n : Int)
    · have b : ¬ l.2.1 = (n : Int) := by omega
      simp only [Bool.or_eq_true, beq_iff_eq, a, b, true_or, if_true]
      split <;> split <;> split <;> split <;> omega
    · by_cases b : l.2.1 = (n : Int)
      · simp only [Bool.or_eq_true, beq_iff_eq, a, b, or_true, if_true]
        split <;> split <;> split <;> split <;> omega
      · simp only [Bool.or_eq_true, beq_iff_eq, a, b, or_self, if_false]
        split <;> split <;> split <;> split <;> omega
theorem count_filter' (p : Int → Bool) (l : List Int) (x : Int) : (l.filter p).count x = if p x = true then l.count x else 0 := by
  induction l with
  | nil => simp
  | cons y l ih =>
    by_cases hy : p y = true
    · rw [List.filter_cons_of_pos hy, List.count_cons, List.count_cons, ih]
      by_cases e : y = x
      · subst e; simp [hy]
      · simp [e]
    · rw [List.filter_cons_of_neg hy, ih, List.count_cons]
      by_cases e : y = x
      · subst e; simp [hy]
      · simp [e]
theorem allAt_count (ls : List Ln) (sv : List Int) (x : Int) (n : Nat) : (allAt ls sv n).count x = sv.count x * degTo (ls.getD x.toNat (0, 0, 0, 0)) n := by
  induction n with
  | zero => rfl
  | succ n ih =>
    rw [allAt, List.count_append, ih, atF, count_filter', degTo, Nat.mul_add]
    split <;> simp
theorem sum_map_add {α : Type} (f g : α → Nat) (l : List α) : (l.map fun x => f x + g x).sum = (l.map f).sum + (l.map g).sum := by
  induction l with
  | nil => rfl
  | cons x l ih => simp only [List.map_cons, List.sum_cons, ih]; omega
theorem sum_map_if {α : Type} (p : α → Bool) (l : List α) : (l.map fun x => if p x = true then 1 else 0).sum = (l.filter p).length := by
  induction l with
  | nil => rfl
  | cons x l ih =>
    simp only [List.map_cons, List.sum_cons, ih, List.filter_cons]
    split <;> simp; omega
theorem sum_zero {α : Type} (l : List α) : (l.map fun _ => 0).sum = 0 := by
  induction l with
  | nil => rfl
  | cons x l ih => simp only [List.map_cons, List.sum_cons, ih]
theorem allAt_length (ls : List Ln) (sv : List Int) (n : Nat) : (allAt ls sv n).length = (sv.map fun x => degTo (ls.getD x.toNat (0, 0, 0, 0)) n).sum := by
  induction n with
  | zero =>
    have : (sv.map fun x : Int => degTo (ls.getD x.toNat (0, 0, 0, 0)) 0) = sv.map fun _ => 0 := rfl
    rw [this, sum_zero]
    rfl
  | succ n ih =>
    rw [allAt, List.length_append, ih, atF, ← sum_map_if, ← sum_map_add]
    rfl
theorem deg_two {nb : Int} {ls : List Ln} {out : List Int} (he : outsE nb ls out = 0) (x : Int) (hx : x ∈ svcL out ls.length) : degTo (ls.getD x.toNat (0, 0, 0, 0)) nb.toNat = 2 := by
  have hb := check_of_outs he
  have hr := (svc_mem hb.2 x).1 hx
  have hv := (valid_of_check hb.1).ok x.toNat (by omega)
  rw [degTo_eq _ hv.2.2.2.2 hv.1 hv.2.2.1, if_pos (by omega), if_pos (by omega)]
theorem all_length {nb : Int} {ls : List Ln} {out : List Int} (he : outsE nb ls out = 0) : (allAt ls (svcL out ls.length) nb.toNat).length = 2 * (svcL out ls.length).length := by
  rw [allAt_length]
  have : ∀ l : List Int, (∀ x ∈ l, degTo (ls.getD x.toNat (0, 0, 0, 0)) nb.toNat = 2) → (l.map fun x => degTo (ls.getD x.toNat (0, 0, 0, 0)) nb.toNat).sum = 2 * l.length := by
    intro l
    induction l with
    | nil => intro _; rfl
    | cons y l ih =>
      intro h
      simp only [List.map_cons, List.sum_cons, List.length_cons]
      rw [h y (by simp), ih fun z hz => h z (by simp [hz])]
      omega
  exact this _ fun x hx => deg_two he x hx
theorem all_count {nb : Int} {ls : List Ln} {out : List Int} (he : outsE nb ls out = 0) (x : Int) (hx : x ∈ svcL out ls.length) : (allAt ls (svcL out ls.length) nb.toNat).count x = 2 := by
  rw [allAt_count, deg_two he x hx]
  have hn : (svcL out ls.length).Nodup := (svc_sorted (check_of_outs he).2).imp fun h => by omega
  rw [List.Nodup.count hn, if_pos hx]

/-- How often each of m numbers occurs. -/
def cntL' (m : Nat) (l : List Int) : List Int := (List.range m).map fun i : Nat => ((l.count (i : Int) : Nat) : Int)
theorem cntL'_length (m : Nat) (l : List Int) : (cntL' m l).length = m := by simp [cntL']
theorem cntL'_getD (m : Nat) (l : List Int) (i : Nat) (h : i < m) : (cntL' m l).getD i 0 = ((l.count (i : Int) : Nat) : Int) := by
  rw [List.getD_eq_getElem?_getD, cntL', List.getElem?_map, List.getElem?_range h]; rfl
theorem cntL'_snoc (m : Nat) (l : List Int) (i : Nat) (h : i < m) : (cntL' m l).set i (((l.count (i : Int) : Nat) : Int) + 1) = cntL' m (l ++ [(i : Int)]) := by
  refine List.ext_getElem (by simp [cntL']) fun j h1 h2 => ?_
  simp only [cntL', List.getElem_set, List.getElem_map, List.getElem_range, List.count_append, List.count_singleton]
  by_cases e : i = j
  · subst e; simp
  · have : ¬ ((i : Int) = (j : Int)) := by omega
    simp [e, this]
theorem atF_sorted {ls : List Ln} {bus : Int} {sv : List Int} (h : sv.Pairwise (· < ·)) : (atF ls bus sv).Pairwise (· < ·) := h.filter _
theorem atF_mem {ls : List Ln} {bus : Int} {sv : List Int} {x : Int} (h : x ∈ atF ls bus sv) : x ∈ sv := (List.mem_filter.1 h).1
end Go.Proofs.Ytcacaiakkfgdpaa
