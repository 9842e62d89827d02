/- The lines in service as a set: plain. -/
import Derived.Test.YtmojjfdamdgegaaRefC
import Derived.Test.YtmojjfdamdgegaaUniP
namespace Go.Proofs.Ytmojjfdamdgegaa
open Go.RowKit
set_option linter.unusedVariables false

theorem mem_notIn (out : List Int) (k : Nat) (x : Int) : x ∈ notIn out k ↔ 0 ≤ x ∧ x < k ∧ x ∉ out := by
  induction k with
  | zero => simp [notIn]; omega
  | succ k ih =>
    unfold notIn
    by_cases h : hasB out (k : Int) = true
    · rw [if_pos h, ih]
      unfold hasB at h
      rw [decide_eq_true_eq] at h
      constructor
      · rintro ⟨a, b, c⟩; exact ⟨a, by omega, c⟩
      · rintro ⟨a, b, c⟩
        refine ⟨a, ?_, c⟩
        have : x ≠ (k : Int) := fun e => c (by rw [e]; exact h)
        omega
    · rw [if_neg h, List.mem_append, ih, List.mem_singleton]
      unfold hasB at h
      rw [decide_eq_true_eq] at h
      constructor
      · rintro (⟨a, b, c⟩ | rfl)
        · exact ⟨a, by omega, c⟩
        · exact ⟨by omega, by omega, h⟩
      · rintro ⟨a, b, c⟩
        by_cases e : x = (k : Int)
        · exact .inr e
        · exact .inl ⟨a, by omega, c⟩
theorem notIn_sorted (out : List Int) (k : Nat) : (notIn out k).Pairwise (· < ·) := by
  induction k with
  | zero => simp [notIn]
  | succ k ih =>
    unfold notIn
    split
    · exact ih
    · rw [List.pairwise_append]
      refine ⟨ih, by simp, fun x hx y hy => ?_⟩
      rw [List.mem_singleton] at hy
      subst hy
      exact ((mem_notIn out k x).1 hx).2.1
theorem svc_mem {m : Nat} {out : List Int} (h : outsB m out = true) (x : Int) : x ∈ svcL out m ↔ 0 ≤ x ∧ x < m ∧ x ∉ out := by rw [svcL_eq h]; exact mem_notIn out m x
theorem svc_sorted {m : Nat} {out : List Int} (h : outsB m out = true) : (svcL out m).Pairwise (· < ·) := by rw [svcL_eq h]; exact notIn_sorted out m
theorem svc_asc {m : Nat} {out : List Int} (h : outsB m out = true) : ascB (svcL out m) = true := (asc_iff _).2 ⟨svc_sorted h, fun x hx => ((svc_mem h x).1 hx).1⟩
theorem outs_asc {m : Nat} {out : List Int} (h : outsB m out = true) : ascB out = true := by
  unfold ascB
  rw [decide_eq_true_eq]
  intro i hi
  have := (of_decide_eq_true h) i hi
  exact ⟨this.1, this.2.2⟩
theorem outs_lt {m : Nat} {out : List Int} (h : outsB m out = true) : ∀ x ∈ out, x < m := by
  intro x hx
  obtain ⟨i, hi, rfl⟩ := List.getElem_of_mem hx
  have := ((of_decide_eq_true h) i hi).2.1
  rwa [getD_eq _ _ _ hi] at this
/-- An increasing list of numbers below m is a list of lines out of service. -/
theorem outs_of {m : Nat} {out : List Int} (h1 : ascB out = true) (h2 : ∀ x ∈ out, x < m) : outsB m out = true := by
  unfold outsB
  rw [decide_eq_true_eq]
  intro i hi
  have := (of_decide_eq_true h1) i hi
  refine ⟨this.1, ?_, this.2⟩
  rw [getD_eq _ _ _ hi]
  exact h2 _ (List.getElem_mem hi)
theorem svc_count (out : List Int) (k : Nat) : (svcL out k).length + svcN out k = k := by
  induction k with
  | zero => rfl
  | succ k ih =>
    by_cases h : svcN out k < out.length ∧ out.getD (svcN out k) 0 = (k : Int)
    · rw [(svc_hit h.1 h.2).1, (svc_hit h.1 h.2).2]; omega
    · rw [(svc_miss h).1, (svc_miss h).2]; simp; omega
theorem svcN_all {m : Nat} {out : List Int} (h : outsB m out = true) : svcN out m = out.length := by
  have hle := svcN_le out m
  by_cases e : svcN out m < out.length
  · have h2 := (svc_inv (of_decide_eq_true h) m).2.1 (svcN out m) (Nat.le_refl _) e
    have := outs_lt h (out.getD (svcN out m) 0) (by rw [getD_eq _ _ _ e]; exact List.getElem_mem e)
    omega
  · omega
theorem svc_length {m : Nat} {out : List Int} (h : outsB m out = true) : (svcL out m).length + out.length = m := by
  have := svc_count out m
  rw [svcN_all h] at this
  exact this
/-- 0, 1, .. -/
def rangeI (m : Nat) : List Int := (List.range m).map fun i : Nat => (i : Int)
theorem rangeI_length (m : Nat) : (rangeI m).length = m := by simp [rangeI]
theorem rangeI_getD (m i : Nat) (h : i < m) : (rangeI m).getD i 0 = (i : Int) := by
  rw [List.getD_eq_getElem?_getD, rangeI, List.getElem?_map, List.getElem?_range h]; rfl
theorem mem_rangeI (m : Nat) (x : Int) : x ∈ rangeI m ↔ 0 ≤ x ∧ x < m := by
  unfold rangeI
  rw [List.mem_map]
  constructor
  · rintro ⟨i, hi, rfl⟩
    rw [List.mem_range] at hi
    omega
  · rintro ⟨a, b⟩
    exact ⟨x.toNat, by rw [List.mem_range]; omega, by omega⟩
theorem rangeI_sorted (m : Nat) : (rangeI m).Pairwise (· < ·) := by
  unfold rangeI
  rw [List.pairwise_map]
  exact List.pairwise_lt_range.imp fun h => by omega
theorem svc_union {m : Nat} {out : List Int} (h : outsB m out = true) : unionL (svcL out m) out = rangeI m :=
  unionL_eq (rangeI_sorted m) fun x => by
    rw [mem_rangeI, svc_mem h]
    constructor
    · rintro ⟨a, b⟩
      by_cases hx : x ∈ out
      · exact .inr hx
      · exact .inl ⟨a, b, hx⟩
    · rintro (⟨a, b, _⟩ | hx)
      · exact ⟨a, b⟩
      · exact ⟨((asc_iff out).1 (outs_asc h)).2 x hx, outs_lt h x hx⟩
end Go.Proofs.Ytmojjfdamdgegaa
