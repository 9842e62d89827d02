/- Rows read; and what Members comes to: plain. -/
import Derived.Test.YtkncmhcobbjoiaaMemb
namespace Go.Proofs.Ytkncmhcobbjoiaa
open Go.RowKit
set_option linter.unusedVariables false

/-- The slice address A holds these rows, in blocks below B. -/
def RowsR (w : World) (B : Nat) (A : Option Addr) (rows : List (List Int)) : Prop :=
  0 < rows.length → ∃ b off, A = some ⟨b, off, none⟩ ∧ b < B ∧ ∀ i, i < rows.length → ∃ Ai ci, w.cell? ⟨b, off + i, none⟩ = some (.slice Ai (rows.getD i []).length ci) ∧ IntsR w B Ai (rows.getD i [])
theorem RowsR.upto {w w' : World} {A : Option Addr} {rows : List (List Int)} (h : RowsR w w.heap.size A rows) (hb : Below w.heap.size w w') : RowsR w' w'.heap.size A rows := fun hn => by
  obtain ⟨b, off, e, hlt, hc⟩ := h hn
  refine ⟨b, off, e, Nat.lt_of_lt_of_le hlt hb.size, fun i hi => ?_⟩
  obtain ⟨Ai, ci, h1, h2⟩ := hc i hi
  exact ⟨Ai, ci, (hb.cell hlt).trans h1, h2.upto hb⟩
theorem RowsOwn.read {w : World} {base : Nat} {v : Value} {rows : List (List Int)} (h : RowsOwn w base v rows) : ∃ A c, v = .slice A rows.length c ∧ RowsR w w.heap.size A rows := by
  obtain ⟨vs, h1, h2, h3, _⟩ := h
  obtain ⟨A, c, rfl⟩ := own_slice h2
  refine ⟨A, c, rfl, fun hn => ?_⟩
  obtain ⟨g, c', e, hg, _⟩ := own_slice_pos h2 hn
  simp only [Value.slice.injEq] at e
  obtain ⟨rfl, _, rfl⟩ := e
  refine ⟨g, 0, rfl, hg, fun i hi => ?_⟩
  have hr : rows[i]? = some (rows.getD i []) := by rw [List.getD_eq_getElem?_getD, List.getElem?_eq_getElem hi]; rfl
  obtain ⟨u, hu, ho⟩ := h3 i _ hr
  obtain ⟨Ai, ci, rfl, hI⟩ := ownsRow_ints ho
  exact ⟨Ai, ci, by rw [Nat.zero_add]; exact (h2.cellAt i (by omega)).trans hu, hI⟩

theorem memTo_new {l : List Int} {k : Nat} (h : l.getD k 0 = ((memTo l k).length : Int)) : memTo l (k + 1) = memTo l k ++ [[(k : Int)]] := by
  rw [memTo, memPut, memGrow, if_pos h, h, Int.toNat_natCast]
  rw [List.getD_eq_getElem?_getD, List.getElem?_append_right (Nat.le_refl _)]
  simp [List.set_append_right]
theorem memTo_old {l : List Int} {k x : Nat} (h : l.getD k 0 = (x : Int)) (hx : x < (memTo l k).length) : memTo l (k + 1) = (memTo l k).set x ((memTo l k).getD x [] ++ [(k : Int)]) := by
  rw [memTo, memPut, memGrow, if_neg (by omega), h, Int.toNat_natCast]

/-- What the rows and the first buses are after k buses. -/
structure Mem (l refs : List Int) (rows : List (List Int)) (k : Nat) : Prop where
  len : rows.length = refs.length
  first : ∀ i, i < rows.length → 0 < (rows.getD i []).length ∧ (rows.getD i []).getD 0 0 = refs.getD i 0
  refs_lt : ∀ i, i < refs.length → 0 ≤ refs.getD i 0 ∧ refs.getD i 0 < k
  rising : ∀ i, 0 < i → i < refs.length → refs.getD (i - 1) 0 < refs.getD i 0
  row : ∀ i, i < rows.length → ∀ j, j < (rows.getD i []).length → 0 ≤ (rows.getD i []).getD j 0 ∧ (rows.getD i []).getD j 0 < k ∧ l.getD ((rows.getD i []).getD j 0).toNat 0 = (i : Int) ∧ (0 < j → (rows.getD i []).getD (j - 1) 0 < (rows.getD i []).getD j 0)
  sum : (rows.map List.length).sum = k

theorem getD_append_left {α : Type} (a b : List α) (i : Nat) (d : α) (h : i < a.length) : (a ++ b).getD i d = a.getD i d := by
  rw [List.getD_eq_getElem?_getD, List.getD_eq_getElem?_getD, List.getElem?_append_left h]
theorem getD_append_at {α : Type} (a : List α) (x d : α) (i : Nat) (h : i = a.length) : (a ++ [x]).getD i d = x := by
  subst h; rw [List.getD_eq_getElem?_getD, List.getElem?_append_right (Nat.le_refl _)]; simp
theorem getD_setL {α : Type} (a : List α) (i j : Nat) (x d : α) (h : i < a.length) : (a.set i x).getD j d = if i = j then x else a.getD j d := by
  rw [List.getD_eq_getElem?_getD, List.getElem?_set, List.getD_eq_getElem?_getD]
  by_cases e : i = j
  · rw [if_pos e, if_pos (by omega), if_pos e]; rfl
  · rw [if_neg e, if_neg e]
theorem sum_set (a : List (List Int)) (i : Nat) (r : List Int) (x : Int) (h : i < a.length) (hr : a.getD i [] = r) : ((a.set i (r ++ [x])).map List.length).sum = (a.map List.length).sum + 1 := by
  induction a generalizing i with
  | nil => simp at h
  | cons y a ih =>
    cases i with
    | zero =>
      simp at hr
      subst hr
      simp
      omega
    | succ i =>
      have := ih i (by simpa using h) (by simpa using hr)
      simp at this ⊢
      omega

theorem mem_to {l : List Int} (hn : Numb l) (k : Nat) (hk : k ≤ l.length) : Mem l (refsTo l k) (memTo l k) k := by
  induction k with
  | zero => exact ⟨rfl, fun i hi => by simp [memTo] at hi, fun i hi => by simp [refsTo] at hi, fun i _ hi => by simp [refsTo] at hi, fun i hi => by simp [memTo] at hi, rfl⟩
  | succ k ih =>
    obtain ⟨h1, h2, h3, h4, h5, h6⟩ := ih (by omega)
    obtain ⟨n0, n1⟩ := hn k (by omega)
    rw [← h1] at n1
    by_cases hnew : l.getD k 0 = ((memTo l k).length : Int)
    · rw [memTo_new hnew, refsTo, if_pos (by rw [← h1]; exact hnew)]
      generalize memTo l k = m at *
      generalize refsTo l k = q at *
      refine ⟨by simp [h1], ?_, ?_, ?_, ?_, by simp [h6]⟩
      · intro i hi
        simp at hi
        by_cases e : i < m.length
        · rw [getD_append_left _ _ _ _ e, getD_append_left _ _ _ _ (by omega)]; exact h2 i e
        · rw [getD_append_at _ _ _ _ (by omega), getD_append_at _ _ _ _ (by omega)]; simp
      · intro i hi
        simp at hi
        by_cases e : i < q.length
        · rw [getD_append_left _ _ _ _ e]; have := h3 i e; omega
        · rw [getD_append_at _ _ _ _ (by omega)]; omega
      · intro i h0 hi
        simp at hi
        by_cases e : i < q.length
        · rw [getD_append_left _ _ _ _ e, getD_append_left _ _ _ _ (by omega)]; exact h4 i h0 e
        · rw [getD_append_at q _ _ i (by omega), getD_append_left _ _ _ _ (by omega)]; have := h3 (i - 1) (by omega); omega
      · intro i hi j hj
        simp at hi
        by_cases e : i < m.length
        · rw [getD_append_left _ _ _ _ e] at hj ⊢
          have := h5 i e j hj
          exact ⟨this.1, by omega, this.2.2⟩
        · rw [getD_append_at _ _ _ _ (by omega)] at hj ⊢
          simp at hj
          subst hj
          obtain rfl : i = m.length := by omega
          exact ⟨by simp, by simp; omega, by simpa using hnew, by omega⟩
    · obtain ⟨x, hx⟩ := Int.eq_ofNat_of_zero_le n0
      have hxl : x < (memTo l k).length := by omega
      rw [memTo_old hx hxl, refsTo, if_neg (by rw [← h1]; exact hnew)]
      generalize memTo l k = m at *
      generalize refsTo l k = q at *
      refine ⟨by simp [h1], ?_, ?_, h4, ?_, ?_⟩
      · intro i hi
        simp at hi
        rw [getD_setL _ _ _ _ _ hxl]
        have := h2 i hi
        split
        · rename_i e
          subst e
          exact ⟨by simp, by rw [getD_append_left _ _ _ _ this.1]; exact this.2⟩
        · exact this
      · intro i hi; have := h3 i hi; omega
      · intro i hi j hj
        simp at hi
        rw [getD_setL _ _ _ _ _ hxl] at hj ⊢
        have hrow := h5 i hi
        split at hj
        · rename_i e
          rw [if_pos e]
          subst e
          simp at hj
          by_cases e2 : j < (m.getD x []).length
          · rw [getD_append_left _ _ _ _ e2]
            have := hrow j e2
            refine ⟨this.1, by omega, this.2.2.1, fun h0 => ?_⟩
            rw [getD_append_left _ _ _ _ (by omega)]
            exact this.2.2.2 h0
          · have hj2 : j = (m.getD x []).length := by
              rw [List.getD_eq_getElem?_getD] at e2 ⊢; omega
            rw [getD_append_at _ _ _ _ hj2]
            refine ⟨by omega, by omega, by rw [Int.toNat_natCast]; exact hx, fun h0 => ?_⟩
            rw [getD_append_left _ _ _ _ (by omega)]
            have := (hrow (j - 1) (by omega)).2.1
            exact this
        · rename_i e
          rw [if_neg e]
          have := hrow j hj
          exact ⟨this.1, by omega, this.2.2⟩
      · rw [sum_set m x _ _ hxl rfl, h6]
end Go.Proofs.Ytkncmhcobbjoiaa
