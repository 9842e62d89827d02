/- Strictly increasing lists: union by sorting and dropping repeats. No program is named here. -/
import Derived.Test.YtklfijhlibpmaaaWords
import Derived.Lib.SlicesCompact
namespace Go.Proofs.Ytklfijhlibpmaaa
set_option linter.unusedVariables false

theorem sorted_ext : ∀ {l k : List Int}, l.Pairwise (· < ·) → k.Pairwise (· < ·) → (∀ x, x ∈ l ↔ x ∈ k) → l = k
  | [], [], _, _, _ => rfl
  | [], y :: k, _, _, h => by have := (h y).2 (by simp); simp at this
  | x :: l, [], _, _, h => by have := (h x).1 (by simp); simp at this
  | x :: l, y :: k, hl, hk, h => by
    rw [List.pairwise_cons] at hl hk
    have hxy : x = y := by
      have h1 := (h x).1 (by simp)
      have h2 := (h y).2 (by simp)
      rw [List.mem_cons] at h1 h2
      rcases h1 with h1 | h1
      · exact h1
      · rcases h2 with h2 | h2
        · exact h2.symm
        · have a1 := hk.1 x h1
          have a2 := hl.1 y h2
          omega
    subst hxy
    have : l = k := sorted_ext hl.2 hk.2 fun z => by
      constructor
      · intro hz
        have := (h z).1 (by simp [hz])
        rw [List.mem_cons] at this
        rcases this with rfl | h3
        · have := hl.1 _ hz; omega
        · exact h3
      · intro hz
        have := (h z).2 (by simp [hz])
        rw [List.mem_cons] at this
        rcases this with rfl | h3
        · have := hk.1 _ hz; omega
        · exact h3
    rw [this]

theorem compactUpTo_sorted (d : Array Int) (hs : ∀ i j, i ≤ j → j < d.size → d[i]! ≤ d[j]!) : ∀ m, m ≤ d.size →
    (Lib.compactUpTo d m).Pairwise (· < ·) ∧ (∀ x, x ∈ Lib.compactUpTo d m ↔ ∃ j, j < m ∧ d[j]! = x) ∧ (∀ x ∈ Lib.compactUpTo d m, 0 < m → x ≤ d[m - 1]!) := by
  intro m
  induction m with
  | zero => intro _; simp [Lib.compactUpTo]
  | succ m ih =>
    intro hm
    obtain ⟨h1, h2, h3⟩ := ih (by omega)
    rw [Lib.compactUpTo_succ]
    by_cases hk : Lib.keeps d m = true
    · rw [if_pos hk]
      have hlt : ∀ x ∈ Lib.compactUpTo d m, x < d[m]! := by
        intro x hx
        unfold Lib.keeps at hk
        rw [decide_eq_true_eq] at hk
        rcases hk with rfl | hne
        · simp [Lib.compactUpTo] at hx
        · by_cases h0 : m = 0
          · subst h0; simp [Lib.compactUpTo] at hx
          · have a1 := h3 x hx (by omega)
            have a2 := hs (m - 1) m (by omega) (by omega)
            omega
      refine ⟨?_, ?_, ?_⟩
      · rw [List.pairwise_append]
        refine ⟨h1, by simp, fun x hx y hy => ?_⟩
        simp at hy
        subst hy
        exact hlt x hx
      · intro x
        rw [List.mem_append, h2]
        constructor
        · rintro (⟨j, hj, e⟩ | h)
          · exact ⟨j, by omega, e⟩
          · simp at h; exact ⟨m, by omega, h.symm⟩
        · rintro ⟨j, hj, e⟩
          by_cases hjm : j < m
          · exact .inl ⟨j, hjm, e⟩
          · right
            obtain rfl : j = m := by omega
            simp [e]
      · intro x hx _
        rw [List.mem_append] at hx
        rcases hx with hx | hx
        · have := hlt x hx
          simp; omega
        · simp at hx; subst hx; simp
    · rw [if_neg hk, List.append_nil]
      have hk' : m ≠ 0 ∧ d[m]! = d[m - 1]! := by
        unfold Lib.keeps at hk
        rw [decide_eq_true_eq] at hk
        refine ⟨fun h => hk (.inl h), ?_⟩
        by_cases h : d[m]! = d[m - 1]!
        · exact h
        · exact absurd (.inr h) hk
      refine ⟨h1, ?_, ?_⟩
      · intro x
        rw [h2]
        constructor
        · rintro ⟨j, hj, e⟩; exact ⟨j, by omega, e⟩
        · rintro ⟨j, hj, e⟩
          by_cases hjm : j < m
          · exact ⟨j, hjm, e⟩
          · obtain rfl : j = m := by omega
            exact ⟨j - 1, by omega, by rw [← hk'.2]; exact e⟩
      · intro x hx _
        have := h3 x hx (by omega)
        simp
        omega

/-- The union as the program makes it. -/
def unionL (a b : List Int) : List Int := Lib.compact ((a ++ b).mergeSort fun x y => decide (x ≤ y))
theorem unionL_spec (a b : List Int) : (unionL a b).Pairwise (· < ·) ∧ ∀ x, x ∈ unionL a b ↔ x ∈ a ∨ x ∈ b := by
  have hs : ((a ++ b).mergeSort fun x y => decide (x ≤ y)).Pairwise (fun x y => decide (x ≤ y) = true) := List.pairwise_mergeSort (fun x y z h1 h2 => by simp at *; omega) (fun x y => by simp; omega) _
  have hm : ∀ x, x ∈ (a ++ b).mergeSort (fun x y => decide (x ≤ y)) ↔ x ∈ a ∨ x ∈ b := fun x => by rw [List.mem_mergeSort, List.mem_append]
  unfold unionL Lib.compact
  generalize (a ++ b).mergeSort (fun x y => decide (x ≤ y)) = zs at *
  have hsz : zs.toArray.size = zs.length := by simp
  have key := compactUpTo_sorted zs.toArray (fun i j hij hj => by
    have hj' : j < zs.length := by simpa using hj
    have e1 : zs.toArray[i]! = zs[i]'(by omega) := by simp [show i < zs.length by omega]
    have e2 : zs.toArray[j]! = zs[j] := by simp [hj']
    rw [e1, e2]
    rcases Nat.lt_or_ge i j with h | h
    · have := List.pairwise_iff_getElem.1 hs i j (by omega) hj' h
      simpa using this
    · obtain rfl : i = j := by omega
      exact Int.le_refl _) zs.length (by simp)
  refine ⟨key.1, fun x => ?_⟩
  rw [key.2.1, ← hm x, List.mem_iff_getElem]
  constructor
  · rintro ⟨j, hj, e⟩
    exact ⟨j, hj, by rw [← e]; simp [hj]⟩
  · rintro ⟨j, hj, e⟩
    exact ⟨j, hj, by rw [← e]; simp [hj]⟩
theorem unionL_eq {a b l : List Int} (hl : l.Pairwise (· < ·)) (h : ∀ x, x ∈ l ↔ x ∈ a ∨ x ∈ b) : unionL a b = l :=
  sorted_ext (unionL_spec a b).1 hl fun x => by rw [(unionL_spec a b).2, h]
theorem unionL_comm (a b : List Int) : unionL a b = unionL b a :=
  unionL_eq (unionL_spec b a).1 fun x => by rw [(unionL_spec b a).2]; exact Or.comm
theorem unionL_assoc (a b c : List Int) : unionL (unionL a b) c = unionL a (unionL b c) :=
  unionL_eq (unionL_spec a (unionL b c)).1 fun x => by rw [(unionL_spec a (unionL b c)).2, (unionL_spec b c).2, (unionL_spec a b).2, or_assoc]
theorem unionL_self {a : List Int} (h : a.Pairwise (· < ·)) : unionL a a = a := unionL_eq h fun x => by simp

/-- Not negative and strictly increasing. -/
def ascAt (l : List Int) (i : Nat) : Prop := 0 ≤ l.getD i 0 ∧ (0 < i → l.getD (i - 1) 0 < l.getD i 0)
instance (l : List Int) (i : Nat) : Decidable (ascAt l i) := by unfold ascAt; infer_instance
def ascB (l : List Int) : Bool := decide (∀ i, i < l.length → ascAt l i)
theorem asc_step {l : List Int} (h : ascB l = true) : ∀ j i, i < j → j < l.length → l.getD i 0 < l.getD j 0 := by
  unfold ascB at h
  rw [decide_eq_true_eq] at h
  intro j
  induction j with
  | zero => intro i hi; omega
  | succ j ih =>
    intro i hi hj
    have h1 := (h (j + 1) hj).2 (by omega)
    rw [Nat.add_sub_cancel] at h1
    rcases Nat.lt_or_ge i j with h2 | h2
    · have := ih i h2 (by omega)
      omega
    · obtain rfl : i = j := by omega
      exact h1
theorem asc_iff (l : List Int) : ascB l = true ↔ l.Pairwise (· < ·) ∧ ∀ x ∈ l, 0 ≤ x := by
  constructor
  · intro h
    refine ⟨?_, ?_⟩
    · rw [List.pairwise_iff_getElem]
      intro i j hi hj hij
      have := asc_step h j i hij hj
      rwa [getD_eq _ _ _ hi, getD_eq _ _ _ hj] at this
    · intro x hx
      obtain ⟨i, hi, rfl⟩ := List.getElem_of_mem hx
      unfold ascB at h
      rw [decide_eq_true_eq] at h
      have := (h i hi).1
      rwa [getD_eq _ _ _ hi] at this
  · rintro ⟨h1, h2⟩
    unfold ascB
    rw [decide_eq_true_eq]
    intro i hi
    refine ⟨by rw [getD_eq _ _ _ hi]; exact h2 _ (List.getElem_mem hi), fun h0 => ?_⟩
    rw [getD_eq _ _ _ hi, getD_eq _ _ _ (by omega)]
    exact List.pairwise_iff_getElem.1 h1 (i - 1) i (by omega) hi (by omega)
theorem asc_union {a b : List Int} (ha : ascB a = true) (hb : ascB b = true) : ascB (unionL a b) = true := by
  rw [asc_iff] at *
  refine ⟨(unionL_spec a b).1, fun x hx => ?_⟩
  rw [(unionL_spec a b).2] at hx
  rcases hx with h | h
  · exact ha.2 x h
  · exact hb.2 x h
theorem ascB_not {l : List Int} {i : Nat} (hi : i < l.length) (h : ¬ ascAt l i) : ascB l = false := by
  unfold ascB; simp only [decide_eq_false_iff_not]; exact fun hh => h (hh i hi)
/-- What Union answers. -/
def uniE (a b : List Int) : Int := if ascB a = true ∧ ascB b = true then 0 else 1
def uniL (a b : List Int) : List Int := if ascB a = true ∧ ascB b = true then unionL a b else []
end Go.Proofs.Ytklfijhlibpmaaa
