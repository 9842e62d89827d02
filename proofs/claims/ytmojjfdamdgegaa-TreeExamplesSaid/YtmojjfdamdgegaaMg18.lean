/- The text IslQ. -/
import Derived.Test.YtmojjfdamdgegaaMg1
/- What union and find come to: plain. -/
namespace Go.Proofs.Ytmojjfdamdgegaa
open Go.RowKit
set_option linter.unusedVariables false

theorem getD_set (p : List Nat) (i j x : Nat) (hi : i < p.length) : (p.set i x).getD j 0 = if i = j then x else p.getD j 0 := by
  rw [List.getD_eq_getElem?_getD, List.getElem?_set, List.getD_eq_getElem?_getD]
  by_cases h : i = j
  · rw [if_pos h, if_pos (by omega), if_pos h]; rfl
  · rw [if_neg h, if_neg h]

theorem findN_uni (p : List Nat) (hp : Par p) (x y : Nat) (hx : x < p.length) (hy : y < p.length) (b : Nat) :
    findN (uni p x y) b = if findN p b = max (findN p x) (findN p y) then min (findN p x) (findN p y) else findN p b := by
  have hM : max (findN p x) (findN p y) < p.length := by
    have := findN_le p x
    have := findN_le p y
    omega
  have hrM : ¬ p.getD (max (findN p x) (findN p y)) 0 < max (findN p x) (findN p y) := by
    rcases Nat.le_total (findN p x) (findN p y) with h | h
    · rw [Nat.max_eq_right h]; exact findN_is_root p y
    · rw [Nat.max_eq_left h]; exact findN_is_root p x
  have hrm : ¬ p.getD (min (findN p x) (findN p y)) 0 < min (findN p x) (findN p y) := by
    rcases Nat.le_total (findN p x) (findN p y) with h | h
    · rw [Nat.min_eq_left h]; exact findN_is_root p x
    · rw [Nat.min_eq_right h]; exact findN_is_root p y
  have hle : min (findN p x) (findN p y) ≤ max (findN p x) (findN p y) := by omega
  unfold uni
  generalize max (findN p x) (findN p y) = M at *
  generalize min (findN p x) (findN p y) = m at *
  induction b using Nat.strongRecOn with
  | _ b ih =>
    by_cases hb : b = M
    · subst hb
      rw [findN_root hrM, if_pos rfl]
      by_cases hlt : m < b
      · rw [findN_step (by rw [getD_set _ _ _ _ hM, if_pos rfl]; exact hlt), getD_set _ _ _ _ hM, if_pos rfl]
        exact findN_root (by rw [getD_set _ _ _ _ hM, if_neg (by omega)]; exact hrm)
      · obtain rfl : m = b := by omega
        exact findN_root (by rw [getD_set _ _ _ _ hM, if_pos rfl]; omega)
    · have e : (p.set M m).getD b 0 = p.getD b 0 := by rw [getD_set _ _ _ _ hM, if_neg (by omega)]
      by_cases hlt : p.getD b 0 < b
      · rw [findN_step (by rw [e]; exact hlt), e, findN_step hlt]
        exact ih _ hlt
      · rw [findN_root (by rw [e]; exact hlt), findN_root hlt, if_neg hb]

/-- r is the finest labelling that agrees at the ends of L: r agrees, and whatever agrees factors through r. -/
structure Finest (n : Nat) (L : List (Nat × Nat)) (r : Nat → Nat) : Prop where
  agrees : ∀ l ∈ L, r l.1 = r l.2
  factors : ∀ f : Nat → Int, (∀ l ∈ L, f l.1 = f l.2) → ∀ b, b < n → f (r b) = f b
  le : ∀ b, r b ≤ b

theorem finest_foldl (n : Nat) : ∀ (L K : List (Nat × Nat)) (p : List Nat), p.length = n → Par p → (∀ l ∈ L, l.1 < n ∧ l.2 < n) → Finest n K (findN p) →
    Finest n (K ++ L) (findN (L.foldl (fun p l => uni p l.1 l.2) p))
  | [], K, p, _, _, _, h => by simpa using h
  | l :: L, K, p, hl, hp, hL, h => by
    rw [List.foldl_cons, show K ++ l :: L = (K ++ [l]) ++ L by simp]
    have hx := (hL l (by simp)).1
    have hy := (hL l (by simp)).2
    have hu := findN_uni p hp l.1 l.2 (by omega) (by omega)
    refine finest_foldl n L (K ++ [l]) _ (by rw [uni_length]; exact hl) (par_uni hp _ _) (fun k hk => hL k (by simp [hk])) ⟨?_, ?_, fun b => findN_le _ b⟩
    · intro k hk
      rw [hu, hu]
      rcases List.mem_append.1 hk with hk | hk
      · rw [h.agrees k hk]
      · obtain rfl : k = l := by simpa using hk
        rcases Nat.le_total (findN p k.1) (findN p k.2) with hle | hle
        · rw [Nat.max_eq_right hle, Nat.min_eq_left hle, if_pos rfl]
          by_cases he : findN p k.1 = findN p k.2
          · rw [if_pos he]
          · rw [if_neg he]
        · rw [Nat.max_eq_left hle, Nat.min_eq_right hle, if_pos rfl]
          by_cases he : findN p k.2 = findN p k.1
          · rw [if_pos he]
          · rw [if_neg he]
    · intro f hf b hb
      have hK : ∀ k ∈ K, f k.1 = f k.2 := fun k hk => hf k (by simp [hk])
      have hfl := hf l (by simp)
      have h1 := h.factors f hK
      rw [hu]
      have hmm : f (max (findN p l.1) (findN p l.2)) = f (min (findN p l.1) (findN p l.2)) := by
        have a := h1 l.1 hx
        have c := h1 l.2 hy
        rcases Nat.le_total (findN p l.1) (findN p l.2) with hle | hle
        · rw [Nat.max_eq_right hle, Nat.min_eq_left hle]; omega
        · rw [Nat.max_eq_left hle, Nat.min_eq_right hle]; omega
      by_cases he : findN p b = max (findN p l.1) (findN p l.2)
      · rw [if_pos he, ← hmm, ← he]; exact h1 b hb
      · rw [if_neg he]; exact h1 b hb

theorem findN_range (n b : Nat) (h : b < n) : findN (List.range n) b = b := by
  apply findN_root
  rw [List.getD_eq_getElem?_getD, List.getElem?_range h]
  simp
theorem finest_uniAll (n : Nat) (L : List (Nat × Nat)) (hL : ∀ l ∈ L, l.1 < n ∧ l.2 < n) : Finest n L (findN (uniAll n L)) := by
  have h0 : Finest n [] (findN (List.range n)) := ⟨fun l hl => by simp at hl, fun f _ b hb => by rw [findN_range n b hb], fun b => findN_le _ b⟩
  have := finest_foldl n L [] (List.range n) (by simp) (par_range n) hL h0
  rw [List.nil_append] at this
  exact this

/-- How many roots lie below k. -/
def cntTo (r : Nat → Nat) : Nat → Nat
  | 0 => 0
  | k + 1 => if r k = k then cntTo r k + 1 else cntTo r k
theorem cntTo_le (r : Nat → Nat) (a b : Nat) (h : a ≤ b) : cntTo r a ≤ cntTo r b := by
  induction b with
  | zero => obtain rfl : a = 0 := by omega
            exact Nat.le_refl _
  | succ b ih =>
    by_cases e : a = b + 1
    · rw [e]; exact Nat.le_refl _
    · have := ih (by omega)
      rw [cntTo]
      split <;> omega
theorem cntTo_lt (r : Nat → Nat) (a b : Nat) (h : a < b) (hr : r a = a) : cntTo r a < cntTo r b := by
  have h1 : cntTo r (a + 1) = cntTo r a + 1 := by rw [cntTo, if_pos hr]
  have := cntTo_le r (a + 1) b h
  omega
theorem cntTo_inj (r : Nat → Nat) (a b : Nat) (ha : r a = a) (hb : r b = b) (h : cntTo r a = cntTo r b) : a = b := by
  rcases Nat.lt_trichotomy a b with h1 | h1 | h1
  · have := cntTo_lt r a b h1 ha; omega
  · exact h1
  · have := cntTo_lt r b a h1 hb; omega

theorem numTo_cnt (p : List Nat) (k : Nat) : (numTo p k).2 = cntTo (findN p) k := by
  induction k with
  | zero => rfl
  | succ k ih =>
    by_cases h : findN p k = k
    · rw [numTo_root h, cntTo, if_pos h, ← ih]
    · rw [numTo_other h, cntTo, if_neg h, ← ih]
theorem getD_append_lt {α : Type} (l k : List α) (i : Nat) (d : α) (h : i < l.length) : (l ++ k).getD i d = l.getD i d := by
  rw [List.getD_eq_getElem?_getD, List.getD_eq_getElem?_getD, List.getElem?_append_left h]
theorem getD_snoc {α : Type} (l : List α) (x d : α) : (l ++ [x]).getD l.length d = x := by
  rw [List.getD_eq_getElem?_getD, List.getElem?_append_right (Nat.le_refl _)]; simp
/-- Bus b has the number of its root: so many roots lie below it. -/
theorem numTo_at (p : List Nat) (k b : Nat) (h : b < k) : (numTo p k).1.getD b 0 = cntTo (findN p) (findN p b) := by
  induction k generalizing b with
  | zero => omega
  | succ k ih =>
    have hl := numTo_length p k
    by_cases hb : b = k
    · subst hb
      by_cases hr : findN p b = b
      · rw [numTo_root hr, show ((numTo p b).1 ++ [(numTo p b).2]).getD b 0 = ((numTo p b).1 ++ [(numTo p b).2]).getD (numTo p b).1.length 0 by rw [hl], getD_snoc, hr, numTo_cnt]
      · have hlt : findN p b < b := by have := findN_le p b; omega
        rw [numTo_other hr, show ((numTo p b).1 ++ [(numTo p b).1.getD (findN p b) 0]).getD b 0 = ((numTo p b).1 ++ [(numTo p b).1.getD (findN p b) 0]).getD (numTo p b).1.length 0 by rw [hl], getD_snoc, ih _ hlt, findN_idem]
    · have hbk : b < k := by omega
      by_cases hr : findN p k = k
      · rw [numTo_root hr, getD_append_lt _ _ _ _ (by omega), ih _ hbk]
      · rw [numTo_other hr, getD_append_lt _ _ _ _ (by omega), ih _ hbk]
end Go.Proofs.Ytmojjfdamdgegaa
