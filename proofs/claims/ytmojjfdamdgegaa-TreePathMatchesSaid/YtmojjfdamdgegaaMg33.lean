/- The text RefQ. -/
import Derived.Test.YtmojjfdamdgegaaMg32
import Derived.Test.YtmojjfdamdgegaaMg16
/- What reach comes to, and that the reference's numbers are the program's: plain. -/
namespace Go.Proofs.Ytmojjfdamdgegaa
open Go.RowKit
set_option linter.unusedVariables false

/-- Pointwise order. -/
def LeB (a b : List Bool) : Prop := a.length = b.length ∧ ∀ i, a.getD i false = true → b.getD i false = true
theorem LeB.refl (a : List Bool) : LeB a a := ⟨rfl, fun _ h => h⟩
theorem LeB.trans {a b c : List Bool} (h : LeB a b) (k : LeB b c) : LeB a c := ⟨h.1.trans k.1, fun i hi => k.2 i (h.2 i hi)⟩
theorem LeB.antisymm {a b : List Bool} (h : LeB a b) (k : LeB b a) : a = b := by
  apply List.ext_getElem h.1
  intro i h1 h2
  have e1 := h.2 i
  have e2 := k.2 i
  rw [getD_eq _ _ _ h1, getD_eq _ _ _ h2] at e1 e2
  cases ha : a[i] <;> cases hb : b[i] <;> simp_all
theorem getD_setB (p : List Bool) (i j : Nat) (hi : i < p.length) : (p.set i true).getD j false = if i = j then true else p.getD j false := by
  rw [List.getD_eq_getElem?_getD, List.getElem?_set, List.getD_eq_getElem?_getD]
  by_cases h : i = j
  · rw [if_pos h, if_pos (by omega), if_pos h]; rfl
  · rw [if_neg h, if_neg h]
theorem le_set (p : List Bool) (i : Nat) : LeB p (p.set i true) := by
  refine ⟨by simp, fun j hj => ?_⟩
  rcases Nat.lt_or_ge i p.length with h | h
  · rw [getD_setB _ _ _ h]; split
    · rfl
    · exact hj
  · rw [List.set_eq_of_length_le h]; exact hj
theorem le_step (bs : List Bool) (l : Nat × Nat) : LeB bs (stepB bs l) := by
  unfold stepB
  split
  · exact (le_set _ _).trans (le_set _ _)
  · exact LeB.refl _
theorem le_pass (L : List (Nat × Nat)) (bs : List Bool) : LeB bs (passB bs L) := by
  unfold passB
  induction L generalizing bs with
  | nil => exact LeB.refl _
  | cons l L ih => rw [List.foldl_cons]; exact (le_step bs l).trans (ih _)
theorem stable_step (L : List (Nat × Nat)) (bs : List Bool) (h : passB bs L = bs) : ∀ l ∈ L, stepB bs l = bs := by
  unfold passB at h
  induction L generalizing bs with
  | nil => intro l hl; simp at hl
  | cons k L ih =>
    rw [List.foldl_cons] at h
    have h1 : LeB (stepB bs k) bs := by
      have := le_pass L (stepB bs k)
      unfold passB at this
      rwa [h] at this
    have e : stepB bs k = bs := h1.antisymm (le_step bs k)
    rw [e] at h
    intro l hl
    rcases List.mem_cons.1 hl with rfl | hl
    · exact e
    · exact ih bs h l hl

def cntB (bs : List Bool) : Nat := bs.count true
theorem cntB_le (bs : List Bool) : cntB bs ≤ bs.length := List.count_le_length
theorem cntB_mono {a b : List Bool} (h : LeB a b) : cntB a ≤ cntB b ∧ (a ≠ b → cntB a < cntB b) := by
  obtain ⟨hl, hi⟩ := h
  unfold cntB
  induction a generalizing b with
  | nil =>
    cases b with
    | nil => exact ⟨Nat.le_refl _, fun h => absurd rfl h⟩
    | cons y b => simp at hl
  | cons x a ih =>
    cases b with
    | nil => simp at hl
    | cons y b =>
      have ih' := ih (b := b) (by simpa using hl) (fun i h => by have := hi (i + 1); simpa using this (by simpa using h))
      have h0 := hi 0
      simp only [List.getD_cons_zero] at h0
      rw [List.count_cons, List.count_cons]
      cases x <;> cases y <;> simp at h0 ⊢
      · exact ⟨ih'.1, fun h => ih'.2 h⟩
      · exact ⟨by omega, by omega⟩
      · exact ⟨ih'.1, fun h => ih'.2 h⟩
theorem rounds_stable (bs : List Bool) (L : List (Nat × Nat)) (h1 : 1 ≤ cntB bs) (k : Nat) : passB (roundsB bs L k) L = roundsB bs L k ∨ k + 1 ≤ cntB (roundsB bs L k) := by
  induction k with
  | zero => right; exact h1
  | succ k ih =>
    rcases ih with ih | ih
    · left; rw [roundsB, ih, ih]
    · by_cases e : passB (roundsB bs L k) L = roundsB bs L k
      · left; rw [roundsB, e, e]
      · right
        have := (cntB_mono (le_pass L (roundsB bs L k))).2 (fun h => e h.symm)
        rw [roundsB]; omega
theorem le_rounds (bs : List Bool) (L : List (Nat × Nat)) (k : Nat) : LeB bs (roundsB bs L k) := by
  induction k with
  | zero => exact LeB.refl _
  | succ k ih => exact ih.trans (le_pass _ _)

theorem start_at (n b x : Nat) (hb : b < n) : ((List.replicate n false).set b true).getD x false = decide (b = x) := by
  rw [getD_setB _ _ _ (by simpa using hb)]
  by_cases h : b = x
  · rw [if_pos h]; simp [h]
  · rw [if_neg h, List.getD_eq_getElem?_getD, List.getElem?_replicate]
    split <;> simp [h]
theorem reachL_length (n : Nat) (L : List (Nat × Nat)) (b : Nat) : (reachL n L b).length = n := by unfold reachL; rw [roundsB_length]; simp
theorem reach_self (n : Nat) (L : List (Nat × Nat)) (b : Nat) (hb : b < n) : (reachL n L b).getD b false = true :=
  (le_rounds _ L n).2 b (by rw [start_at n b b hb]; simp)
theorem reach_closed (n : Nat) (L : List (Nat × Nat)) (b : Nat) (hb : b < n) (hL : ∀ l ∈ L, l.1 < n ∧ l.2 < n) : ∀ l ∈ L, (reachL n L b).getD l.1 false = (reachL n L b).getD l.2 false := by
  have hst : passB (reachL n L b) L = reachL n L b := by
    rcases rounds_stable ((List.replicate n false).set b true) L (by
      have : 0 < cntB ((List.replicate n false).set b true) := by
        unfold cntB
        rw [List.count_pos_iff]
        have h1 : b < ((List.replicate n false).set b true).length := by simpa using hb
        have := List.getElem_mem h1
        rwa [List.getElem_set_self] at this
      omega) n with h | h
    · exact h
    · exfalso
      have h2 := cntB_le (reachL n L b)
      rw [reachL_length] at h2
      unfold reachL at h2
      omega
  intro l hl
  have h := stable_step L _ hst l hl
  have hlen := reachL_length n L b
  have hlt := hL l hl
  generalize reachL n L b = bs at *
  unfold stepB at h
  by_cases hc : (bs.getD l.1 false || bs.getD l.2 false) = true
  · rw [if_pos hc] at h
    have e1 : ((bs.set l.1 true).set l.2 true).getD l.1 false = true := by
      rw [getD_setB _ _ _ (by simp; omega)]
      split
      · rfl
      · rw [getD_setB _ _ _ (by omega), if_pos rfl]
    have e2 : ((bs.set l.1 true).set l.2 true).getD l.2 false = true := by rw [getD_setB _ _ _ (by simp; omega), if_pos rfl]
    rw [h] at e1 e2
    rw [e1, e2]
  · simp only [Bool.not_eq_true, Bool.or_eq_false_iff] at hc
    rw [hc.1, hc.2]
theorem reach_sound (n : Nat) (L : List (Nat × Nat)) (b : Nat) (hb : b < n) (hL : ∀ l ∈ L, l.1 < n ∧ l.2 < n) (r : Nat → Nat) (hr : ∀ l ∈ L, r l.1 = r l.2) : ∀ x, (reachL n L b).getD x false = true → r x = r b := by
  have hstep : ∀ (bs : List Bool) (l : Nat × Nat), bs.length = n → l.1 < n → l.2 < n → r l.1 = r l.2 → (∀ x, bs.getD x false = true → r x = r b) → ∀ x, (stepB bs l).getD x false = true → r x = r b := by
    intro bs l hlen h1 h2 he hall x hx
    unfold stepB at hx
    by_cases hc : (bs.getD l.1 false || bs.getD l.2 false) = true
    · rw [if_pos hc, getD_setB _ _ _ (by simp; omega), getD_setB _ _ _ (by omega)] at hx
      have hb : r l.1 = r b := by
        rcases Bool.or_eq_true _ _ ▸ hc with h | h
        · exact hall _ h
        · rw [he]; exact hall _ h
      by_cases e2 : l.2 = x
      · rw [← e2, ← he]; exact hb
      · rw [if_neg e2] at hx
        by_cases e1 : l.1 = x
        · rw [← e1]; exact hb
        · rw [if_neg e1] at hx; exact hall x hx
    · rw [if_neg hc] at hx; exact hall x hx
  have hpass : ∀ (K : List (Nat × Nat)) (bs : List Bool), (∀ l ∈ K, l ∈ L) → bs.length = n → (∀ x, bs.getD x false = true → r x = r b) → ∀ x, (passB bs K).getD x false = true → r x = r b := by
    intro K
    induction K with
    | nil => intro bs _ _ h; exact h
    | cons k K ih =>
      intro bs hK hlen h
      have hk := hK k (by simp)
      have := ih (stepB bs k) (fun l hl => hK l (by simp [hl])) (by rw [stepB_length]; exact hlen) (hstep bs k hlen (hL k hk).1 (hL k hk).2 (hr k hk) h)
      simpa [passB] using this
  have hrounds : ∀ k x, (roundsB ((List.replicate n false).set b true) L k).getD x false = true → r x = r b := by
    intro k
    induction k with
    | zero =>
      intro x hx
      rw [roundsB, start_at n b x hb] at hx
      simp at hx
      rw [hx]
    | succ k ih => exact hpass L _ (fun l hl => hl) (by rw [roundsB_length]; simp) ih
  exact hrounds n

/-- The first bus that is reached. -/
def firstT (bs : List Bool) : Nat := bs.findIdx id
theorem firstT_spec {bs : List Bool} {r : Nat} (hr : bs.getD r false = true) (hm : ∀ x, bs.getD x false = true → r ≤ x) : firstT bs = r := by
  have hrl : r < bs.length := by
    rcases Nat.lt_or_ge r bs.length with h | h
    · exact h
    · rw [List.getD_eq_getElem?_getD, List.getElem?_eq_none h] at hr; simp at hr
  unfold firstT
  apply Nat.le_antisymm
  · apply Nat.le_of_not_lt
    intro hlt
    have h2 := List.not_of_lt_findIdx hlt
    rw [getD_eq _ _ _ hrl] at hr
    simp [hr] at h2
  · have hlt : bs.findIdx id < bs.length := List.findIdx_lt_length_of_exists ⟨bs[r], List.getElem_mem hrl, by rw [getD_eq _ _ _ hrl] at hr; simpa using hr⟩
    apply hm
    rw [getD_eq _ _ _ hlt]
    have := List.findIdx_getElem (w := hlt)
    simpa using this

theorem first_is_root {n : Nat} {L : List (Nat × Nat)} {r : Nat → Nat} (hF : Finest n L r) (hid : ∀ b, r (r b) = r b) (hL : ∀ l ∈ L, l.1 < n ∧ l.2 < n) (b : Nat) (hb : b < n) : firstT (reachL n L b) = r b := by
  have hc := reach_closed n L b hb hL
  have hf := hF.factors (fun x => if (reachL n L b).getD x false = true then 1 else 0) (fun l hl => by rw [hc l hl])
  have hrb : (reachL n L b).getD (r b) false = true := by
    have := hf b hb
    simp only [reach_self n L b hb, if_true] at this
    by_cases e : (reachL n L b).getD (r b) false = true
    · exact e
    · rw [if_neg e] at this; omega
  apply firstT_spec hrb
  intro x hx
  have := reach_sound n L b hb hL r hF.agrees x hx
  rw [← this]; exact hF.le x

/-- The numbers given by a root function. -/
def numR (r : Nat → Nat) : Nat → List Nat × Nat
  | 0 => ([], 0)
  | k + 1 => if r k = k then ((numR r k).1 ++ [(numR r k).2], (numR r k).2 + 1) else ((numR r k).1 ++ [(numR r k).1.getD (r k) 0], (numR r k).2)
theorem numR_congr (r s : Nat → Nat) (k : Nat) (h : ∀ b, b < k → r b = s b) : numR r k = numR s k := by
  induction k with
  | zero => rfl
  | succ k ih =>
    have e := ih (fun b hb => h b (by omega))
    simp only [numR]
    rw [e, h k (by omega)]
theorem numTo_numR (p : List Nat) (k : Nat) : numTo p k = numR (findN p) k := by
  induction k with
  | zero => rfl
  | succ k ih => simp only [numTo, numR, ih]
theorem numR_length (r : Nat → Nat) (k : Nat) : (numR r k).1.length = k := by
  induction k with
  | zero => rfl
  | succ k ih => unfold numR; split <;> simp [ih]
theorem numR_le (r : Nat → Nat) (k : Nat) : (numR r k).2 ≤ k := by
  induction k with
  | zero => exact Nat.le_refl _
  | succ k ih =>
    unfold numR
    split
    · show (numR r k).2 + 1 ≤ _; omega
    · show (numR r k).2 ≤ _; omega
theorem numR_root {r : Nat → Nat} {k : Nat} (h : r k = k) : numR r (k + 1) = ((numR r k).1 ++ [(numR r k).2], (numR r k).2 + 1) := by rw [numR, if_pos h]
theorem numR_other {r : Nat → Nat} {k : Nat} (h : r k ≠ k) : numR r (k + 1) = ((numR r k).1 ++ [(numR r k).1.getD (r k) 0], (numR r k).2) := by rw [numR, if_neg h]

/-- The reference's roots. -/
def refRoot (n : Nat) (ls : List Ln) (out : List Int) (b : Nat) : Nat := firstT (reachL n (ends ls (notIn out ls.length)) b)
theorem refRoot_eq {nb : Int} {ls : List Ln} {out : List Int} (he : outsE nb ls out = 0) (b : Nat) (hb : b < nb.toNat) : refRoot nb.toNat ls out b = rootOf nb ls out b := by
  have hF := finest_of he
  have hL := ends_lt (valid_of_check (check_of_outs he).1) _ (svcL_range out ls.length)
  unfold refRoot
  rw [← svcL_eq (check_of_outs he).2]
  exact first_is_root hF (rootOf_idem nb ls out) hL b hb
theorem refOf_eq {nb : Int} {ls : List Ln} {out : List Int} (he : outsE nb ls out = 0) : (numR (refRoot nb.toNat ls out) nb.toNat).1 = ofN nb ls out := by
  unfold ofN
  rw [numTo_numR, numR_congr _ (rootOf nb ls out) _ (fun b hb => refRoot_eq he b hb)]
  rfl
end Go.Proofs.Ytmojjfdamdgegaa
