/- Valid lists of outages: plain. -/
import Derived.Test.YtklfijhlibpmaaaOgC
import Derived.Test.YtklfijhlibpmaaaOngT
namespace Go.Proofs.Ytklfijhlibpmaaa
set_option linter.unusedVariables false

theorem chkG_spec (f : Og → Int) (l : List Og) : ∀ i, (chkG f l i = (0, 0) ∧ ∀ o ∈ l, f o = 0) ∨ ∃ k, k < l.length ∧ chkG f l i = (((i + k : Nat) : Int), f (l.getD k (0, 0, 0, 0))) ∧ f (l.getD k (0, 0, 0, 0)) ≠ 0 ∧ ∀ o ∈ l.take k, f o = 0 := by
  induction l with
  | nil => intro i; left; simp [chkG]
  | cons a l ih =>
    intro i
    rw [chkG]
    by_cases h : f a = 0
    · rw [if_pos h]
      rcases ih (i + 1) with ⟨h1, h2⟩ | ⟨k, hk, h1, h2, h3⟩
      · left
        refine ⟨h1, fun o ho => ?_⟩
        rcases List.mem_cons.1 ho with rfl | ho
        · exact h
        · exact h2 o ho
      · right
        refine ⟨k + 1, by simp; omega, ?_, ?_, ?_⟩
        · rw [h1]; simp only [List.getD_cons_succ]; congr 1; omega
        · simpa using h2
        · intro o ho
          rw [List.take_succ_cons] at ho
          rcases List.mem_cons.1 ho with rfl | ho
          · exact h
          · exact h3 o ho
    · rw [if_neg h]
      right
      exact ⟨0, by simp, by simp, by simpa using h, by simp⟩
theorem chkG_zero {f : Og → Int} {l : List Og} (h : ∀ o ∈ l, f o = 0) : ∀ i, chkG f l i = (0, 0) := by
  induction l with
  | nil => intro i; rfl
  | cons a l ih =>
    intro i
    rw [chkG, if_pos (h a (by simp))]
    exact ih (fun o ho => h o (by simp [ho])) (i + 1)
theorem ogChk_ok {a b c : Int} {l : List Og} (hl : l.length ≤ 16) (h : ∀ o ∈ l, ogWr a b c o = 0) : ogChk a b c l = (0, 0) := by
  rw [ogChk, if_neg (by omega)]; exact chkG_zero h 0
theorem ogWr_vals (a b c : Int) (o : Og) : ogWr a b c o = 0 ∨ ogWr a b c o = 1 ∨ ogWr a b c o = 12 := by
  unfold ogWr
  generalize (if o.1 = 3 then b else a) = lim
  split
  · exact .inr (.inr rfl)
  · split
    · exact .inr (.inl rfl)
    · exact .inl rfl
/-- What Check says of a list, and of its parts. -/
theorem ogChk_cases (a b c : Int) (l : List Og) : (16 < l.length ∧ ogChk a b c l = (0, 5)) ∨ (l.length ≤ 16 ∧ ogChk a b c l = (0, 0) ∧ ∀ o ∈ l, ogWr a b c o = 0) ∨
    ∃ (k : Nat) (e : Int), l.length ≤ 16 ∧ k < l.length ∧ ogChk a b c l = ((k : Int), e) ∧ (e = 1 ∨ e = 12) ∧ ogChk a b c (l.take k) = (0, 0) ∧ ogChk a b c ((l.drop k).take 1) = (0, e) := by
  by_cases h16 : 16 < l.length
  · left; exact ⟨h16, by rw [ogChk, if_pos h16]⟩
  right
  have h16' : l.length ≤ 16 := by omega
  have e0 : ogChk a b c l = chkG (ogWr a b c) l 0 := by rw [ogChk, if_neg h16]
  rcases chkG_spec (ogWr a b c) l 0 with ⟨h1, h2⟩ | ⟨k, hk, h1, h2, h3⟩
  · left; exact ⟨h16', by rw [e0, h1], h2⟩
  · right
    rw [Nat.zero_add] at h1
    have he : ogWr a b c (l.getD k (0, 0, 0, 0)) = 1 ∨ ogWr a b c (l.getD k (0, 0, 0, 0)) = 12 := by
      rcases ogWr_vals a b c (l.getD k (0, 0, 0, 0)) with h | h | h
      · exact absurd h h2
      · exact .inl h
      · exact .inr h
    refine ⟨k, ogWr a b c (l.getD k (0, 0, 0, 0)), h16', hk, by rw [e0, h1], he, ogChk_ok (by simp; omega) h3, ?_⟩
    have e1 : (l.drop k).take 1 = [l.getD k (0, 0, 0, 0)] := by rw [List.drop_eq_getElem_cons hk, getD_eq l k _ hk]; rfl
    rw [e1, ogChk, if_neg (by simp), chkG, if_neg h2]
    rfl
theorem ogWr_ok {a b c : Int} {o : Og} (h : ogWr a b c o = 0) : (o.1 = 1 ∨ o.1 = 2 ∨ o.1 = 3) ∧ 0 ≤ o.2.1 ∧ (o.1 = 3 → o.2.1 < b) ∧ (o.1 ≠ 3 → o.2.1 < a) ∧ 0 ≤ o.2.2.1 ∧ o.2.2.1 ≤ o.2.2.2 ∧ o.2.2.2 < c := by
  unfold ogWr at h
  by_cases h3 : o.1 = 3
  · rw [if_pos h3] at h
    split at h
    · omega
    · split at h
      · omega
      · omega
  · rw [if_neg h3] at h
    split at h
    · omega
    · split at h
      · omega
      · omega
theorem ogWr_of {a b c : Int} {o : Og} (h1 : o.1 = 1 ∨ o.1 = 2 ∨ o.1 = 3) (h2 : 0 ≤ o.2.1) (h3 : o.1 = 3 → o.2.1 < b) (h4 : o.1 ≠ 3 → o.2.1 < a) (h5 : 0 ≤ o.2.2.1) (h6 : o.2.2.1 ≤ o.2.2.2) (h7 : o.2.2.2 < c) : ogWr a b c o = 0 := by
  unfold ogWr
  rw [if_neg (by omega)]
  by_cases h : o.1 = 3
  · rw [if_pos h, if_neg (by have := h3 h; omega)]
  · rw [if_neg h, if_neg (by have := h4 h; omega)]
/-- The normal form of a valid list is valid. -/
theorem valid_norm {a b c : Int} {l : List Og} (hl : l.length ≤ 16) (h : ∀ o ∈ l, ogWr a b c o = 0) : ogChk a b c (ogN l) = (0, 0) := by
  refine ogChk_ok (Nat.le_trans (ogN_length l) hl) fun o ho => ?_
  have hn := ogN_is l
  have hlv := hn.live o ho
  obtain ⟨p, hp, hc⟩ := (hn.same o.1 o.2.1 o.2.2.1).1 ⟨o, ho, rfl, rfl, Int.le_refl _, hlv⟩
  obtain ⟨q, hq, hd⟩ := (hn.same o.1 o.2.1 o.2.2.2).1 ⟨o, ho, rfl, rfl, hlv, Int.le_refl _⟩
  have w1 := ogWr_ok (h p hp)
  have w2 := ogWr_ok (h q hq)
  unfold ogCov at hc hd
  obtain ⟨c1, c2, c3, c4⟩ := hc
  obtain ⟨d1, d2, d3, d4⟩ := hd
  rw [c1, c2] at w1
  rw [d1, d2] at w2
  exact ogWr_of w1.1 w1.2.1 w1.2.2.1 w1.2.2.2.1 (by omega) hlv (by omega)
theorem valid_now {a b c h : Int} {l : List Og} (hv : ∀ o ∈ l, ogWr a b c o = 0) : ∀ x ∈ affL [1, 2] l h, 0 ≤ x ∧ x < a := by
  intro x hx
  rw [affL_mem] at hx
  obtain ⟨k, hk, o, ho, e1, e2, _, _⟩ := hx
  have w := ogWr_ok (hv o ho)
  rw [← e2]
  simp at hk
  exact ⟨w.2.1, w.2.2.2.1 (by omega)⟩
theorem valid_trips {a b c h : Int} {l : List Og} (hv : ∀ o ∈ l, ogWr a b c o = 0) : ∀ x ∈ affL [3] l h, 0 ≤ x ∧ x < b := by
  intro x hx
  rw [affL_mem] at hx
  obtain ⟨k, hk, o, ho, e1, e2, _, _⟩ := hx
  have w := ogWr_ok (hv o ho)
  rw [← e2]
  simp at hk
  exact ⟨w.2.1, w.2.2.1 (by omega)⟩
theorem valid_out {a b c h : Int} {l : List Og} (hv : ∀ o ∈ l, ogWr a b c o = 0) (hh : ¬ (0 ≤ h ∧ h < c)) (ks : List Int) : affL ks l h = [] := by
  rw [List.eq_nil_iff_forall_not_mem]
  intro x hx
  rw [affL_mem] at hx
  obtain ⟨k, hk, o, ho, _, _, e3, e4⟩ := hx
  have w := ogWr_ok (hv o ho)
  omega
theorem valid_half {a b c : Int} {l : List Og} (hl : l.length ≤ 16) (hv : ∀ o ∈ l, ogWr a b c o = 0) (k : Nat) : ogChk a b c (l.drop k) = (0, 0) :=
  ogChk_ok (by simp; omega) fun o ho => hv o (List.mem_of_mem_drop ho)
end Go.Proofs.Ytklfijhlibpmaaa
