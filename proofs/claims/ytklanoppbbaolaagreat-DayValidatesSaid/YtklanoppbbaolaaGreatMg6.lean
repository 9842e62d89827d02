/- Texts in one: OngP, OngQ. -/
/- Outages: the joining of a sorted list, and the hours it covers: plain. -/
namespace Go.Proofs.YtklanoppbbaolaaGreat
set_option linter.unusedSimpArgs false
set_option linter.unusedVariables false

/-- An outage: kind, which, from, to. -/
abbrev Og := Int × Int × Int × Int
/-- Does b, which does not start before a, join a? -/
def ogJoin (a b : Og) : Prop := a.1 = b.1 ∧ a.2.1 = b.2.1 ∧ (b.2.2.1 ≤ a.2.2.2 ∨ b.2.2.1 - 1 = a.2.2.2)
instance (a b : Og) : Decidable (ogJoin a b) := by unfold ogJoin; infer_instance
/-- The order of the normal form. -/
def ogLe (a b : Og) : Prop := a.1 < b.1 ∨ a.1 = b.1 ∧ (a.2.1 < b.2.1 ∨ a.2.1 = b.2.1 ∧ a.2.2.1 ≤ b.2.2.1)
theorem ogLe.trans {a b c : Og} (h : ogLe a b) (k : ogLe b c) : ogLe a c := by unfold ogLe at *; omega
/-- Outage o of subject (k, x) covers hour h. -/
def ogCov (o : Og) (k x h : Int) : Prop := o.1 = k ∧ o.2.1 = x ∧ o.2.2.1 ≤ h ∧ h ≤ o.2.2.2
/-- a, and after it l, joined. -/
def ogMrg : Og → List Og → List Og
  | a, [] => [a]
  | a, b :: l => if ogJoin a b then ogMrg (a.1, a.2.1, a.2.2.1, max a.2.2.2 b.2.2.2) l else a :: ogMrg b l
def ogNorm : List Og → List Og
  | [] => []
  | a :: l => ogMrg a l
theorem ogMrg_cov (k x h : Int) : ∀ (l : List Og) (a : Og), a.2.2.1 ≤ a.2.2.2 → (∀ b ∈ l, b.2.2.1 ≤ b.2.2.2) → (a :: l).Pairwise ogLe → ((∃ o ∈ ogMrg a l, ogCov o k x h) ↔ ∃ o ∈ a :: l, ogCov o k x h) := by
  intro l
  induction l with
  | nil => intro a _ _ _; rfl
  | cons b l ih =>
    intro a ha hl hp
    have hb := hl b (by simp)
    obtain ⟨hp1, hp2⟩ := List.pairwise_cons.1 hp
    have hab := hp1 b (by simp)
    rw [ogMrg]
    by_cases hj : ogJoin a b
    · rw [if_pos hj, ih _ (by show a.2.2.1 ≤ max a.2.2.2 b.2.2.2; omega) (fun c hc => hl c (by simp [hc])) (List.pairwise_cons.2 ⟨fun c hc => by have := hp1 c (by simp [hc]); unfold ogLe at *; exact this, (List.pairwise_cons.1 hp2).2⟩)]
      have key : ogCov (a.1, a.2.1, a.2.2.1, max a.2.2.2 b.2.2.2) k x h ↔ ogCov a k x h ∨ ogCov b k x h := by
        unfold ogCov ogJoin ogLe at *
        simp only
        omega
      simp only [List.mem_cons, exists_eq_or_imp]
      rw [key, or_assoc]
    · rw [if_neg hj]
      have := ih b hb (fun c hc => hl c (by simp [hc])) hp2
      simp only [List.mem_cons, exists_eq_or_imp] at this ⊢
      rw [this]
/-- The normal form of a sorted list covers the same hours. -/
theorem ogNorm_cov {l : List Og} (hl : ∀ b ∈ l, b.2.2.1 ≤ b.2.2.2) (hp : l.Pairwise ogLe) (k x h : Int) : (∃ o ∈ ogNorm l, ogCov o k x h) ↔ ∃ o ∈ l, ogCov o k x h := by
  cases l with
  | nil => rfl
  | cons a l => exact ogMrg_cov k x h l a (hl a (by simp)) (fun b hb => hl b (by simp [hb])) hp
end Go.Proofs.YtklanoppbbaolaaGreat
/- Outages: what is joined is sorted, and no two neighbours join: plain. -/
namespace Go.Proofs.YtklanoppbbaolaaGreat
set_option linter.unusedSimpArgs false
set_option linter.unusedVariables false

/-- b comes after a and does not touch it. -/
def ogSep (a b : Og) : Prop := a.1 < b.1 ∨ a.1 = b.1 ∧ (a.2.1 < b.2.1 ∨ a.2.1 = b.2.1 ∧ a.2.2.2 + 1 < b.2.2.1)
theorem ogMrg_mem : ∀ (l : List Og) (a : Og), (∀ b ∈ l, b.2.2.1 ≤ b.2.2.2) → a.2.2.1 ≤ a.2.2.2 → ∀ o ∈ ogMrg a l, o.2.2.1 ≤ o.2.2.2 := by
  intro l
  induction l with
  | nil => intro a _ ha o ho; simp [ogMrg] at ho; subst ho; exact ha
  | cons b l ih =>
    intro a hl ha o ho
    rw [ogMrg] at ho
    by_cases hj : ogJoin a b
    · rw [if_pos hj] at ho
      exact ih _ (fun c hc => hl c (by simp [hc])) (by show a.2.2.1 ≤ max a.2.2.2 b.2.2.2; omega) o ho
    · rw [if_neg hj] at ho
      rcases List.mem_cons.1 ho with rfl | ho
      · exact ha
      · exact ih b (fun c hc => hl c (by simp [hc])) (hl b (by simp)) o ho
/-- Whatever lies before all of a :: l without touching lies so before all that is joined. -/
theorem ogMrg_after : ∀ (l : List Og) (a z : Og), (a :: l).Pairwise ogLe → ogSep z a → ∀ o ∈ ogMrg a l, ogSep z o := by
  intro l
  induction l with
  | nil => intro a z _ hz o ho; simp [ogMrg] at ho; subst ho; exact hz
  | cons b l ih =>
    intro a z hp hz o ho
    obtain ⟨hp1, hp2⟩ := List.pairwise_cons.1 hp
    have hab := hp1 b (by simp)
    rw [ogMrg] at ho
    by_cases hj : ogJoin a b
    · rw [if_pos hj] at ho
      exact ih _ z (List.pairwise_cons.2 ⟨fun c hc => by have := hp1 c (by simp [hc]); unfold ogLe at *; exact this, (List.pairwise_cons.1 hp2).2⟩) (by unfold ogSep at *; exact hz) o ho
    · rw [if_neg hj] at ho
      rcases List.mem_cons.1 ho with rfl | ho
      · exact hz
      · exact ih b z hp2 (by unfold ogSep ogLe at *; omega) o ho
theorem ogMrg_sep : ∀ (l : List Og) (a : Og), (a :: l).Pairwise ogLe → (ogMrg a l).Pairwise ogSep := by
  intro l
  induction l with
  | nil => intro a _; simp [ogMrg]
  | cons b l ih =>
    intro a hp
    obtain ⟨hp1, hp2⟩ := List.pairwise_cons.1 hp
    have hab := hp1 b (by simp)
    rw [ogMrg]
    by_cases hj : ogJoin a b
    · rw [if_pos hj]
      exact ih _ (List.pairwise_cons.2 ⟨fun c hc => by have := hp1 c (by simp [hc]); unfold ogLe at *; exact this, (List.pairwise_cons.1 hp2).2⟩)
    · rw [if_neg hj]
      refine List.pairwise_cons.2 ⟨ogMrg_after l b a hp2 ?_, ih b hp2⟩
      unfold ogSep ogLe ogJoin at *
      omega
theorem ogNorm_sep {l : List Og} (hp : l.Pairwise ogLe) : (ogNorm l).Pairwise ogSep := by
  cases l with
  | nil => exact List.Pairwise.nil
  | cons a l => exact ogMrg_sep l a hp
end Go.Proofs.YtklanoppbbaolaaGreat
