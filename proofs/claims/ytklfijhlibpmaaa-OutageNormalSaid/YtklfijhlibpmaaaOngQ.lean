/- Outages: what is joined is sorted, and no two neighbours join: plain. -/
import Derived.Test.YtklfijhlibpmaaaOngP
namespace Go.Proofs.Ytklfijhlibpmaaa
set_option linter.unusedVariables false

/-- b comes after a and does not touch it. -/
def ogSep (a b : Og) : Prop := a.1 < b.1 ∨ a.1 = b.1 ∧ (a.2.1 < b.2.1 ∨ a.2.1 = b.2.1 ∧ a.2.2.2 + 1 < b.2.2.1)
theorem ogMrg_mem : ∀ (l : List Og) (a : Og), (∀ b ∈ l, b.2.2.1 ≤ b.2.2.2) → a.2.2.1 ≤ a.2.2.2 → ∀ o ∈ ogMrg a l, o.2.2.1 ≤ o.2.2.2 := by
  intro l
  induction l with
  | nil => intro a _ ha o ho; simp [ogMrg] at ho; subst ho; exact ha
  | cons b l ih =>
    intro a hl ha o ho
    rw [ogMrg] at ho
    by_cases hj : ogJoin a b
    · rw [if_pos hj] at ho
      exact ih _ (fun c hc => hl c (by simp [hc])) (by show a.2.2.1 ≤ max a.2.2.2 b.2.2.2; omega) o ho
    · rw [if_neg hj] at ho
      rcases List.mem_cons.1 ho with rfl | ho
      · exact ha
      · exact ih b (fun c hc => hl c (by simp [hc])) (hl b (by simp)) o ho
/-- Whatever lies before all of a :: l without touching lies so before all that is joined. -/
theorem ogMrg_after : ∀ (l : List Og) (a z : Og), (a :: l).Pairwise ogLe → ogSep z a → ∀ o ∈ ogMrg a l, ogSep z o := by
  intro l
  induction l with
  | nil => intro a z _ hz o ho; simp [ogMrg] at ho; subst ho; exact hz
  | cons b l ih =>
    intro a z hp hz o ho
    obtain ⟨hp1, hp2⟩ := List.pairwise_cons.1 hp
    have hab := hp1 b (by simp)
    rw [ogMrg] at ho
    by_cases hj : ogJoin a b
    · rw [if_pos hj] at ho
      exact ih _ z (List.pairwise_cons.2 ⟨fun c hc => by have := hp1 c (by simp [hc]); unfold ogLe at *; exact this, (List.pairwise_cons.1 hp2).2⟩) (by unfold ogSep at *; exact hz) o ho
    · rw [if_neg hj] at ho
      rcases List.mem_cons.1 ho with rfl | ho
      · exact hz
      · exact ih b z hp2 (by unfold ogSep ogLe at *; omega) o ho
theorem ogMrg_sep : ∀ (l : List Og) (a : Og), (a :: l).Pairwise ogLe → (ogMrg a l).Pairwise ogSep := by
  intro l
  induction l with
  | nil => intro a _; simp [ogMrg]
  | cons b l ih =>
    intro a hp
    obtain ⟨hp1, hp2⟩ := List.pairwise_cons.1 hp
    have hab := hp1 b (by simp)
    rw [ogMrg]
    by_cases hj : ogJoin a b
    · rw [if_pos hj]
      exact ih _ (List.pairwise_cons.2 ⟨fun c hc => by have := hp1 c (by simp [hc]); unfold ogLe at *; exact this, (List.pairwise_cons.1 hp2).2⟩)
    · rw [if_neg hj]
      refine List.pairwise_cons.2 ⟨ogMrg_after l b a hp2 ?_, ih b hp2⟩
      unfold ogSep ogLe ogJoin at *
      omega
theorem ogNorm_sep {l : List Og} (hp : l.Pairwise ogLe) : (ogNorm l).Pairwise ogSep := by
  cases l with
  | nil => exact List.Pairwise.nil
  | cons a l => exact ogMrg_sep l a hp
end Go.Proofs.Ytklfijhlibpmaaa
