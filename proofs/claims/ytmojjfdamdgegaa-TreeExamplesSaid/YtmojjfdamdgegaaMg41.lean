/- The text SpaP. -/
import Derived.Test.YtmojjfdamdgegaaMg40
/- The tree is a spanning forest: plain. -/
namespace Go.Proofs.Ytmojjfdamdgegaa
open Go.RowKit
set_option linter.unusedVariables false

/-- A list of lines that are there, in order. -/
def Asc (m : Nat) (ch : List Int) : Prop := outsB m ch = true
theorem asc_of {m : Nat} {ch : List Int} : outsB m ch = true ↔ ch.Pairwise (· < ·) ∧ ∀ x ∈ ch, 0 ≤ x ∧ x < m := by
  constructor
  · intro h
    exact ⟨((asc_iff ch).1 (outs_asc h)).1, fun x hx => ⟨((asc_iff ch).1 (outs_asc h)).2 x hx, outs_lt h x hx⟩⟩
  · rintro ⟨h1, h2⟩
    exact outs_of ((asc_iff ch).2 ⟨h1, fun x hx => (h2 x hx).1⟩) fun x hx => (h2 x hx).2
/-- The rest of the rest is the list. -/
theorem svc_svc {m : Nat} {ch : List Int} (h : outsB m ch = true) : svcL (svcL ch m) m = ch := by
  refine sorted_ext (svc_sorted (outs_svc h)) (asc_of.1 h).1 fun x => ?_
  rw [svc_mem (outs_svc h), svc_mem h]
  constructor
  · rintro ⟨a, b, c⟩
    exact Classical.byContradiction fun hn => c ⟨a, b, hn⟩
  · intro hx
    have := (asc_of.1 h).2 x hx
    exact ⟨this.1, this.2, fun hn => hn.2.2 hx⟩
/-- Without x. -/
theorem rest_union {m : Nat} {ch ch' : List Int} {x : Nat} (h : outsB m ch = true) (h' : outsB m ch' = true) (hx : x < m) (hm : ∀ y, y ∈ ch' ↔ y ∈ ch ∧ y ≠ (x : Int)) : unionL (svcL ch m) [(x : Int)] = svcL ch' m := by
  refine unionL_eq (svc_sorted h') fun y => ?_
  rw [svc_mem h', svc_mem h, List.mem_singleton, hm]
  constructor
  · rintro ⟨a, b, c⟩
    by_cases e : y = (x : Int)
    · exact .inr e
    · exact .inl ⟨a, b, fun hy => c ⟨hy, e⟩⟩
  · rintro (⟨a, b, c⟩ | rfl)
    · exact ⟨a, b, fun hy => c hy.1⟩
    · exact ⟨by omega, by omega, fun hy => hy.2 rfl⟩

section
set_option linter.unusedSectionVars false
variable {nb : Int} {ls : List Ln} (hc : checkE nb ls = 0)
include hc
theorem rest_ok {ch : List Int} (h : outsB ls.length ch = true) : outsE nb ls (svcL ch ls.length) = 0 := outs_make hc (outs_svc h)
/-- One line less: at most one island more; just one if its ends fall apart. -/
theorem less_one {ch ch' : List Int} {x : Nat} (h : outsB ls.length ch = true) (h' : outsB ls.length ch' = true) (hx : x < ls.length) (hm : ∀ y, y ∈ ch' ↔ y ∈ ch ∧ y ≠ (x : Int)) :
    cntL nb ls (svcL ch' ls.length) = cntL nb ls (svcL ch ls.length) + (if (ofL nb ls (svcL ch ls.length)).getD (ls.getD x (0, 0, 0, 0)).1.toNat 0 = (ofL nb ls (svcL ch ls.length)).getD (ls.getD x (0, 0, 0, 0)).2.1.toNat 0 ∧ (ofL nb ls (svcL ch' ls.length)).getD (ls.getD x (0, 0, 0, 0)).1.toNat 0 ≠ (ofL nb ls (svcL ch' ls.length)).getD (ls.getD x (0, 0, 0, 0)).2.1.toNat 0 then 1 else 0) := by
  have hv := (valid_of_check hc).ok x hx
  have hu := rest_union h h' hx hm
  have h1 := one_count (rest_ok hc h) hx (ls.getD x (0, 0, 0, 0)).1.toNat (ls.getD x (0, 0, 0, 0)).2.1.toNat (by omega) (by omega) (by omega) (by omega)
  rw [hu] at h1
  exact h1
theorem none_cnt : cntL nb ls (svcL [] ls.length) = nb := by
  have ho : outsB ls.length [] = true := by simp [outsB]
  have he := rest_ok hc ho
  rw [cntL_eq he]
  have hv := valid_of_check hc
  have key : ∀ k, k ≤ nb.toNat → cntTo (rootOf nb ls (svcL [] ls.length)) k = k := by
    intro k
    induction k with
    | zero => intro _; rfl
    | succ k ih =>
      intro hk
      rw [cntTo, ih (by omega)]
      have hF := finest_of he
      rw [svc_svc ho] at hF
      have hf := hF.factors (fun b => ((b : Nat) : Int)) (fun l hl => by simp [ends] at hl) k (by omega)
      have hf' : rootOf nb ls (svcL [] ls.length) k = k := by exact_mod_cast hf
      rw [if_pos hf']
  rw [key _ (Nat.le_refl _)]
  have := hv.lo
  omega
/-- Every line takes at most one island away. -/
theorem cnt_ge : ∀ (n : Nat) (ch : List Int), ch.length = n → outsB ls.length ch = true → nb - (n : Int) ≤ cntL nb ls (svcL ch ls.length) := by
  intro n
  induction n with
  | zero =>
    intro ch hl h
    obtain rfl : ch = [] := List.eq_nil_of_length_eq_zero hl
    rw [none_cnt hc]; omega
  | succ n ih =>
    intro ch hl h
    obtain ⟨ch', x, rfl⟩ : ∃ ch' x, ch = ch' ++ [x] := ⟨ch.dropLast, ch.getLast (by intro e; rw [e] at hl; simp at hl), (List.dropLast_concat_getLast _).symm⟩
    have ha := asc_of.1 h
    have hp := List.pairwise_append.1 ha.1
    have hx := ha.2 x (by simp)
    obtain ⟨j, rfl⟩ := Int.eq_ofNat_of_zero_le hx.1
    have h' : outsB ls.length ch' = true := asc_of.2 ⟨hp.1, fun y hy => ha.2 y (by simp [hy])⟩
    have hm : ∀ y, y ∈ ch' ↔ y ∈ ch' ++ [(j : Int)] ∧ y ≠ (j : Int) := fun y => by
      rw [List.mem_append, List.mem_singleton]
      constructor
      · intro hy
        have := hp.2.2 y hy (j : Int) (by simp)
        exact ⟨.inl hy, by omega⟩
      · rintro ⟨h1 | h1, h2⟩
        · exact h1
        · exact absurd h1 h2
    have h1 := less_one hc h h' (x := j) (by omega) hm
    have h2 := ih ch' (by simpa using hl) h'
    split at h1 <;> omega
end
end Go.Proofs.Ytmojjfdamdgegaa
