/- Outages: the joining, one outage after another: plain. -/
import Derived.Test.YtklfijhlibpmaaaOgW
namespace Go.Proofs.Ytklfijhlibpmaaa
set_option linter.unusedVariables false

/-- a, joined with o. -/
def ogMax (a o : Og) : Og := (a.1, a.2.1, a.2.2.1, max a.2.2.2 o.2.2.2)
def ogStep (acc : List Og) (o : Og) : List Og :=
  if 0 < acc.length ∧ ogJoin (acc.getD (acc.length - 1) (0, 0, 0, 0)) o then acc.set (acc.length - 1) (ogMax (acc.getD (acc.length - 1) (0, 0, 0, 0)) o) else acc ++ [o]
def ogTo (ts : List Og) (k : Nat) : List Og := (ts.take k).foldl ogStep []
theorem ogTo_zero (ts : List Og) : ogTo ts 0 = [] := rfl
theorem ogTo_succ (ts : List Og) (k : Nat) (hk : k < ts.length) : ogTo ts (k + 1) = ogStep (ogTo ts k) (ts.getD k (0, 0, 0, 0)) := by
  unfold ogTo
  rw [List.take_succ_eq_append_getElem hk, List.foldl_append, getD_eq ts k _ hk]
  rfl
theorem ogStep_snoc (p : List Og) (a o : Og) : ogStep (p ++ [a]) o = if ogJoin a o then p ++ [ogMax a o] else p ++ [a] ++ [o] := by
  have e1 : (p ++ [a]).length - 1 = p.length := by simp
  have e2 : (p ++ [a]).getD p.length (0, 0, 0, 0) = a := by simp
  have e3 : (p ++ [a]).set p.length (ogMax a o) = p ++ [ogMax a o] := by simp
  unfold ogStep
  rw [e1, e2, e3]
  by_cases h : ogJoin a o
  · rw [if_pos ⟨by simp, h⟩, if_pos h]
  · rw [if_neg (fun h' => h h'.2), if_neg h]
theorem ogFold : ∀ (l p : List Og) (a : Og), l.foldl ogStep (p ++ [a]) = p ++ ogMrg a l := by
  intro l
  induction l with
  | nil => intro p a; rfl
  | cons b l ih =>
    intro p a
    rw [List.foldl_cons, ogStep_snoc, ogMrg]
    by_cases h : ogJoin a b
    · rw [if_pos h, if_pos h, ih]; rfl
    · rw [if_neg h, if_neg h, ih]; simp
theorem ogTo_all (ts : List Og) : ogTo ts ts.length = ogNorm ts := by
  unfold ogTo
  rw [List.take_length]
  cases ts with
  | nil => rfl
  | cons a l =>
    have := ogFold l [] a
    simpa [ogStep, ogNorm] using this
theorem ogStep_length (acc : List Og) (o : Og) : (ogStep acc o).length ≤ acc.length + 1 := by
  unfold ogStep
  split <;> simp
theorem ogTo_length (ts : List Og) : ∀ k, k ≤ ts.length → (ogTo ts k).length ≤ k := by
  intro k
  induction k with
  | zero => intro _; exact Nat.le_refl _
  | succ k ih =>
    intro hk
    rw [ogTo_succ ts k (by omega)]
    have := ogStep_length (ogTo ts k) (ts.getD k (0, 0, 0, 0))
    have := ih (by omega)
    omega
theorem ogMax_b {a o : Og} (h : OgB a) (h' : OgB o) : OgB (ogMax a o) := by
  unfold OgB ogMax at *
  simp only
  omega
theorem ogStep_b {acc : List Og} {o : Og} (h : OgBs acc) (h' : OgB o) : OgBs (ogStep acc o) := by
  unfold ogStep
  split
  · intro x hx
    rcases List.mem_or_eq_of_mem_set hx with hx | rfl
    · exact h x hx
    · exact ogMax_b (h.at_ _) h'
  · intro x hx
    rcases List.mem_append.1 hx with hx | hx
    · exact h x hx
    · rw [List.mem_singleton.1 hx]; exact h'
theorem ogTo_b {ts : List Og} (h : OgBs ts) : ∀ k, k ≤ ts.length → OgBs (ogTo ts k) := by
  intro k
  induction k with
  | zero => intro _ x hx; simp [ogTo] at hx
  | succ k ih =>
    intro hk
    rw [ogTo_succ ts k (by omega)]
    exact ogStep_b (ih (by omega)) (h.at_ k)
theorem ogN_b {l : List Og} (h : OgBs l) : OgBs (ogN l) := by
  have e : ogN l = ogTo (ogSrt l l.length) (ogSrt l l.length).length := (ogTo_all _).symm
  rw [e]
  exact ogTo_b (fun x hx => h x ((List.take_length (l := l)) ▸ ((ogSrt_mem l x _ (Nat.le_refl _)).1 hx).1)) _ (Nat.le_refl _)
theorem ogCells_set (l : List Og) : ∀ (n : Nat) (m : Int), n < l.length → (ogCells l).set (n * 4 + 3) (.int .i64 m) = ogCells (l.set n ((l.getD n (0, 0, 0, 0)).1, (l.getD n (0, 0, 0, 0)).2.1, (l.getD n (0, 0, 0, 0)).2.2.1, m)) := by
  induction l with
  | nil => intro n m h; simp at h
  | cons a l ih =>
    intro n m h
    cases n with
    | zero => simp [ogCells, ogEnc]
    | succ n =>
      have := ih n m (by simpa using h)
      rw [ogCells_cons, show (n + 1) * 4 + 3 = 4 + (n * 4 + 3) by omega, List.set_append_right _ _ (by simp [ogEnc])]
      simp only [List.set_cons_succ, List.getD_cons_succ]
      rw [ogCells_cons, ← this]
      simp [ogEnc]
theorem ogLive_take (l : List Og) (k : Nat) (hk : k < l.length) : ogLive (l.take (k + 1)) = if (l.getD k (0, 0, 0, 0)).2.2.1 ≤ (l.getD k (0, 0, 0, 0)).2.2.2 then ogLive (l.take k) ++ [l.getD k (0, 0, 0, 0)] else ogLive (l.take k) := by
  unfold ogLive
  rw [List.take_succ_eq_append_getElem hk, List.filter_append, getD_eq l k _ hk]
  by_cases h : (l[k]).2.2.1 ≤ (l[k]).2.2.2 <;> simp [h]
theorem ogLive_length (l : List Og) : (ogLive l).length ≤ l.length := List.length_filter_le _ _
/-- Any sorted list of the live outages is joined to the normal form. -/
theorem ogTo_norm {l ts : List Og} (hp : ts.Perm (ogLive l)) (hs : ts.Pairwise ogLe) : ogTo ts ts.length = ogN l := by
  rw [ogTo_all]
  refine ogN_of hs fun x => ?_
  rw [hp.mem_iff]
  unfold ogLive
  rw [List.mem_filter]
  simp
end Go.Proofs.Ytklfijhlibpmaaa
