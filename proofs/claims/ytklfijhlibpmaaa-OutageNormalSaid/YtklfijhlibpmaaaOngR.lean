/- Outages: two separated lists that cover the same hours are the same list: plain. -/
import Derived.Test.YtklfijhlibpmaaaOngQ
namespace Go.Proofs.Ytklfijhlibpmaaa
set_option linter.unusedVariables false

/-- The hours that a list covers. -/
def ogSame (l m : List Og) : Prop := ∀ k x h : Int, (∃ o ∈ l, ogCov o k x h) ↔ ∃ o ∈ m, ogCov o k x h
theorem ogSame.symm {l m : List Og} (h : ogSame l m) : ogSame m l := fun k x t => (h k x t).symm
theorem ogSame.trans {l m n : List Og} (h : ogSame l m) (h' : ogSame m n) : ogSame l n := fun k x t => (h k x t).trans (h' k x t)
theorem ogSep_ext : ∀ (l m : List Og), (∀ o ∈ l, o.2.2.1 ≤ o.2.2.2) → (∀ o ∈ m, o.2.2.1 ≤ o.2.2.2) → l.Pairwise ogSep → m.Pairwise ogSep → ogSame l m → l = m := by
  intro l
  induction l with
  | nil =>
    intro m _ hm _ _ hs
    cases m with
    | nil => rfl
    | cons b m =>
      obtain ⟨o, ho, _⟩ := (hs b.1 b.2.1 b.2.2.1).2 ⟨b, by simp, rfl, rfl, Int.le_refl _, hm b (by simp)⟩
      simp at ho
  | cons a l ih =>
    intro m hl hm pl pm hs
    cases m with
    | nil =>
      obtain ⟨o, ho, _⟩ := (hs a.1 a.2.1 a.2.2.1).1 ⟨a, by simp, rfl, rfl, Int.le_refl _, hl a (by simp)⟩
      simp at ho
    | cons b m =>
      obtain ⟨pl1, pl2⟩ := List.pairwise_cons.1 pl
      obtain ⟨pm1, pm2⟩ := List.pairwise_cons.1 pm
      have ha := hl a (by simp)
      have hb := hm b (by simp)
      have low : ∀ (u : Og) (t : List Og), (∀ o ∈ t, ogSep u o) → u.2.2.1 ≤ u.2.2.2 → ∀ k x h : Int, (∃ o ∈ u :: t, ogCov o k x h) → u.1 < k ∨ u.1 = k ∧ (u.2.1 < x ∨ u.2.1 = x ∧ u.2.2.1 ≤ h) := by
        rintro u t hu hut k x h ⟨o, ho, hc⟩
        rcases List.mem_cons.1 ho with rfl | ho
        · unfold ogCov at hc; omega
        · have := hu o ho
          unfold ogSep ogCov at *; omega
      have e1 := low b m pm1 hb _ _ _ ((hs a.1 a.2.1 a.2.2.1).1 ⟨a, by simp, rfl, rfl, Int.le_refl _, ha⟩)
      have e2 := low a l pl1 ha _ _ _ ((hs b.1 b.2.1 b.2.2.1).2 ⟨b, by simp, rfl, rfl, Int.le_refl _, hb⟩)
      have k1 : a.1 = b.1 := by omega
      have k2 : a.2.1 = b.2.1 := by omega
      have k3 : a.2.2.1 = b.2.2.1 := by omega
      have up : ∀ (u : Og) (t : List Og), (∀ o ∈ t, ogSep u o) → ¬ ∃ o ∈ u :: t, ogCov o u.1 u.2.1 (u.2.2.2 + 1) := by
        rintro u t hu ⟨o, ho, hc⟩
        rcases List.mem_cons.1 ho with rfl | ho
        · unfold ogCov at hc; omega
        · have := hu o ho
          unfold ogSep ogCov at *; omega
      have k4 : a.2.2.2 = b.2.2.2 := by
        rcases Int.lt_trichotomy a.2.2.2 b.2.2.2 with h | h | h
        · exact absurd ((hs a.1 a.2.1 (a.2.2.2 + 1)).2 ⟨b, by simp, k1.symm, k2.symm, by omega, by omega⟩) (up a l pl1)
        · exact h
        · exact absurd ((hs b.1 b.2.1 (b.2.2.2 + 1)).1 ⟨a, by simp, k1, k2, by omega, by omega⟩) (up b m pm1)
      have hab : a = b := by
        obtain ⟨a1, a2, a3, a4⟩ := a
        obtain ⟨b1, b2, b3, b4⟩ := b
        simp only at k1 k2 k3 k4
        rw [k1, k2, k3, k4]
      subst hab
      have tail : ∀ (t t' : List Og), (∀ o ∈ t, ogSep a o) → (∀ o ∈ t', ogSep a o) → ogSame (a :: t) (a :: t') → ∀ k x h : Int, (∃ o ∈ t, ogCov o k x h) → ∃ o ∈ t', ogCov o k x h := by
        rintro t t' ht ht' hst k x h ⟨o, ho, hc⟩
        obtain ⟨o', ho', hc'⟩ := (hst k x h).1 ⟨o, by simp [ho], hc⟩
        rcases List.mem_cons.1 ho' with rfl | ho'
        · have := ht o ho
          unfold ogSep ogCov at *; omega
        · exact ⟨o', ho', hc'⟩
      rw [ih m (fun o ho => hl o (by simp [ho])) (fun o ho => hm o (by simp [ho])) pl2 pm2 (fun k x h => ⟨tail l m pl1 pm1 hs k x h, tail m l pm1 pl1 hs.symm k x h⟩)]
/-- Outages that are not empty. -/
def ogLive (l : List Og) : List Og := l.filter fun o => decide (o.2.2.1 ≤ o.2.2.2)
theorem ogLive_mem {l : List Og} {o : Og} (h : o ∈ ogLive l) : o ∈ l ∧ o.2.2.1 ≤ o.2.2.2 := by
  unfold ogLive at h
  rw [List.mem_filter] at h
  exact ⟨h.1, by simpa using h.2⟩
theorem ogLive_same (l : List Og) : ogSame (ogLive l) l := fun k x h => by
  constructor
  · rintro ⟨o, ho, hc⟩; exact ⟨o, (ogLive_mem ho).1, hc⟩
  · rintro ⟨o, ho, hc⟩
    refine ⟨o, ?_, hc⟩
    unfold ogLive
    rw [List.mem_filter]
    refine ⟨ho, ?_⟩
    unfold ogCov at hc
    simp; omega
instance (a b : Og) : Decidable (ogLe a b) := by unfold ogLe; infer_instance
/-- Strictly before, in the order of the normal form. -/
def ogLt (a b : Og) : Prop := a.1 < b.1 ∨ a.1 = b.1 ∧ (a.2.1 < b.2.1 ∨ a.2.1 = b.2.1 ∧ a.2.2.1 < b.2.2.1)
instance (a b : Og) : Decidable (ogLt a b) := by unfold ogLt; infer_instance
def ogIns (o : Og) : List Og → List Og
  | [] => [o]
  | b :: l => if ogLt o b then o :: b :: l else b :: ogIns o l
theorem ogIns_mem (o x : Og) : ∀ l : List Og, x ∈ ogIns o l ↔ x = o ∨ x ∈ l := by
  intro l
  induction l with
  | nil => simp [ogIns]
  | cons b l ih =>
    rw [ogIns]
    split
    · simp
    · rw [List.mem_cons, ih, List.mem_cons]
      constructor
      · rintro (h | h | h) <;> simp [h]
      · rintro (h | h | h) <;> simp [h]
theorem ogIns_length (o : Og) : ∀ l : List Og, (ogIns o l).length = l.length + 1 := by
  intro l
  induction l with
  | nil => rfl
  | cons b l ih =>
    rw [ogIns]
    split
    · rfl
    · simp [ih]
theorem ogIns_sorted (o : Og) : ∀ l : List Og, l.Pairwise ogLe → (ogIns o l).Pairwise ogLe := by
  intro l
  induction l with
  | nil => intro _; simp [ogIns]
  | cons b l ih =>
    intro hp
    obtain ⟨h1, h2⟩ := List.pairwise_cons.1 hp
    rw [ogIns]
    split
    case isTrue h =>
      have hob : ogLe o b := by unfold ogLt at h; unfold ogLe; omega
      refine List.pairwise_cons.2 ⟨fun c hc => ?_, hp⟩
      rcases List.mem_cons.1 hc with rfl | hc
      · exact hob
      · exact hob.trans (h1 c hc)
    case isFalse h =>
      have hbo : ogLe b o := by unfold ogLt at h; unfold ogLe; omega
      refine List.pairwise_cons.2 ⟨fun c hc => ?_, ih h2⟩
      rcases (ogIns_mem o c l).1 hc with rfl | hc
      · exact hbo
      · exact h1 c hc
/-- The first k outages, those that are not empty, put in order one by one. -/
def ogSrt (l : List Og) : Nat → List Og
  | 0 => []
  | k + 1 => if (l.getD k (0, 0, 0, 0)).2.2.1 ≤ (l.getD k (0, 0, 0, 0)).2.2.2 then ogIns (l.getD k (0, 0, 0, 0)) (ogSrt l k) else ogSrt l k
theorem ogSrt_sorted (l : List Og) : ∀ k, (ogSrt l k).Pairwise ogLe := by
  intro k
  induction k with
  | zero => exact List.Pairwise.nil
  | succ k ih =>
    rw [ogSrt]
    split
    · exact ogIns_sorted _ _ ih
    · exact ih
theorem ogSrt_length (l : List Og) : ∀ k, (ogSrt l k).length ≤ k := by
  intro k
  induction k with
  | zero => exact Nat.le_refl _
  | succ k ih =>
    rw [ogSrt]
    split
    · rw [ogIns_length]; omega
    · omega
theorem ogSrt_mem (l : List Og) (x : Og) : ∀ k, k ≤ l.length → (x ∈ ogSrt l k ↔ x ∈ l.take k ∧ x.2.2.1 ≤ x.2.2.2) := by
  intro k
  induction k with
  | zero => intro _; simp [ogSrt]
  | succ k ih =>
    intro hk
    have hkl : k < l.length := by omega
    have hg : l.getD k (0, 0, 0, 0) = l[k] := by simp [hkl]
    rw [ogSrt, hg, List.take_succ_eq_append_getElem hkl]
    have ih := ih (by omega)
    split
    case isTrue h =>
      rw [ogIns_mem, ih, List.mem_append, List.mem_singleton]
      constructor
      · rintro (rfl | ⟨h1, h2⟩)
        · exact ⟨.inr rfl, h⟩
        · exact ⟨.inl h1, h2⟩
      · rintro ⟨h1 | rfl, h2⟩
        · exact .inr ⟨h1, h2⟩
        · exact .inl rfl
    case isFalse h =>
      rw [ih, List.mem_append, List.mem_singleton]
      constructor
      · rintro ⟨h1, h2⟩; exact ⟨.inl h1, h2⟩
      · rintro ⟨h1 | rfl, h2⟩
        · exact ⟨h1, h2⟩
        · exact absurd h2 h
/-- The normal form. -/
def ogN (l : List Og) : List Og := ogNorm (ogSrt l l.length)
theorem ogMrg_length : ∀ (l : List Og) (a : Og), (ogMrg a l).length ≤ l.length + 1 := by
  intro l
  induction l with
  | nil => intro a; simp [ogMrg]
  | cons b l ih =>
    intro a
    rw [ogMrg]
    split
    · have := ih (a.1, a.2.1, a.2.2.1, max a.2.2.2 b.2.2.2); simp only [List.length_cons]; omega
    · have := ih b; simp only [List.length_cons]; omega
theorem ogNorm_length (l : List Og) : (ogNorm l).length ≤ l.length := by
  cases l with
  | nil => exact Nat.le_refl _
  | cons a l => exact ogMrg_length l a
theorem ogN_length (l : List Og) : (ogN l).length ≤ l.length := Nat.le_trans (ogNorm_length _) (ogSrt_length _ _)
/-- n is live, separated, and covers what l covers. -/
structure IsNorm (l n : List Og) : Prop where
  live : ∀ o ∈ n, o.2.2.1 ≤ o.2.2.2
  sep : n.Pairwise ogSep
  same : ogSame n l
theorem ogNorm_is {l s : List Og} (hs : s.Pairwise ogLe) (hm : ∀ x, x ∈ s ↔ x ∈ l ∧ x.2.2.1 ≤ x.2.2.2) : IsNorm l (ogNorm s) := by
  have hl : ∀ b ∈ s, b.2.2.1 ≤ b.2.2.2 := fun b hb => ((hm b).1 hb).2
  refine ⟨?_, ogNorm_sep hs, fun k x h => (ogNorm_cov hl hs k x h).trans ?_⟩
  · cases s with
    | nil => intro o ho; simp [ogNorm] at ho
    | cons a s => exact ogMrg_mem s a (fun b hb => hl b (by simp [hb])) (hl a (by simp))
  · constructor
    · rintro ⟨o, ho, hc⟩; exact ⟨o, ((hm o).1 ho).1, hc⟩
    · rintro ⟨o, ho, hc⟩
      exact ⟨o, (hm o).2 ⟨ho, by unfold ogCov at hc; omega⟩, hc⟩
theorem ogN_is (l : List Og) : IsNorm l (ogN l) :=
  ogNorm_is (ogSrt_sorted _ _) fun x => by rw [ogSrt_mem l x _ (Nat.le_refl _), List.take_length]
theorem IsNorm.eq {l l' n n' : List Og} (h : IsNorm l n) (h' : IsNorm l' n') (hs : ogSame l l') : n = n' :=
  ogSep_ext n n' h.live h'.live h.sep h'.sep ((h.same.trans hs).trans h'.same.symm)
theorem ogN_same {l l' : List Og} (hs : ogSame l l') : ogN l = ogN l' := (ogN_is l).eq (ogN_is l') hs
/-- Any sorted list of the live outages is joined to the normal form. -/
theorem ogN_of {l s : List Og} (hs : s.Pairwise ogLe) (hm : ∀ x, x ∈ s ↔ x ∈ l ∧ x.2.2.1 ≤ x.2.2.2) : ogNorm s = ogN l := (ogNorm_is hs hm).eq (ogN_is l) fun _ _ _ => Iff.rfl
theorem ogSame_append_self (l : List Og) {m : List Og} (h : ogSame m l) : ogSame (l ++ m) l := fun k x t => by
  constructor
  · rintro ⟨o, ho, hc⟩
    rcases List.mem_append.1 ho with ho | ho
    · exact ⟨o, ho, hc⟩
    · exact (h k x t).1 ⟨o, ho, hc⟩
  · rintro ⟨o, ho, hc⟩; exact ⟨o, List.mem_append.2 (.inl ho), hc⟩
theorem ogSame_of_mem {l m : List Og} (h : ∀ x, x ∈ l ↔ x ∈ m) : ogSame l m := fun k x t => ⟨fun ⟨o, ho, hc⟩ => ⟨o, (h o).1 ho, hc⟩, fun ⟨o, ho, hc⟩ => ⟨o, (h o).2 ho, hc⟩⟩
end Go.Proofs.Ytklfijhlibpmaaa
