/- The text DfsP. -/
import Derived.Test.YtmojjfdamdgegaaMg42
import Derived.Test.YtmojjfdamdgegaaMg33
/- The search in depth on a forest finds the one way: plain. -/
namespace Go.Proofs.Ytmojjfdamdgegaa
open Go.RowKit
set_option linter.unusedVariables false

/-- The ends of line x. -/
def frm (ls : List Ln) (x : Int) : Int := (ls.getD x.toNat (0, 0, 0, 0)).1
def tow (ls : List Ln) (x : Int) : Int := (ls.getD x.toNat (0, 0, 0, 0)).2.1
/-- The lines S join a and b: no labelling that is alike along them tells them apart. -/
def Cn (ls : List Ln) (S : Int → Prop) (a b : Int) : Prop := ∀ c : Int → Prop, (∀ x, S x → (c (frm ls x) ↔ c (tow ls x))) → (c a ↔ c b)
section
variable {ls : List Ln} {S S' : Int → Prop} {a b d : Int}
theorem Cn.refl (ls : List Ln) (S : Int → Prop) (a : Int) : Cn ls S a a := fun _ _ => Iff.rfl
theorem Cn.symm (h : Cn ls S a b) : Cn ls S b a := fun c hc => (h c hc).symm
theorem Cn.trans (h : Cn ls S a b) (k : Cn ls S b d) : Cn ls S a d := fun c hc => (h c hc).trans (k c hc)
theorem Cn.more (h : Cn ls S a b) (hs : ∀ x, S x → S' x) : Cn ls S' a b := fun c hc => h c fun x hx => hc x (hs x hx)
theorem Cn.line {x : Int} (hx : S x) : Cn ls S (frm ls x) (tow ls x) := fun c hc => hc x hx
/-- A labelling that is alike along S' is alike on what S' joins. -/
theorem Cn.lift (h : Cn ls S a b) (hs : ∀ x, S x → Cn ls S' (frm ls x) (tow ls x)) : Cn ls S' a b := by
  have := h (fun z => Cn ls S' a z) fun x hx => ⟨fun k => k.trans (hs x hx), fun k => k.trans (hs x hx).symm⟩
  exact this.1 (Cn.refl _ _ _)
/-- One line more. -/
theorem Cn.add {k : Int} (h : Cn ls (fun x => S x ∨ x = k) a b) : Cn ls S a b ∨ (Cn ls S a (frm ls k) ∧ Cn ls S (tow ls k) b) ∨ (Cn ls S a (tow ls k) ∧ Cn ls S (frm ls k) b) := by
  have := h (fun z => Cn ls S a z ∨ (Cn ls S a (frm ls k) ∧ Cn ls S (tow ls k) z) ∨ (Cn ls S a (tow ls k) ∧ Cn ls S (frm ls k) z)) ?_
  · exact this.1 (.inl (Cn.refl _ _ _))
  · rintro x (hx | rfl)
    · have e : Cn ls S (frm ls x) (tow ls x) := Cn.line hx
      constructor
      · rintro (h | ⟨h, h'⟩ | ⟨h, h'⟩)
        · exact .inl (h.trans e)
        · exact .inr (.inl ⟨h, h'.trans e⟩)
        · exact .inr (.inr ⟨h, h'.trans e⟩)
      · rintro (h | ⟨h, h'⟩ | ⟨h, h'⟩)
        · exact .inl (h.trans e.symm)
        · exact .inr (.inl ⟨h, h'.trans e.symm⟩)
        · exact .inr (.inr ⟨h, h'.trans e.symm⟩)
    · constructor
      · rintro (h | ⟨h, h'⟩ | ⟨h, h'⟩)
        · exact .inr (.inl ⟨h, Cn.refl _ _ _⟩)
        · exact .inr (.inl ⟨h, Cn.refl _ _ _⟩)
        · exact .inl h
      · rintro (h | ⟨h, h'⟩ | ⟨h, h'⟩)
        · exact .inr (.inr ⟨h, Cn.refl _ _ _⟩)
        · exact .inl h
        · exact .inr (.inr ⟨h, Cn.refl _ _ _⟩)
/-- The lines S without x. -/
def wo (S : Int → Prop) (k : Int) : Int → Prop := fun x => S x ∧ x ≠ k
theorem Cn.wo {k : Int} (hk : S k) (h : Cn ls S a b) : Cn ls (wo S k) a b ∨ (Cn ls (wo S k) a (frm ls k) ∧ Cn ls (wo S k) (tow ls k) b) ∨ (Cn ls (wo S k) a (tow ls k) ∧ Cn ls (wo S k) (frm ls k) b) :=
  Cn.add (h.more fun x hx => by
    by_cases e : x = k
    · exact .inr e
    · exact .inl ⟨hx, e⟩)
theorem Cn.of_wo {k : Int} (h : Cn ls (Go.Proofs.Ytmojjfdamdgegaa.wo S k) a b) : Cn ls S a b := h.more fun _ hx => hx.1
end
/-- No line of S is on a circle of S. -/
def Forest (ls : List Ln) (S : Int → Prop) : Prop := ∀ x, S x → ¬ Cn ls (wo S x) (frm ls x) (tow ls x)
theorem Forest.less {ls : List Ln} {S : Int → Prop} (h : Forest ls S) (k : Int) : Forest ls (wo S k) :=
  fun x hx hc => h x hx.1 (hc.more fun y hy => ⟨hy.1.1, hy.2⟩)
open Classical in
/-- The sign of line x on the way from a to b along the tree S. -/
noncomputable def sgn (ls : List Ln) (S : Int → Prop) (a b x : Int) : Int :=
  if ¬ S x ∨ Cn ls (wo S x) a b then 0 else if Cn ls (wo S x) a (frm ls x) then 1 else -1
theorem sgn_self (ls : List Ln) (S : Int → Prop) (a x : Int) : sgn ls S a a x = 0 := by
  unfold sgn; rw [if_pos (.inr (Cn.refl _ _ _))]
theorem wo_comm (S : Int → Prop) (k x : Int) : wo (wo S k) x = wo (wo S x) k := by
  funext y; unfold wo; exact propext ⟨fun h => ⟨⟨h.1.1, h.2⟩, h.1.2⟩, fun h => ⟨⟨h.1.1, h.2⟩, h.1.2⟩⟩
/-- Line k leads from bus to next. -/
def Leads (ls : List Ln) (k bus next sign : Int) : Prop := (bus = frm ls k ∧ next = tow ls k ∧ sign = 1) ∨ (bus = tow ls k ∧ next = frm ls k ∧ sign = -1)
theorem Leads.cn {ls : List Ln} {S : Int → Prop} {k bus next sign : Int} (h : Leads ls k bus next sign) (hk : S k) : Cn ls S bus next := by
  rcases h with ⟨rfl, rfl, _⟩ | ⟨rfl, rfl, _⟩
  · exact Cn.line hk
  · exact (Cn.line hk).symm
theorem Leads.off {ls : List Ln} {S : Int → Prop} {k bus next sign : Int} (hF : Forest ls S) (h : Leads ls k bus next sign) (hk : S k) : ¬ Cn ls (wo S k) bus next := by
  intro hc
  rcases h with ⟨rfl, rfl, _⟩ | ⟨rfl, rfl, _⟩
  · exact hF _ hk hc
  · exact hF _ hk hc.symm
theorem Leads.wo {ls : List Ln} {S : Int → Prop} {k bus next sign a b : Int} (h : Leads ls k bus next sign) (hk : S k) (hc : Cn ls S a b) :
    Cn ls (wo S k) a b ∨ (Cn ls (Go.Proofs.Ytmojjfdamdgegaa.wo S k) a bus ∧ Cn ls (Go.Proofs.Ytmojjfdamdgegaa.wo S k) next b) ∨ (Cn ls (Go.Proofs.Ytmojjfdamdgegaa.wo S k) a next ∧ Cn ls (Go.Proofs.Ytmojjfdamdgegaa.wo S k) bus b) := by
  rcases h with ⟨rfl, rfl, _⟩ | ⟨rfl, rfl, _⟩
  · exact hc.wo hk
  · rcases hc.wo hk with h | h | h
    · exact .inl h
    · exact .inr (.inr h)
    · exact .inr (.inl h)
/-- The first step of the way. -/
theorem sgn_step {ls : List Ln} {S : Int → Prop} {k bus next sign goal : Int} (hF : Forest ls S) (h : Leads ls k bus next sign) (hk : S k) (hg : Cn ls (wo S k) next goal) (x : Int) :
    sgn ls S bus goal x = if x = k then sign else sgn ls (wo S k) next goal x := by
  have off := h.off hF hk
  by_cases hx : x = k
  · subst hx
    rw [if_pos rfl]
    unfold sgn
    rw [if_neg (by
      rintro (h1 | h1)
      · exact h1 hk
      · exact off (h1.trans hg.symm))]
    rcases h with ⟨rfl, rfl, rfl⟩ | ⟨rfl, rfl, rfl⟩
    · rw [if_pos (Cn.refl _ _ _)]
    · rw [if_neg off]
  · rw [if_neg hx]
    by_cases hS : S x
    · have hS' : wo S k x := ⟨hS, hx⟩
      have e1 : Cn ls (wo S x) bus goal ↔ Cn ls (wo (wo S k) x) next goal := by
        rw [wo_comm]
        constructor
        · intro hc
          rcases h.wo (S := wo S x) ⟨hk, fun e => hx e.symm⟩ hc with h1 | ⟨_, h1⟩ | ⟨h1, _⟩
          · exact absurd (((h1.more fun y hy => ⟨hy.1.1, hy.2⟩ : Cn ls (wo S k) bus goal)).trans hg.symm) off
          · exact h1
          · exact absurd (h1.more fun y hy => ⟨hy.1.1, hy.2⟩ : Cn ls (wo S k) bus next) off
        · intro hc
          exact (h.cn (S := wo S x) ⟨hk, fun e => hx e.symm⟩).trans hc.of_wo
      unfold sgn
      by_cases hc : Cn ls (wo S x) bus goal
      · rw [if_pos (.inr hc), if_pos (.inr (e1.1 hc))]
      · have hc' : ¬ Cn ls (wo (wo S k) x) next goal := fun h' => hc (e1.2 h')
        rw [if_neg (show ¬ (¬ S x ∨ Cn ls (wo S x) bus goal) by rintro (h1 | h1); exact h1 hS; exact hc h1), if_neg (show ¬ (¬ wo S k x ∨ Cn ls (wo (wo S k) x) next goal) by rintro (h1 | h1); exact h1 hS'; exact hc' h1)]
        have hfx : Cn ls (wo S k) next (frm ls x) := by
          rcases hg.wo hS' with h1 | ⟨h1, _⟩ | ⟨h1, _⟩
          · exact absurd h1 hc'
          · exact h1.of_wo
          · exact h1.of_wo.trans (Cn.line hS').symm
        have e2 : Cn ls (wo S x) bus (frm ls x) ↔ Cn ls (wo (wo S k) x) next (frm ls x) := by
          rw [wo_comm]
          constructor
          · intro hc
            rcases h.wo (S := wo S x) ⟨hk, fun e => hx e.symm⟩ hc with h1 | ⟨_, h1⟩ | ⟨h1, _⟩
            · exact absurd ((h1.more fun y hy => ⟨hy.1.1, hy.2⟩ : Cn ls (wo S k) bus (frm ls x)).trans hfx.symm) off
            · exact h1
            · exact absurd (h1.more fun y hy => ⟨hy.1.1, hy.2⟩ : Cn ls (wo S k) bus next) off
          · intro hc
            exact (h.cn (S := wo S x) ⟨hk, fun e => hx e.symm⟩).trans hc.of_wo
        by_cases h2 : Cn ls (wo S x) bus (frm ls x)
        · rw [if_pos h2, if_pos (e2.1 h2)]
        · rw [if_neg h2, if_neg fun h' => h2 (e2.2 h')]
    · unfold sgn
      rw [if_pos (.inl hS), if_pos (.inl fun h' => hS h'.1)]
/-- Some line at the bus begins the way. -/
theorem step_there {ls : List Ln} {S : Int → Prop} {bus goal : Int} (hne : bus ≠ goal) (hc : Cn ls S bus goal) : ∃ k next sign, S k ∧ Leads ls k bus next sign ∧ Cn ls (wo S k) next goal := by
  apply Classical.byContradiction
  intro hn
  have hn' : ∀ k next sign, S k → Leads ls k bus next sign → ¬ Cn ls (wo S k) next goal := fun k next sign h1 h2 h3 => hn ⟨k, next, sign, h1, h2, h3⟩
  have hS0 : ∀ k, S k → (frm ls k = bus ∨ tow ls k = bus) → ∀ x, (S x ∧ frm ls x ≠ bus ∧ tow ls x ≠ bus) → wo S k x := fun k _ hk x hx => ⟨hx.1, fun e => by subst e; rcases hk with h | h; exact hx.2.1 h; exact hx.2.2 h⟩
  have hb : ¬ Cn ls (fun x => S x ∧ frm ls x ≠ bus ∧ tow ls x ≠ bus) bus goal := fun h => by
    have := h (fun z => z = bus) fun x hx => ⟨fun e => absurd e hx.2.1, fun e => absurd e hx.2.2⟩
    exact hne (this.1 rfl).symm
  have := hc (fun z => Cn ls (fun x => S x ∧ frm ls x ≠ bus ∧ tow ls x ≠ bus) z goal) fun x hx => by
    by_cases h1 : frm ls x = bus
    · have h2 : ¬ Cn ls (fun x => S x ∧ frm ls x ≠ bus ∧ tow ls x ≠ bus) (tow ls x) goal := fun h => hn' x (tow ls x) 1 hx (.inl ⟨h1.symm, rfl, rfl⟩) (h.more (hS0 x hx (.inl h1)))
      rw [h1]
      exact ⟨fun h => absurd h hb, fun h => absurd h h2⟩
    · by_cases h3 : tow ls x = bus
      · have h2 : ¬ Cn ls (fun x => S x ∧ frm ls x ≠ bus ∧ tow ls x ≠ bus) (frm ls x) goal := fun h => hn' x (frm ls x) (-1) hx (.inr ⟨h3.symm, rfl, rfl⟩) (h.more (hS0 x hx (.inr h3)))
        rw [h3]
        exact ⟨fun h => absurd h h2, fun h => absurd h hb⟩
      · have e : Cn ls (fun x => S x ∧ frm ls x ≠ bus ∧ tow ls x ≠ bus) (frm ls x) (tow ls x) := Cn.line (S := fun x => S x ∧ frm ls x ≠ bus ∧ tow ls x ≠ bus) ⟨hx, h1, h3⟩
        exact ⟨fun h => e.symm.trans h, fun h => e.trans h⟩
  exact hb (this.2 (Cn.refl _ _ _))

theorem cross_leads {ls : List Ln} {k bus : Int} (h : (crossF (ls.getD k.toNat (0, 0, 0, 0)) bus).2 ≠ 0) : Leads ls k bus (crossF (ls.getD k.toNat (0, 0, 0, 0)) bus).1 (crossF (ls.getD k.toNat (0, 0, 0, 0)) bus).2 := by
  unfold crossF at h ⊢
  by_cases h1 : bus = (ls.getD k.toNat (0, 0, 0, 0)).1
  · rw [if_pos h1]; exact .inl ⟨h1, rfl, rfl⟩
  · rw [if_neg h1] at h ⊢
    by_cases h2 : bus = (ls.getD k.toNat (0, 0, 0, 0)).2.1
    · rw [if_pos h2]; exact .inr ⟨h2, rfl, rfl⟩
    · rw [if_neg h2] at h; exact absurd rfl h
/-- The trail's balance at a bus: how often it leaves it, less how often it enters it. -/
def bal (ls : List Ln) (t : List Int) (v : Int) : Nat → Int
  | 0 => 0
  | i + 1 => bal ls t v i + (if (ls.getD i (0, 0, 0, 0)).1 = v then t.getD i 0 else 0) - (if (ls.getD i (0, 0, 0, 0)).2.1 = v then t.getD i 0 else 0)
theorem getD_set' (t : List Int) (i j : Nat) (x : Int) : (t.set i x).getD j 0 = if i = j ∧ j < t.length then x else t.getD j 0 := by
  simp only [List.getD_eq_getElem?_getD, List.getElem?_set]
  by_cases h : i = j
  · subst h
    by_cases h2 : i < t.length
    · simp [h2]
    · simp [h2]
  · simp [h]
theorem bal_set {ls : List Ln} {t : List Int} {v : Int} {k : Nat} {x : Int} (hk : k < t.length) (h0 : t.getD k 0 = 0) : ∀ m, bal ls (t.set k x) v m = bal ls t v m + (if k < m then (if (ls.getD k (0, 0, 0, 0)).1 = v then x else 0) - (if (ls.getD k (0, 0, 0, 0)).2.1 = v then x else 0) else 0) := by
  intro m
  induction m with
  | zero => simp [bal]
  | succ m ih =>
    rw [bal, bal, ih, getD_set']
    by_cases h : k = m
    · subst h
      rw [if_pos (show k = k ∧ k < t.length from ⟨rfl, hk⟩), if_neg (Nat.lt_irrefl _), if_pos (Nat.lt_succ_self _), h0]
      split <;> split <;> omega
    · rw [if_neg (fun h' : k = m ∧ m < t.length => h h'.1)]
      by_cases h2 : k < m
      · rw [if_pos h2, if_pos (show k < m + 1 by omega)]
        split <;> split <;> split <;> split <;> omega
      · rw [if_neg h2, if_neg (show ¬ k < m + 1 by omega)]
        split <;> split <;> omega
/-- What a search from bus gives, the lines S open to it. -/
structure Found (ls : List Ln) (S : Int → Prop) (bus goal : Int) (t t' : List Int) : Prop where
  len : t'.length = t.length
  inn : ∀ x : Nat, x < t.length → S x → t'.getD x 0 = sgn ls S bus goal x
  out : ∀ x : Nat, x < t.length → ¬ S x → t'.getD x 0 = t.getD x 0
  bal : ∀ v, Go.Proofs.Ytmojjfdamdgegaa.bal ls t' v ls.length = Go.Proofs.Ytmojjfdamdgegaa.bal ls t v ls.length + (if bus = v then 1 else 0) - (if goal = v then 1 else 0)
theorem set_back {t : List Int} {k : Nat} {x : Int} (h0 : t.getD k 0 = 0) : (t.set k x).set k 0 = t := by
  rw [List.set_set]
  apply List.ext_getElem?
  intro i
  rw [List.getElem?_set]
  by_cases h : k = i
  · subst h
    by_cases hk : k < t.length
    · rw [getD_eq _ _ _ hk] at h0; simp [hk, h0]
    · simp [hk]
  · simp [h]

theorem dfs_spec {ls : List Ln} {ch : List Int} {goal : Int} (hch : ∀ x ∈ ch, ∃ j : Nat, x = (j : Int) ∧ j < ls.length) : ∀ (f : Nat) (S : Int → Prop) (L : List Int) (bus last : Int) (t : List Int),
    L.length < f → (∀ x, S x ↔ x ∈ L) → (∀ x, S x → x ∈ ch) → Forest ls S → t.length = ls.length → (∀ x : Nat, S x → t.getD x 0 = 0) →
    (∀ x ∈ ch, ∀ b, (b = frm ls x ∨ b = tow ls x) → Cn ls S bus b → S x ∨ (x = last ∧ b = bus)) → ¬ S last →
    (Cn ls S bus goal → ∃ t', dfsF ls ch goal f bus last t = some (true, t') ∧ Found ls S bus goal t t') ∧
    (¬ Cn ls S bus goal → dfsF ls ch goal f bus last t = some (false, t)) := by
  intro f
  induction f with
  | zero => intro S L bus last t h; omega
  | succ f ih =>
    intro S L bus last t hf hSL hSc hF ht h0 hin hla
    by_cases hbg : bus = goal
    · refine ⟨fun _ => ⟨t, by rw [dfsF, if_pos hbg], rfl, fun x hx hs => ?_, fun x hx hs => rfl, fun v => ?_⟩, fun h => absurd (hbg ▸ Cn.refl _ _ _) h⟩
      · subst hbg
        rw [sgn_self]
        exact h0 x hs
      · subst hbg; omega
    · -- one line
      have one : ∀ k ∈ ch, ¬ (k = last ∨ (crossF (ls.getD k.toNat (0, 0, 0, 0)) bus).2 = 0) → S k ∧ Leads ls k bus (crossF (ls.getD k.toNat (0, 0, 0, 0)) bus).1 (crossF (ls.getD k.toNat (0, 0, 0, 0)) bus).2 ∧
          (Cn ls (wo S k) (crossF (ls.getD k.toNat (0, 0, 0, 0)) bus).1 goal → ∃ t', dfsF ls ch goal f (crossF (ls.getD k.toNat (0, 0, 0, 0)) bus).1 k (t.set k.toNat (crossF (ls.getD k.toNat (0, 0, 0, 0)) bus).2) = some (true, t') ∧ Found ls S bus goal t t') ∧
          (¬ Cn ls (wo S k) (crossF (ls.getD k.toNat (0, 0, 0, 0)) bus).1 goal → dfsF ls ch goal f (crossF (ls.getD k.toNat (0, 0, 0, 0)) bus).1 k (t.set k.toNat (crossF (ls.getD k.toNat (0, 0, 0, 0)) bus).2) = some (false, t.set k.toNat (crossF (ls.getD k.toNat (0, 0, 0, 0)) bus).2)) := by
        intro k hk hn
        have hld := cross_leads (ls := ls) (k := k) (bus := bus) fun h => hn (.inr h)
        have hbe : bus = frm ls k ∨ bus = tow ls k := by
          rcases hld with h | h
          · exact .inl h.1
          · exact .inr h.1
        have hSk : S k := by
          rcases hin k hk bus hbe (Cn.refl _ _ _) with h | h
          · exact h
          · exact absurd (.inl h.1) hn
        generalize (crossF (ls.getD k.toNat (0, 0, 0, 0)) bus).1 = nx at *
        generalize (crossF (ls.getD k.toNat (0, 0, 0, 0)) bus).2 = sg at *
        obtain ⟨j, rfl, hj⟩ := hch k hk
        rw [Int.toNat_natCast] at *
        have off := hld.off hF hSk
        have hcn : Cn ls S bus nx := hld.cn hSk
        have hlen : (L.filter fun x => decide (x ≠ (j : Int))).length < f := by
          have : (L.filter fun x => decide (x ≠ (j : Int))).length < L.length := List.length_filter_lt_length_iff_exists.2 ⟨(j : Int), (hSL _).1 hSk, by simp⟩
          omega
        have := ih (wo S j) (L.filter fun x => decide (x ≠ (j : Int))) nx j (t.set j sg) hlen (fun x => by unfold wo; rw [hSL, List.mem_filter]; simp) (fun x hx => hSc x hx.1) (hF.less _) (by simp [ht])
          (fun x hx => by
            rw [getD_set', if_neg fun h => hx.2 (by rw [h.1])]
            exact h0 x hx.1)
          (fun x hx b hb hcb => by
            have hSb : Cn ls S bus b := hcn.trans hcb.of_wo
            rcases hin x hx b hb hSb with h | ⟨h, h'⟩
            · by_cases e : x = (j : Int)
              · refine .inr ⟨e, ?_⟩
                subst e
                have hbn : b = bus ∨ b = nx := by
                  rcases hld with ⟨h1, h2, _⟩ | ⟨h1, h2, _⟩
                  · rcases hb with hb | hb
                    · exact .inl (hb.trans h1.symm)
                    · exact .inr (hb.trans h2.symm)
                  · rcases hb with hb | hb
                    · exact .inr (hb.trans h2.symm)
                    · exact .inl (hb.trans h1.symm)
                rcases hbn with e | e
                · subst e; exact absurd hcb.symm off
                · exact e
              · exact .inl ⟨h, e⟩
            · subst h'; exact absurd hcb.symm off)
          (fun h => h.2 rfl)
        refine ⟨hSk, hld, fun hc => ?_, fun hc => this.2 hc⟩
        obtain ⟨t', e, hl', ha', hao', hb'⟩ := this.1 hc
        refine ⟨t', e, by rw [hl']; simp, fun x hx hS => ?_, fun x hx hS => ?_, fun v => ?_⟩
        · rw [sgn_step hF hld hSk hc]
          by_cases hxj : x = j
          · subst hxj
            rw [hao' x (by simpa using hx) (fun h => h.2 rfl), if_pos rfl, getD_set', if_pos ⟨rfl, hx⟩]
          · have hxj' : (x : Int) ≠ (j : Int) := by omega
            rw [if_neg hxj', ha' x (by simpa using hx) ⟨hS, hxj'⟩]
        · rw [hao' x (by simpa using hx) (fun h => hS h.1), getD_set', if_neg fun h => hS (by rw [← h.1]; exact hSk)]
        · rw [hb', bal_set (by omega) (h0 j hSk), if_pos hj]
          have e1 : (ls.getD j (0, 0, 0, 0)).1 = frm ls j := by unfold frm; rw [Int.toNat_natCast]
          have e2 : (ls.getD j (0, 0, 0, 0)).2.1 = tow ls j := by unfold tow; rw [Int.toNat_natCast]
          rw [e1, e2]
          rcases hld with ⟨rfl, rfl, rfl⟩ | ⟨rfl, rfl, rfl⟩
          · split <;> split <;> split <;> omega
          · split <;> split <;> split <;> omega
      -- the loop
      have loop : ∀ ks, (∀ x ∈ ks, x ∈ ch) →
          (Cn ls S bus goal → (∃ k ∈ ks, ∃ next sign, S k ∧ Leads ls k bus next sign ∧ Cn ls (wo S k) next goal) → ∃ t', dfsL ls (dfsF ls ch goal f) bus last ks t = some (true, t') ∧ Found ls S bus goal t t') ∧
          (¬ Cn ls S bus goal → dfsL ls (dfsF ls ch goal f) bus last ks t = some (false, t)) := by
        intro ks
        induction ks with
        | nil => intro _; exact ⟨fun _ ⟨k, hk, _⟩ => absurd hk (by simp), fun _ => rfl⟩
        | cons k ks ihk =>
          intro hks
          have ihk' := ihk fun x hx => hks x (by simp [hx])
          have hkc := hks k (by simp)
          by_cases hsk : k = last ∨ (crossF (ls.getD k.toNat (0, 0, 0, 0)) bus).2 = 0
          · rw [dfsL, if_pos hsk]
            refine ⟨fun hc ⟨k', hk', nx, sg, h1, h2, h3⟩ => ihk'.1 hc ?_, ihk'.2⟩
            rcases List.mem_cons.1 hk' with rfl | hk'
            · exfalso
              rcases hsk with rfl | hsk
              · exact hla h1
              · unfold crossF at hsk
                by_cases e1 : bus = (ls.getD k'.toNat (0, 0, 0, 0)).1
                · rw [if_pos e1] at hsk; exact absurd hsk (show (1 : Int) ≠ 0 by decide)
                · rw [if_neg e1] at hsk
                  by_cases e2 : bus = (ls.getD k'.toNat (0, 0, 0, 0)).2.1
                  · rw [if_pos e2] at hsk; exact absurd hsk (show (-1 : Int) ≠ 0 by decide)
                  · rcases h2 with h2 | h2
                    · exact e1 h2.1
                    · exact e2 h2.1
            · exact ⟨k', hk', nx, sg, h1, h2, h3⟩
          · obtain ⟨hSk, hld, y1, y2⟩ := one k hkc hsk
            obtain ⟨j, hjk, hj⟩ := hch k hkc
            rw [dfsL, if_neg hsk]
            by_cases hc : Cn ls (wo S k) (crossF (ls.getD k.toNat (0, 0, 0, 0)) bus).1 goal
            · obtain ⟨t', e, hfd⟩ := y1 hc
              rw [e]
              exact ⟨fun _ _ => ⟨t', rfl, hfd⟩, fun h => absurd ((hld.cn hSk).trans hc.of_wo) h⟩
            · rw [y2 hc]
              have hb : (t.set k.toNat (crossF (ls.getD k.toNat (0, 0, 0, 0)) bus).2).set k.toNat 0 = t := set_back (by rw [hjk, Int.toNat_natCast]; exact h0 j (hjk ▸ hSk))
              simp only [hb]
              refine ⟨fun hcg ⟨k', hk', nx, sg, h1, h2, h3⟩ => ihk'.1 hcg ?_, ihk'.2⟩
              rcases List.mem_cons.1 hk' with e | hk'
              · exfalso
                subst e
                have : nx = (crossF (ls.getD k'.toNat (0, 0, 0, 0)) bus).1 := by
                  have hne : frm ls k' ≠ tow ls k' := fun e => hF _ hSk (e ▸ Cn.refl _ _ _)
                  rcases h2 with ⟨a1, a2, _⟩ | ⟨a1, a2, _⟩ <;> rcases hld with ⟨b1, b2, _⟩ | ⟨b1, b2, _⟩
                  · rw [a2, b2]
                  · exact absurd (a1.symm.trans b1) hne
                  · exact absurd (b1.symm.trans a1) hne
                  · rw [a2, b2]
                exact hc (this ▸ h3)
              · exact ⟨k', hk', nx, sg, h1, h2, h3⟩
      rw [dfsF, if_neg hbg]
      have hl := loop ch fun x hx => hx
      refine ⟨fun hc => hl.1 hc ?_, hl.2⟩
      obtain ⟨k, nx, sg, h1, h2, h3⟩ := step_there hbg hc
      exact ⟨k, hSc k h1, nx, sg, h1, h2, h3⟩
/-- The whole search on a forest. -/
theorem dfs_forest {ls : List Ln} {ch : List Int} {a goal : Int} (hch : ∀ x ∈ ch, ∃ j : Nat, x = (j : Int) ∧ j < ls.length) (hF : Forest ls (· ∈ ch)) (hc : Cn ls (· ∈ ch) a goal) :
    ∃ t', dfsF ls ch goal (ch.length + 1) a (-1) (List.replicate ls.length 0) = some (true, t') ∧ Found ls (· ∈ ch) a goal (List.replicate ls.length 0) t' := by
  refine (dfs_spec hch (ch.length + 1) (· ∈ ch) ch a (-1) _ (Nat.lt_succ_self _) (fun _ => Iff.rfl) (fun _ h => h) hF (by simp) (fun x _ => ?_) (fun x hx _ _ _ => .inl hx) (fun h => ?_)).1 hc
  · simp only [List.getD_eq_getElem?_getD, List.getElem?_replicate]; split <;> rfl
  · obtain ⟨j, e, _⟩ := hch _ h; omega
end Go.Proofs.Ytmojjfdamdgegaa
