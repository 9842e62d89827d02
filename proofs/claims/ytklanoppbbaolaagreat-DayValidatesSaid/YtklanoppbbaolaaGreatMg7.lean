/- Texts in one: OngR, OgW. -/
import Derived.Deep.QuietTactic
import Derived.BigQuiet
import Derived.BigGuardPart
import Derived.LoopTactic
import Derived.Deep.LoopGhost
import Derived.WalkMore
import Derived.Outline
import Derived.Laws.StructEq
import Derived.Test.YtklanoppbbaolaaGreatMg6
import Derived.Test.YtklanoppbbaolaaGreatMg1
import Derived.Test.YtklanoppbbaolaaGreatProg
/- Outages: two separated lists that cover the same hours are the same list: plain. -/
namespace Go.Proofs.YtklanoppbbaolaaGreat
set_option linter.unusedSimpArgs false
set_option linter.unusedVariables false

/-- The hours that a list covers. -/
def ogSame (l m : List Og) : Prop := ∀ k x h : Int, (∃ o ∈ l, ogCov o k x h) ↔ ∃ o ∈ m, ogCov o k x h
theorem ogSame.symm {l m : List Og} (h : ogSame l m) : ogSame m l := fun k x t => (h k x t).symm
theorem ogSame.trans {l m n : List Og} (h : ogSame l m) (h' : ogSame m n) : ogSame l n := fun k x t => (h k x t).trans (h' k x t)
theorem ogSep_ext : ∀ (l m : List Og), (∀ o ∈ l, o.2.2.1 ≤ o.2.2.2) → (∀ o ∈ m, o.2.2.1 ≤ o.2.2.2) → l.Pairwise ogSep → m.Pairwise ogSep → ogSame l m → l = m := by
  intro l
  induction l with
  | nil =>
    intro m _ hm _ _ hs
    cases m with
    | nil => rfl
    | cons b m =>
      obtain ⟨o, ho, _⟩ := (hs b.1 b.2.1 b.2.2.1).2 ⟨b, by simp, rfl, rfl, Int.le_refl _, hm b (by simp)⟩
      simp at ho
  | cons a l ih =>
    intro m hl hm pl pm hs
    cases m with
    | nil =>
      obtain ⟨o, ho, _⟩ := (hs a.1 a.2.1 a.2.2.1).1 ⟨a, by simp, rfl, rfl, Int.le_refl _, hl a (by simp)⟩
      simp at ho
    | cons b m =>
      obtain ⟨pl1, pl2⟩ := List.pairwise_cons.1 pl
      obtain ⟨pm1, pm2⟩ := List.pairwise_cons.1 pm
      have ha := hl a (by simp)
      have hb := hm b (by simp)
      have low : ∀ (u : Og) (t : List Og), (∀ o ∈ t, ogSep u o) → u.2.2.1 ≤ u.2.2.2 → ∀ k x h : Int, (∃ o ∈ u :: t, ogCov o k x h) → u.1 < k ∨ u.1 = k ∧ (u.2.1 < x ∨ u.2.1 = x ∧ u.2.2.1 ≤ h) := by
        rintro u t hu hut k x h ⟨o, ho, hc⟩
        rcases List.mem_cons.1 ho with rfl | ho
        · unfold ogCov at hc; omega
        · have := hu o ho
          unfold ogSep ogCov at *; omega
      have e1 := low b m pm1 hb _ _ _ ((hs a.1 a.2.1 a.2.2.1).1 ⟨a, by simp, rfl, rfl, Int.le_refl _, ha⟩)
      have e2 := low a l pl1 ha _ _ _ ((hs b.1 b.2.1 b.2.2.1).2 ⟨b, by simp, rfl, rfl, Int.le_refl _, hb⟩)
      have k1 : a.1 = b.1 := by omega
      have k2 : a.2.1 = b.2.1 := by omega
      have k3 : a.2.2.1 = b.2.2.1 := by omega
      have up : ∀ (u : Og) (t : List Og), (∀ o ∈ t, ogSep u o) → ¬ ∃ o ∈ u :: t, ogCov o u.1 u.2.1 (u.2.2.2 + 1) := by
        rintro u t hu ⟨o, ho, hc⟩
        rcases List.mem_cons.1 ho with rfl | ho
        · unfold ogCov at hc; omega
        · have := hu o ho
          unfold ogSep ogCov at *; omega
      have k4 : a.2.2.2 = b.2.2.2 := by
        rcases Int.lt_trichotomy a.2.2.2 b.2.2.2 with h | h | h
        · exact absurd ((hs a.1 a.2.1 (a.2.2.2 + 1)).2 ⟨b, by simp, k1.symm, k2.symm, by omega, by omega⟩) (up a l pl1)
        · exact h
        · exact absurd ((hs b.1 b.2.1 (b.2.2.2 + 1)).1 ⟨a, by simp, k1, k2, by omega, by omega⟩) (up b m pm1)
      have hab : a = b := by
        obtain ⟨a1, a2, a3, a4⟩ := a
        obtain ⟨b1, b2, b3, b4⟩ := b
        simp only at k1 k2 k3 k4
        rw [k1, k2, k3, k4]
      subst hab
      have tail : ∀ (t t' : List Og), (∀ o ∈ t, ogSep a o) → (∀ o ∈ t', ogSep a o) → ogSame (a :: t) (a :: t') → ∀ k x h : Int, (∃ o ∈ t, ogCov o k x h) → ∃ o ∈ t', ogCov o k x h := by
        rintro t t' ht ht' hst k x h ⟨o, ho, hc⟩
        obtain ⟨o', ho', hc'⟩ := (hst k x h).1 ⟨o, by simp [ho], hc⟩
        rcases List.mem_cons.1 ho' with rfl | ho'
        · have := ht o ho
          unfold ogSep ogCov at *; omega
        · exact ⟨o', ho', hc'⟩
      rw [ih m (fun o ho => hl o (by simp [ho])) (fun o ho => hm o (by simp [ho])) pl2 pm2 (fun k x h => ⟨tail l m pl1 pm1 hs k x h, tail m l pm1 pl1 hs.symm k x h⟩)]
/-- Outages that are not empty. -/
def ogLive (l : List Og) : List Og := l.filter fun o => decide (o.2.2.1 ≤ o.2.2.2)
theorem ogLive_mem {l : List Og} {o : Og} (h : o ∈ ogLive l) : o ∈ l ∧ o.2.2.1 ≤ o.2.2.2 := by
  unfold ogLive at h
  rw [List.mem_filter] at h
  exact ⟨h.1, by simpa using h.2⟩
theorem ogLive_same (l : List Og) : ogSame (ogLive l) l := fun k x h => by
  constructor
  · rintro ⟨o, ho, hc⟩; exact ⟨o, (ogLive_mem ho).1, hc⟩
  · rintro ⟨o, ho, hc⟩
    refine ⟨o, ?_, hc⟩
    unfold ogLive
    rw [List.mem_filter]
    refine ⟨ho, ?_⟩
    unfold ogCov at hc
    simp; omega
instance (a b : Og) : Decidable (ogLe a b) := by unfold ogLe; infer_instance
/-- Strictly before, in the order of the normal form. -/
def ogLt (a b : Og) : Prop := a.1 < b.1 ∨ a.1 = b.1 ∧ (a.2.1 < b.2.1 ∨ a.2.1 = b.2.1 ∧ a.2.2.1 < b.2.2.1)
instance (a b : Og) : Decidable (ogLt a b) := by unfold ogLt; infer_instance
def ogIns (o : Og) : List Og → List Og
  | [] => [o]
  | b :: l => if ogLt o b then o :: b :: l else b :: ogIns o l
theorem ogIns_mem (o x : Og) : ∀ l : List Og, x ∈ ogIns o l ↔ x = o ∨ x ∈ l := by
  intro l
  induction l with
  | nil => simp [ogIns]
  | cons b l ih =>
    rw [ogIns]
    split
    · simp
    · rw [List.mem_cons, ih, List.mem_cons]
      constructor
      · rintro (h | h | h) <;> simp [h]
      · rintro (h | h | h) <;> simp [h]
theorem ogIns_length (o : Og) : ∀ l : List Og, (ogIns o l).length = l.length + 1 := by
  intro l
  induction l with
  | nil => rfl
  | cons b l ih =>
    rw [ogIns]
    split
    · rfl
    · simp [ih]
theorem ogIns_sorted (o : Og) : ∀ l : List Og, l.Pairwise ogLe → (ogIns o l).Pairwise ogLe := by
  intro l
  induction l with
  | nil => intro _; simp [ogIns]
  | cons b l ih =>
    intro hp
    obtain ⟨h1, h2⟩ := List.pairwise_cons.1 hp
    rw [ogIns]
    split
    case isTrue h =>
      have hob : ogLe o b := by unfold ogLt at h; unfold ogLe; omega
      refine List.pairwise_cons.2 ⟨fun c hc => ?_, hp⟩
      rcases List.mem_cons.1 hc with rfl | hc
      · exact hob
      · exact hob.trans (h1 c hc)
    case isFalse h =>
      have hbo : ogLe b o := by unfold ogLt at h; unfold ogLe; omega
      refine List.pairwise_cons.2 ⟨fun c hc => ?_, ih h2⟩
      rcases (ogIns_mem o c l).1 hc with rfl | hc
      · exact hbo
      · exact h1 c hc
/-- The first k outages, those that are not empty, put in order one by one. -/
def ogSrt (l : List Og) : Nat → List Og
  | 0 => []
  | k + 1 => if (l.getD k (0, 0, 0, 0)).2.2.1 ≤ (l.getD k (0, 0, 0, 0)).2.2.2 then ogIns (l.getD k (0, 0, 0, 0)) (ogSrt l k) else ogSrt l k
theorem ogSrt_sorted (l : List Og) : ∀ k, (ogSrt l k).Pairwise ogLe := by
  intro k
  induction k with
  | zero => exact List.Pairwise.nil
  | succ k ih =>
    rw [ogSrt]
    split
    · exact ogIns_sorted _ _ ih
    · exact ih
theorem ogSrt_length (l : List Og) : ∀ k, (ogSrt l k).length ≤ k := by
  intro k
  induction k with
  | zero => exact Nat.le_refl _
  | succ k ih =>
    rw [ogSrt]
    split
    · rw [ogIns_length]; omega
    · omega
theorem ogSrt_mem (l : List Og) (x : Og) : ∀ k, k ≤ l.length → (x ∈ ogSrt l k ↔ x ∈ l.take k ∧ x.2.2.1 ≤ x.2.2.2) := by
  intro k
  induction k with
  | zero => intro _; simp [ogSrt]
  | succ k ih =>
    intro hk
    have hkl : k < l.length := by omega
    have hg : l.getD k (0, 0, 0, 0) = l[k] := by simp [hkl]
    rw [ogSrt, hg, List.take_succ_eq_append_getElem hkl]
    have ih := ih (by omega)
    split
    case isTrue h =>
      rw [ogIns_mem, ih, List.mem_append, List.mem_singleton]
      constructor
      · rintro (rfl | ⟨h1, h2⟩)
        · exact ⟨.inr rfl, h⟩
        · exact ⟨.inl h1, h2⟩
      · rintro ⟨h1 | rfl, h2⟩
        · exact .inr ⟨h1, h2⟩
        · exact .inl rfl
    case isFalse h =>
      rw [ih, List.mem_append, List.mem_singleton]
      constructor
      · rintro ⟨h1, h2⟩; exact ⟨.inl h1, h2⟩
      · rintro ⟨h1 | rfl, h2⟩
        · exact ⟨h1, h2⟩
        · exact absurd h2 h
/-- The normal form. -/
def ogN (l : List Og) : List Og := ogNorm (ogSrt l l.length)
theorem ogMrg_length : ∀ (l : List Og) (a : Og), (ogMrg a l).length ≤ l.length + 1 := by
  intro l
  induction l with
  | nil => intro a; simp [ogMrg]
  | cons b l ih =>
    intro a
    rw [ogMrg]
    split
    · have := ih (a.1, a.2.1, a.2.2.1, max a.2.2.2 b.2.2.2); simp only [List.length_cons]; omega
    · have := ih b; simp only [List.length_cons]; omega
theorem ogNorm_length (l : List Og) : (ogNorm l).length ≤ l.length := by
  cases l with
  | nil => exact Nat.le_refl _
  | cons a l => exact ogMrg_length l a
theorem ogN_length (l : List Og) : (ogN l).length ≤ l.length := Nat.le_trans (ogNorm_length _) (ogSrt_length _ _)
/-- n is live, separated, and covers what l covers. -/
structure IsNorm (l n : List Og) : Prop where
  live : ∀ o ∈ n, o.2.2.1 ≤ o.2.2.2
  sep : n.Pairwise ogSep
  same : ogSame n l
theorem ogNorm_is {l s : List Og} (hs : s.Pairwise ogLe) (hm : ∀ x, x ∈ s ↔ x ∈ l ∧ x.2.2.1 ≤ x.2.2.2) : IsNorm l (ogNorm s) := by
  have hl : ∀ b ∈ s, b.2.2.1 ≤ b.2.2.2 := fun b hb => ((hm b).1 hb).2
  refine ⟨?_, ogNorm_sep hs, fun k x h => (ogNorm_cov hl hs k x h).trans ?_⟩
  · cases s with
    | nil => intro o ho; simp [ogNorm] at ho
    | cons a s => exact ogMrg_mem s a (fun b hb => hl b (by simp [hb])) (hl a (by simp))
  · constructor
    · rintro ⟨o, ho, hc⟩; exact ⟨o, ((hm o).1 ho).1, hc⟩
    · rintro ⟨o, ho, hc⟩
      exact ⟨o, (hm o).2 ⟨ho, by unfold ogCov at hc; omega⟩, hc⟩
theorem ogN_is (l : List Og) : IsNorm l (ogN l) :=
  ogNorm_is (ogSrt_sorted _ _) fun x => by rw [ogSrt_mem l x _ (Nat.le_refl _), List.take_length]
theorem IsNorm.eq {l l' n n' : List Og} (h : IsNorm l n) (h' : IsNorm l' n') (hs : ogSame l l') : n = n' :=
  ogSep_ext n n' h.live h'.live h.sep h'.sep ((h.same.trans hs).trans h'.same.symm)
theorem ogN_same {l l' : List Og} (hs : ogSame l l') : ogN l = ogN l' := (ogN_is l).eq (ogN_is l') hs
/-- Any sorted list of the live outages is joined to the normal form. -/
theorem ogN_of {l s : List Og} (hs : s.Pairwise ogLe) (hm : ∀ x, x ∈ s ↔ x ∈ l ∧ x.2.2.1 ≤ x.2.2.2) : ogNorm s = ogN l := (ogNorm_is hs hm).eq (ogN_is l) fun _ _ _ => Iff.rfl
theorem ogSame_append_self (l : List Og) {m : List Og} (h : ogSame m l) : ogSame (l ++ m) l := fun k x t => by
  constructor
  · rintro ⟨o, ho, hc⟩
    rcases List.mem_append.1 ho with ho | ho
    · exact ⟨o, ho, hc⟩
    · exact (h k x t).1 ⟨o, ho, hc⟩
  · rintro ⟨o, ho, hc⟩; exact ⟨o, List.mem_append.2 (.inl ho), hc⟩
theorem ogSame_of_mem {l m : List Og} (h : ∀ x, x ∈ l ↔ x ∈ m) : ogSame l m := fun k x t => ⟨fun ⟨o, ho, hc⟩ => ⟨o, (h o).1 ho, hc⟩, fun ⟨o, ho, hc⟩ => ⟨o, (h o).2 ho, hc⟩⟩
end Go.Proofs.YtklanoppbbaolaaGreat
/- Words for memory: slices of outages as lists. -/
namespace Go.Proofs.YtklanoppbbaolaaGreat
open Go.RowKit
set_option linter.unusedSimpArgs false
set_option linter.unusedVariables false

/-- The slice address A holds the outages ls, in a block below B. -/
def OgsR (w : World) (B : Nat) (A : Option Addr) (ls : List Og) : Prop :=
  0 < ls.length → ∃ b off, A = some ⟨b, off, none⟩ ∧ b < B ∧ ∀ i, i < ls.length →
    w.cell? ⟨b, off + i * 4, none⟩ = some (.int .u8 (ls.getD i (0, 0, 0, 0)).1) ∧
    w.cell? ⟨b, off + i * 4 + 1, none⟩ = some (.int .i64 (ls.getD i (0, 0, 0, 0)).2.1) ∧
    w.cell? ⟨b, off + i * 4 + 2, none⟩ = some (.int .i64 (ls.getD i (0, 0, 0, 0)).2.2.1) ∧
    w.cell? ⟨b, off + i * 4 + 3, none⟩ = some (.int .i64 (ls.getD i (0, 0, 0, 0)).2.2.2)
/-- Hours that fit an int. -/
def OgB (o : Og) : Prop := -9223372036854775808 ≤ o.2.2.1 ∧ o.2.2.1 ≤ 9223372036854775807 ∧ -9223372036854775808 ≤ o.2.2.2 ∧ o.2.2.2 ≤ 9223372036854775807
def OgBs (l : List Og) : Prop := ∀ o ∈ l, OgB o
theorem OgBs.at_ {l : List Og} (h : OgBs l) (k : Nat) : OgB (l.getD k (0, 0, 0, 0)) := by
  by_cases hk : k < l.length
  · rw [List.getD_eq_getElem?_getD, List.getElem?_eq_getElem hk]; exact h _ (List.getElem_mem hk)
  · rw [List.getD_eq_getElem?_getD, List.getElem?_eq_none (by omega)]; simp [OgB]

section
variable {w w' : World} {B B' : Nat} {A : Option Addr} {ls : List Og}
theorem OgsR.nil_ : OgsR w B A [] := fun h => absurd h (by simp)
theorem OgsR.keep (h : OgsR w B A ls) (hk : ∀ p : Addr, p.block < B → w'.cell? p = w.cell? p) : OgsR w' B A ls := fun hn => by
  obtain ⟨b, off, e, hb, hc⟩ := h hn
  refine ⟨b, off, e, hb, fun i hi => ?_⟩
  obtain ⟨h0, h1, h2, h3⟩ := hc i hi
  exact ⟨(hk _ hb).trans h0, (hk _ hb).trans h1, (hk _ hb).trans h2, (hk _ hb).trans h3⟩
theorem OgsR.more (h : OgsR w B A ls) (hB : B ≤ B') : OgsR w B' A ls := fun hn => by
  obtain ⟨b, off, e, hb, hc⟩ := h hn
  exact ⟨b, off, e, by omega, hc⟩
theorem OgsR.below (h : OgsR w B A ls) (hb : Below B w w') : OgsR w' B A ls := h.keep fun _ hp => hb.cell hp
theorem OgsR.upto (h : OgsR w w.heap.size A ls) (hb : Below w.heap.size w w') : OgsR w' w'.heap.size A ls := (h.below hb).more hb.size
theorem OgsR.alloc (h : OgsR w B A ls) (hB : B ≤ w.heap.size) (o : Obj) : OgsR (w.alloc o) B A ls := h.keep fun p hp => World.cell?_alloc_lt w o p (by omega)
end

/-- One outage as a value. -/
def ogV (o : Og) : Value := .agg #[.int .u8 o.1, .int .i64 o.2.1, .int .i64 o.2.2.1, .int .i64 o.2.2.2]
def ogEnc (o : Og) : List Value := [.int .u8 o.1, .int .i64 o.2.1, .int .i64 o.2.2.1, .int .i64 o.2.2.2]
/-- The cells of outages. -/
def ogCells (ls : List Og) : List Value := ls.flatMap ogEnc
theorem ogCells_cons (l : Og) (ls : List Og) : ogCells (l :: ls) = ogEnc l ++ ogCells ls := by simp [ogCells]
theorem ogCells_append (a b : List Og) : ogCells (a ++ b) = ogCells a ++ ogCells b := by simp [ogCells]
theorem ogCells_length (ls : List Og) : (ogCells ls).length = ls.length * 4 := by
  induction ls with
  | nil => rfl
  | cons l ls ih =>
    rw [ogCells_cons, List.length_append, ih]
    simp [ogEnc]
    omega
theorem ogCells_at (ls : List Og) : ∀ (i : Nat), i < ls.length → (ogCells ls)[i * 4]? = some (.int .u8 (ls.getD i (0, 0, 0, 0)).1) ∧ (ogCells ls)[i * 4 + 1]? = some (.int .i64 (ls.getD i (0, 0, 0, 0)).2.1) ∧
    (ogCells ls)[i * 4 + 2]? = some (.int .i64 (ls.getD i (0, 0, 0, 0)).2.2.1) ∧ (ogCells ls)[i * 4 + 3]? = some (.int .i64 (ls.getD i (0, 0, 0, 0)).2.2.2) := by
  induction ls with
  | nil => intro i hi; simp at hi
  | cons l ls ih =>
    intro i hi
    cases i with
    | zero => simp [ogCells, ogEnc]
    | succ i =>
      have := ih i (by simpa using hi)
      rw [ogCells_cons]
      have a0 : (i + 1) * 4 = 4 + i * 4 := by omega
      have a1 : (i + 1) * 4 + 1 = 4 + (i * 4 + 1) := by omega
      have a2 : (i + 1) * 4 + 2 = 4 + (i * 4 + 2) := by omega
      have a3 : (i + 1) * 4 + 3 = 4 + (i * 4 + 3) := by omega
      rw [a1, a2, a3, a0]
      rw [List.getElem?_append_right (by simp [ogEnc]), List.getElem?_append_right (by simp [ogEnc]), List.getElem?_append_right (by simp [ogEnc]), List.getElem?_append_right (by simp [ogEnc])]
      simpa [ogEnc] using this
theorem OgsR.of_block {w : World} {g : Nat} {cs : Array Value} {t : TypeId} {fz : Nat × Nat} {ls : List Og} (h : w.heap[g]? = some (.cells cs t fz)) (hc : cs.toList.take (ls.length * 4) = ogCells ls) : OgsR w w.heap.size (some ⟨g, 0, none⟩) ls := fun hn => by
  refine ⟨g, 0, rfl, (Array.getElem?_eq_some_iff.1 h).1, fun i hi => ?_⟩
  have hcell : ∀ j, j < ls.length * 4 → w.cell? ⟨g, 0 + j, none⟩ = (ogCells ls)[j]? := by
    intro j hj
    rw [← hc, List.getElem?_take_of_lt hj]
    simp [World.cell?, h]
  obtain ⟨h0, h1, h2, h3⟩ := ogCells_at ls i hi
  have g0 := hcell (i * 4) (by omega)
  have g1 := hcell (i * 4 + 1) (by omega)
  have g2 := hcell (i * 4 + 2) (by omega)
  have g3 := hcell (i * 4 + 3) (by omega)
  simp only [← Nat.add_assoc] at g0 g1 g2 g3
  exact ⟨g0.trans h0, g1.trans h1, g2.trans h2, g3.trans h3⟩
theorem OgsR.lit (w : World) (t : TypeId) (ls : List Og) (cs : Array Value) (h : cs = (ogCells ls).toArray) : OgsR (w.alloc (.cells cs t)) (w.alloc (.cells cs t)).heap.size (some ⟨w.heap.size, 0, none⟩) ls := by
  have hl := ogCells_length ls
  exact OgsR.of_block (w := w.alloc (.cells cs t)) (g := w.heap.size) (ls := ls) (heap_alloc_new w _) (by rw [h]; simp; rw [List.take_of_length_le (by omega)])
theorem one_ogs (ls : List Og) : ∀ u ∈ ogCells ls, u.oneCell' = true := by
  intro u hu
  unfold ogCells at hu
  rw [List.mem_flatMap] at hu
  obtain ⟨l, _, hl⟩ := hu
  simp [ogEnc] at hl
  rcases hl with rfl | rfl | rfl | rfl <;> rfl
theorem OgsR.toSrc {w : World} {B : Nat} {A : Option Addr} {ls : List Og} (h : OgsR w B A ls) : Src w 4 A ls.length (ogCells ls) := by
  refine ⟨ogCells_length ls, fun hp => ?_⟩
  obtain ⟨b, off, rfl, _, hc⟩ := h hp
  refine ⟨_, rfl, fun j v hv => ?_⟩
  have hjl : j < ls.length * 4 := by rw [← ogCells_length]; exact (List.getElem?_eq_some_iff.1 hv).1
  have hi : j / 4 < ls.length := by omega
  obtain ⟨c0, c1, c2, c3⟩ := hc (j / 4) hi
  obtain ⟨d0, d1, d2, d3⟩ := ogCells_at ls (j / 4) hi
  have ha : (⟨b, off, none⟩ : Addr).add j = ⟨b, off + j, none⟩ := by unfold Addr.add; split <;> simp_all
  rw [ha]
  rcases (by omega : j % 4 = 0 ∨ j % 4 = 1 ∨ j % 4 = 2 ∨ j % 4 = 3) with h | h | h | h
  · rw [show j = j / 4 * 4 by omega, d0] at hv; rw [show off + j = off + j / 4 * 4 by omega, c0]; exact hv
  · rw [show j = j / 4 * 4 + 1 by omega, d1] at hv; rw [show off + j = off + j / 4 * 4 + 1 by omega, c1]; exact hv
  · rw [show j = j / 4 * 4 + 2 by omega, d2] at hv; rw [show off + j = off + j / 4 * 4 + 2 by omega, c2]; exact hv
  · rw [show j = j / 4 * 4 + 3 by omega, d3] at hv; rw [show off + j = off + j / 4 * 4 + 3 by omega, c3]; exact hv
theorem ownsRow_ogs {w : World} {base : Nat} {v : Value} {ls : List Og} (h : w.ownsRow base 42 4 v ls.length (ogCells ls)) : ∃ A c, v = .slice A ls.length c ∧ OgsR w w.heap.size A ls := by
  rcases h.2 with ⟨rfl, h0⟩ | ⟨g, cap, cur, rfl, hb, hg, h1, h2, h3, h4⟩
  · obtain rfl : ls = [] := List.eq_nil_of_length_eq_zero h0
    exact ⟨none, 0, rfl, OgsR.nil_⟩
  · exact ⟨_, _, rfl, OgsR.of_block hg h4⟩
theorem info_og : (Tryz.prog.info? 42).map (fun i => (i.zero, i.size, i.bytes)) = some (some (.agg #[.int .u8 0, .int .i64 0, .int .i64 0, .int .i64 0]), 4, 32) := by kernel_rfl
theorem info_int : (Tryz.prog.info? 3).map (fun i => (i.zero, i.size, i.bytes)) = some (some (.int .i64 0), 1, 8) := by kernel_rfl
theorem ownsRow_ints {w : World} {base : Nat} {v : Value} {xs : List Int} (h : w.ownsRow base 3 1 v xs.length (xs.map (Value.int .i64))) : ∃ A c, v = .slice A xs.length c ∧ IntsR w w.heap.size A xs := by
  rcases h.2 with ⟨rfl, h0⟩ | ⟨g, cap, cur, rfl, hb, hg, h1, h2, h3, h4⟩
  · obtain rfl : xs = [] := List.eq_nil_of_length_eq_zero h0
    exact ⟨none, 0, rfl, IntsR.nil_⟩
  · refine ⟨_, _, rfl, fun hn => ⟨g, 0, rfl, (Array.getElem?_eq_some_iff.1 hg).1, fun i hi => ?_⟩⟩
    have hcell : w.cell? ⟨g, 0 + i, none⟩ = cur[i]? := by simp [World.cell?, hg]
    rw [hcell]
    have : (cur.toList.take (xs.length * 1))[i]? = (xs.map (Value.int .i64))[i]? := by rw [h4]
    rw [List.getElem?_take_of_lt (by omega)] at this
    rw [← Array.getElem?_toList, this]
    simp [hi]
theorem ownsRow_base {w : World} {base base' : Nat} {e : TypeId} {size : Nat} {v : Value} {n : Nat} {xs : List Value} (h : w.ownsRow base e size v n xs) (hb : base' ≤ base) : w.ownsRow base' e size v n xs := by
  obtain ⟨h1, h2⟩ := h
  refine ⟨h1, ?_⟩
  rcases h2 with h2 | ⟨g, cap, cur, hv, hg, r⟩
  · exact .inl h2
  · exact .inr ⟨g, cap, cur, hv, by omega, r⟩
/-- A row of outages of the call's own. -/
def OgE (w : World) (ls : List Og) (e : Ending) (w' : World) : Prop :=
  ∃ v, e = .returned v ∧ w'.ownsRow w.heap.size 42 4 v ls.length (ogCells ls) ∧ Below w.heap.size w w'
/-- A row of ints of the call's own. -/
def RowE (w : World) (xs : List Int) (e : Ending) (w' : World) : Prop :=
  ∃ v, e = .returned v ∧ w'.ownsRow w.heap.size 3 1 v xs.length (xs.map (Value.int .i64)) ∧ Below w.heap.size w w'
theorem neq_og (l m : Og) (w : World) : (binOp .neq 42 (.agg #[.int .u8 l.1, .int .i64 l.2.1, .int .i64 l.2.2.1, .int .i64 l.2.2.2]) (.agg #[.int .u8 m.1, .int .i64 m.2.1, .int .i64 m.2.2.1, .int .i64 m.2.2.2])).run Tryz.prog w = .ok (.bool (decide (l ≠ m))) w := by
  have u3 := Tryz.underlying3
  have a3 := Tryz.isAgg3
  have z3 := Tryz.sizeOf3
  have u2 := Tryz.underlying5
  have a2 := Tryz.isAgg5
  have z2 := Tryz.sizeOf5
  have hS : Tryz.prog.underlying 42 = some (.struct (Tryz.prog.fieldsOf 42)) := by kernel_rfl
  have hp : Tryz.prog.stoodInHeld 42 = false := by kernel_rfl
  rw [run_neq_struct, show (10000 : Nat) = 9999 + 1 from rfl, run_equalIn_agg w 9999 42 _ _ hS hp]
  simp only [Program.fieldsOf, Tryz.underlying42]
  go_simp
  obtain ⟨l0, l1, l2, l3⟩ := l
  obtain ⟨m0, m1, m2, m3⟩ := m
  by_cases h1 : l0 = m0 <;> by_cases h2 : l1 = m1 <;> by_cases h3 : l2 = m2 <;> by_cases h4 : l3 = m3 <;> simp [h1, h2, h3, h4]
theorem take_ext {α : Type} {xs ys : List α} {k : Nat} {d : α} (h : xs.take k = ys.take k) (hx : k < xs.length) (hy : k < ys.length) (he : xs.getD k d = ys.getD k d) : xs.take (k + 1) = ys.take (k + 1) := by
  rw [List.take_succ_eq_append_getElem hx, List.take_succ_eq_append_getElem hy, h]
  rw [getD_eq _ _ _ hx, getD_eq _ _ _ hy] at he
  rw [he]
end Go.Proofs.YtklanoppbbaolaaGreat
