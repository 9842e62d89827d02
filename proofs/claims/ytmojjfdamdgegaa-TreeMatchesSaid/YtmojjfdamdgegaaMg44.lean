/- Texts in one: PthP, RfP. -/
import Derived.Test.YtmojjfdamdgegaaMg41
import Derived.Test.YtmojjfdamdgegaaMg28
import Derived.Test.YtmojjfdamdgegaaMg39
import Derived.Test.YtmojjfdamdgegaaMg43
/- tree.Path in every case. -/
namespace Go.Proofs.Ytmojjfdamdgegaa
open Go.RowKit
set_option linter.unusedVariables false

def pathL (nb : Int) (ls : List Ln) (out : List Int) (a b : Int) : List Int := if connE nb ls out a b = 0 ∧ connB nb ls out a b = true then wayT nb ls out a b else []
def pathE (nb : Int) (ls : List Ln) (out : List Int) (a b : Int) : Int := if connE nb ls out a b = 0 then (if connB nb ls out a b = true then 0 else 8) else connE nb ls out a b
theorem conn_in {nb : Int} {ls : List Ln} {out : List Int} {a b : Int} (h : connE nb ls out a b = 0) : outsE nb ls out = 0 ∧ (0 ≤ a ∧ a < nb) ∧ (0 ≤ b ∧ b < nb) := by
  unfold connE at h
  by_cases he : outsE nb ls out = 0
  · rw [if_pos he] at h
    by_cases hr : a < 0 ∨ nb ≤ a ∨ b < 0 ∨ nb ≤ b
    · rw [if_pos hr] at h; omega
    · exact ⟨he, by omega, by omega⟩
  · rw [if_neg he] at h; exact absurd h he
theorem conn_root {nb : Int} {ls : List Ln} {out : List Int} {a b : Int} (h : connE nb ls out a b = 0) : connB nb ls out a b = true ↔ rootOf nb ls out a.toNat = rootOf nb ls out b.toNat := by
  obtain ⟨he, ha, hb⟩ := conn_in h
  unfold connB
  rw [if_pos ⟨he, by omega⟩, beq_iff_eq]
  exact ofL_iff he _ _ (by omega) (by omega)
theorem conn_cn {nb : Int} {ls : List Ln} {out : List Int} {a b : Int} (h : connE nb ls out a b = 0) : connB nb ls out a b = true ↔ Cn ls (· ∈ treeL nb ls out) a b := by
  obtain ⟨he, ha, hb⟩ := conn_in h
  rw [conn_root h, tree_cn he ha hb]
theorem path_any (nb : Int) (A A' : Option Addr) (c c' : Nat) (ls : List Ln) (out : List Int) (a b : Int) (w : World) (hl : LinesR w w.heap.size A ls) (ho : IntsR w w.heap.size A' out) (hm : ls.length ≤ 1000000) (hn : out.length ≤ 1000000) :
    Calls Try.prog 23 #[.agg #[.int .i64 nb, .slice A ls.length c], .slice A' out.length c', .int .i64 a, .int .i64 b] w (IntsE w (pathL nb ls out a b) (pathE nb ls out a b)) := by
  by_cases h : connE nb ls out a b = 0
  · cases hb : connB nb ls out a b with
    | true =>
      rw [pathL, pathE, if_pos ⟨h, hb⟩, if_pos h, if_pos hb]
      exact path_ok nb A A' c c' ls out a b _ true _ w hl ho hm hn h hb (way_spec (conn_in h).1 ((conn_cn h).1 hb)).1
    | false =>
      rw [pathL, pathE, if_neg (by rw [hb]; simp), if_pos h, if_neg (by rw [hb]; simp)]
      exact path_none nb A A' c c' ls out a b w hl ho hm hn h hb
  · rw [pathL, pathE, if_neg (fun h' => h h'.1), if_neg h]
    exact path_err nb A A' c c' ls out a b w hl ho hm hn h
theorem path_zero {nb : Int} {ls : List Ln} {out : List Int} {a b : Int} (h : pathE nb ls out a b = 0) : (0 ≤ a ∧ a < nb) ∧ (0 ≤ b ∧ b < nb) ∧ Way nb ls out a b (pathL nb ls out a b) := by
  unfold pathE at h
  by_cases hc : connE nb ls out a b = 0
  · rw [if_pos hc] at h
    cases hb : connB nb ls out a b with
    | true =>
      obtain ⟨he, ha, hb'⟩ := conn_in hc
      refine ⟨ha, hb', ?_⟩
      rw [pathL, if_pos ⟨hc, hb⟩]
      exact (way_spec he ((conn_cn hc).1 hb)).2
    | false => rw [if_neg (by rw [hb]; simp)] at h; omega
  · rw [if_neg hc] at h; exact absurd h hc
theorem path_bad {nb : Int} {ls : List Ln} {out : List Int} {a b : Int} (he : outsE nb ls out = 0) (h : pathE nb ls out a b ≠ 0) : pathL nb ls out a b = [] ∧ (pathE nb ls out a b = 1 ∨ pathE nb ls out a b = 8) := by
  unfold pathE at h ⊢
  by_cases hc : connE nb ls out a b = 0
  · rw [if_pos hc] at h ⊢
    cases hb : connB nb ls out a b with
    | true => rw [if_pos hb] at h; exact absurd rfl h
    | false => rw [if_neg (by simp)]; exact ⟨by rw [pathL, if_neg (by rw [hb]; simp)], .inr rfl⟩
  · rw [if_neg hc]
    refine ⟨by rw [pathL, if_neg (fun h' => hc h'.1)], .inl ?_⟩
    unfold connE at hc ⊢
    rw [if_pos he] at hc ⊢
    by_cases hr : a < 0 ∨ nb ≤ a ∨ b < 0 ∨ nb ≤ b
    · rw [if_pos hr]
    · rw [if_neg hr] at hc; exact absurd rfl hc
end Go.Proofs.Ytmojjfdamdgegaa
/- What the reference of layer 16 asks of joined, and what it comes to: plain. -/
namespace Go.Proofs.Ytmojjfdamdgegaa
open Go.RowKit
set_option linter.unusedVariables false

theorem join_cn {nb : Int} {ls : List Ln} {S : List Int} {a b : Int} (hc : checkE nb ls = 0) (h : outsB ls.length S = true) (ha : 0 ≤ a ∧ a < nb) (hb : 0 ≤ b ∧ b < nb) : connB nb ls (notIn S ls.length) a b = true ↔ Cn ls (· ∈ S) a b := by
  rw [← svcL_eq h]
  have hE : connE nb ls (svcL S ls.length) a b = 0 := by rw [connE, if_pos (rest_ok hc h), if_neg (by omega)]
  rw [conn_root hE, cn_root hc h ha hb]
theorem woL_wo (S : List Int) (x : Int) : wo (· ∈ S) x = (· ∈ woL S x) := wo_mem S x
section
set_option linter.unusedSectionVars false
variable {nb : Int} {ls : List Ln} {out : List Int} (he : outsE nb ls out = 0)
include he
theorem brg_join {x : Nat} (hx : (x : Int) ∈ svcL out ls.length) : connB nb ls (notIn (woL (svcL out ls.length) x) ls.length) (ls.getD x (0, 0, 0, 0)).1 (ls.getD x (0, 0, 0, 0)).2.1 = !decide (cntL nb ls out < cntL nb ls (unionL out [(x : Int)])) := by
  have hc := (check_of_outs he).1
  have hxl := svc_in he hx
  have h1 := brg_cn he hx
  rw [brg_mem he] at h1
  have e := ends_in hc hxl
  have h2 := join_cn hc (outs_wo hc (svc_outsB he) (x : Int)) e.1 e.2
  rw [← wo_mem] at h2
  unfold frm tow at h2
  rw [Int.toNat_natCast] at h2
  have h3 : connB nb ls (notIn (woL (svcL out ls.length) x) ls.length) (ls.getD x (0, 0, 0, 0)).1 (ls.getD x (0, 0, 0, 0)).2.1 = true ↔ ¬ cntL nb ls out < cntL nb ls (unionL out [(x : Int)]) := by
    refine Iff.trans h2 ⟨fun h h' => h1.1 ⟨hx, h'⟩ (by unfold frm tow; rw [Int.toNat_natCast]; exact h), fun h => Classical.byContradiction fun hn => h (h1.2 (by unfold frm tow; rw [Int.toNat_natCast]; exact hn)).2⟩
  by_cases hl : cntL nb ls out < cntL nb ls (unionL out [(x : Int)])
  · rw [decide_eq_true hl]
    cases hb : connB nb ls (notIn (woL (svcL out ls.length) x) ls.length) (ls.getD x (0, 0, 0, 0)).1 (ls.getD x (0, 0, 0, 0)).2.1 with
    | true => exact absurd hl (h3.1 hb)
    | false => rfl
  · rw [decide_eq_false hl, h3.2 hl]; rfl
end
/-- One line of the reference's way. -/
def wayStep (nb : Int) (ls : List Ln) (T : List Int) (a b : Int) (t : List Int) (x : Int) : List Int :=
  if connB nb ls (notIn (woL T x) ls.length) a b = true then t else t.set x.toNat (if connB nb ls (notIn (woL T x) ls.length) a (ls.getD x.toNat (0, 0, 0, 0)).1 = true then 1 else -1)
def wayTo (nb : Int) (ls : List Ln) (T : List Int) (a b : Int) (k : Nat) : List Int := (T.take k).foldl (wayStep nb ls T a b) (List.replicate ls.length 0)
theorem wayTo_succ (nb : Int) (ls : List Ln) (T : List Int) (a b : Int) (k : Nat) (h : k < T.length) : wayTo nb ls T a b (k + 1) = wayStep nb ls T a b (wayTo nb ls T a b k) (T.getD k 0) := by
  unfold wayTo
  rw [List.take_succ_eq_append_getElem h, List.foldl_append, getD_eq _ _ _ h]
  rfl
theorem wayStep_len (nb : Int) (ls : List Ln) (T : List Int) (a b : Int) (t : List Int) (x : Int) : (wayStep nb ls T a b t x).length = t.length := by
  unfold wayStep; split
  · rfl
  · rw [List.length_set]
theorem wayTo_len (nb : Int) (ls : List Ln) (T : List Int) (a b : Int) (k : Nat) : (wayTo nb ls T a b k).length = ls.length := by
  unfold wayTo
  have : ∀ (l t : List Int), (l.foldl (wayStep nb ls T a b) t).length = t.length := fun l => by
    induction l with
    | nil => intro t; rfl
    | cons x l ih => intro t; rw [List.foldl_cons, ih, wayStep_len]
  rw [this, List.length_replicate]
/-- What stands at a line in the end. -/
def wayE (nb : Int) (ls : List Ln) (T : List Int) (a b x : Int) : Int :=
  if connB nb ls (notIn (woL T x) ls.length) a b = true then 0 else if connB nb ls (notIn (woL T x) ls.length) a (ls.getD x.toNat (0, 0, 0, 0)).1 = true then 1 else -1
theorem wayTo_get {nb : Int} {ls : List Ln} {T : List Int} (hT : outsB ls.length T = true) (a b : Int) : ∀ k, k ≤ T.length → ∀ y : Nat, y < ls.length → (wayTo nb ls T a b k).getD y 0 = if (y : Int) ∈ T.take k then wayE nb ls T a b y else 0 := by
  intro k
  induction k with
  | zero =>
    intro _ y hy
    rw [List.take_zero, if_neg (by simp)]
    exact replicate_getD _ _
  | succ k ih =>
    intro hk y hy
    have hk' : k < T.length := by omega
    have ih' := ih (by omega) y hy
    have hm := (asc_of.1 hT).2 _ (List.getElem_mem hk')
    have hnd : T[k] ∉ T.take k := fun h => by
      obtain ⟨j, hj, ej⟩ := List.getElem_of_mem h
      rw [List.getElem_take] at ej
      rw [List.length_take] at hj
      have := List.pairwise_iff_getElem.1 (asc_of.1 hT).1 j k (by omega) hk' (by omega)
      omega
    rw [wayTo_succ _ _ _ _ _ _ hk', getD_eq _ _ _ hk']
    have htk : (y : Int) ∈ T.take (k + 1) ↔ (y : Int) ∈ T.take k ∨ (y : Int) = T[k] := by
      rw [List.take_succ_eq_append_getElem hk', List.mem_append, List.mem_singleton]
    unfold wayStep
    by_cases e : (y : Int) = T[k]
    · have hn : (y : Int) ∉ T.take k := by rw [e]; exact hnd
      rw [if_neg hn] at ih'
      rw [if_pos (htk.2 (.inr e)), ← e]
      unfold wayE
      split
      · exact ih'
      · rw [Int.toNat_natCast, getD_set', if_pos ⟨rfl, by rw [wayTo_len]; exact hy⟩]
    · have e2 : ((y : Int) ∈ T.take (k + 1)) = ((y : Int) ∈ T.take k) := propext ⟨fun h => (htk.1 h).resolve_right e, fun h => htk.2 (.inl h)⟩
      simp only [e2]
      rw [← ih']
      split
      · rfl
      · rw [getD_set', if_neg (fun h => e (by omega))]
section
set_option linter.unusedSectionVars false
variable {nb : Int} {ls : List Ln} {out : List Int} (he : outsE nb ls out = 0)
include he
/-- The reference's way is the way in the tree. -/
theorem way_ref {a b : Int} (ha : 0 ≤ a ∧ a < nb) (hb : 0 ≤ b ∧ b < nb) (hcn : Cn ls (· ∈ treeL nb ls out) a b) : wayTo nb ls (treeL nb ls out) a b (treeL nb ls out).length = wayT nb ls out a b := by
  have hW := (way_spec he hcn).2
  have hc := (check_of_outs he).1
  have ho := treeL_outs he
  apply List.ext_getElem
  · rw [wayTo_len, hW.len]
  · intro y h1 h2
    have hy : y < ls.length := by rw [wayTo_len] at h1; exact h1
    rw [← getD_eq _ _ 0 h1, ← getD_eq _ _ 0 h2, wayTo_get ho a b _ (Nat.le_refl _) y hy, List.take_length]
    by_cases hm : (y : Int) ∈ treeL nb ls out
    · rw [if_pos hm, hW.inn y hy hm]
      unfold wayE sgn
      have e1 := join_cn hc (outs_wo hc ho (y : Int)) ha hb
      have e2 := join_cn hc (outs_wo hc ho (y : Int)) ha (ends_in hc (x := (y : Int)) (by omega)).1
      rw [← wo_mem] at e1 e2
      unfold frm at e2
      rw [Int.toNat_natCast] at e2 ⊢
      have e1' : connB nb ls (notIn (woL (treeL nb ls out) y) ls.length) a b = true ↔ Cn ls (wo (· ∈ treeL nb ls out) y) a b := e1
      have e2' : connB nb ls (notIn (woL (treeL nb ls out) y) ls.length) a (ls.getD y (0, 0, 0, 0)).1 = true ↔ Cn ls (wo (· ∈ treeL nb ls out) y) a (ls.getD y (0, 0, 0, 0)).1 := e2
      by_cases c1 : Cn ls (wo (· ∈ treeL nb ls out) y) a b
      · rw [if_pos (e1'.2 c1), if_pos (.inr c1)]
      · have n1 : ¬ connB nb ls (notIn (woL (treeL nb ls out) y) ls.length) a b = true := fun h => c1 (e1'.1 h)
        have n2 : ¬ (¬ (fun x => x ∈ treeL nb ls out) (y : Int) ∨ Cn ls (wo (· ∈ treeL nb ls out) y) a b) := fun h => h.elim (fun h => h hm) c1
        rw [if_neg n1, if_neg n2]
        have ef : frm ls (y : Int) = (ls.getD y (0, 0, 0, 0)).1 := by unfold frm; rw [Int.toNat_natCast]
        rw [ef]
        by_cases c2 : Cn ls (wo (· ∈ treeL nb ls out) y) a (ls.getD y (0, 0, 0, 0)).1
        · rw [if_pos (e2'.2 c2), if_pos c2]
        · have n3 : ¬ connB nb ls (notIn (woL (treeL nb ls out) y) ls.length) a (ls.getD y (0, 0, 0, 0)).1 = true := fun h => c2 (e2'.1 h)
          rw [if_neg n3, if_neg c2]
    · rw [if_neg hm, hW.off y hy hm]
end
end Go.Proofs.Ytmojjfdamdgegaa
