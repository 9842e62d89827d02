/- The text PthP. -/
import Derived.Test.YtmojjfdamdgegaaMg44
import Derived.Test.YtmojjfdamdgegaaMg35
/- tree.Path in every case. -/
namespace Go.Proofs.Ytmojjfdamdgegaa
open Go.RowKit
set_option linter.unusedVariables false

def pathL (nb : Int) (ls : List Ln) (out : List Int) (a b : Int) : List Int := if connE nb ls out a b = 0 ∧ connB nb ls out a b = true then wayT nb ls out a b else []
def pathE (nb : Int) (ls : List Ln) (out : List Int) (a b : Int) : Int := if connE nb ls out a b = 0 then (if connB nb ls out a b = true then 0 else 8) else connE nb ls out a b
theorem conn_in {nb : Int} {ls : List Ln} {out : List Int} {a b : Int} (h : connE nb ls out a b = 0) : outsE nb ls out = 0 ∧ (0 ≤ a ∧ a < nb) ∧ (0 ≤ b ∧ b < nb) := by
  unfold connE at h
  by_cases he : outsE nb ls out = 0
  · rw [if_pos he] at h
    by_cases hr : a < 0 ∨ nb ≤ a ∨ b < 0 ∨ nb ≤ b
    · rw [if_pos hr] at h; omega
    · exact ⟨he, by omega, by omega⟩
  · rw [if_neg he] at h; exact absurd h he
theorem conn_root {nb : Int} {ls : List Ln} {out : List Int} {a b : Int} (h : connE nb ls out a b = 0) : connB nb ls out a b = true ↔ rootOf nb ls out a.toNat = rootOf nb ls out b.toNat := by
  obtain ⟨he, ha, hb⟩ := conn_in h
  unfold connB
  rw [if_pos ⟨he, by omega⟩, beq_iff_eq]
  exact ofL_iff he _ _ (by omega) (by omega)
theorem conn_cn {nb : Int} {ls : List Ln} {out : List Int} {a b : Int} (h : connE nb ls out a b = 0) : connB nb ls out a b = true ↔ Cn ls (· ∈ treeL nb ls out) a b := by
  obtain ⟨he, ha, hb⟩ := conn_in h
  rw [conn_root h, tree_cn he ha hb]
theorem path_any (nb : Int) (A A' : Option Addr) (c c' : Nat) (ls : List Ln) (out : List Int) (a b : Int) (w : World) (hl : LinesR w w.heap.size A ls) (ho : IntsR w w.heap.size A' out) (hm : ls.length ≤ 1000000) (hn : out.length ≤ 1000000) :
    Calls Try.prog 23 #[.agg #[.int .i64 nb, .slice A ls.length c], .slice A' out.length c', .int .i64 a, .int .i64 b] w (IntsE w (pathL nb ls out a b) (pathE nb ls out a b)) := by
  by_cases h : connE nb ls out a b = 0
  · cases hb : connB nb ls out a b with
    | true =>
      rw [pathL, pathE, if_pos ⟨h, hb⟩, if_pos h, if_pos hb]
      exact path_ok nb A A' c c' ls out a b _ true _ w hl ho hm hn h hb (way_spec (conn_in h).1 ((conn_cn h).1 hb)).1
    | false =>
      rw [pathL, pathE, if_neg (by rw [hb]; simp), if_pos h, if_neg (by rw [hb]; simp)]
      exact path_none nb A A' c c' ls out a b w hl ho hm hn h hb
  · rw [pathL, pathE, if_neg (fun h' => h h'.1), if_neg h]
    exact path_err nb A A' c c' ls out a b w hl ho hm hn h
theorem path_zero {nb : Int} {ls : List Ln} {out : List Int} {a b : Int} (h : pathE nb ls out a b = 0) : (0 ≤ a ∧ a < nb) ∧ (0 ≤ b ∧ b < nb) ∧ Way nb ls out a b (pathL nb ls out a b) := by
  unfold pathE at h
  by_cases hc : connE nb ls out a b = 0
  · rw [if_pos hc] at h
    cases hb : connB nb ls out a b with
    | true =>
      obtain ⟨he, ha, hb'⟩ := conn_in hc
      refine ⟨ha, hb', ?_⟩
      rw [pathL, if_pos ⟨hc, hb⟩]
      exact (way_spec he ((conn_cn hc).1 hb)).2
    | false => rw [if_neg (by rw [hb]; simp)] at h; omega
  · rw [if_neg hc] at h; exact absurd h hc
theorem path_bad {nb : Int} {ls : List Ln} {out : List Int} {a b : Int} (he : outsE nb ls out = 0) (h : pathE nb ls out a b ≠ 0) : pathL nb ls out a b = [] ∧ (pathE nb ls out a b = 1 ∨ pathE nb ls out a b = 8) := by
  unfold pathE at h ⊢
  by_cases hc : connE nb ls out a b = 0
  · rw [if_pos hc] at h ⊢
    cases hb : connB nb ls out a b with
    | true => rw [if_pos hb] at h; exact absurd rfl h
    | false => rw [if_neg (by simp)]; exact ⟨by rw [pathL, if_neg (by rw [hb]; simp)], .inr rfl⟩
  · rw [if_neg hc]
    refine ⟨by rw [pathL, if_neg (fun h' => hc h'.1)], .inl ?_⟩
    unfold connE at hc ⊢
    rw [if_pos he] at hc ⊢
    by_cases hr : a < 0 ∨ nb ≤ a ∨ b < 0 ∨ nb ≤ b
    · rw [if_pos hr]
    · rw [if_neg hr] at hc; exact absurd rfl hc
end Go.Proofs.Ytmojjfdamdgegaa
