/- Line sets: plain. -/
import Derived.Test.YtklfijhlibpmaaaUniP
import Derived.Test.YtklfijhlibpmaaaOgG
import Derived.Test.YtklfijhlibpmaaaOngS
namespace Go.Proofs.Ytklfijhlibpmaaa
set_option linter.unusedVariables false

theorem affL_union (ks : List Int) (l : List Og) (h : Int) : affL ks l h = unionL (selL ks (l.filter (covB · h))) [] := by
  unfold affL unionL
  rw [List.append_nil]
theorem affL_sorted (ks : List Int) (l : List Og) (h : Int) : (affL ks l h).Pairwise (· < ·) := by
  rw [affL_union]; exact (unionL_spec _ _).1
theorem affL_mem (ks : List Int) (l : List Og) (h x : Int) : x ∈ affL ks l h ↔ ∃ k ∈ ks, ∃ o ∈ l, ogCov o k x h := by
  rw [affL_union, (unionL_spec _ _).2]
  unfold selL covB ogCov
  simp only [List.mem_map, List.mem_filter, List.not_mem_nil, or_false, Bool.and_eq_true, decide_eq_true_eq]
  constructor
  · rintro ⟨o, ⟨⟨h1, h2⟩, h3⟩, rfl⟩
    exact ⟨o.1, h3, o, h1, rfl, rfl, h2.1, h2.2⟩
  · rintro ⟨k, hk, o, ho, rfl, rfl, h1, h2⟩
    exact ⟨o, ⟨⟨ho, h1, h2⟩, hk⟩, rfl⟩
theorem affL_eq {ks : List Int} {l : List Og} {h : Int} {L : List Int} (hs : L.Pairwise (· < ·)) (hm : ∀ x, x ∈ L ↔ ∃ k ∈ ks, ∃ o ∈ l, ogCov o k x h) : affL ks l h = L :=
  sorted_ext (affL_sorted _ _ _) hs fun x => (affL_mem ks l h x).trans (hm x).symm
theorem affL_same {l m : List Og} (hs : ogSame l m) (ks : List Int) (h : Int) : affL ks l h = affL ks m h :=
  affL_eq (affL_sorted _ _ _) fun x => (affL_mem ks m h x).trans ⟨fun ⟨k, hk, e⟩ => ⟨k, hk, (hs k x h).2 e⟩, fun ⟨k, hk, e⟩ => ⟨k, hk, (hs k x h).1 e⟩⟩
theorem affL_append (ks : List Int) (l m : List Og) (h x : Int) : x ∈ affL ks (l ++ m) h ↔ x ∈ affL ks l h ∨ x ∈ affL ks m h := by
  rw [affL_mem, affL_mem, affL_mem]
  constructor
  · rintro ⟨k, hk, o, ho, hc⟩
    rcases List.mem_append.1 ho with ho | ho
    · exact .inl ⟨k, hk, o, ho, hc⟩
    · exact .inr ⟨k, hk, o, ho, hc⟩
  · rintro (⟨k, hk, o, ho, hc⟩ | ⟨k, hk, o, ho, hc⟩)
    · exact ⟨k, hk, o, List.mem_append.2 (.inl ho), hc⟩
    · exact ⟨k, hk, o, List.mem_append.2 (.inr ho), hc⟩
theorem affL_mono {ks ks' : List Int} (hk : ∀ k ∈ ks, k ∈ ks') (l : List Og) (h x : Int) (hx : x ∈ affL ks l h) : x ∈ affL ks' l h := by
  rw [affL_mem] at hx ⊢
  obtain ⟨k, hk', e⟩ := hx
  exact ⟨k, hk k hk', e⟩
def threeOg : List Og := [(1, 2, 0, 5), (2, 1, 1, 1), (3, 0, 3, 3)]
theorem aff3_ahead : affL [1] threeOg 1 = [2] := affL_eq (by simp) fun x => by
  simp [threeOg, ogCov]
  omega
theorem aff3_now : affL [1, 2] threeOg 1 = [1, 2] := affL_eq (by simp) fun x => by
  simp [threeOg, ogCov]
  omega
theorem aff3_trips : affL [3] threeOg 3 = [0] := affL_eq (by simp) fun x => by
  simp [threeOg, ogCov]
  omega
theorem sorted_at {l : List Int} (h : l.Pairwise (· < ·)) {i : Nat} (hi : i + 1 < l.length) : l.getD i 0 < l.getD (i + 1) 0 := by
  rw [List.pairwise_iff_getElem] at h
  have := h i (i + 1) (by omega) hi (by omega)
  rw [getD_eq l i 0 (by omega), getD_eq l (i + 1) 0 hi]
  exact this
end Go.Proofs.Ytklfijhlibpmaaa
