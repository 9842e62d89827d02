/- Stripping in two steps: plain. -/
import Derived.Test.YtcacaiakkfgdpaaSvcP
import Derived.Test.YtcacaiakkfgdpaaStrB
import Derived.Test.YtcacaiakkfgdpaaEquB
namespace Go.Proofs.Ytcacaiakkfgdpaa
open Go.RowKit
set_option linter.unusedVariables false

theorem outs_make {nb : Int} {ls : List Ln} {out : List Int} (h1 : checkE nb ls = 0) (h2 : outsB ls.length out = true) : outsE nb ls out = 0 := by
  rw [outsE, if_pos h1, outsV, if_pos h2]
theorem pick_check {nb : Int} {ls : List Ln} {ks : List Int} (h : checkE nb ls = 0) (hk : ∀ k ∈ ks, 0 ≤ k ∧ k < ls.length) (hn : ks.length ≤ ls.length) : checkE nb (pick ls ks) = 0 := by
  unfold checkE at *
  rw [pick_length]
  split at h
  · omega
  · rename_i h0
    rw [if_neg h0]
    split at h
    · omega
    · rename_i h1
      rw [if_neg (by omega)]
      split at h
      · rename_i h2
        rw [if_pos]
        rw [List.all_eq_true] at h2 ⊢
        intro x hx
        rw [pick, List.mem_map] at hx
        obtain ⟨k, hkm, rfl⟩ := hx
        have hb := hk k hkm
        refine h2 _ ?_
        rw [getD_eq _ _ _ (by omega)]
        exact List.getElem_mem _
      · omega
theorem outsB_nil (m : Nat) : outsB m [] = true := by simp [outsB]
theorem svc_nil (m : Nat) : svcL [] m = rangeI m :=
  sorted_ext (svc_sorted (outsB_nil m)) (rangeI_sorted m) fun x => by
    rw [svc_mem (outsB_nil m), mem_rangeI]
    simp
theorem pick_range (ls : List Ln) : pick ls (rangeI ls.length) = ls := by
  refine List.ext_getElem (by rw [pick_length, rangeI_length]) fun i h1 h2 => ?_
  simp only [pick, rangeI, List.getElem_map, List.getElem_range, Int.toNat_natCast]
  exact getD_eq _ _ _ h2
/-- The numbers of a list's entries, in the list that they were taken from. -/
def backL (sv more : List Int) : List Int := more.map fun k => sv.getD k.toNat 0
theorem backL_length (sv more : List Int) : (backL sv more).length = more.length := by simp [backL]
theorem back_sorted {sv more : List Int} (hs : sv.Pairwise (· < ·)) (hm : more.Pairwise (· < ·)) (hb : ∀ k ∈ more, 0 ≤ k ∧ k < sv.length) : (backL sv more).Pairwise (· < ·) := by
  unfold backL
  rw [List.pairwise_map]
  refine hm.imp_of_mem fun {a b} ha hb' hab => ?_
  have h1 := hb a ha
  have h2 := hb b hb'
  rw [getD_eq _ _ _ (by omega), getD_eq _ _ _ (by omega)]
  exact List.pairwise_iff_getElem.1 hs a.toNat b.toNat (by omega) (by omega) (by omega)
theorem back_mem {sv more : List Int} (hb : ∀ k ∈ more, 0 ≤ k ∧ k < sv.length) {x : Int} (h : x ∈ backL sv more) : x ∈ sv := by
  unfold backL at h
  rw [List.mem_map] at h
  obtain ⟨k, hk, rfl⟩ := h
  have := hb k hk
  rw [getD_eq _ _ _ (by omega)]
  exact List.getElem_mem _
theorem sv_inj {sv : List Int} (hs : sv.Pairwise (· < ·)) {a b : Nat} (ha : a < sv.length) (hb : b < sv.length) (e : sv.getD a 0 = sv.getD b 0) : a = b := by
  rw [getD_eq _ _ _ ha, getD_eq _ _ _ hb] at e
  rcases Nat.lt_trichotomy a b with h | h | h
  · have := List.pairwise_iff_getElem.1 hs a b ha hb h; omega
  · exact h
  · have := List.pairwise_iff_getElem.1 hs b a hb ha h; omega
section
set_option linter.unusedSectionVars false
variable {m : Nat} {out more : List Int} (h : outsB m out = true) (hm : outsB (svcL out m).length more = true)
include h hm
theorem more_in : ∀ k ∈ more, 0 ≤ k ∧ k < (svcL out m).length := fun k hk => ⟨((asc_iff more).1 (outs_asc hm)).2 k hk, outs_lt hm k hk⟩
theorem both_asc : ascB (backL (svcL out m) more) = true :=
  (asc_iff _).2 ⟨back_sorted (svc_sorted h) ((asc_iff more).1 (outs_asc hm)).1 (more_in h hm), fun x hx => ((svc_mem h x).1 (back_mem (more_in h hm) hx)).1⟩
theorem both_outs : outsB m (unionL out (backL (svcL out m) more)) = true :=
  outs_of (asc_union (outs_asc h) (both_asc h hm)) fun x hx => by
    rcases ((unionL_spec _ _).2 x).1 hx with hx | hx
    · exact outs_lt h x hx
    · exact ((svc_mem h x).1 (back_mem (more_in h hm) hx)).2.1
/-- What two steps leave is what one step leaves. -/
theorem both_svc : svcL (unionL out (backL (svcL out m) more)) m = backL (svcL out m) (svcL more (svcL out m).length) := by
  have hin : ∀ k ∈ svcL more (svcL out m).length, 0 ≤ k ∧ k < (svcL out m).length := fun k hk => ⟨((svc_mem hm k).1 hk).1, ((svc_mem hm k).1 hk).2.1⟩
  refine sorted_ext (svc_sorted (both_outs h hm)) (back_sorted (svc_sorted h) (svc_sorted hm) hin) fun x => ?_
  rw [svc_mem (both_outs h hm), (unionL_spec _ _).2]
  constructor
  · rintro ⟨a, b, c⟩
    have hx : x ∈ svcL out m := (svc_mem h x).2 ⟨a, b, fun hx => c (.inl hx)⟩
    obtain ⟨i, hi, rfl⟩ := List.getElem_of_mem hx
    refine List.mem_map.2 ⟨(i : Int), (svc_mem hm _).2 ⟨by omega, by omega, fun hi' => c (.inr ?_)⟩, ?_⟩
    · exact List.mem_map.2 ⟨(i : Int), hi', by rw [Int.toNat_natCast, getD_eq _ _ _ hi]⟩
    · rw [Int.toNat_natCast, getD_eq _ _ _ hi]
  · intro hx
    obtain ⟨a, b, c⟩ := (svc_mem h x).1 (back_mem hin hx)
    refine ⟨a, b, fun hx' => ?_⟩
    rcases hx' with hx' | hx'
    · exact c hx'
    · obtain ⟨k, hk, e1⟩ := List.mem_map.1 hx
      obtain ⟨k', hk', e2⟩ := List.mem_map.1 hx'
      have b1 := hin k hk
      have b2 := more_in h hm k' hk'
      have := sv_inj (svc_sorted h) (by omega) (by omega) (e1.trans e2.symm)
      have hkk : k = k' := by omega
      subst hkk
      exact ((svc_mem hm k).1 hk).2.2 hk'
end
theorem pick_back (ls : List Ln) (sv ks : List Int) (hk : ∀ k ∈ ks, 0 ≤ k ∧ k < sv.length) : pick (pick ls sv) ks = pick ls (backL sv ks) := by
  unfold pick backL
  rw [List.map_map]
  refine List.map_congr_left fun k hk' => ?_
  have := hk k hk'
  rw [getD_eq _ _ _ (by rw [List.length_map]; omega), List.getElem_map]
  simp only [Function.comp_def]
  rw [getD_eq sv _ _ (by omega)]
end Go.Proofs.Ytcacaiakkfgdpaa
