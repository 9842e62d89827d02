/- The text SpaQ. -/
import Derived.Test.YtmojjfdamdgegaaMg41
import Derived.Test.YtmojjfdamdgegaaMg31
/- The tree is a spanning forest: plain, the second part. -/
namespace Go.Proofs.Ytmojjfdamdgegaa
open Go.RowKit
set_option linter.unusedVariables false

section
set_option linter.unusedSectionVars false
variable {nb : Int} {ls : List Ln} (hc : checkE nb ls = 0)
include hc
theorem conn_labels {ch : List Int} (h : outsB ls.length ch = true) {x : Nat} (hx : x < ls.length) : connB nb ls (svcL ch ls.length) (ls.getD x (0, 0, 0, 0)).1 (ls.getD x (0, 0, 0, 0)).2.1 = ((ofL nb ls (svcL ch ls.length)).getD (ls.getD x (0, 0, 0, 0)).1.toNat 0 == (ofL nb ls (svcL ch ls.length)).getD (ls.getD x (0, 0, 0, 0)).2.1.toNat 0) := by
  have hv := (valid_of_check hc).ok x hx
  unfold connB
  rw [if_pos ⟨rest_ok hc h, by omega⟩]
theorem ends_of {ch : List Int} {x : Nat} (hx : (x : Int) ∈ ch) : ((ls.getD x (0, 0, 0, 0)).1.toNat, (ls.getD x (0, 0, 0, 0)).2.1.toNat) ∈ ends ls ch := by
  unfold ends
  rw [List.mem_map]
  exact ⟨(x : Int), hx, by rw [Int.toNat_natCast]⟩
theorem root_in {ch : List Int} (h : outsB ls.length ch = true) {x : Nat} (hx : (x : Int) ∈ ch) : rootOf nb ls (svcL ch ls.length) (ls.getD x (0, 0, 0, 0)).1.toNat = rootOf nb ls (svcL ch ls.length) (ls.getD x (0, 0, 0, 0)).2.1.toNat := by
  have hF := finest_of (rest_ok hc h)
  rw [svc_svc h] at hF
  exact hF.agrees _ (ends_of hc hx)
theorem lab_root {ch : List Int} (h : outsB ls.length ch = true) {x : Nat} (hx : x < ls.length) : (ofL nb ls (svcL ch ls.length)).getD (ls.getD x (0, 0, 0, 0)).1.toNat 0 = (ofL nb ls (svcL ch ls.length)).getD (ls.getD x (0, 0, 0, 0)).2.1.toNat 0 ↔ rootOf nb ls (svcL ch ls.length) (ls.getD x (0, 0, 0, 0)).1.toNat = rootOf nb ls (svcL ch ls.length) (ls.getD x (0, 0, 0, 0)).2.1.toNat := by
  have hv := (valid_of_check hc).ok x hx
  exact ofL_iff (rest_ok hc h) _ _ (by omega) (by omega)
/-- What fewer lines join, more lines join. -/
theorem root_more {ch ch' : List Int} (h : outsB ls.length ch = true) (h' : outsB ls.length ch' = true) (hs : ∀ y ∈ ch, y ∈ ch') {a b : Nat} (ha : a < nb.toNat) (hb : b < nb.toNat) (hr : rootOf nb ls (svcL ch ls.length) a = rootOf nb ls (svcL ch ls.length) b) : rootOf nb ls (svcL ch' ls.length) a = rootOf nb ls (svcL ch' ls.length) b := by
  have hF := finest_of (rest_ok hc h)
  rw [svc_svc h] at hF
  have hG := finest_of (rest_ok hc h')
  rw [svc_svc h'] at hG
  have key : ∀ c, c < nb.toNat → ((rootOf nb ls (svcL ch' ls.length) (rootOf nb ls (svcL ch ls.length) c) : Nat) : Int) = ((rootOf nb ls (svcL ch' ls.length) c : Nat) : Int) := fun c hc' =>
    hF.factors (fun z => ((rootOf nb ls (svcL ch' ls.length) z : Nat) : Int)) (fun l hl => by
      show ((rootOf nb ls (svcL ch' ls.length) l.1 : Nat) : Int) = _
      rw [hG.agrees l]
      unfold ends at hl ⊢
      rw [List.mem_map] at hl ⊢
      obtain ⟨k, hk, e⟩ := hl
      exact ⟨k, hs k hk, e⟩) c hc'
  have h1 := key a ha
  have h2 := key b hb
  rw [hr] at h1
  omega
end

section
set_option linter.unusedSectionVars false
variable {nb : Int} {ls : List Ln} {out : List Int} (he : outsE nb ls out = 0)
include he
theorem tree_cnt (k : Nat) (hk : k ≤ (svcL out ls.length).length) : cntL nb ls (svcL (treeTo nb ls (svcL out ls.length) k) ls.length) = nb - ((treeTo nb ls (svcL out ls.length) k).length : Int) := by
  have hc := (check_of_outs he).1
  induction k with
  | zero =>
    have : treeTo nb ls (svcL out ls.length) 0 = [] := rfl
    rw [this, none_cnt hc]; simp
  | succ k ih =>
    have ih' := ih (by omega)
    have hs := treeTo_succ nb ls (svcL out ls.length) k (by omega)
    have hmm := (svc_mem (check_of_outs he).2 ((svcL out ls.length).getD k 0)).1 (by rw [getD_eq _ _ _ (by omega)]; exact List.getElem_mem _)
    obtain ⟨j, hj⟩ := Int.eq_ofNat_of_zero_le hmm.1
    rw [hj] at hs hmm
    unfold treeStep at hs
    rw [Int.toNat_natCast] at hs
    have hb := tree_below he k (by omega)
    have ho := tree_outs he k
    have ho1 := tree_outs he (k + 1)
    by_cases hcn : connB nb ls (svcL (treeTo nb ls (svcL out ls.length) k) ls.length) (ls.getD j (0, 0, 0, 0)).1 (ls.getD j (0, 0, 0, 0)).2.1 = true
    · rw [if_pos hcn] at hs
      rw [hs]; exact ih'
    · rw [if_neg hcn] at hs
      rw [hs] at ho1 ⊢
      have hm : ∀ y, y ∈ treeTo nb ls (svcL out ls.length) k ↔ y ∈ treeTo nb ls (svcL out ls.length) k ++ [(j : Int)] ∧ y ≠ (j : Int) := fun y => by
        rw [List.mem_append, List.mem_singleton]
        constructor
        · intro hy
          refine ⟨.inl hy, fun e => ?_⟩
          obtain ⟨i, hi, e'⟩ := hb y hy
          have := svc_lt he hi (show k < _ by omega)
          rw [hj] at this
          omega
        · rintro ⟨h1 | h1, h2⟩
          · exact h1
          · exact absurd h1 h2
      have h1 := less_one hc ho1 ho (x := j) (by omega) hm
      rw [conn_labels hc ho (by omega)] at hcn
      rw [if_pos ⟨(lab_root hc ho1 (by omega)).2 (root_in hc ho1 (by simp)), fun e => hcn (by rw [e]; simp)⟩, ih'] at h1
      rw [List.length_append, List.length_singleton]
      omega
/-- The tree and the lines in service have the same roots. -/
theorem tree_root (b : Nat) (hb : b < nb.toNat) : rootOf nb ls (svcL (treeL nb ls out) ls.length) b = rootOf nb ls out b := by
  have hc := (check_of_outs he).1
  have htl : treeL nb ls out = treeTo nb ls (svcL out ls.length) (svcL out ls.length).length := by rw [treeL, if_pos he]
  have ho : outsB ls.length (treeL nb ls out) = true := by rw [htl]; exact tree_outs he _
  have hF := finest_of (rest_ok hc ho)
  rw [svc_svc ho] at hF
  have hG := finest_of he
  have hsub : ∀ y ∈ treeL nb ls out, y ∈ svcL out ls.length := fun y hy => by
    rw [htl] at hy
    exact ((treeTo_sub _ _ _ _).trans (List.take_sublist _ _)).subset hy
  have k1 := hF.factors (fun z => ((rootOf nb ls out z : Nat) : Int)) (fun l hl => by
    show ((rootOf nb ls out l.1 : Nat) : Int) = _
    rw [hG.agrees l]
    unfold ends at hl ⊢
    rw [List.mem_map] at hl ⊢
    obtain ⟨k, hk, e⟩ := hl
    exact ⟨k, hsub k hk, e⟩) b hb
  have k2 := hG.factors (fun z => ((rootOf nb ls (svcL (treeL nb ls out) ls.length) z : Nat) : Int)) (fun l hl => by
    unfold ends at hl
    rw [List.mem_map] at hl
    obtain ⟨y, hy, rfl⟩ := hl
    have hym := (svc_mem (check_of_outs he).2 y).1 hy
    obtain ⟨j, rfl⟩ := Int.eq_ofNat_of_zero_le hym.1
    rw [Int.toNat_natCast]
    show ((rootOf nb ls (svcL (treeL nb ls out) ls.length) (ls.getD j (0, 0, 0, 0)).1.toNat : Nat) : Int) = _
    obtain ⟨i, hi, e⟩ := List.getElem_of_mem hy
    have e' : (svcL out ls.length).getD i 0 = (j : Int) := by rw [getD_eq _ _ _ hi]; exact e
    have hhas := tree_has he i hi
    rw [e', Int.toNat_natCast] at hhas
    have hv := (valid_of_check hc).ok j (by omega)
    cases hcn : connB nb ls (svcL (treeTo nb ls (svcL out ls.length) i) ls.length) (ls.getD j (0, 0, 0, 0)).1 (ls.getD j (0, 0, 0, 0)).2.1 with
    | true =>
      have hoi := tree_outs he i
      rw [conn_labels hc hoi (by omega), beq_iff_eq] at hcn
      have := root_more hc hoi ho (fun y hy => by
        rw [htl]
        obtain ⟨more, h1, _⟩ := tree_split nb ls (svcL out ls.length) i _ (Nat.le_of_lt hi) (Nat.le_refl _)
        rw [h1]; simp [hy]) (by omega) (by omega) ((lab_root hc hoi (by omega)).1 hcn)
      rw [this]
    | false =>
      rw [hcn, Bool.not_false, hasB_mem] at hhas
      rw [root_in hc ho hhas]) b hb
  have h1 := hG.le (rootOf nb ls (svcL (treeL nb ls out) ls.length) b)
  have h2 := hF.le (rootOf nb ls out b)
  omega
theorem tree_of : ofL nb ls (svcL (treeL nb ls out) ls.length) = ofL nb ls out := by
  have hc := (check_of_outs he).1
  have htl : treeL nb ls out = treeTo nb ls (svcL out ls.length) (svcL out ls.length).length := by rw [treeL, if_pos he]
  have ho : outsB ls.length (treeL nb ls out) = true := by rw [htl]; exact tree_outs he _
  have h2 := rest_ok hc ho
  refine List.ext_getElem (by rw [ofL_length he, ofL_length h2]) fun k hk hk' => ?_
  rw [ofL_length h2] at hk
  have a1 := ofL_at h2 k hk
  have a2 := ofL_at he k hk
  rw [tree_root he k hk, cntTo_congr _ (fun b hb => tree_root he b (by have := rootOf_le nb ls out k; omega))] at a1
  rw [← a2] at a1
  rw [getD_eq _ _ _ (by rw [ofL_length h2]; exact hk), getD_eq _ _ _ (by rw [ofL_length he]; exact hk)] at a1
  exact a1
/-- Every line of the tree is a bridge of it. -/
theorem tree_brg : brgL nb ls (svcL (treeL nb ls out) ls.length) = treeL nb ls out := by
  have hc := (check_of_outs he).1
  have htl : treeL nb ls out = treeTo nb ls (svcL out ls.length) (svcL out ls.length).length := by rw [treeL, if_pos he]
  have ho : outsB ls.length (treeL nb ls out) = true := by rw [htl]; exact tree_outs he _
  rw [brgL, if_pos (rest_ok hc ho), svc_svc ho, brgTo, List.take_length, List.filter_eq_self]
  intro x hx
  have hxm := (asc_of.1 ho).2 x hx
  obtain ⟨j, rfl⟩ := Int.eq_ofNat_of_zero_le hxm.1
  have hf : outsB ls.length ((treeL nb ls out).filter fun y => decide (y ≠ (j : Int))) = true := asc_of.2 ⟨(asc_of.1 ho).1.sublist List.filter_sublist, fun y hy => (asc_of.1 ho).2 y (List.mem_filter.1 hy).1⟩
  have hu := rest_union ho hf (x := j) (by omega) (fun y => by rw [List.mem_filter]; simp)
  rw [hu]
  have h1 := tree_cnt he _ (Nat.le_refl _)
  rw [← htl] at h1
  have h2 := cnt_ge hc _ _ rfl hf
  have h3 : ((treeL nb ls out).filter fun y => decide (y ≠ (j : Int))).length < (treeL nb ls out).length := List.length_filter_lt_length_iff_exists.2 ⟨(j : Int), hx, by simp⟩
  exact decide_eq_true (by omega)
end
end Go.Proofs.Ytmojjfdamdgegaa
