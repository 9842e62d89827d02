/- The text DfsQ. -/
import Derived.Test.YtmojjfdamdgegaaMg43
import Derived.Test.YtmojjfdamdgegaaMg37
/- The tree and what it joins, in the words of labellings: plain. -/
namespace Go.Proofs.Ytmojjfdamdgegaa
open Go.RowKit
set_option linter.unusedVariables false

section
set_option linter.unusedSectionVars false
variable {nb : Int} {ls : List Ln} (hc : checkE nb ls = 0)
include hc
open Classical in
theorem cn_root {ch : List Int} (h : outsB ls.length ch = true) {a b : Int} (ha : 0 ≤ a ∧ a < nb) (hb : 0 ≤ b ∧ b < nb) : Cn ls (· ∈ ch) a b ↔ rootOf nb ls (svcL ch ls.length) a.toNat = rootOf nb ls (svcL ch ls.length) b.toNat := by
  have hv := valid_of_check hc
  have hin := (asc_of.1 h).2
  constructor
  · intro hcn
    have := hcn (fun z => rootOf nb ls (svcL ch ls.length) a.toNat = rootOf nb ls (svcL ch ls.length) z.toNat) fun x hx => by
      have hxm := hin x hx
      obtain ⟨j, rfl⟩ := Int.eq_ofNat_of_zero_le hxm.1
      have hr := root_in hc h hx
      show _ = rootOf nb ls (svcL ch ls.length) (frm ls (j : Int)).toNat ↔ _ = rootOf nb ls (svcL ch ls.length) (tow ls (j : Int)).toNat
      unfold frm tow
      rw [Int.toNat_natCast, hr]
    exact this.1 rfl
  · intro hr c hcx
    have hF := finest_of (rest_ok hc h)
    rw [svc_svc h] at hF
    have key := hF.factors (fun z => if c (z : Int) then 1 else 0) fun l hl => by
      unfold ends at hl
      rw [List.mem_map] at hl
      obtain ⟨x, hx, rfl⟩ := hl
      have hxm := hin x hx
      have hvx := hv.ok x.toNat (by omega)
      have := hcx x hx
      unfold frm tow at this
      show (if c (((ls.getD x.toNat (0, 0, 0, 0)).1.toNat : Nat) : Int) then 1 else 0) = (if c (((ls.getD x.toNat (0, 0, 0, 0)).2.1.toNat : Nat) : Int) then (1 : Int) else 0)
      rw [Int.toNat_of_nonneg hvx.1, Int.toNat_of_nonneg hvx.2.2.1]
      simp only [this]
    have k1 := key a.toNat (by omega)
    have k2 := key b.toNat (by omega)
    rw [hr] at k1
    simp only [Int.toNat_of_nonneg ha.1] at k1
    simp only [Int.toNat_of_nonneg hb.1] at k2
    rw [k1] at k2
    by_cases e1 : c a <;> by_cases e2 : c b
    · exact ⟨fun _ => e2, fun _ => e1⟩
    · rw [if_pos e1, if_neg e2] at k2; omega
    · rw [if_neg e1, if_pos e2] at k2; omega
    · exact ⟨fun h => absurd h e1, fun h => absurd h e2⟩
theorem ends_in {x : Int} (hx : 0 ≤ x ∧ x < ls.length) : (0 ≤ frm ls x ∧ frm ls x < nb) ∧ (0 ≤ tow ls x ∧ tow ls x < nb) := by
  have hv := (valid_of_check hc).ok x.toNat (by omega)
  unfold frm tow
  omega
theorem outs_wo {ch : List Int} (h : outsB ls.length ch = true) (k : Int) : outsB ls.length (ch.filter fun y => decide (y ≠ k)) = true :=
  asc_of.2 ⟨(asc_of.1 h).1.sublist List.filter_sublist, fun y hy => (asc_of.1 h).2 y (List.mem_filter.1 hy).1⟩
omit hc in
theorem wo_mem (ch : List Int) (k : Int) : wo (· ∈ ch) k = (· ∈ ch.filter fun y => decide (y ≠ k)) := by
  funext y; unfold wo; rw [List.mem_filter]; simp
end

section
set_option linter.unusedSectionVars false
variable {nb : Int} {ls : List Ln} {out : List Int} (he : outsE nb ls out = 0)
include he
theorem treeL_to : treeL nb ls out = treeTo nb ls (svcL out ls.length) (svcL out ls.length).length := by rw [treeL, if_pos he]
theorem treeL_outs : outsB ls.length (treeL nb ls out) = true := by rw [treeL_to he]; exact tree_outs he _
theorem tree_forest : Forest ls (· ∈ treeL nb ls out) := by
  intro x hx hcn
  have hc := (check_of_outs he).1
  have ho := treeL_outs he
  have hxm := (asc_of.1 ho).2 x hx
  rw [wo_mem, cn_root hc (outs_wo hc ho x) (ends_in hc hxm).1 (ends_in hc hxm).2] at hcn
  obtain ⟨j, rfl⟩ := Int.eq_ofNat_of_zero_le hxm.1
  have hf := outs_wo hc ho (j : Int)
  have h1 := less_one hc ho hf (x := j) (by omega) (fun y => by rw [List.mem_filter]; simp)
  rw [if_neg (fun h => h.2 ((lab_root hc hf (by omega)).2 (by unfold frm tow at hcn; rw [Int.toNat_natCast] at hcn; exact hcn)))] at h1
  have h2 := tree_cnt he _ (Nat.le_refl _)
  rw [← treeL_to he] at h2
  have h3 := cnt_ge hc _ _ rfl hf
  have h4 : ((treeL nb ls out).filter fun y => decide (y ≠ (j : Int))).length < (treeL nb ls out).length := List.length_filter_lt_length_iff_exists.2 ⟨(j : Int), hx, by simp⟩
  omega
/-- The tree joins what the lines in service join. -/
theorem tree_cn {a b : Int} (ha : 0 ≤ a ∧ a < nb) (hb : 0 ≤ b ∧ b < nb) : Cn ls (· ∈ treeL nb ls out) a b ↔ rootOf nb ls out a.toNat = rootOf nb ls out b.toNat := by
  rw [cn_root (check_of_outs he).1 (treeL_outs he) ha hb, tree_root he _ (by omega), tree_root he _ (by omega)]
theorem svc_in {x : Int} (hx : x ∈ svcL out ls.length) : 0 ≤ x ∧ x < ls.length := ⟨((svc_mem (check_of_outs he).2 x).1 hx).1, ((svc_mem (check_of_outs he).2 x).1 hx).2.1⟩
theorem tree_svc {x : Int} (hx : x ∈ treeL nb ls out) : x ∈ svcL out ls.length := by
  rw [treeL_to he] at hx
  exact ((treeTo_sub _ _ _ _).trans (List.take_sublist _ _)).subset hx
theorem tree_cn_svc {x : Int} (hx : x ∈ svcL out ls.length) : Cn ls (· ∈ treeL nb ls out) (frm ls x) (tow ls x) := by
  have hc := (check_of_outs he).1
  have hxm := svc_in he hx
  rw [tree_cn he (ends_in hc hxm).1 (ends_in hc hxm).2]
  have hF := finest_of he
  refine hF.agrees ((frm ls x).toNat, (tow ls x).toNat) ?_
  unfold ends
  rw [List.mem_map]
  exact ⟨x, hx, rfl⟩
theorem tree_nums : ∀ x ∈ treeL nb ls out, ∃ j : Nat, x = (j : Int) ∧ j < ls.length := fun x hx => by
  have := (asc_of.1 (treeL_outs he)).2 x hx
  exact ⟨x.toNat, by omega, by omega⟩
theorem tree_way {a b : Int} (hcn : Cn ls (· ∈ treeL nb ls out) a b) :
    ∃ t', dfsF ls (treeL nb ls out) b ((treeL nb ls out).length + 1) a (-1) (List.replicate ls.length 0) = some (true, t') ∧ Found ls (· ∈ treeL nb ls out) a b (List.replicate ls.length 0) t' :=
  dfs_forest (tree_nums he) (tree_forest he) hcn
end
/-- The way in the tree from a to b. -/
def wayT (nb : Int) (ls : List Ln) (out : List Int) (a b : Int) : List Int :=
  match dfsF ls (treeL nb ls out) b ((treeL nb ls out).length + 1) a (-1) (List.replicate ls.length 0) with
  | some (_, t) => t
  | none => []
theorem replicate_getD (n x : Nat) : (List.replicate n (0 : Int)).getD x 0 = 0 := by
  simp only [List.getD_eq_getElem?_getD, List.getElem?_replicate]; split <;> rfl
theorem bal_zero (ls : List Ln) (v : Int) (n : Nat) : ∀ m, bal ls (List.replicate n 0) v m = 0 := by
  intro m
  induction m with
  | zero => rfl
  | succ m ih => rw [bal, ih, replicate_getD]; split <;> split <;> rfl
theorem sgn_range (ls : List Ln) (S : Int → Prop) (a b x : Int) : -1 ≤ sgn ls S a b x ∧ sgn ls S a b x ≤ 1 := by
  unfold sgn
  split
  · omega
  · split <;> omega
/-- What is known of a way. -/
structure Way (nb : Int) (ls : List Ln) (out : List Int) (a b : Int) (t : List Int) : Prop where
  len : t.length = ls.length
  inn : ∀ x : Nat, x < ls.length → (x : Int) ∈ treeL nb ls out → t.getD x 0 = sgn ls (· ∈ treeL nb ls out) a b x
  off : ∀ x : Nat, x < ls.length → (x : Int) ∉ treeL nb ls out → t.getD x 0 = 0
  bal : ∀ v, Go.Proofs.Ytmojjfdamdgegaa.bal ls t v ls.length = (if a = v then 1 else 0) - (if b = v then 1 else 0)
  small : ∀ x : Nat, x < ls.length → -1 ≤ t.getD x 0 ∧ t.getD x 0 ≤ 1
theorem way_spec {nb : Int} {ls : List Ln} {out : List Int} (he : outsE nb ls out = 0) {a b : Int} (hcn : Cn ls (· ∈ treeL nb ls out) a b) :
    dfsF ls (treeL nb ls out) b ((treeL nb ls out).length + 1) a (-1) (List.replicate ls.length 0) = some (true, wayT nb ls out a b) ∧ Way nb ls out a b (wayT nb ls out a b) := by
  obtain ⟨t', e, h⟩ := tree_way he hcn
  have e2 : wayT nb ls out a b = t' := by unfold wayT; rw [e]
  rw [e2]
  have hl : (List.replicate ls.length (0 : Int)).length = ls.length := by simp
  have h1 : ∀ x : Nat, x < ls.length → (x : Int) ∈ treeL nb ls out → t'.getD x 0 = sgn ls (· ∈ treeL nb ls out) a b x := fun x hx hm => h.inn x (by rw [hl]; exact hx) hm
  have h2 : ∀ x : Nat, x < ls.length → (x : Int) ∉ treeL nb ls out → t'.getD x 0 = 0 := fun x hx hm => by rw [h.out x (by rw [hl]; exact hx) hm, replicate_getD]
  refine ⟨e, h.len.trans hl, h1, h2, fun v => ?_, fun x hx => ?_⟩
  · rw [h.bal, bal_zero]; omega
  · by_cases hm : (x : Int) ∈ treeL nb ls out
    · rw [h1 x hx hm]; exact sgn_range _ _ _ _ _
    · rw [h2 x hx hm]; omega
/-- The cycles. -/
def cycL (nb : Int) (ls : List Ln) (out : List Int) : List (List Int) := cycTo ls (treeL nb ls out) ((treeL nb ls out).length + 1) (svcL out ls.length) (svcL out ls.length).length
/-- The lines in service outside the tree. -/
def ownL (nb : Int) (ls : List Ln) (out : List Int) : List Int := (svcL out ls.length).filter fun x => !hasB (treeL nb ls out) x
section
set_option linter.unusedSectionVars false
variable {nb : Int} {ls : List Ln} {out : List Int} (he : outsE nb ls out = 0)
include he
theorem own_mem {x : Int} : x ∈ ownL nb ls out ↔ x ∈ svcL out ls.length ∧ x ∉ treeL nb ls out := by
  unfold ownL
  rw [List.mem_filter, ← hasB_mem (treeL nb ls out), Bool.not_eq_true', Bool.not_eq_true]
theorem cyc_own : cycL nb ls out = (ownL nb ls out).map fun x => (wayT nb ls out (tow ls x) (frm ls x)).set x.toNat 1 := by
  unfold cycL cycTo
  rw [List.take_length]
  refine List.map_congr_left fun x hx => ?_
  have hx' := (own_mem he).1 (show x ∈ ownL nb ls out from hx)
  unfold cycT
  have := (way_spec he (tree_cn_svc he hx'.1).symm).1
  unfold frm tow at this ⊢
  rw [this]
theorem cyc_dfs : ∀ x ∈ svcL out ls.length, hasB (treeL nb ls out) x = false → ∃ r t, dfsF ls (treeL nb ls out) (ls.getD x.toNat (0, 0, 0, 0)).1 ((treeL nb ls out).length + 1) (ls.getD x.toNat (0, 0, 0, 0)).2.1 (-1) (List.replicate ls.length 0) = some (r, t) := fun x hx _ =>
  ⟨_, _, (way_spec he (tree_cn_svc he hx).symm).1⟩
theorem own_sorted : (ownL nb ls out).Pairwise (· < ·) := (svc_sorted (check_of_outs he).2).sublist List.filter_sublist
theorem cyc_len : (cycL nb ls out).length = (ownL nb ls out).length := by rw [cyc_own he, List.length_map]
/-- The i-th cycle. -/
theorem cyc_at (i : Nat) (hi : i < (ownL nb ls out).length) : ∃ x : Nat, (ownL nb ls out).getD i 0 = (x : Int) ∧ x < ls.length ∧ (x : Int) ∈ svcL out ls.length ∧ (x : Int) ∉ treeL nb ls out ∧
    (cycL nb ls out).getD i [] = (wayT nb ls out (tow ls x) (frm ls x)).set x 1 ∧ Way nb ls out (tow ls x) (frm ls x) (wayT nb ls out (tow ls x) (frm ls x)) := by
  have hm := (own_mem he).1 (List.getElem_mem hi)
  have hx := svc_in he hm.1
  obtain ⟨x, ex⟩ := Int.eq_ofNat_of_zero_le hx.1
  rw [ex] at hm hx
  refine ⟨x, by rw [getD_eq _ _ _ hi]; exact ex, by omega, hm.1, hm.2, ?_, (way_spec he (tree_cn_svc he hm.1).symm).2⟩
  rw [cyc_own he, getD_eq _ _ _ (by rw [List.length_map]; exact hi), List.getElem_map, ex, Int.toNat_natCast]
end
end Go.Proofs.Ytmojjfdamdgegaa
