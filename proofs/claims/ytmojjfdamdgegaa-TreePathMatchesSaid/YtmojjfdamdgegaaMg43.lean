/- The text BrgP. -/
import Derived.Test.YtmojjfdamdgegaaMg42
/- The bridges: a line in service is a bridge just when no cycle uses it, and just when it adds an island: plain. -/
namespace Go.Proofs.Ytmojjfdamdgegaa
open Go.RowKit
set_option linter.unusedVariables false

section
set_option linter.unusedSectionVars false
variable {nb : Int} {ls : List Ln} {out : List Int} (he : outsE nb ls out = 0)
include he
theorem svc_outsB : outsB ls.length (svcL out ls.length) = true := outs_svc (check_of_outs he).2
theorem union_rest {x : Nat} (hx : (x : Int) ∈ svcL out ls.length) : unionL out [(x : Int)] = svcL ((svcL out ls.length).filter fun y => decide (y ≠ (x : Int))) ls.length := by
  have hc := (check_of_outs he).1
  have ho := svc_outsB he
  have h := rest_union (x := x) ho (outs_wo hc ho (x : Int)) (by have := svc_in he hx; omega) (fun y => by rw [List.mem_filter]; simp)
  rwa [svc_svc (check_of_outs he).2] at h
theorem unionx_ok {x : Nat} (hx : (x : Int) ∈ svcL out ls.length) : outsE nb ls (unionL out [(x : Int)]) = 0 := by
  rw [union_rest he hx]
  exact rest_ok (check_of_outs he).1 (outs_wo (check_of_outs he).1 (svc_outsB he) _)
theorem onex_asc (x : Nat) : ascB [(x : Int)] = true := (asc_iff _).2 ⟨by simp, fun y hy => by simp at hy; omega⟩
theorem union_is (x : Nat) : uniE out [(x : Int)] = 0 ∧ uniL out [(x : Int)] = unionL out [(x : Int)] := by
  have h : ascB out = true ∧ ascB [(x : Int)] = true := ⟨outs_asc (check_of_outs he).2, onex_asc he x⟩
  exact ⟨by rw [uniE, if_pos h], by rw [uniL, if_pos h]⟩
open Classical in
theorem cnt_union {x : Nat} (hx : (x : Int) ∈ svcL out ls.length) : cntL nb ls (unionL out [(x : Int)]) = cntL nb ls out + (if Cn ls (wo (· ∈ svcL out ls.length) x) (frm ls x) (tow ls x) then 0 else 1) := by
  have hc := (check_of_outs he).1
  have ho := svc_outsB he
  have hxl : x < ls.length := by have := svc_in he hx; omega
  have hf := outs_wo hc ho (x : Int)
  have h1 := less_one hc ho hf (x := x) hxl (fun y => by rw [List.mem_filter]; simp)
  rw [svc_svc (check_of_outs he).2, ← union_rest he hx] at h1
  have e1 : (ofL nb ls out).getD (ls.getD x (0, 0, 0, 0)).1.toNat 0 = (ofL nb ls out).getD (ls.getD x (0, 0, 0, 0)).2.1.toNat 0 := by
    have := (lab_root hc ho hxl).2 (root_in hc ho hx)
    rwa [svc_svc (check_of_outs he).2] at this
  have e2 := (lab_root hc hf hxl).trans (cn_root hc hf (ends_in hc (x := (x : Int)) (by omega)).1 (ends_in hc (x := (x : Int)) (by omega)).2).symm
  rw [← wo_mem, ← union_rest he hx] at e2
  rw [h1]
  by_cases h : Cn ls (wo (· ∈ svcL out ls.length) x) (frm ls x) (tow ls x)
  · rw [if_pos h, if_neg (fun h' => h'.2 (e2.2 h))]
  · rw [if_neg h, if_pos ⟨e1, fun h' => h (e2.1 h')⟩]
theorem brg_mem {x : Int} : x ∈ brgL nb ls out ↔ x ∈ svcL out ls.length ∧ cntL nb ls out < cntL nb ls (unionL out [x]) := by
  rw [brgL, if_pos he, brgTo, List.take_length, List.mem_filter, decide_eq_true_eq]
theorem brg_cn {x : Nat} (hx : (x : Int) ∈ svcL out ls.length) : (x : Int) ∈ brgL nb ls out ↔ ¬ Cn ls (wo (· ∈ svcL out ls.length) x) (frm ls x) (tow ls x) := by
  rw [brg_mem he, cnt_union he hx]
  by_cases h : Cn ls (wo (· ∈ svcL out ls.length) x) (frm ls x) (tow ls x)
  · rw [if_pos h]; exact ⟨fun h' => by omega, fun h' => absurd h h'⟩
  · rw [if_neg h]; exact ⟨fun _ => h, fun _ => ⟨hx, by omega⟩⟩
theorem brg_cnt {x : Nat} (hx : (x : Int) ∈ svcL out ls.length) : hasB (brgL nb ls out) x = decide (cntL nb ls (unionL out [(x : Int)]) = cntL nb ls out + 1) := by
  have h := brg_cn he hx
  have h2 := cnt_union he hx
  unfold hasB
  by_cases hc : Cn ls (wo (· ∈ svcL out ls.length) x) (frm ls x) (tow ls x)
  · rw [if_pos hc] at h2
    rw [decide_eq_false (fun h' => h.1 h' hc), decide_eq_false (by omega)]
  · rw [if_neg hc] at h2
    rw [decide_eq_true (h.2 hc), decide_eq_true (by omega)]
theorem tree_wo {x : Nat} (hx : (x : Int) ∉ treeL nb ls out) {a b : Int} (h : Cn ls (· ∈ treeL nb ls out) a b) : Cn ls (wo (· ∈ svcL out ls.length) x) a b :=
  h.more fun y hy => ⟨tree_svc he hy, fun e => hx (e ▸ hy)⟩
theorem brg_tree {x : Nat} (hx : (x : Int) ∈ brgL nb ls out) : (x : Int) ∈ treeL nb ls out := by
  have hs := ((brg_mem he).1 hx).1
  exact Classical.byContradiction fun hn => (brg_cn he hs).1 hx (tree_wo he hn (tree_cn_svc he hs))
/-- Some cycle uses x. -/
theorem used_iff {x : Nat} (hx : (x : Int) ∈ svcL out ls.length) : ((cycL nb ls out).any fun r => r.getD x 0 != 0) = true ↔ Cn ls (wo (· ∈ svcL out ls.length) x) (frm ls x) (tow ls x) := by
  have hxl : x < ls.length := by have := svc_in he hx; omega
  rw [List.any_eq_true]
  by_cases hT : (x : Int) ∈ treeL nb ls out
  · have hT' : (fun y => y ∈ treeL nb ls out) (x : Int) := hT
    constructor
    · rintro ⟨r, hr, hv⟩
      obtain ⟨i, hi, rfl⟩ := List.getElem_of_mem hr
      rw [cyc_len he] at hi
      obtain ⟨y, h1, h2, h3, h4, h5, h6⟩ := cyc_at he i hi
      rw [getD_eq _ _ _ (by rw [cyc_len he]; exact hi)] at h5
      have hne : ¬ y = x := fun e => h4 (by rw [e]; exact hT)
      rw [h5, getD_set', if_neg (fun h => hne h.1), h6.inn x hxl hT, bne_iff_ne] at hv
      have hnc : ¬ Cn ls (wo (· ∈ treeL nb ls out) x) (tow ls y) (frm ls y) := fun hc => hv (by unfold sgn; rw [if_pos (.inr hc)])
      have hcn := (tree_cn_svc he h3).symm
      have hy : wo (· ∈ svcL out ls.length) (x : Int) (y : Int) := ⟨h3, fun e => hne (by omega)⟩
      have up : ∀ {a b : Int}, Cn ls (wo (· ∈ treeL nb ls out) x) a b → Cn ls (wo (· ∈ svcL out ls.length) x) a b := fun h => h.more fun z hz => ⟨tree_svc he hz.1, hz.2⟩
      have hl : Cn ls (wo (· ∈ svcL out ls.length) x) (frm ls y) (tow ls y) := Cn.line hy
      rcases hcn.wo hT' with h | ⟨a, b⟩ | ⟨a, b⟩
      · exact absurd h hnc
      · exact (up a).symm.trans (hl.symm.trans (up b).symm)
      · exact ((up b).trans hl).trans (up a)
    · intro hc
      apply Classical.byContradiction
      intro hn
      have hall : ∀ y : Nat, (y : Int) ∈ ownL nb ls out → Cn ls (wo (· ∈ treeL nb ls out) x) (tow ls y) (frm ls y) := fun y hy => by
        obtain ⟨i, hi, ei⟩ := List.getElem_of_mem hy
        obtain ⟨y', h1, h2, h3, h4, h5, h6⟩ := cyc_at he i hi
        rw [getD_eq _ _ _ hi, ei] at h1
        obtain rfl : y = y' := by omega
        have hne : ¬ y = x := fun e => h4 (by rw [e]; exact hT)
        apply Classical.byContradiction
        intro hnc
        refine hn ⟨(cycL nb ls out).getD i [], ?_, ?_⟩
        · rw [getD_eq _ _ _ (by rw [cyc_len he]; exact hi)]; exact List.getElem_mem _
        · rw [h5, getD_set', if_neg (fun h => hne h.1), h6.inn x hxl hT, bne_iff_ne]
          unfold sgn
          rw [if_neg (by rintro (h | h); exact h hT; exact hnc h)]
          split <;> omega
      refine tree_forest he x hT (hc.lift fun y hy => ?_)
      by_cases hyT : y ∈ treeL nb ls out
      · exact Cn.line ⟨hyT, hy.2⟩
      · have := svc_in he hy.1
        obtain ⟨z, rfl⟩ := Int.eq_ofNat_of_zero_le this.1
        exact (hall z ((own_mem he).2 ⟨hy.1, hyT⟩)).symm
  · constructor
    · intro _
      exact tree_wo he hT (tree_cn_svc he hx)
    · intro _
      obtain ⟨i, hi, ei⟩ := List.getElem_of_mem ((own_mem he).2 ⟨hx, hT⟩)
      obtain ⟨y, h1, h2, h3, h4, h5, h6⟩ := cyc_at he i hi
      rw [getD_eq _ _ _ hi, ei] at h1
      obtain rfl : x = y := by omega
      refine ⟨(cycL nb ls out).getD i [], ?_, ?_⟩
      · rw [getD_eq _ _ _ (by rw [cyc_len he]; exact hi)]; exact List.getElem_mem _
      · rw [h5, getD_set', if_pos ⟨rfl, by rw [h6.len]; exact hxl⟩]; rfl
theorem brg_used {x : Nat} (hx : (x : Int) ∈ svcL out ls.length) : hasB (brgL nb ls out) x = !((cycL nb ls out).any fun r => r.getD x 0 != 0) := by
  have h1 := brg_cn he hx
  have h2 := used_iff he hx
  cases hu : (cycL nb ls out).any fun r => r.getD x 0 != 0 with
  | true => unfold hasB; rw [decide_eq_false (fun h => h1.1 h (h2.1 hu))]; rfl
  | false => unfold hasB; rw [decide_eq_true (h1.2 fun h => by rw [h2.2 h] at hu; cases hu)]; rfl
theorem brg_sorted : (brgL nb ls out).Pairwise (· < ·) := by
  rw [brgL, if_pos he, brgTo, List.take_length]
  exact (svc_sorted (check_of_outs he).2).sublist List.filter_sublist
end
end Go.Proofs.Ytmojjfdamdgegaa
