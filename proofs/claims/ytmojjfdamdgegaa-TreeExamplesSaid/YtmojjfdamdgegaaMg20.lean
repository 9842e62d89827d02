/- The text OutP. -/
import Derived.Test.YtmojjfdamdgegaaMg16
import Derived.Test.YtmojjfdamdgegaaMg19
/- One more line out of service adds at most one island: plain. -/
namespace Go.Proofs.Ytmojjfdamdgegaa
open Go.RowKit
set_option linter.unusedVariables false

/-- The buses that are their own roots, below k. -/
theorem refs_cnt {nb : Int} {ls : List Ln} {out : List Int} (he : outsE nb ls out = 0) (k : Nat) (hk : k ≤ nb.toNat) : (refsTo (ofL nb ls out) k).length = cntTo (rootOf nb ls out) k := by
  induction k with
  | zero => rfl
  | succ k ih =>
    have ih' := ih (by omega)
    rw [refsTo, cntTo, ih', ofL_at he k (by omega)]
    by_cases h : rootOf nb ls out k = k
    · rw [if_pos h, if_pos (by rw [h])]; simp [ih']
    · have hlt : rootOf nb ls out k < k := by have := rootOf_le nb ls out k; omega
      have := cntTo_lt (rootOf nb ls out) (rootOf nb ls out k) k hlt (rootOf_idem _ _ _ _)
      rw [if_neg h, if_neg (by omega)]; exact ih'
theorem cntL_eq {nb : Int} {ls : List Ln} {out : List Int} (he : outsE nb ls out = 0) : cntL nb ls out = ((cntTo (rootOf nb ls out) nb.toNat : Nat) : Int) := by
  unfold cntL refsL
  rw [ofL_length he, refs_cnt he _ (Nat.le_refl _)]
/-- Two finest labellings over the same ends are the same. -/
theorem finest_le {n : Nat} {L L' : List (Nat × Nat)} {r s : Nat → Nat} (h1 : Finest n L r) (h2 : Finest n L' s) (hL : ∀ l ∈ L', l ∈ L) (hL' : ∀ l ∈ L, l ∈ L') (b : Nat) (hb : b < n) : s b ≤ r b := by
  have e := h1.factors (fun x => ((s x : Nat) : Int)) (fun l hl => by show ((s l.1 : Nat) : Int) = _; rw [h2.agrees l (hL' l hl)]) b hb
  have : s (r b) = s b := by exact_mod_cast e
  have := h2.le (r b)
  omega
theorem finest_eq {n : Nat} {L L' : List (Nat × Nat)} {r s : Nat → Nat} (h1 : Finest n L r) (h2 : Finest n L' s) (hL : ∀ l, l ∈ L' ↔ l ∈ L) (b : Nat) (hb : b < n) : r b = s b :=
  Nat.le_antisymm (finest_le h2 h1 (fun l h => (hL l).2 h) (fun l h => (hL l).1 h) b hb) (finest_le h1 h2 (fun l h => (hL l).1 h) (fun l h => (hL l).2 h) b hb)
theorem cntTo_congr {r s : Nat → Nat} (k : Nat) (h : ∀ b, b < k → r b = s b) : cntTo r k = cntTo s k := by
  induction k with
  | zero => rfl
  | succ k ih => rw [cntTo, cntTo, ih (fun b hb => h b (by omega)), h k (by omega)]
/-- Joining two classes takes at most one root away. -/
theorem cntTo_join {r : Nat → Nat} {x y : Nat} (hid : ∀ b, r (r b) = r b) (k : Nat) :
    cntTo r k = cntTo (fun b => if r b = max (r x) (r y) then min (r x) (r y) else r b) k + if r x ≠ r y ∧ max (r x) (r y) < k then 1 else 0 := by
  induction k with
  | zero => simp [cntTo]
  | succ k ih =>
    rw [cntTo, cntTo, ih]
    have hx := hid x
    have hy := hid y
    by_cases hk : k = max (r x) (r y)
    · have hr : r k = k := by
        rcases Nat.le_total (r x) (r y) with h | h
        · rw [hk, Nat.max_eq_right h, hy]
        · rw [hk, Nat.max_eq_left h, hx]
      rw [if_pos hr]
      simp only [hr]
      rw [if_pos hk]
      by_cases e : r x = r y
      · have m1 : min (r x) (r y) = k := by omega
        have m2 : ¬ (r x ≠ r y ∧ max (r x) (r y) < k) := fun h => h.1 e
        have m3 : ¬ (r x ≠ r y ∧ max (r x) (r y) < k + 1) := fun h => h.1 e
        rw [if_pos m1, if_neg m2, if_neg m3]
      · have m1 : ¬ min (r x) (r y) = k := by omega
        have m2 : ¬ (r x ≠ r y ∧ max (r x) (r y) < k) := fun h => by omega
        have m3 : r x ≠ r y ∧ max (r x) (r y) < k + 1 := ⟨e, by omega⟩
        rw [if_neg m1, if_neg m2, if_pos m3]
    · by_cases hr : r k = k
      · rw [if_pos hr]
        simp only [hr]
        rw [if_neg hk, if_pos rfl]
        by_cases e : r x ≠ r y ∧ max (r x) (r y) < k
        · rw [if_pos e, if_pos ⟨e.1, by omega⟩]
        · rw [if_neg e, if_neg (fun h => e ⟨h.1, by omega⟩)]
      · rw [if_neg hr]
        have hj : ¬ (if r k = max (r x) (r y) then min (r x) (r y) else r k) = k := by
          split
          · intro e
            rcases Nat.le_total (r x) (r y) with h | h
            · rw [Nat.min_eq_left h] at e
              exact hr (by rw [← e, hx])
            · rw [Nat.min_eq_right h] at e
              exact hr (by rw [← e, hy])
          · exact hr
        rw [if_neg hj]
        by_cases e : r x ≠ r y ∧ max (r x) (r y) < k
        · rw [if_pos e, if_pos ⟨e.1, by omega⟩]
        · rw [if_neg e, if_neg (fun h => e ⟨h.1, by omega⟩)]

section
set_option linter.unusedSectionVars false
variable {nb : Int} {ls : List Ln} {out : List Int} {x : Nat} (he : outsE nb ls out = 0) (hx : x < ls.length)
include he hx
theorem one_asc : ascB [(x : Int)] = true := (asc_iff _).2 ⟨by simp, fun y hy => by rw [List.mem_singleton] at hy; omega⟩
theorem one_outs : outsB ls.length (unionL out [(x : Int)]) = true :=
  outs_of (asc_union (outs_asc (check_of_outs he).2) (one_asc he hx)) fun y hy => by
    rcases ((unionL_spec _ _).2 y).1 hy with hy | hy
    · exact outs_lt (check_of_outs he).2 y hy
    · rw [List.mem_singleton] at hy; omega
theorem one_outsE : outsE nb ls (unionL out [(x : Int)]) = 0 := outs_make (check_of_outs he).1 (one_outs he hx)
theorem one_mem (y : Int) : y ∈ svcL (unionL out [(x : Int)]) ls.length ↔ y ∈ svcL out ls.length ∧ y ≠ (x : Int) := by
  rw [svc_mem (one_outs he hx), svc_mem (check_of_outs he).2, (unionL_spec _ _).2, List.mem_singleton]
  constructor
  · rintro ⟨a, b, c⟩; exact ⟨⟨a, b, fun h => c (.inl h)⟩, fun h => c (.inr h)⟩
  · rintro ⟨⟨a, b, c⟩, d⟩; exact ⟨a, b, fun h => h.elim c d⟩
/-- What is together without the line is together with it. -/
theorem one_finer (a b : Nat) (ha : a < nb.toNat) (hb : b < nb.toNat) (h : (ofL nb ls (unionL out [(x : Int)])).getD a 0 = (ofL nb ls (unionL out [(x : Int)])).getD b 0) : (ofL nb ls out).getD a 0 = (ofL nb ls out).getD b 0 := by
  have hF := finest_of (one_outsE he hx)
  have hG := finest_of he
  rw [ofL_iff (one_outsE he hx) a b ha hb] at h
  rw [ofL_iff he a b ha hb]
  have key : ∀ c, c < nb.toNat → ((rootOf nb ls out (rootOf nb ls (unionL out [(x : Int)]) c) : Nat) : Int) = ((rootOf nb ls out c : Nat) : Int) := fun c hc =>
    hF.factors (fun z => ((rootOf nb ls out z : Nat) : Int)) (fun l hl => by
      show ((rootOf nb ls out l.1 : Nat) : Int) = _
      rw [hG.agrees l]
      unfold ends at hl ⊢
      rw [List.mem_map] at hl ⊢
      obtain ⟨k, hk, e⟩ := hl
      exact ⟨k, ((one_mem he hx k).1 hk).1, e⟩) c hc
  have h1 := key a ha
  have h2 := key b hb
  rw [h] at h1
  omega
/-- The count, and the ends of the line. -/
theorem one_count (f t : Nat) (hf : (ls.getD x (0, 0, 0, 0)).1 = (f : Int)) (ht : (ls.getD x (0, 0, 0, 0)).2.1 = (t : Int)) (hfn : f < nb.toNat) (htn : t < nb.toNat) :
    cntL nb ls (unionL out [(x : Int)]) = cntL nb ls out + (if (ofL nb ls out).getD f 0 = (ofL nb ls out).getD t 0 ∧ (ofL nb ls (unionL out [(x : Int)])).getD f 0 ≠ (ofL nb ls (unionL out [(x : Int)])).getD t 0 then 1 else 0) := by
  by_cases hin : (x : Int) ∈ out
  · have e : unionL out [(x : Int)] = out := unionL_eq ((asc_iff out).1 (outs_asc (check_of_outs he).2)).1 fun y => by
      rw [List.mem_singleton]
      constructor
      · exact .inl
      · rintro (h | h)
        · exact h
        · rw [h]; exact hin
    rw [e, if_neg (fun h => h.2 h.1), Int.add_zero]
  · have hb := one_outsE he hx
    have hsv : (x : Int) ∈ svcL out ls.length := (svc_mem (check_of_outs he).2 _).2 ⟨by omega, by omega, hin⟩
    have hE : ∀ l, l ∈ ends ls (svcL (unionL out [(x : Int)]) ls.length) ++ [(f, t)] ↔ l ∈ ends ls (svcL out ls.length) := fun l => by
      unfold ends
      rw [List.mem_append, List.mem_map, List.mem_map, List.mem_singleton]
      constructor
      · rintro (⟨k, hk, e⟩ | e)
        · exact ⟨k, ((one_mem he hx k).1 hk).1, e⟩
        · refine ⟨(x : Int), hsv, ?_⟩
          rw [e, Int.toNat_natCast, hf, ht, Int.toNat_natCast, Int.toNat_natCast]
      · rintro ⟨k, hk, e⟩
        by_cases hk' : k = (x : Int)
        · refine .inr ?_
          rw [← e, hk', Int.toNat_natCast, hf, ht, Int.toNat_natCast, Int.toNat_natCast]
        · exact .inl ⟨k, (one_mem he hx k).2 ⟨hk, hk'⟩, e⟩
    have hG := finest_of he
    have hF := finest_of hb
    have hlt : ∀ l ∈ ends ls (svcL (unionL out [(x : Int)]) ls.length) ++ [(f, t)], l.1 < nb.toNat ∧ l.2 < nb.toNat := fun l hl => by
      have := (hE l).1 hl
      exact ends_lt (valid_of_check (check_of_outs he).1) _ (fun y hy => ⟨((svc_mem (check_of_outs he).2 y).1 hy).1, ((svc_mem (check_of_outs he).2 y).1 hy).2.1⟩) l this
    have hJ := finest_uniAll nb.toNat _ hlt
    rw [uniAll_snoc] at hJ
    have hroot : ∀ b, b < nb.toNat → rootOf nb ls out b = (fun b => if rootOf nb ls (unionL out [(x : Int)]) b = max (rootOf nb ls (unionL out [(x : Int)]) f) (rootOf nb ls (unionL out [(x : Int)]) t) then min (rootOf nb ls (unionL out [(x : Int)]) f) (rootOf nb ls (unionL out [(x : Int)]) t) else rootOf nb ls (unionL out [(x : Int)]) b) b := fun b hb' => by
      rw [finest_eq hG hJ hE b hb']
      exact findN_uni _ (par_uniAll _ _) f t (by rw [uniAll_length]; exact hfn) (by rw [uniAll_length]; exact htn) b
    rw [cntL_eq he, cntL_eq hb, cntTo_join (x := f) (y := t) (rootOf_idem nb ls _) nb.toNat, ← cntTo_congr nb.toNat hroot]
    have hsame : (ofL nb ls out).getD f 0 = (ofL nb ls out).getD t 0 := (ofL_iff he f t hfn htn).2 (hG.agrees (f, t) ((hE (f, t)).1 (by simp)))
    have hlf := rootOf_le nb ls (unionL out [(x : Int)]) f
    have hlt' := rootOf_le nb ls (unionL out [(x : Int)]) t
    by_cases e : rootOf nb ls (unionL out [(x : Int)]) f = rootOf nb ls (unionL out [(x : Int)]) t
    · rw [if_neg (fun h => h.1 e), if_neg (fun h => h.2 ((ofL_iff hb f t hfn htn).2 e))]
      simp
    · rw [if_pos ⟨e, by omega⟩, if_pos ⟨hsame, fun h => e ((ofL_iff hb f t hfn htn).1 h)⟩]
      simp
end
end Go.Proofs.Ytmojjfdamdgegaa
