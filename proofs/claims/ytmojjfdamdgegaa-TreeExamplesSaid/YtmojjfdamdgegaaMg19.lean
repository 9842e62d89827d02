/- The text IslR. -/
import Derived.Test.YtmojjfdamdgegaaMg17
import Derived.Test.YtmojjfdamdgegaaMg18
/- What Of answers is the finest consistent labelling: plain. -/
namespace Go.Proofs.Ytmojjfdamdgegaa
open Go.RowKit
set_option linter.unusedVariables false

/-- The root of bus b. -/
def rootOf (nb : Int) (ls : List Ln) (out : List Int) (b : Nat) : Nat := findN (uniAll nb.toNat (ends ls (svcL out ls.length))) b

theorem ends_lt {nb : Int} {ls : List Ln} (hv : Valid nb ls) (ks : List Int) (hk : ∀ x ∈ ks, 0 ≤ x ∧ x < ls.length) : ∀ l ∈ ends ls ks, l.1 < nb.toNat ∧ l.2 < nb.toNat := by
  intro l hl
  unfold ends at hl
  rw [List.mem_map] at hl
  obtain ⟨x, hx, rfl⟩ := hl
  have h := hk x hx
  have hv := hv.ok x.toNat (by omega)
  constructor
  · show (ls.getD x.toNat (0, 0, 0, 0)).1.toNat < _; omega
  · show (ls.getD x.toNat (0, 0, 0, 0)).2.1.toNat < _; omega
theorem finest_of {nb : Int} {ls : List Ln} {out : List Int} (he : outsE nb ls out = 0) : Finest nb.toNat (ends ls (svcL out ls.length)) (rootOf nb ls out) :=
  finest_uniAll _ _ (ends_lt (valid_of_check (check_of_outs he).1) _ (svcL_range _ _))

theorem ofL_length {nb : Int} {ls : List Ln} {out : List Int} (he : outsE nb ls out = 0) : (ofL nb ls out).length = nb.toNat := by
  rw [ofL, if_pos he, List.length_map, ofN, numTo_length]
theorem getD_map_cast (l : List Nat) (i : Nat) : (l.map fun x : Nat => (x : Int)).getD i 0 = ((l.getD i 0 : Nat) : Int) := by
  rw [List.getD_eq_getElem?_getD, List.getD_eq_getElem?_getD, List.getElem?_map]
  cases l[i]? <;> simp
theorem ofL_at {nb : Int} {ls : List Ln} {out : List Int} (he : outsE nb ls out = 0) (b : Nat) (hb : b < nb.toNat) : (ofL nb ls out).getD b 0 = ((cntTo (rootOf nb ls out) (rootOf nb ls out b) : Nat) : Int) := by
  rw [ofL, if_pos he, getD_map_cast, ofN, numTo_at _ _ _ hb]
  rfl
theorem rootOf_idem (nb : Int) (ls : List Ln) (out : List Int) (b : Nat) : rootOf nb ls out (rootOf nb ls out b) = rootOf nb ls out b := findN_idem _ _
theorem rootOf_le (nb : Int) (ls : List Ln) (out : List Int) (b : Nat) : rootOf nb ls out b ≤ b := findN_le _ _
theorem ofL_iff {nb : Int} {ls : List Ln} {out : List Int} (he : outsE nb ls out = 0) (a b : Nat) (ha : a < nb.toNat) (hb : b < nb.toNat) : (ofL nb ls out).getD a 0 = (ofL nb ls out).getD b 0 ↔ rootOf nb ls out a = rootOf nb ls out b := by
  rw [ofL_at he a ha, ofL_at he b hb]
  constructor
  · intro h
    exact cntTo_inj (rootOf nb ls out) _ _ (rootOf_idem _ _ _ _) (rootOf_idem _ _ _ _) (by omega)
  · intro h; rw [h]

theorem of_alike {nb : Int} {ls : List Ln} {out : List Int} (he : outsE nb ls out = 0) : alike (ofL nb ls out) (ends ls (svcL out ls.length)) = true := by
  unfold alike
  rw [List.all_eq_true]
  intro l hl
  have hlt := ends_lt (valid_of_check (check_of_outs he).1) _ (svcL_range out ls.length) l hl
  rw [beq_iff_eq]
  exact (ofL_iff he _ _ hlt.1 hlt.2).2 ((finest_of he).agrees l hl)
theorem labelling {nb : Int} {ls : List Ln} {out labels : List Int} (he : outsE nb ls out = 0) (hl : labels.length ≤ nb.toNat) (ha : alike labels (ends ls (svcL out ls.length)) = true) (a b : Nat) (h1 : a < labels.length) (h2 : b < labels.length)
    (h : (ofL nb ls out).getD a 0 = (ofL nb ls out).getD b 0) : labels.getD a 0 = labels.getD b 0 := by
  have hr := (ofL_iff he a b (by omega) (by omega)).1 h
  have hf : ∀ l ∈ ends ls (svcL out ls.length), lab labels l.1 = lab labels l.2 := fun l hl => by
    have := List.all_eq_true.1 ha l hl
    rwa [beq_iff_eq] at this
  have e1 := (finest_of he).factors (lab labels) hf a (by omega)
  have e2 := (finest_of he).factors (lab labels) hf b (by omega)
  rw [hr] at e1
  exact e1.symm.trans e2
end Go.Proofs.Ytmojjfdamdgegaa
