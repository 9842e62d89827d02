/- The text IslF. -/
import Derived.Test.YtmojjfdamdgegaaMg30
/- The contract of Long. -/
namespace Go.Proofs.Ytmojjfdamdgegaa
open Go.RowKit
set_option linter.unusedVariables false

/-- Some of the lists, or the lines, are more than 100. -/
def longB (ns : List Nat) (m : Nat) : Bool := (ns.any fun n => decide (100 < n)) || decide (100 < m)
theorem longB_take (ns : List Nat) (m k : Nat) (hk : k < ns.length) (h : 100 < ns.getD k 0) : longB ns m = true := by
  unfold longB
  rw [getD_eq _ _ _ hk] at h
  have : ns.any (fun n => decide (100 < n)) = true := by rw [List.any_eq_true]; exact ⟨_, List.getElem_mem hk, by simpa using h⟩
  rw [this]; rfl
theorem longB_end (ns : List Nat) (m : Nat) (h : ∀ i, i < ns.length → ¬ 100 < ns.getD i 0) : longB ns m = decide (100 < m) := by
  unfold longB
  have : ns.any (fun n => decide (100 < n)) = false := by
    rw [List.any_eq_false]
    intro x hx
    obtain ⟨i, hi, rfl⟩ := List.getElem_of_mem hx
    have := h i hi
    rw [getD_eq _ _ _ hi] at this
    simpa using this
  rw [this]; rfl

set_option maxHeartbeats 1000000 in
theorem long_any (nb : Value) (A : Option Addr) (m c b off k : Nat) (ns : List Nat) (hns : ns.length = k) (hk : k ≤ 1000000) (w : World) (hb : b < w.heap.size)
    (hr : ∀ i, i < k → ∃ A c, w.cell? ⟨b, off + i, none⟩ = some (.slice A (ns.getD i 0) c)) (c' : Nat) :
    Calls Try.prog 11 #[.agg #[nb, .slice A m c], .slice (some ⟨b, off, none⟩) k c'] w fun e w' => e = .returned (.bool (longB ns m)) ∧ Below w.heap.size w w' := by
  have HR := Lib.hid hr
  have HN := Lib.hid hns
  clear hr hns
  go_enter Try.func11, Try.ntmps11
  go_wp2
  go_loopg [4, 5] k (fun g s4 i wr => ∃ j : Nat, j + g = k ∧ i = .int .i64 j ∧ (∀ i, i < j → ¬ 100 < ns.getD i 0) ∧ w.alloc (.cells #[nb, .slice A m c] 24) = wr)
  case atStart => exact ⟨0, by omega, rfl, fun i hi => absurd hi (by omega), rfl⟩
  case round =>
    obtain ⟨j, hjg, rfl, hall, rfl⟩ := hrel
    have HA := Lib.hid hall
    clear hall
    cases gk with
    | zero =>
      obtain rfl : j = k := by omega
      clear hjg
      go_wp2
      go_ret
      refine ⟨ret_bool ?_, (Below.refl _ _).alloc (Nat.le_refl _) _⟩
      rw [longB_end _ _ (by rw [HN.out]; exact HA.out)]
      simp
      omega
    | succ g =>
      have hj : j < k := by omega
      have HG := Lib.hid hjg
      clear hjg
      obtain ⟨A1, c1, hc⟩ := HR.out j hj
      have HT := longB_take ns m j (by rw [HN.out]; exact hj)
      by_cases hlt : 100 < ns.getD j 0
      · have HT' := Lib.hid (HT hlt)
        clear HT
        generalize ns.getD j 0 = x at *
        go_wp2
        go_ret
        exact ⟨ret_bool HT'.out.symm, (Below.refl _ _).alloc (Nat.le_refl _) _⟩
      · have H2 := Lib.hid hlt
        have hlt' : ns.getD j 0 ≤ 100 := by omega
        clear HT hlt
        generalize hx : ns.getD j 0 = x at *
        have HX := Lib.hid hx
        clear hx
        go_wp2
        go_roundg g
        case measure => omega
        case rel =>
          refine ⟨j + 1, by have := HG.out; omega, by go_num, fun i hi => ?_, rfl⟩
          rcases Nat.lt_or_ge i j with h | h
          · exact HA.out i h
          · obtain rfl : i = j := by omega
            rw [HX.out]; exact H2.out

theorem long_lit1 (nb : Value) (A : Option Addr) (m c : Nat) (t : TypeId) (W : World) (b : Nat) (hb : b = W.heap.size) (A1 : Option Addr) (n1 c1 : Nat) :
    Calls Try.prog 11 #[.agg #[nb, .slice A m c], .slice (some ⟨b, 0, none⟩) 1 1] (W.alloc (.cells #[.slice A1 n1 c1] t)) fun e w' => e = .returned (.bool (longB [n1] m)) ∧ Below (W.heap.size + 1) (W.alloc (.cells #[.slice A1 n1 c1] t)) w' := by
  have h := long_any nb A m c b 0 1 [n1] rfl (by decide) (W.alloc (.cells #[.slice A1 n1 c1] t)) (by simp; omega) (fun i hi => by
    obtain rfl : i = 0 := by omega
    exact ⟨A1, c1, cell_alloc_at _ _ _ _ _ hb⟩) 1
  rw [World.size_alloc] at h
  exact h
theorem long_lit2 (nb : Value) (A : Option Addr) (m c : Nat) (t : TypeId) (W : World) (b : Nat) (hb : b = W.heap.size) (A1 A2 : Option Addr) (n1 c1 n2 c2 : Nat) :
    Calls Try.prog 11 #[.agg #[nb, .slice A m c], .slice (some ⟨b, 0, none⟩) 2 2] (W.alloc (.cells #[.slice A1 n1 c1, .slice A2 n2 c2] t)) fun e w' => e = .returned (.bool (longB [n1, n2] m)) ∧ Below (W.heap.size + 1) (W.alloc (.cells #[.slice A1 n1 c1, .slice A2 n2 c2] t)) w' := by
  have h := long_any nb A m c b 0 2 [n1, n2] rfl (by decide) (W.alloc (.cells #[.slice A1 n1 c1, .slice A2 n2 c2] t)) (by simp; omega) (fun i hi => by
    rcases (by omega : i = 0 ∨ i = 1) with rfl | rfl
    · exact ⟨A1, c1, cell_alloc_at _ _ _ _ _ hb⟩
    · exact ⟨A2, c2, cell_alloc_at _ _ _ _ _ hb⟩) 2
  rw [World.size_alloc] at h
  exact h
theorem longB_false {ns : List Nat} {m : Nat} (h : longB ns m = false) : (∀ x ∈ ns, x ≤ 100) ∧ m ≤ 100 := by
  unfold longB at h
  rw [Bool.or_eq_false_iff, List.any_eq_false] at h
  exact ⟨fun x hx => by have := h.1 x hx; simpa using this, by simpa using h.2⟩
end Go.Proofs.Ytmojjfdamdgegaa
