/- The text Ew20. -/
import Derived.Test.YtklanoppbbaolaaGreatMg40
import Derived.Test.YtklanoppbbaolaaGreatShf
import Derived.Test.YtklanoppbbaolaaGreatProg
/- A closed run: the one call that is known otherwise. -/
namespace Go.Proofs.YtklanoppbbaolaaGreat
open Go Go.RowKit Go.Sort
set_option linter.unusedVariables false
set_option linter.unusedSimpArgs false
set_option maxRecDepth 100000
/-- sort.Slice at no more than one element does nothing. -/
def primS (n t t' : Nat) : FuncId → List AV → Option AV := fun g args => match Nat.beq g n, args with
  | true, [.ifc u a, .fn _ _ _] => match Nat.beq u t || Nat.beq u t', a with
    | true, .v (.slice none 0 0) => some (.v (.tuple #[]))
    | true, .sl _ _ _ l => match Nat.ble l 1 with
      | true => some (.v (.tuple #[]))
      | false => none
    | true, .sk _ _ l _ => match Nat.ble l 1 with
      | true => some (.v (.tuple #[]))
      | false => none
    | _, _ => none
  | _, _ => none
theorem below_growS {B : Nat} {a w : World} (h : Below B a w) (hB : B ≤ w.heap.size) (os : Array Obj) : Below B a (grow w os) :=
  ⟨h.os, h.tape, h.output, Nat.le_trans h.size (by simp [grow]), fun k hk => by rw [Go.Sort.heap_grow_old w os (Nat.lt_of_lt_of_le hk hB)]; exact h.block k hk⟩
noncomputable def siT : TypeInfo := (Tryz.prog.info? 67).get (by kernel_rfl)
noncomputable def siE : TypeInfo := (Tryz.prog.info? 3).get (by kernel_rfl)
theorem sort_tiny (p : Option Addr) (n c : Nat) (h1 : n ≤ 1) (lf : Fn) (la lb : Array Value) (w : World) :
    Calls Tryz.prog 119 #[.iface 67 (.slice p n c), .func lf la lb] w fun e w' => e = .returned (.tuple #[]) ∧ ∃ os, w' = grow w os := by
  have hK : Lib.swapperK n siE 2 = n + 1 := by
    rcases Nat.eq_zero_or_pos n with h | h
    · subst h; simp [Lib.swapperK]
    · obtain rfl : n = 1 := by omega
      simp [Lib.swapperK]
  exact Any.sort_Slice_tiny Tryz.laysGg6 67 3 siT siE (by kernel_rfl) (by kernel_rfl) (by kernel_rfl) (by kernel_rfl) 2 (fun _ => by kernel_rfl) p n c h1 (265 + n) (by
    rw [hK]
    rcases Nat.eq_zero_or_pos n with h | h
    · subst h; kernel_rfl
    · obtain rfl : n = 1 := by omega
      kernel_rfl) lf la lb w
noncomputable def siU : TypeInfo := (Tryz.prog.info? 401).get (by kernel_rfl)
noncomputable def siF : TypeInfo := (Tryz.prog.info? 399).get (by kernel_rfl)
theorem sort_tiny2 (p : Option Addr) (n c : Nat) (h1 : n ≤ 1) (lf : Fn) (la lb : Array Value) (w : World) :
    Calls Tryz.prog 119 #[.iface 401 (.slice p n c), .func lf la lb] w fun e w' => e = .returned (.tuple #[]) ∧ ∃ os, w' = grow w os := by
  have hK : Lib.swapperK n siF 25 = n + 1 := by
    rcases Nat.eq_zero_or_pos n with h | h
    · subst h; simp [Lib.swapperK]
    · obtain rfl : n = 1 := by omega
      simp [Lib.swapperK]
  exact Any.sort_Slice_tiny Tryz.laysGg6 401 399 siU siF (by kernel_rfl) (by kernel_rfl) (by kernel_rfl) (by kernel_rfl) 25 (fun _ => by kernel_rfl) p n c h1 (265 + n) (by
    rw [hK]
    rcases Nat.eq_zero_or_pos n with h | h
    · subst h; kernel_rfl
    · obtain rfl : n = 1 := by omega
      kernel_rfl) lf la lb w
theorem prog_mixed : Tryz.prog.follows .mixedOrders = true := by kernel_rfl
theorem primS_ok : PrimOk Tryz.prog (primS 119 67 401) := by
  intro g args v h
  have hb : (Tryz.f119.body).isSome = true := by kernel_rfl
  obtain ⟨c, hc⟩ := Option.isSome_iff_exists.1 hb
  have key : ∀ (g : Nat), Nat.beq g 119 = true → ∃ fn c, Tryz.prog.funcs[g]? = some fn ∧ fn.body = some c ∧ (fn.name == "runtime.NumGoroutine") = false := fun g hg => by
    rw [Nat.eq_of_beq_eq_true hg]
    exact ⟨_, c, Tryz.func119, hc, by kernel_rfl⟩
  have fin : ∀ (g : Nat) (u : Nat), Nat.beq g 119 = true → (Nat.beq u 67 || Nat.beq u 401) = true → ∀ (p : Option Addr) (n c : Nat) (lf : Fn) (la lb : Array Value), n ≤ 1 → ∀ (base : Nat) (x : Gh) (L : Nat → Prop) (w : World) (H : Hp), HR base x L w H →
      Calls Tryz.prog g #[.iface u (.slice p n c), .func lf la lb] w (fun e w' => e = .returned (.tuple #[]) ∧ HR base x L w' H ∧ Below base w w') := fun g u hg hu p n c lf la lb hn base x L w H hR => by
    have hS : Calls Tryz.prog g #[.iface u (.slice p n c), .func lf la lb] w fun e w' => e = .returned (.tuple #[]) ∧ ∃ os, w' = grow w os := by
      rw [Nat.eq_of_beq_eq_true hg]
      rw [Bool.or_eq_true] at hu
      rcases hu with hu | hu
      · rw [Nat.eq_of_beq_eq_true hu]; exact sort_tiny p n c hn lf la lb w
      · rw [Nat.eq_of_beq_eq_true hu]; exact sort_tiny2 p n c hn lf la lb w
    refine hS.mono fun e w' ⟨he, os, hw⟩ => ⟨he, ?_, ?_⟩
    · rw [hw]
      exact hR.keep (by simp [grow]) fun k hk => Go.Sort.heap_grow_old w os hk
    · rw [hw]
      exact below_growS (Below.refl _ _) hR.size os
  unfold primS at h
  split at h
  · next u a f1 f2 f3 hg =>
    split at h
    · next hu =>
      injection h with h; subst h
      exact ⟨key g hg, fun base x L w H hR hok => ⟨by simp only [AV.ok], by simpa only [concL, conc] using fin g u hg hu none 0 0 _ _ _ (by omega) base x L w H hR⟩⟩
    · next hu =>
      split at h
      · next hl =>
        injection h with h; subst h
        exact ⟨key g hg, fun base x L w H hR hok => ⟨by simp only [AV.ok], by simpa only [concL, conc] using fin g u hg hu _ _ _ _ _ _ (Nat.le_of_ble_eq_true hl) base x L w H hR⟩⟩
      · cases h
    · next hu =>
      split at h
      · next hl =>
        injection h with h; subst h
        exact ⟨key g hg, fun base x L w H hR hok => ⟨by simp only [AV.ok], by simpa only [concL, conc] using fin g u hg hu _ _ _ _ _ _ (Nat.le_of_ble_eq_true hl) base x L w H hR⟩⟩
      · cases h
    · cases h
  · cases h
end Go.Proofs.YtklanoppbbaolaaGreat
