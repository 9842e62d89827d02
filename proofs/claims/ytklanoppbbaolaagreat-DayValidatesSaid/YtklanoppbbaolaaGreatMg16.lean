/- The text LnE. -/
import Derived.Test.YtklanoppbbaolaaGreatMg15
/- pylonlaw40.Long: some answer; if it is no, there are not too many outages and rights. -/
namespace Go.Proofs.YtklanoppbbaolaaGreat
open Go.RowKit
set_option linter.unusedVariables false
set_option linter.unusedSimpArgs false
set_option maxRecDepth 100000
def Lg40 (x : Cs) (w : World) (e : Ending) (w' : World) : Prop := ∃ b : Bool, e = .returned (.bool b) ∧ (b = false → x.outs.length ≤ 40 ∧ x.rights.length ≤ 40) ∧ Below w.heap.size w w'
theorem Lg40.yes {x : Cs} {w w' : World} (hb : Below w.heap.size w w') : Lg40 x w (.returned (.bool true)) w' := ⟨true, rfl, (fun h => by cases h), hb⟩
theorem Lg40.any {x : Cs} {w w' : World} {b : Bool} (h : x.outs.length ≤ 40 ∧ x.rights.length ≤ 40) (hb : Below w.heap.size w w') : Lg40 x w (.returned (.bool b)) w' := ⟨b, rfl, fun _ => h, hb⟩
/-- A block of bools. -/
def RoB (w : World) (B : Nat) (p : List Bool) : Prop := w.heap[B]? = some (.cells (p.map Value.bool).toArray 4 (0, 0))
theorem RoB.cell {w : World} {B : Nat} {p : List Bool} (h : RoB w B p) {j : Nat} (hj : j < p.length) : w.cell? ⟨B, j, none⟩ = some (.bool (p.getD j false)) := by
  simp [World.cell?, show w.heap[B]? = _ from h, List.getElem?_eq_getElem hj]
theorem RoB.frozen {w : World} {B : Nat} {p : List Bool} (h : RoB w B p) (j : Nat) : w.frozen? ⟨B, j, none⟩ = false := by
  simp [World.frozen?, show w.heap[B]? = _ from h]
theorem info_bo : (Tryz.prog.info? 4).map (fun i => (i.zero, i.size, i.bytes)) = some (some (.bool false), 1, 1) := by kernel_rfl
theorem RoB.new (w : World) (m : Nat) : RoB (w.alloc (.cells (madeCells #[.bool false] m) 4)) w.heap.size (List.replicate m false) := by
  unfold RoB
  rw [World.alloc_heap_new w _]
  have : madeCells #[Value.bool false] m = ((List.replicate m false).map Value.bool).toArray := by
    apply Array.ext
    · simp [madeCells]
    · intro i h1 h2
      simp [madeCells, Nat.mod_one]
  rw [this]
theorem RoB.set_ {w : World} {B : Nat} {p : List Bool} (h : RoB w B p) (i : Nat) (x : Bool) : RoB (w.setCell ⟨B, i, none⟩ (.bool x)) B (p.set i x) := by
  unfold RoB at h ⊢
  simp [World.setCell, Array.getElem?_modify, h, List.map_set]
theorem RoB.keep {w w' : World} {B : Nat} {p : List Bool} (h : RoB w B p) (hb : w'.heap[B]? = w.heap[B]?) : RoB w' B p := hb.trans h
theorem RoB.row {w : World} {B : Nat} {p : List Bool} (h : RoB w B p) : RowR BoE 1 w w.heap.size (some ⟨B, 0, none⟩) p := by
  refine ⟨p.map fun v => [.bool v], by simp, ?_, ?_, fun _ => ⟨B, 0, rfl, (Array.getElem?_eq_some_iff.1 h).1, ?_⟩⟩
  · intro c hc
    obtain ⟨v, _, rfl⟩ := List.mem_map.1 hc
    rfl
  · intro i c x hc hx
    rw [List.getElem?_map, hx] at hc
    injection hc with hc
    exact hc.symm
  · intro i j c v hc hv
    rw [List.getElem?_map] at hc
    obtain ⟨u, hu, rfl⟩ := Option.map_eq_some_iff.1 hc
    have hj : j = 0 := by have := (List.getElem?_eq_some_iff.1 hv).1; simp at this; omega
    subst hj
    simp at hv
    subst hv
    have hi := (List.getElem?_eq_some_iff.1 hu).1
    have := h.cell hi
    rw [Nat.zero_add, Nat.mul_one, Nat.add_zero, this, List.getD_eq_getElem?_getD, hu]
    rfl
end Go.Proofs.YtklanoppbbaolaaGreat
