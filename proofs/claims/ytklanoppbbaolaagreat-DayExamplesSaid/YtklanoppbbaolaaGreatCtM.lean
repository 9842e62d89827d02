/- Words for memory of the Casetext seat: rows of the call's own beside other blocks. No program is named here. -/
import Derived.Test.YtklanoppbbaolaaGreatWords
import Derived.Test.YtklanoppbbaolaaGreatAppd
import Derived.Test.YtklanoppbbaolaaGreatOnly
import Derived.Maps.AppendAt
import Derived.OwnWalk
import Derived.Laws.IdiomCopy
namespace Go.Proofs.YtklanoppbbaolaaGreat
open Go.RowKit
set_option linter.unusedSimpArgs false
set_option linter.unusedVariables false

theorem below_appended {W w2 : World} {base : Nat} {e : TypeId} {size : Nat} {v : Value} {k : Nat} {xs : List Value} {tmp : Obj} (hrow : W.ownsRow base e size v k xs) (hb : base ≤ W.heap.size) (hgrow : (W.alloc tmp).grownBy w2 v.ownBlock) : Below base W w2 := by
  refine ((Below.refl base W).alloc hb tmp).grown hgrow (by simp; omega) fun j ej => ?_
  rcases hrow.2 with ⟨rfl, _⟩ | ⟨g, cap, cur, rfl, hb, _, _⟩
  · simp [Value.ownBlock] at ej
  · obtain rfl : g = j := by simpa [Value.ownBlock] using ej
    exact hb
/-- A store into another block leaves a row. -/
theorem ownsRow_setOther {w : World} {base : Nat} {e : TypeId} {size : Nat} {v : Value} {n : Nat} {xs : List Value} (h : w.ownsRow base e size v n xs) {p : Addr} (hp : v.ownBlock ≠ some p.block) (u : Value) : (w.setCell p u).ownsRow base e size v n xs := by
  refine ⟨h.1, ?_⟩
  rcases h.2 with h' | ⟨g, cap, cur, h1, h2, h3, h4⟩
  · exact .inl h'
  · refine .inr ⟨g, cap, cur, h1, h2, (Below.heap_setCell w p u g (fun e => hp ?_)).trans h3, h4⟩
    rw [h1, Value.ownBlock, e]
theorem ownsRow_blocks {w : World} {base : Nat} {e : TypeId} {size : Nat} {v : Value} {n : Nat} {xs : List Value} (h : w.ownsRow base e size v n xs) {b : Nat} (hb : b < base ∨ w.heap.size ≤ b) : v.ownBlock ≠ some b := fun e => by
  have := h.lt b e
  omega
theorem ownsRow_slice {w : World} {base : Nat} {e : TypeId} {size : Nat} {v : Value} {n : Nat} {xs : List Value} (h : w.ownsRow base e size v n xs) : ∃ A c, v = .slice A n c ∧ n ≤ c := by
  rcases h.2 with ⟨rfl, rfl⟩ | ⟨g, cap, cur, rfl, _, _, _, hc, _⟩
  · exact ⟨none, 0, rfl, Nat.le_refl _⟩
  · exact ⟨_, cap, rfl, by first | omega | skip⟩

/-- The block b holds these values ahead, and they may be written. -/
def Box (w : World) (b : Nat) (vs : List Value) : Prop := ∀ j, j < vs.length → w.cell? ⟨b, j, none⟩ = vs[j]? ∧ w.frozen? ⟨b, j, none⟩ = false
section
variable {w w' : World} {b B : Nat} {vs vs' : List Value}
theorem Box.new (w : World) (cs : Array Value) (t : TypeId) : Box (w.alloc (.cells cs t)) w.heap.size cs.toList := fun j hj => by
  refine ⟨?_, ?_⟩
  · rw [cell_alloc_at _ _ _ _ _ rfl]; simp
  · simp
theorem Box.up (h : Box w b vs) (hb : Below B w w') (hlt : b < B) : Box w' b vs := fun j hj => ⟨(hb.cell (p := ⟨b, j, none⟩) hlt).trans (h j hj).1, (hb.frozen (p := ⟨b, j, none⟩) hlt).trans (h j hj).2⟩
theorem Box.lt (h : Box w b vs) (hn : 0 < vs.length) : b < w.heap.size := by
  have := (h 0 hn).1
  rw [List.getElem?_eq_getElem hn] at this
  exact World.block_lt_of_cell? w ⟨b, 0, none⟩ this
theorem Box.c (h : Box w b vs) (j : Nat) (v : Value) (hv : vs[j]? = some v) : w.cell? ⟨b, j, none⟩ = some v := ((h j (List.getElem?_eq_some_iff.1 hv).1).1).trans hv
theorem Box.f (h : Box w b vs) (j : Nat) (hj : j < vs.length) : w.frozen? ⟨b, j, none⟩ = false := (h j hj).2
theorem size_sets (w : World) (b : Nat) : ∀ (vs : List Value) (o : Nat), (w.setCells b o vs).heap.size = w.heap.size := by
  intro vs
  induction vs generalizing w with
  | nil => intro o; rfl
  | cons v r ih => intro o; rw [World.setCells, ih, World.size_setCell]
theorem below_sets {a : World} (h : Below B a w) (hb : B ≤ b) : ∀ (vs : List Value) (o : Nat), Below B a (w.setCells b o vs) := by
  intro vs
  induction vs generalizing w with
  | nil => intro o; exact h
  | cons v r ih => intro o; rw [World.setCells]; exact ih (h.setCell (p := ⟨b, o, none⟩) hb v) _
theorem Box.sets (h : Box w b vs) (hl : vs'.length = vs.length) : Box (w.setCells b 0 vs') b vs' := fun j hj => by
  refine ⟨?_, by rw [World.frozen?_setCells]; exact (h j (by omega)).2⟩
  have := World.cell?_setCells_in b vs' 0 w (fun i hi => by
    rw [Nat.zero_add, (h i (by omega)).1, List.getElem?_eq_getElem (by omega)]; rfl) j hj
  rw [Nat.zero_add] at this
  rw [this, List.getElem?_eq_getElem hj]
theorem Box.set1 (h : Box w b vs) (j : Nat) (hj : j < vs.length) (v : Value) : Box (w.setCell ⟨b, j, none⟩ v) b (vs.set j v) := fun i hi => by
  rw [List.length_set] at hi
  refine ⟨?_, by rw [World.frozen?_setCell]; exact (h i hi).2⟩
  by_cases e : j = i
  · subst e
    rw [World.cell?_setCell_same _ _ _ ((h j hj).1.trans (List.getElem?_eq_getElem hj))]
    simp [hj]
  · rw [World.cell?_setCell_other _ _ _ _ (by simp [e]), (h i hi).1, List.getElem?_set_ne e]
theorem Box.other (h : Box w b vs) {p : Addr} (hp : p.block ≠ b) (v : Value) : Box (w.setCell p v) b vs := fun i hi =>
  ⟨by rw [World.cell?_setCell_other _ _ _ _ (fun e => hp (by rw [e]))]; exact (h i hi).1, by rw [World.frozen?_setCell]; exact (h i hi).2⟩
theorem Box.others (h : Box w b vs) {b' : Nat} (hp : b' ≠ b) (o : Nat) (us : List Value) : Box (w.setCells b' o us) b vs := fun i hi =>
  ⟨by rw [World.cell?_setCells_out _ _ _ _ _ (fun e => absurd e.symm hp)]; exact (h i hi).1, by rw [World.frozen?_setCells]; exact (h i hi).2⟩
theorem Box.alloc (h : Box w b vs) (hlt : b < w.heap.size) (o : Obj) : Box (w.alloc o) b vs := h.up ((Below.refl w.heap.size w).alloc (Nat.le_refl _) o) hlt
end
end Go.Proofs.YtklanoppbbaolaaGreat
