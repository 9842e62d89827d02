/- The text LnC. -/
import Derived.Test.YtmojjfdamdgegaaMg17
/- Lines and numbers laid in memory. -/
namespace Go.Proofs.Ytmojjfdamdgegaa
open Go.RowKit
set_option linter.unusedVariables false

/-- A network comes back, its lines in memory. -/
def NetE (w : World) (nb : Int) (ls : List Ln) (e : Ending) (w' : World) : Prop :=
  ∃ A, e = .returned (.agg #[.int .i64 nb, .slice A ls.length ls.length]) ∧ LinesR w' w'.heap.size A ls ∧ Below w.heap.size w w'

/-- The cells of lines. -/
def lnCells (ls : List Ln) : List Value := ls.flatMap fun l => [.int .i64 l.1, .int .i64 l.2.1, .int .i64 l.2.2.1, .int .i64 l.2.2.2]
theorem lnCells_at (ls : List Ln) : ∀ (i : Nat), i < ls.length → (lnCells ls)[i * 4]? = some (.int .i64 (ls.getD i (0, 0, 0, 0)).1) ∧ (lnCells ls)[i * 4 + 1]? = some (.int .i64 (ls.getD i (0, 0, 0, 0)).2.1) ∧
    (lnCells ls)[i * 4 + 2]? = some (.int .i64 (ls.getD i (0, 0, 0, 0)).2.2.1) ∧ (lnCells ls)[i * 4 + 3]? = some (.int .i64 (ls.getD i (0, 0, 0, 0)).2.2.2) := by
  induction ls with
  | nil => intro i hi; simp at hi
  | cons l ls ih =>
    intro i hi
    cases i with
    | zero => simp [lnCells]
    | succ i =>
      have := ih i (by simpa using hi)
      have e : lnCells (l :: ls) = [.int .i64 l.1, .int .i64 l.2.1, .int .i64 l.2.2.1, .int .i64 l.2.2.2] ++ lnCells ls := by simp [lnCells]
      rw [e]
      have a0 : (i + 1) * 4 = 4 + i * 4 := by omega
      have a1 : (i + 1) * 4 + 1 = 4 + (i * 4 + 1) := by omega
      have a2 : (i + 1) * 4 + 2 = 4 + (i * 4 + 2) := by omega
      have a3 : (i + 1) * 4 + 3 = 4 + (i * 4 + 3) := by omega
      rw [a1, a2, a3, a0]
      rw [List.getElem?_append_right (by simp), List.getElem?_append_right (by simp), List.getElem?_append_right (by simp), List.getElem?_append_right (by simp)]
      simpa using this
/-- A block whose first cells are these lines. -/
theorem LinesR.of_block {w : World} {g : Nat} {cs : Array Value} {t : TypeId} {fz : Nat × Nat} {ls : List Ln} (h : w.heap[g]? = some (.cells cs t fz)) (hc : cs.toList.take (ls.length * 4) = lnCells ls) : LinesR w w.heap.size (some ⟨g, 0, none⟩) ls := fun hn => by
  refine ⟨g, 0, rfl, (Array.getElem?_eq_some_iff.1 h).1, fun i hi => ?_⟩
  have hcell : ∀ j, j < ls.length * 4 → w.cell? ⟨g, 0 + j, none⟩ = (lnCells ls)[j]? := by
    intro j hj
    rw [← hc, List.getElem?_take_of_lt hj]
    simp [World.cell?, h]
  obtain ⟨h0, h1, h2, h3⟩ := lnCells_at ls i hi
  have g0 := hcell (i * 4) (by omega)
  have g1 := hcell (i * 4 + 1) (by omega)
  have g2 := hcell (i * 4 + 2) (by omega)
  have g3 := hcell (i * 4 + 3) (by omega)
  simp only [← Nat.add_assoc] at g0 g1 g2 g3
  exact ⟨g0.trans h0, g1.trans h1, g2.trans h2, g3.trans h3⟩
theorem lnCells_length (ls : List Ln) : (lnCells ls).length = ls.length * 4 := by
  induction ls with
  | nil => rfl
  | cons l ls ih =>
    have e : lnCells (l :: ls) = [.int .i64 l.1, .int .i64 l.2.1, .int .i64 l.2.2.1, .int .i64 l.2.2.2] ++ lnCells ls := by simp [lnCells]
    rw [e, List.length_append, ih]
    simp
    omega
theorem LinesR.lit (w : World) (t : TypeId) (ls : List Ln) (cs : Array Value) (h : cs = (lnCells ls).toArray) : LinesR (w.alloc (.cells cs t)) (w.heap.size + 1) (some ⟨w.heap.size, 0, none⟩) ls := by
  have hl := lnCells_length ls
  have := LinesR.of_block (w := w.alloc (.cells cs t)) (g := w.heap.size) (ls := ls) (heap_alloc_new w _) (by rw [h]; simp; rw [List.take_of_length_le (by omega)])
  rwa [World.size_alloc] at this
theorem IntsR.lit (w : World) (t : TypeId) (xs : List Int) (cs : Array Value) (h : cs = (xs.map (Value.int .i64)).toArray) : IntsR (w.alloc (.cells cs t)) (w.heap.size + 1) (some ⟨w.heap.size, 0, none⟩) xs := fun hn => by
  refine ⟨w.heap.size, 0, rfl, by omega, fun i hi => ?_⟩
  rw [cell_alloc_at _ _ _ _ _ rfl, h]
  simp [hi]

theorem ints_same (A A' : Option Addr) (c c' : Nat) (xs : List Int) (w : World) (hx : IntsR w w.heap.size A xs) (hy : IntsR w w.heap.size A' xs) (h1 : xs.length ≤ 1000000) :
    Calls Try.prog 19 #[.slice A xs.length c, .slice A' xs.length c'] w fun e w' => e = .returned (.bool true) ∧ Below w.heap.size w w' := by
  refine (ints_any A A' c c' xs xs w hx hy h1 h1).mono ?_
  rintro e w' ⟨rfl, n, rfl⟩
  exact ⟨by simp, below_drewN (Below.refl _ _) n⟩
theorem IntsR.litU (w : World) (t : TypeId) (xs : List Int) (cs : Array Value) (h : cs = (xs.map (Value.int .i64)).toArray) : IntsR (w.alloc (.cells cs t)) (w.alloc (.cells cs t)).heap.size (some ⟨w.heap.size, 0, none⟩) xs := by
  rw [World.size_alloc]; exact IntsR.lit w t xs cs h
end Go.Proofs.Ytmojjfdamdgegaa
