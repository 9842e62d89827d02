/- Words for memory: slices of ints and of lines as lists; what is kept below a block number. No program is named here. -/
import Derived.WalkKit
import Derived.Below
import Derived.Laws.OwnMore
import Derived.Deep.AppendLies
import Derived.Deep.Draws
import Derived.Lib.Hide
namespace Go.Proofs.YtklanoppbbaolaaGreat
open Go.RowKit

/-- A line: from, to, reactance, limit. -/
abbrev Ln := Int × Int × Int × Int

/-- The slice address A holds the ints xs, in a block below B. -/
def IntsR (w : World) (B : Nat) (A : Option Addr) (xs : List Int) : Prop :=
  0 < xs.length → ∃ b off, A = some ⟨b, off, none⟩ ∧ b < B ∧ ∀ i, i < xs.length → w.cell? ⟨b, off + i, none⟩ = some (.int .i64 (xs.getD i 0))

/-- The slice address A holds the lines ls, in a block below B. -/
def LinesR (w : World) (B : Nat) (A : Option Addr) (ls : List Ln) : Prop :=
  0 < ls.length → ∃ b off, A = some ⟨b, off, none⟩ ∧ b < B ∧ ∀ i, i < ls.length →
    w.cell? ⟨b, off + i * 4, none⟩ = some (.int .i64 (ls.getD i (0, 0, 0, 0)).1) ∧
    w.cell? ⟨b, off + i * 4 + 1, none⟩ = some (.int .i64 (ls.getD i (0, 0, 0, 0)).2.1) ∧
    w.cell? ⟨b, off + i * 4 + 2, none⟩ = some (.int .i64 (ls.getD i (0, 0, 0, 0)).2.2.1) ∧
    w.cell? ⟨b, off + i * 4 + 3, none⟩ = some (.int .i64 (ls.getD i (0, 0, 0, 0)).2.2.2)

section
variable {w w' : World} {B B' : Nat} {A : Option Addr} {xs : List Int} {ls : List Ln}

theorem IntsR.nil_ : IntsR w B A [] := fun h => absurd h (by simp)
theorem IntsR.keep (h : IntsR w B A xs) (hk : ∀ p : Addr, p.block < B → w'.cell? p = w.cell? p) : IntsR w' B A xs := fun hn => by
  obtain ⟨b, off, e, hb, hc⟩ := h hn
  exact ⟨b, off, e, hb, fun i hi => (hk _ hb).trans (hc i hi)⟩
theorem IntsR.more (h : IntsR w B A xs) (hB : B ≤ B') : IntsR w B' A xs := fun hn => by
  obtain ⟨b, off, e, hb, hc⟩ := h hn
  exact ⟨b, off, e, by omega, hc⟩
theorem IntsR.below (h : IntsR w B A xs) (hb : Below B w w') : IntsR w' B A xs := h.keep fun _ hp => hb.cell hp
theorem IntsR.upto (h : IntsR w w.heap.size A xs) (hb : Below w.heap.size w w') : IntsR w' w'.heap.size A xs := (h.below hb).more hb.size
theorem IntsR.drewN (h : IntsR w B A xs) (n : Nat) : IntsR (w.drewN n) B A xs := h
theorem IntsR.alloc (h : IntsR w B A xs) (hB : B ≤ w.heap.size) (o : Obj) : IntsR (w.alloc o) B A xs := h.keep fun p hp => World.cell?_alloc_lt w o p (by omega)

theorem LinesR.nil_ : LinesR w B A [] := fun h => absurd h (by simp)
theorem LinesR.keep (h : LinesR w B A ls) (hk : ∀ p : Addr, p.block < B → w'.cell? p = w.cell? p) : LinesR w' B A ls := fun hn => by
  obtain ⟨b, off, e, hb, hc⟩ := h hn
  refine ⟨b, off, e, hb, fun i hi => ?_⟩
  obtain ⟨h0, h1, h2, h3⟩ := hc i hi
  exact ⟨(hk _ hb).trans h0, (hk _ hb).trans h1, (hk _ hb).trans h2, (hk _ hb).trans h3⟩
theorem LinesR.more (h : LinesR w B A ls) (hB : B ≤ B') : LinesR w B' A ls := fun hn => by
  obtain ⟨b, off, e, hb, hc⟩ := h hn
  exact ⟨b, off, e, by omega, hc⟩
theorem LinesR.below (h : LinesR w B A ls) (hb : Below B w w') : LinesR w' B A ls := h.keep fun _ hp => hb.cell hp
theorem LinesR.upto (h : LinesR w w.heap.size A ls) (hb : Below w.heap.size w w') : LinesR w' w'.heap.size A ls := (h.below hb).more hb.size
theorem LinesR.drewN (h : LinesR w B A ls) (n : Nat) : LinesR (w.drewN n) B A ls := h
theorem LinesR.alloc (h : LinesR w B A ls) (hB : B ≤ w.heap.size) (o : Obj) : LinesR (w.alloc o) B A ls := h.keep fun p hp => World.cell?_alloc_lt w o p (by omega)
end

theorem below_drewN {B : Nat} {a w : World} (h : Below B a w) (n : Nat) : Below B a (w.drewN n) := ⟨h.os, h.tape, h.output, h.size, h.block⟩
theorem bcell {W w1 : World} (hb : Below W.heap.size W w1) : (∀ b o, b < W.heap.size → w1.cell? ⟨b, o, none⟩ = W.cell? ⟨b, o, none⟩) ∧ (∀ b o, b < W.heap.size → w1.frozen? ⟨b, o, none⟩ = W.frozen? ⟨b, o, none⟩) :=
  ⟨fun b o h => hb.cell (p := ⟨b, o, none⟩) h, fun b o h => hb.frozen (p := ⟨b, o, none⟩) h⟩
theorem cell_alloc_at (w : World) (cs : Array Value) (t : TypeId) (b off : Nat) (hb : b = w.heap.size) : (w.alloc (.cells cs t)).cell? ⟨b, off, none⟩ = cs[off]? := by
  subst hb
  have h : (w.alloc (.cells cs t)).heap[w.heap.size]? = some (.cells cs t) := heap_alloc_new w _
  simp only [World.cell?, h]
  rfl
theorem cell_alloc_of {w : World} {p : Addr} {v : Value} (o : Obj) (h : w.cell? p = some v) : (w.alloc o).cell? p = some v :=
  (World.cell?_alloc_lt w o p (World.block_lt_of_cell? w p h)).trans h
theorem ret_bool {a b : Bool} (h : a = b) : Ending.returned (.bool a) = .returned (.bool b) := by rw [h]
theorem ret_int {k : IntKind} {a b : Int} (h : a = b) : Ending.returned (.int k a) = .returned (.int k b) := by rw [h]

theorem getD_eq {α : Type} (l : List α) (i : Nat) (d : α) (h : i < l.length) : l.getD i d = l[i] := by simp [h]
theorem take_eq_of_getD {xs ys : List Int} {k : Nat} (h : xs.take k = ys.take k) (hx : k < xs.length) (hy : k < ys.length) (he : xs.getD k 0 = ys.getD k 0) : xs.take (k + 1) = ys.take (k + 1) := by
  rw [List.take_succ_eq_append_getElem hx, List.take_succ_eq_append_getElem hy, h]
  rw [getD_eq _ _ _ hx, getD_eq _ _ _ hy] at he
  rw [he]
end Go.Proofs.YtklanoppbbaolaaGreat
