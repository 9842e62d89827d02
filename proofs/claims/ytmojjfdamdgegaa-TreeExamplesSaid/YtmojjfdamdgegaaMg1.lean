/- Texts in one: Words, IslP. -/
import Derived.WalkKit
import Derived.Below
import Derived.Laws.OwnMore
import Derived.Deep.AppendLies
import Derived.Deep.Draws
import Derived.Lib.Hide
/- Words for memory: slices of ints and of lines as lists; what is kept below a block number. No program is named here. -/
namespace Go.Proofs.Ytmojjfdamdgegaa
open Go.RowKit

/-- A line: from, to, reactance, limit. -/
abbrev Ln := Int × Int × Int × Int

/-- The slice address A holds the ints xs, in a block below B. -/
def IntsR (w : World) (B : Nat) (A : Option Addr) (xs : List Int) : Prop :=
  0 < xs.length → ∃ b off, A = some ⟨b, off, none⟩ ∧ b < B ∧ ∀ i, i < xs.length → w.cell? ⟨b, off + i, none⟩ = some (.int .i64 (xs.getD i 0))

/-- The slice address A holds the lines ls, in a block below B. -/
def LinesR (w : World) (B : Nat) (A : Option Addr) (ls : List Ln) : Prop :=
  0 < ls.length → ∃ b off, A = some ⟨b, off, none⟩ ∧ b < B ∧ ∀ i, i < ls.length →
    w.cell? ⟨b, off + i * 4, none⟩ = some (.int .i64 (ls.getD i (0, 0, 0, 0)).1) ∧
    w.cell? ⟨b, off + i * 4 + 1, none⟩ = some (.int .i64 (ls.getD i (0, 0, 0, 0)).2.1) ∧
    w.cell? ⟨b, off + i * 4 + 2, none⟩ = some (.int .i64 (ls.getD i (0, 0, 0, 0)).2.2.1) ∧
    w.cell? ⟨b, off + i * 4 + 3, none⟩ = some (.int .i64 (ls.getD i (0, 0, 0, 0)).2.2.2)

section
variable {w w' : World} {B B' : Nat} {A : Option Addr} {xs : List Int} {ls : List Ln}

theorem IntsR.nil_ : IntsR w B A [] := fun h => absurd h (by simp)
theorem IntsR.keep (h : IntsR w B A xs) (hk : ∀ p : Addr, p.block < B → w'.cell? p = w.cell? p) : IntsR w' B A xs := fun hn => by
  obtain ⟨b, off, e, hb, hc⟩ := h hn
  exact ⟨b, off, e, hb, fun i hi => (hk _ hb).trans (hc i hi)⟩
theorem IntsR.more (h : IntsR w B A xs) (hB : B ≤ B') : IntsR w B' A xs := fun hn => by
  obtain ⟨b, off, e, hb, hc⟩ := h hn
  exact ⟨b, off, e, by omega, hc⟩
theorem IntsR.below (h : IntsR w B A xs) (hb : Below B w w') : IntsR w' B A xs := h.keep fun _ hp => hb.cell hp
theorem IntsR.upto (h : IntsR w w.heap.size A xs) (hb : Below w.heap.size w w') : IntsR w' w'.heap.size A xs := (h.below hb).more hb.size
theorem IntsR.drewN (h : IntsR w B A xs) (n : Nat) : IntsR (w.drewN n) B A xs := h
theorem IntsR.alloc (h : IntsR w B A xs) (hB : B ≤ w.heap.size) (o : Obj) : IntsR (w.alloc o) B A xs := h.keep fun p hp => World.cell?_alloc_lt w o p (by omega)

theorem LinesR.nil_ : LinesR w B A [] := fun h => absurd h (by simp)
theorem LinesR.keep (h : LinesR w B A ls) (hk : ∀ p : Addr, p.block < B → w'.cell? p = w.cell? p) : LinesR w' B A ls := fun hn => by
  obtain ⟨b, off, e, hb, hc⟩ := h hn
  refine ⟨b, off, e, hb, fun i hi => ?_⟩
  obtain ⟨h0, h1, h2, h3⟩ := hc i hi
  exact ⟨(hk _ hb).trans h0, (hk _ hb).trans h1, (hk _ hb).trans h2, (hk _ hb).trans h3⟩
theorem LinesR.more (h : LinesR w B A ls) (hB : B ≤ B') : LinesR w B' A ls := fun hn => by
  obtain ⟨b, off, e, hb, hc⟩ := h hn
  exact ⟨b, off, e, by omega, hc⟩
theorem LinesR.below (h : LinesR w B A ls) (hb : Below B w w') : LinesR w' B A ls := h.keep fun _ hp => hb.cell hp
theorem LinesR.upto (h : LinesR w w.heap.size A ls) (hb : Below w.heap.size w w') : LinesR w' w'.heap.size A ls := (h.below hb).more hb.size
theorem LinesR.drewN (h : LinesR w B A ls) (n : Nat) : LinesR (w.drewN n) B A ls := h
theorem LinesR.alloc (h : LinesR w B A ls) (hB : B ≤ w.heap.size) (o : Obj) : LinesR (w.alloc o) B A ls := h.keep fun p hp => World.cell?_alloc_lt w o p (by omega)
end

theorem below_drewN {B : Nat} {a w : World} (h : Below B a w) (n : Nat) : Below B a (w.drewN n) := ⟨h.os, h.tape, h.output, h.size, h.block⟩
theorem bcell {W w1 : World} (hb : Below W.heap.size W w1) : (∀ b o, b < W.heap.size → w1.cell? ⟨b, o, none⟩ = W.cell? ⟨b, o, none⟩) ∧ (∀ b o, b < W.heap.size → w1.frozen? ⟨b, o, none⟩ = W.frozen? ⟨b, o, none⟩) :=
  ⟨fun b o h => hb.cell (p := ⟨b, o, none⟩) h, fun b o h => hb.frozen (p := ⟨b, o, none⟩) h⟩
theorem cell_alloc_at (w : World) (cs : Array Value) (t : TypeId) (b off : Nat) (hb : b = w.heap.size) : (w.alloc (.cells cs t)).cell? ⟨b, off, none⟩ = cs[off]? := by
  subst hb
  have h : (w.alloc (.cells cs t)).heap[w.heap.size]? = some (.cells cs t) := heap_alloc_new w _
  simp only [World.cell?, h]
  rfl
theorem cell_alloc_of {w : World} {p : Addr} {v : Value} (o : Obj) (h : w.cell? p = some v) : (w.alloc o).cell? p = some v :=
  (World.cell?_alloc_lt w o p (World.block_lt_of_cell? w p h)).trans h
theorem ret_bool {a b : Bool} (h : a = b) : Ending.returned (.bool a) = .returned (.bool b) := by rw [h]
theorem ret_int {k : IntKind} {a b : Int} (h : a = b) : Ending.returned (.int k a) = .returned (.int k b) := by rw [h]

theorem getD_eq {α : Type} (l : List α) (i : Nat) (d : α) (h : i < l.length) : l.getD i d = l[i] := by simp [h]
theorem take_eq_of_getD {xs ys : List Int} {k : Nat} (h : xs.take k = ys.take k) (hx : k < xs.length) (hy : k < ys.length) (he : xs.getD k 0 = ys.getD k 0) : xs.take (k + 1) = ys.take (k + 1) := by
  rw [List.take_succ_eq_append_getElem hx, List.take_succ_eq_append_getElem hy, h]
  rw [getD_eq _ _ _ hx, getD_eq _ _ _ hy] at he
  rw [he]
end Go.Proofs.Ytmojjfdamdgegaa
/- Union and find, plain: no program is named here. -/
namespace Go.Proofs.Ytmojjfdamdgegaa
open Go.RowKit
set_option linter.unusedVariables false

/-- Climb from b along the parents p, at most f steps. -/
def findF (p : List Nat) : Nat → Nat → Nat
  | 0, b => b
  | f + 1, b => if p.getD b 0 < b then findF p f (p.getD b 0) else b
def findN (p : List Nat) (b : Nat) : Nat := findF p b b

theorem findF_fuel (p : List Nat) : ∀ (f f' b : Nat), b ≤ f → b ≤ f' → findF p f b = findF p f' b
  | 0, 0, _, _, _ => rfl
  | 0, f' + 1, b, h, _ => by
    obtain rfl : b = 0 := by omega
    simp [findF]
  | f + 1, 0, b, _, h => by
    obtain rfl : b = 0 := by omega
    simp [findF]
  | f + 1, f' + 1, b, h, h' => by
    simp only [findF]
    split
    · exact findF_fuel p f f' _ (by omega) (by omega)
    · rfl
theorem findN_root {p : List Nat} {b : Nat} (h : ¬ p.getD b 0 < b) : findN p b = b := by
  unfold findN
  cases b with
  | zero => rfl
  | succ b => rw [findF, if_neg h]
theorem findN_step {p : List Nat} {b : Nat} (h : p.getD b 0 < b) : findN p b = findN p (p.getD b 0) := by
  unfold findN
  cases b with
  | zero => omega
  | succ b =>
    rw [findF, if_pos h]
    exact findF_fuel p _ _ _ (by omega) (Nat.le_refl _)
theorem findN_le (p : List Nat) (b : Nat) : findN p b ≤ b := by
  induction b using Nat.strongRecOn with
  | _ b ih =>
    by_cases h : p.getD b 0 < b
    · rw [findN_step h]; have := ih _ h; omega
    · rw [findN_root h]; exact Nat.le_refl _
theorem findN_is_root (p : List Nat) (b : Nat) : ¬ p.getD (findN p b) 0 < findN p b := by
  induction b using Nat.strongRecOn with
  | _ b ih =>
    by_cases h : p.getD b 0 < b
    · rw [findN_step h]; exact ih _ h
    · rw [findN_root h]; exact h
theorem findN_idem (p : List Nat) (b : Nat) : findN p (findN p b) = findN p b := findN_root (findN_is_root p b)

/-- Join the trees of x and y. -/
def uni (p : List Nat) (x y : Nat) : List Nat := p.set (max (findN p x) (findN p y)) (min (findN p x) (findN p y))
/-- Parents after the first k of the lines L (each a pair of ends). -/
def uniAll (n : Nat) (L : List (Nat × Nat)) : List Nat := L.foldl (fun p l => uni p l.1 l.2) (List.range n)
theorem uni_length (p : List Nat) (x y : Nat) : (uni p x y).length = p.length := by simp [uni]
theorem foldl_uni_length (L : List (Nat × Nat)) (p : List Nat) : (L.foldl (fun p l => uni p l.1 l.2) p).length = p.length := by
  induction L generalizing p with
  | nil => rfl
  | cons l L ih => rw [List.foldl_cons, ih, uni_length]
theorem uniAll_length (n : Nat) (L : List (Nat × Nat)) : (uniAll n L).length = n := by unfold uniAll; rw [foldl_uni_length]; simp
theorem uniAll_snoc (n : Nat) (L : List (Nat × Nat)) (l : Nat × Nat) : uniAll n (L ++ [l]) = uni (uniAll n L) l.1 l.2 := by simp [uniAll]

/-- Every parent lies at or below its child. -/
def Par (p : List Nat) : Prop := ∀ i, p.getD i 0 ≤ i
theorem par_range (n : Nat) : Par (List.range n) := by
  intro i
  rcases Nat.lt_or_ge i n with h | h
  · simp [h]
  · rw [List.getD_eq_getElem?_getD, List.getElem?_eq_none (by simpa using h)]; simp
theorem par_uni {p : List Nat} (h : Par p) (x y : Nat) : Par (uni p x y) := by
  intro i
  unfold uni
  rw [List.getD_eq_getElem?_getD, List.getElem?_set]
  have := h i
  rw [List.getD_eq_getElem?_getD] at this
  split
  · split
    · simp; omega
    · simp
  · exact this
theorem par_foldl (L : List (Nat × Nat)) {p : List Nat} (h : Par p) : Par (L.foldl (fun p l => uni p l.1 l.2) p) := by
  induction L generalizing p with
  | nil => exact h
  | cons l L ih => rw [List.foldl_cons]; exact ih (par_uni h _ _)
theorem par_uniAll (n : Nat) (L : List (Nat × Nat)) : Par (uniAll n L) := par_foldl L (par_range n)

/-- The numbers: after k buses, the list of numbers and how many islands were met. -/
def numTo (p : List Nat) : Nat → List Nat × Nat
  | 0 => ([], 0)
  | k + 1 => if findN p k = k then ((numTo p k).1 ++ [(numTo p k).2], (numTo p k).2 + 1) else ((numTo p k).1 ++ [(numTo p k).1.getD (findN p k) 0], (numTo p k).2)
theorem numTo_length (p : List Nat) (k : Nat) : (numTo p k).1.length = k := by
  induction k with
  | zero => rfl
  | succ k ih => unfold numTo; split <;> simp [ih]
theorem numTo_le (p : List Nat) (k : Nat) : (numTo p k).2 ≤ k := by
  induction k with
  | zero => exact Nat.le_refl _
  | succ k ih =>
    unfold numTo
    split
    · show (numTo p k).2 + 1 ≤ _; omega
    · show (numTo p k).2 ≤ _; omega
theorem numTo_root {p : List Nat} {k : Nat} (h : findN p k = k) : numTo p (k + 1) = ((numTo p k).1 ++ [(numTo p k).2], (numTo p k).2 + 1) := by rw [numTo, if_pos h]
theorem numTo_other {p : List Nat} {k : Nat} (h : findN p k ≠ k) : numTo p (k + 1) = ((numTo p k).1 ++ [(numTo p k).1.getD (findN p k) 0], (numTo p k).2) := by rw [numTo, if_neg h]

/-- Block g is just the numbers p. -/
def RowN (t : TypeId) (w : World) (g : Nat) (p : List Nat) : Prop := w.heap[g]? = some (.cells ((p.map fun x : Nat => Value.int .i64 (x : Int)).toArray) t (0, 0))
section
variable {t : TypeId} {w w' : World} {g : Nat} {p : List Nat}
theorem RowN.lt (h : RowN t w g p) : g < w.heap.size := (Array.getElem?_eq_some_iff.1 h).1
theorem RowN.cell (h : RowN t w g p) {i : Nat} (hi : i < p.length) : w.cell? ⟨g, i, none⟩ = some (.int .i64 ((p.getD i 0 : Nat) : Int)) := by
  unfold RowN at h
  simp [World.cell?, h, hi]
theorem RowN.frozen (h : RowN t w g p) (i : Nat) : w.frozen? ⟨g, i, none⟩ = false := by
  unfold RowN at h
  simp [World.frozen?, h]
theorem RowN.keep (h : RowN t w g p) (hk : w'.heap[g]? = w.heap[g]?) : RowN t w' g p := hk.trans h
theorem RowN.set_ (h : RowN t w g p) (i x : Nat) : RowN t (w.setCell ⟨g, i, none⟩ (.int .i64 (x : Int))) g (p.set i x) := by
  unfold RowN at h ⊢
  simp [World.setCell, Array.getElem?_modify, h, List.map_set]
theorem RowN.new (w : World) (t : TypeId) (n : Nat) : RowN t (w.alloc (.cells (Array.replicate n (.int .i64 0)) t)) w.heap.size (List.replicate n 0) := by
  unfold RowN
  rw [heap_alloc_new w _]
  simp
theorem RowN.ints (h : RowN t w g p) : IntsR w w.heap.size (some ⟨g, 0, none⟩) (p.map fun x : Nat => (x : Int)) := fun hn => by
  refine ⟨g, 0, rfl, h.lt, fun i hi => ?_⟩
  simp only [List.length_map] at hi
  rw [Nat.zero_add, h.cell hi]
  simp [hi]
end
end Go.Proofs.Ytmojjfdamdgegaa
