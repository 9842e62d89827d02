/- Words for memory: slices of outages as lists. -/
import Derived.Test.YtklfijhlibpmaaaOngR
import Derived.Test.YtklfijhlibpmaaaWords
import Derived.Test.YtklfijhlibpmaaaAppd
import Derived.Test.YtklfijhlibpmaaaOnly
import Derived.Test.YtklfijhlibpmaaaProg
import Derived.Deep.QuietTactic
import Derived.BigQuiet
import Derived.BigGuardPart
import Derived.LoopTactic
import Derived.Deep.LoopGhost
import Derived.WalkMore
import Derived.Outline
import Derived.Laws.StructEq
namespace Go.Proofs.Ytklfijhlibpmaaa
open Go.RowKit
set_option linter.unusedVariables false

/-- The slice address A holds the outages ls, in a block below B. -/
def OgsR (w : World) (B : Nat) (A : Option Addr) (ls : List Og) : Prop :=
  0 < ls.length → ∃ b off, A = some ⟨b, off, none⟩ ∧ b < B ∧ ∀ i, i < ls.length →
    w.cell? ⟨b, off + i * 4, none⟩ = some (.int .u8 (ls.getD i (0, 0, 0, 0)).1) ∧
    w.cell? ⟨b, off + i * 4 + 1, none⟩ = some (.int .i64 (ls.getD i (0, 0, 0, 0)).2.1) ∧
    w.cell? ⟨b, off + i * 4 + 2, none⟩ = some (.int .i64 (ls.getD i (0, 0, 0, 0)).2.2.1) ∧
    w.cell? ⟨b, off + i * 4 + 3, none⟩ = some (.int .i64 (ls.getD i (0, 0, 0, 0)).2.2.2)
/-- Hours that fit an int. -/
def OgB (o : Og) : Prop := -9223372036854775808 ≤ o.2.2.1 ∧ o.2.2.1 ≤ 9223372036854775807 ∧ -9223372036854775808 ≤ o.2.2.2 ∧ o.2.2.2 ≤ 9223372036854775807
def OgBs (l : List Og) : Prop := ∀ o ∈ l, OgB o
theorem OgBs.at_ {l : List Og} (h : OgBs l) (k : Nat) : OgB (l.getD k (0, 0, 0, 0)) := by
  by_cases hk : k < l.length
  · rw [List.getD_eq_getElem?_getD, List.getElem?_eq_getElem hk]; exact h _ (List.getElem_mem hk)
  · rw [List.getD_eq_getElem?_getD, List.getElem?_eq_none (by omega)]; simp [OgB]

section
variable {w w' : World} {B B' : Nat} {A : Option Addr} {ls : List Og}
theorem OgsR.nil_ : OgsR w B A [] := fun h => absurd h (by simp)
theorem OgsR.keep (h : OgsR w B A ls) (hk : ∀ p : Addr, p.block < B → w'.cell? p = w.cell? p) : OgsR w' B A ls := fun hn => by
  obtain ⟨b, off, e, hb, hc⟩ := h hn
  refine ⟨b, off, e, hb, fun i hi => ?_⟩
  obtain ⟨h0, h1, h2, h3⟩ := hc i hi
  exact ⟨(hk _ hb).trans h0, (hk _ hb).trans h1, (hk _ hb).trans h2, (hk _ hb).trans h3⟩
theorem OgsR.more (h : OgsR w B A ls) (hB : B ≤ B') : OgsR w B' A ls := fun hn => by
  obtain ⟨b, off, e, hb, hc⟩ := h hn
  exact ⟨b, off, e, by omega, hc⟩
theorem OgsR.below (h : OgsR w B A ls) (hb : Below B w w') : OgsR w' B A ls := h.keep fun _ hp => hb.cell hp
theorem OgsR.upto (h : OgsR w w.heap.size A ls) (hb : Below w.heap.size w w') : OgsR w' w'.heap.size A ls := (h.below hb).more hb.size
theorem OgsR.alloc (h : OgsR w B A ls) (hB : B ≤ w.heap.size) (o : Obj) : OgsR (w.alloc o) B A ls := h.keep fun p hp => World.cell?_alloc_lt w o p (by omega)
end

/-- One outage as a value. -/
def ogV (o : Og) : Value := .agg #[.int .u8 o.1, .int .i64 o.2.1, .int .i64 o.2.2.1, .int .i64 o.2.2.2]
def ogEnc (o : Og) : List Value := [.int .u8 o.1, .int .i64 o.2.1, .int .i64 o.2.2.1, .int .i64 o.2.2.2]
/-- The cells of outages. -/
def ogCells (ls : List Og) : List Value := ls.flatMap ogEnc
theorem ogCells_cons (l : Og) (ls : List Og) : ogCells (l :: ls) = ogEnc l ++ ogCells ls := by simp [ogCells]
theorem ogCells_append (a b : List Og) : ogCells (a ++ b) = ogCells a ++ ogCells b := by simp [ogCells]
theorem ogCells_length (ls : List Og) : (ogCells ls).length = ls.length * 4 := by
  induction ls with
  | nil => rfl
  | cons l ls ih =>
    rw [ogCells_cons, List.length_append, ih]
    simp [ogEnc]
    omega
theorem ogCells_at (ls : List Og) : ∀ (i : Nat), i < ls.length → (ogCells ls)[i * 4]? = some (.int .u8 (ls.getD i (0, 0, 0, 0)).1) ∧ (ogCells ls)[i * 4 + 1]? = some (.int .i64 (ls.getD i (0, 0, 0, 0)).2.1) ∧
    (ogCells ls)[i * 4 + 2]? = some (.int .i64 (ls.getD i (0, 0, 0, 0)).2.2.1) ∧ (ogCells ls)[i * 4 + 3]? = some (.int .i64 (ls.getD i (0, 0, 0, 0)).2.2.2) := by
  induction ls with
  | nil => intro i hi; simp at hi
  | cons l ls ih =>
    intro i hi
    cases i with
    | zero => simp [ogCells, ogEnc]
    | succ i =>
      have := ih i (by simpa using hi)
      rw [ogCells_cons]
      have a0 : (i + 1) * 4 = 4 + i * 4 := by omega
      have a1 : (i + 1) * 4 + 1 = 4 + (i * 4 + 1) := by omega
      have a2 : (i + 1) * 4 + 2 = 4 + (i * 4 + 2) := by omega
      have a3 : (i + 1) * 4 + 3 = 4 + (i * 4 + 3) := by omega
      rw [a1, a2, a3, a0]
      rw [List.getElem?_append_right (by simp [ogEnc]), List.getElem?_append_right (by simp [ogEnc]), List.getElem?_append_right (by simp [ogEnc]), List.getElem?_append_right (by simp [ogEnc])]
      simpa [ogEnc] using this
theorem OgsR.of_block {w : World} {g : Nat} {cs : Array Value} {t : TypeId} {fz : Nat × Nat} {ls : List Og} (h : w.heap[g]? = some (.cells cs t fz)) (hc : cs.toList.take (ls.length * 4) = ogCells ls) : OgsR w w.heap.size (some ⟨g, 0, none⟩) ls := fun hn => by
  refine ⟨g, 0, rfl, (Array.getElem?_eq_some_iff.1 h).1, fun i hi => ?_⟩
  have hcell : ∀ j, j < ls.length * 4 → w.cell? ⟨g, 0 + j, none⟩ = (ogCells ls)[j]? := by
    intro j hj
    rw [← hc, List.getElem?_take_of_lt hj]
    simp [World.cell?, h]
  obtain ⟨h0, h1, h2, h3⟩ := ogCells_at ls i hi
  have g0 := hcell (i * 4) (by omega)
  have g1 := hcell (i * 4 + 1) (by omega)
  have g2 := hcell (i * 4 + 2) (by omega)
  have g3 := hcell (i * 4 + 3) (by omega)
  simp only [← Nat.add_assoc] at g0 g1 g2 g3
  exact ⟨g0.trans h0, g1.trans h1, g2.trans h2, g3.trans h3⟩
theorem OgsR.lit (w : World) (t : TypeId) (ls : List Og) (cs : Array Value) (h : cs = (ogCells ls).toArray) : OgsR (w.alloc (.cells cs t)) (w.alloc (.cells cs t)).heap.size (some ⟨w.heap.size, 0, none⟩) ls := by
  have hl := ogCells_length ls
  exact OgsR.of_block (w := w.alloc (.cells cs t)) (g := w.heap.size) (ls := ls) (heap_alloc_new w _) (by rw [h]; simp; rw [List.take_of_length_le (by omega)])
theorem one_ogs (ls : List Og) : ∀ u ∈ ogCells ls, u.oneCell' = true := by
  intro u hu
  unfold ogCells at hu
  rw [List.mem_flatMap] at hu
  obtain ⟨l, _, hl⟩ := hu
  simp [ogEnc] at hl
  rcases hl with rfl | rfl | rfl | rfl <;> rfl
theorem OgsR.toSrc {w : World} {B : Nat} {A : Option Addr} {ls : List Og} (h : OgsR w B A ls) : Src w 4 A ls.length (ogCells ls) := by
  refine ⟨ogCells_length ls, fun hp => ?_⟩
  obtain ⟨b, off, rfl, _, hc⟩ := h hp
  refine ⟨_, rfl, fun j v hv => ?_⟩
  have hjl : j < ls.length * 4 := by rw [← ogCells_length]; exact (List.getElem?_eq_some_iff.1 hv).1
  have hi : j / 4 < ls.length := by omega
  obtain ⟨c0, c1, c2, c3⟩ := hc (j / 4) hi
  obtain ⟨d0, d1, d2, d3⟩ := ogCells_at ls (j / 4) hi
  have ha : (⟨b, off, none⟩ : Addr).add j = ⟨b, off + j, none⟩ := by unfold Addr.add; split <;> simp_all
  rw [ha]
  rcases (by omega : j % 4 = 0 ∨ j % 4 = 1 ∨ j % 4 = 2 ∨ j % 4 = 3) with h | h | h | h
  · rw [show j = j / 4 * 4 by omega, d0] at hv; rw [show off + j = off + j / 4 * 4 by omega, c0]; exact hv
  · rw [show j = j / 4 * 4 + 1 by omega, d1] at hv; rw [show off + j = off + j / 4 * 4 + 1 by omega, c1]; exact hv
  · rw [show j = j / 4 * 4 + 2 by omega, d2] at hv; rw [show off + j = off + j / 4 * 4 + 2 by omega, c2]; exact hv
  · rw [show j = j / 4 * 4 + 3 by omega, d3] at hv; rw [show off + j = off + j / 4 * 4 + 3 by omega, c3]; exact hv
theorem ownsRow_ogs {w : World} {base : Nat} {v : Value} {ls : List Og} (h : w.ownsRow base 27 4 v ls.length (ogCells ls)) : ∃ A c, v = .slice A ls.length c ∧ OgsR w w.heap.size A ls := by
  rcases h.2 with ⟨rfl, h0⟩ | ⟨g, cap, cur, rfl, hb, hg, h1, h2, h3, h4⟩
  · obtain rfl : ls = [] := List.eq_nil_of_length_eq_zero h0
    exact ⟨none, 0, rfl, OgsR.nil_⟩
  · exact ⟨_, _, rfl, OgsR.of_block hg h4⟩
theorem info_og : (Try.prog.info? 27).map (fun i => (i.zero, i.size, i.bytes)) = some (some (.agg #[.int .u8 0, .int .i64 0, .int .i64 0, .int .i64 0]), 4, 32) := by kernel_rfl
theorem info_int : (Try.prog.info? 3).map (fun i => (i.zero, i.size, i.bytes)) = some (some (.int .i64 0), 1, 8) := by kernel_rfl
theorem ownsRow_ints {w : World} {base : Nat} {v : Value} {xs : List Int} (h : w.ownsRow base 3 1 v xs.length (xs.map (Value.int .i64))) : ∃ A c, v = .slice A xs.length c ∧ IntsR w w.heap.size A xs := by
  rcases h.2 with ⟨rfl, h0⟩ | ⟨g, cap, cur, rfl, hb, hg, h1, h2, h3, h4⟩
  · obtain rfl : xs = [] := List.eq_nil_of_length_eq_zero h0
    exact ⟨none, 0, rfl, IntsR.nil_⟩
  · refine ⟨_, _, rfl, fun hn => ⟨g, 0, rfl, (Array.getElem?_eq_some_iff.1 hg).1, fun i hi => ?_⟩⟩
    have hcell : w.cell? ⟨g, 0 + i, none⟩ = cur[i]? := by simp [World.cell?, hg]
    rw [hcell]
    have : (cur.toList.take (xs.length * 1))[i]? = (xs.map (Value.int .i64))[i]? := by rw [h4]
    rw [List.getElem?_take_of_lt (by omega)] at this
    rw [← Array.getElem?_toList, this]
    simp [hi]
theorem ownsRow_base {w : World} {base base' : Nat} {e : TypeId} {size : Nat} {v : Value} {n : Nat} {xs : List Value} (h : w.ownsRow base e size v n xs) (hb : base' ≤ base) : w.ownsRow base' e size v n xs := by
  obtain ⟨h1, h2⟩ := h
  refine ⟨h1, ?_⟩
  rcases h2 with h2 | ⟨g, cap, cur, hv, hg, r⟩
  · exact .inl h2
  · exact .inr ⟨g, cap, cur, hv, by omega, r⟩
/-- A row of outages of the call's own. -/
def OgE (w : World) (ls : List Og) (e : Ending) (w' : World) : Prop :=
  ∃ v, e = .returned v ∧ w'.ownsRow w.heap.size 27 4 v ls.length (ogCells ls) ∧ Below w.heap.size w w'
/-- A row of ints of the call's own. -/
def RowE (w : World) (xs : List Int) (e : Ending) (w' : World) : Prop :=
  ∃ v, e = .returned v ∧ w'.ownsRow w.heap.size 3 1 v xs.length (xs.map (Value.int .i64)) ∧ Below w.heap.size w w'
theorem neq_og (l m : Og) (w : World) : (binOp .neq 27 (.agg #[.int .u8 l.1, .int .i64 l.2.1, .int .i64 l.2.2.1, .int .i64 l.2.2.2]) (.agg #[.int .u8 m.1, .int .i64 m.2.1, .int .i64 m.2.2.1, .int .i64 m.2.2.2])).run Try.prog w = .ok (.bool (decide (l ≠ m))) w := by
  have u3 := Try.underlying3
  have a3 := Try.isAgg3
  have z3 := Try.sizeOf3
  have u2 := Try.underlying5
  have a2 := Try.isAgg5
  have z2 := Try.sizeOf5
  have hS : Try.prog.underlying 27 = some (.struct (Try.prog.fieldsOf 27)) := by kernel_rfl
  have hp : Try.prog.stoodInHeld 27 = false := by kernel_rfl
  rw [run_neq_struct, show (10000 : Nat) = 9999 + 1 from rfl, run_equalIn_agg w 9999 27 _ _ hS hp]
  simp only [Program.fieldsOf, Try.underlying27]
  go_simp
  obtain ⟨l0, l1, l2, l3⟩ := l
  obtain ⟨m0, m1, m2, m3⟩ := m
  by_cases h1 : l0 = m0 <;> by_cases h2 : l1 = m1 <;> by_cases h3 : l2 = m2 <;> by_cases h4 : l3 = m3 <;> simp [h1, h2, h3, h4]
theorem take_ext {α : Type} {xs ys : List α} {k : Nat} {d : α} (h : xs.take k = ys.take k) (hx : k < xs.length) (hy : k < ys.length) (he : xs.getD k d = ys.getD k d) : xs.take (k + 1) = ys.take (k + 1) := by
  rw [List.take_succ_eq_append_getElem hx, List.take_succ_eq_append_getElem hy, h]
  rw [getD_eq _ _ _ hx, getD_eq _ _ _ hy] at he
  rw [he]
end Go.Proofs.Ytklfijhlibpmaaa
