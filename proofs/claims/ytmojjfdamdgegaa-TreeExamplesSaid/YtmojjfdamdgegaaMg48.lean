/- The text TexA. -/
import Derived.Deep.DeepCutAuto
import Derived.Test.YtmojjfdamdgegaaMg39
import Derived.Test.YtmojjfdamdgegaaMg45
import Derived.Test.YtmojjfdamdgegaaMg46
import Derived.Test.YtmojjfdamdgegaaAnyO
import Derived.Test.YtmojjfdamdgegaaMg47
/- The walk of TreeExamples: its table and its facts. -/
namespace Go.Proofs.Ytmojjfdamdgegaa
open Go.RowKit
set_option linter.unusedVariables false

/-- The table of the examples: buses, lines, out, the error. -/
def exTab : List (Int × List Ln × List Int × Int) :=
  [(0, [], [], 1), (3, threeLs, [3], 1), (3, threeLs, [1, 0], 1), (2, List.replicate 11 (0, 0, 0, 0), [-1], 5), (3, threeLs, [0, 1, 2], 0), (6, [], [], 0)]
def exRow (i : Nat) : Int × List Ln × List Int × Int := exTab.getD i (0, [], [], 1)
/-- Eleven lines of zeros. -/
def z44 : Array Value := (lnCells (List.replicate 11 (0, 0, 0, 0))).toArray
theorem run_make11 (w : World) : (Instr.makeSlice 22 (.int .i64 11) (.int .i64 11)).run Try.prog w = .ok (.slice (some ⟨w.heap.size, 0, none⟩) 11 11) (w.alloc (.cells z44 44)) := by kernel_rfl

/-- The table lies in block g. -/
def ExRows (g : Nat) (w : World) : Prop := g < w.heap.size ∧ ∀ i, i < 6 → ∃ A c A' c', w.cell? ⟨g, i * 4, none⟩ = some (.int .i64 (exRow i).1) ∧ w.cell? ⟨g, i * 4 + 1, none⟩ = some (.slice A (exRow i).2.1.length c) ∧
  w.cell? ⟨g, i * 4 + 2, none⟩ = some (.slice A' (exRow i).2.2.1.length c') ∧ w.cell? ⟨g, i * 4 + 3, none⟩ = some (.int .i64 (exRow i).2.2.2) ∧ LinesR w w.heap.size A (exRow i).2.1 ∧ IntsR w w.heap.size A' (exRow i).2.2.1
theorem ExRows.upto {g : Nat} {w w' : World} (h : ExRows g w) (hb : Below w.heap.size w w') : ExRows g w' := by
  refine ⟨Nat.lt_of_lt_of_le h.1 hb.size, fun i hi => ?_⟩
  obtain ⟨A, c, A', c', h0, h1, h2, h3, hl, ho⟩ := h.2 i hi
  exact ⟨A, c, A', c', (hb.cell h.1).trans h0, (hb.cell h.1).trans h1, (hb.cell h.1).trans h2, (hb.cell h.1).trans h3, hl.upto hb, ho.upto hb⟩

/-- Block b holds just these cells. -/
def Blk (W : World) (b : Nat) (cs : Array Value) (t : TypeId) : Prop := W.heap[b]? = some (.cells cs t (0, 0))
theorem Blk.upto {W W' : World} {b : Nat} {cs : Array Value} {t : TypeId} (h : Blk W b cs t) (hb : Below W.heap.size W W') : Blk W' b cs t := (hb.block b (Array.getElem?_eq_some_iff.1 h).1).trans h
theorem Blk.new (W : World) (cs : Array Value) (t : TypeId) : Blk (W.alloc (.cells cs t)) W.heap.size cs t := heap_alloc_new W _
theorem Blk.cell {W : World} {b : Nat} {cs : Array Value} {t : TypeId} (h : Blk W b cs t) (i : Nat) : W.cell? ⟨b, i, none⟩ = cs[i]? := by simp [World.cell?, show W.heap[b]? = _ from h]
theorem Blk.ints {W : World} {b : Nat} {cs : Array Value} {t : TypeId} (h : Blk W b cs t) (xs : List Int) (hx : cs = (xs.map (Value.int .i64)).toArray) : IntsR W W.heap.size (some ⟨b, 0, none⟩) xs := fun hn => by
  refine ⟨b, 0, rfl, (Array.getElem?_eq_some_iff.1 h).1, fun i hi => ?_⟩
  rw [h.cell, hx]
  simp [hi]
theorem Blk.lines {W : World} {b : Nat} {cs : Array Value} {t : TypeId} (h : Blk W b cs t) (ls : List Ln) (hx : cs = (lnCells ls).toArray) : LinesR W W.heap.size (some ⟨b, 0, none⟩) ls :=
  LinesR.of_block h (by rw [hx]; simp; rw [List.take_of_length_le (by have := lnCells_length ls; omega)])

/-- The value that each operation of the table's statement makes. -/
def exF (A : Option Addr) (j : Nat) (v : Value) (W : World) : Prop :=
  match j with
  | 0 => v = .agg #[.int .i64 0, .slice none 0 0]
  | 1 => v = .agg #[.int .i64 0, .slice none 0 0, .slice none 0 0, .int .i64 1]
  | 2 => v = .agg #[.int .i64 3, .slice A 3 3]
  | 3 => ∃ b, v = .slice (some ⟨b, 0, none⟩) 1 1 ∧ Blk W b #[.int .i64 3] 3
  | 4 => ∃ b, v = .agg #[.int .i64 3, .slice A 3 3, .slice (some ⟨b, 0, none⟩) 1 1, .int .i64 1] ∧ Blk W b #[.int .i64 3] 3
  | 5 => v = .agg #[.int .i64 3, .slice A 3 3]
  | 6 => ∃ b, v = .slice (some ⟨b, 0, none⟩) 2 2 ∧ Blk W b #[.int .i64 1, .int .i64 0] 3
  | 7 => ∃ b, v = .agg #[.int .i64 3, .slice A 3 3, .slice (some ⟨b, 0, none⟩) 2 2, .int .i64 1] ∧ Blk W b #[.int .i64 1, .int .i64 0] 3
  | 8 => ∃ b, v = .slice (some ⟨b, 0, none⟩) 11 11 ∧ Blk W b z44 44
  | 9 => ∃ b, v = .agg #[.int .i64 2, .slice (some ⟨b, 0, none⟩) 11 11] ∧ Blk W b z44 44
  | 10 => ∃ b, v = .slice (some ⟨b, 0, none⟩) 1 1 ∧ Blk W b #[.int .i64 (-1)] 3
  | 11 => ∃ b c, v = .agg #[.int .i64 2, .slice (some ⟨b, 0, none⟩) 11 11, .slice (some ⟨c, 0, none⟩) 1 1, .int .i64 5] ∧ Blk W b z44 44 ∧ Blk W c #[.int .i64 (-1)] 3
  | 12 => v = .agg #[.int .i64 3, .slice A 3 3]
  | 13 => ∃ b, v = .slice (some ⟨b, 0, none⟩) 3 3 ∧ Blk W b #[.int .i64 0, .int .i64 1, .int .i64 2] 3
  | 14 => ∃ b, v = .agg #[.int .i64 3, .slice A 3 3, .slice (some ⟨b, 0, none⟩) 3 3, .int .i64 0] ∧ Blk W b #[.int .i64 0, .int .i64 1, .int .i64 2] 3
  | 15 => v = .agg #[.int .i64 6, .slice none 0 0]
  | 16 => v = .agg #[.int .i64 6, .slice none 0 0, .slice none 0 0, .int .i64 0]
  | 17 => ∃ g, v = .slice (some ⟨g, 0, none⟩) 6 6 ∧ ExRows g W
  | 18 => v = .int .i64 6
  | 19 => v = .int .i64 0
  | _ => True
theorem exF_up {A : Option Addr} {W W' : World} (hb : Below W.heap.size W W') (j : Nat) (v : Value) (h : exF A j v W) : exF A j v W' := by
  rcases j with _ | _ | _ | _ | _ | _ | _ | _ | _ | _ | _ | _ | _ | _ | _ | _ | _ | _ | _ | _ | j
  · exact h
  · exact h
  · exact h
  · obtain ⟨b, e, h⟩ := h
    exact ⟨b, e, h.upto hb⟩
  · obtain ⟨b, e, h⟩ := h
    exact ⟨b, e, h.upto hb⟩
  · exact h
  · obtain ⟨b, e, h⟩ := h
    exact ⟨b, e, h.upto hb⟩
  · obtain ⟨b, e, h⟩ := h
    exact ⟨b, e, h.upto hb⟩
  · obtain ⟨b, e, h⟩ := h
    exact ⟨b, e, h.upto hb⟩
  · obtain ⟨b, e, h⟩ := h
    exact ⟨b, e, h.upto hb⟩
  · obtain ⟨b, e, h⟩ := h
    exact ⟨b, e, h.upto hb⟩
  · obtain ⟨b, c, e, h, k⟩ := h
    exact ⟨b, c, e, h.upto hb, k.upto hb⟩
  · exact h
  · obtain ⟨b, e, h⟩ := h
    exact ⟨b, e, h.upto hb⟩
  · obtain ⟨b, e, h⟩ := h
    exact ⟨b, e, h.upto hb⟩
  · exact h
  · exact h
  · obtain ⟨g, e, h⟩ := h
    exact ⟨g, e, h.upto hb⟩
  · exact h
  · exact h
  · trivial

theorem ex_fin {W : World} {g ba bb bc bd be : Nat} {A : Option Addr} {t : TypeId} (hA : LinesR W W.heap.size A threeLs) (h1 : Blk W ba #[.int .i64 3] 3) (h2 : Blk W bb #[.int .i64 1, .int .i64 0] 3) (h3 : Blk W bc z44 44) (h4 : Blk W bd #[.int .i64 (-1)] 3) (h5 : Blk W be #[.int .i64 0, .int .i64 1, .int .i64 2] 3)
    (hg : Blk W g #[.int .i64 0, .slice none 0 0, .slice none 0 0, .int .i64 1, .int .i64 3, .slice A 3 3, .slice (some ⟨ba, 0, none⟩) 1 1, .int .i64 1, .int .i64 3, .slice A 3 3, .slice (some ⟨bb, 0, none⟩) 2 2, .int .i64 1, .int .i64 2, .slice (some ⟨bc, 0, none⟩) 11 11, .slice (some ⟨bd, 0, none⟩) 1 1, .int .i64 5, .int .i64 3, .slice A 3 3, .slice (some ⟨be, 0, none⟩) 3 3, .int .i64 0, .int .i64 6, .slice none 0 0, .slice none 0 0, .int .i64 0] t) : ExRows g W := by
  refine ⟨(Array.getElem?_eq_some_iff.1 hg).1, fun i hi => ?_⟩
  have hz : ∀ k, W.cell? ⟨g, k, none⟩ = (#[.int .i64 0, .slice none 0 0, .slice none 0 0, .int .i64 1, .int .i64 3, .slice A 3 3, .slice (some ⟨ba, 0, none⟩) 1 1, .int .i64 1, .int .i64 3, .slice A 3 3, .slice (some ⟨bb, 0, none⟩) 2 2, .int .i64 1, .int .i64 2, .slice (some ⟨bc, 0, none⟩) 11 11, .slice (some ⟨bd, 0, none⟩) 1 1, .int .i64 5, .int .i64 3, .slice A 3 3, .slice (some ⟨be, 0, none⟩) 3 3, .int .i64 0, .int .i64 6, .slice none 0 0, .slice none 0 0, .int .i64 0] : Array Value)[k]? := fun k => hg.cell k
  match i, hi with
  | 0, _ => exact ⟨none, 0, none, 0, hz 0, hz 1, hz 2, hz 3, LinesR.nil_, IntsR.nil_⟩
  | 1, _ => exact ⟨A, 3, _, 1, hz 4, hz 5, hz 6, hz 7, hA, h1.ints [3] rfl⟩
  | 2, _ => exact ⟨A, 3, _, 2, hz 8, hz 9, hz 10, hz 11, hA, h2.ints [1, 0] rfl⟩
  | 3, _ => exact ⟨_, 11, _, 1, hz 12, hz 13, hz 14, hz 15, h3.lines (List.replicate 11 (0, 0, 0, 0)) rfl, h4.ints [-1] rfl⟩
  | 4, _ => exact ⟨A, 3, _, 3, hz 16, hz 17, hz 18, hz 19, hA, h5.ints [0, 1, 2] rfl⟩
  | 5, _ => exact ⟨none, 0, none, 0, hz 20, hz 21, hz 22, hz 23, LinesR.nil_, IntsR.nil_⟩

/-- What lies through the loop. -/
structure ExSt (g B : Nat) (A : Option Addr) (W : World) : Prop where
  p0 : W.cell? ⟨B, 0, none⟩ = some (.int .i64 3)
  p1 : W.cell? ⟨B, 1, none⟩ = some (.slice A 3 3)
  hA : LinesR W W.heap.size A threeLs
  rows : ExRows g W
  ltB : B < W.heap.size
theorem ExSt.upto {g B : Nat} {A : Option Addr} {W W' : World} (h : ExSt g B A W) (hb : Below W.heap.size W W') : ExSt g B A W' :=
  ⟨(hb.cell h.ltB).trans h.p0, (hb.cell h.ltB).trans h.p1, h.hA.upto hb, h.rows.upto hb, Nat.lt_of_lt_of_le h.ltB hb.size⟩
/-- And through a round: the row in its box X. -/
structure ExRow2 (g B : Nat) (A : Option Addr) (nb : Int) (ls : List Ln) (out : List Int) (er : Int) (A2 A3 : Option Addr) (c2 c3 X : Nat) (W : World) : Prop where
  ex : ExSt g B A W
  x0 : W.cell? ⟨X, 0, none⟩ = some (.int .i64 nb)
  x1 : W.cell? ⟨X, 1, none⟩ = some (.slice A2 ls.length c2)
  x2 : W.cell? ⟨X, 2, none⟩ = some (.slice A3 out.length c3)
  x3 : W.cell? ⟨X, 3, none⟩ = some (.int .i64 er)
  hl : LinesR W W.heap.size A2 ls
  ho : IntsR W W.heap.size A3 out
  ltX : X < W.heap.size
theorem ExRow2.upto {g B : Nat} {A : Option Addr} {nb : Int} {ls : List Ln} {out : List Int} {er : Int} {A2 A3 : Option Addr} {c2 c3 X : Nat} {W W' : World} (h : ExRow2 g B A nb ls out er A2 A3 c2 c3 X W) (hb : Below W.heap.size W W') : ExRow2 g B A nb ls out er A2 A3 c2 c3 X W' :=
  ⟨h.ex.upto hb, (hb.cell h.ltX).trans h.x0, (hb.cell h.ltX).trans h.x1, (hb.cell h.ltX).trans h.x2, (hb.cell h.ltX).trans h.x3, h.hl.upto hb, h.ho.upto hb, Nat.lt_of_lt_of_le h.ltX hb.size⟩
theorem rowsOwn_slice {w : World} {base : Nat} {v : Value} {rows : List (List Int)} (h : RowsOwn w base v rows) : ∃ A c, v = .slice A rows.length c := by
  obtain ⟨vs, h1, h2, _⟩ := h
  exact own_slice h2
/-- The chapter's network in its box. -/
structure FiveSt (B : Nat) (A : Option Addr) (W : World) : Prop where
  p0 : W.cell? ⟨B, 0, none⟩ = some (.int .i64 3)
  p1 : W.cell? ⟨B, 1, none⟩ = some (.slice A 3 3)
  hA : LinesR W W.heap.size A threeLs
  ltB : B < W.heap.size
theorem FiveSt.of {g B : Nat} {A : Option Addr} {W : World} (h : ExSt g B A W) : FiveSt B A W := ⟨h.p0, h.p1, h.hA, h.ltB⟩
theorem FiveSt.upto {B : Nat} {A : Option Addr} {W W' : World} (h : FiveSt B A W) (hb : Below W.heap.size W W') : FiveSt B A W' :=
  ⟨(hb.cell h.ltB).trans h.p0, (hb.cell h.ltB).trans h.p1, h.hA.upto hb, Nat.lt_of_lt_of_le h.ltB hb.size⟩
/-- What is asked of a row of the table. -/
def exOk (r : Int × List Ln × List Int × Int) : Prop := r.2.1.length ≤ 100 ∧ r.2.2.1.length ≤ 100 ∧ outsE r.1 r.2.1 r.2.2.1 = r.2.2.2 ∧ brgL r.1 r.2.1 r.2.2.1 = [] ∧ treeL r.1 r.2.1 r.2.2.1 = [] ∧ (if outsE r.1 r.2.1 r.2.2.1 = 0 then cycL r.1 r.2.1 r.2.2.1 else []) = [] ∧
  pathE r.1 r.2.1 r.2.2.1 0 0 = r.2.2.2 ∧ (pathL r.1 r.2.1 r.2.2.1 0 0).length = if r.2.2.2 = 0 then r.2.1.length else 0
instance (r : Int × List Ln × List Int × Int) : Decidable (exOk r) := by unfold exOk; infer_instance
theorem ex_facts : ∀ k, k < 6 → exOk (exRow k) := by
  intro k hk
  match k, hk with
  | 0, _ => decide +kernel
  | 1, _ => decide +kernel
  | 2, _ => decide +kernel
  | 3, _ => decide +kernel
  | 4, _ => decide +kernel
  | 5, _ => decide +kernel
def twoLs : List Ln := [(0, 1, 1, 0), (1, 0, 2, 0), (0, 1, 3, 0)]
theorem tx_paths : (pathE 3 threeLs [] 0 3 = 1 ∧ pathE 3 threeLs [] (-1) 0 = 1) ∧ pathE 3 threeLs [0, 2] 0 1 = 8 ∧ pathE 3 threeLs [4] 0 9 = 1 := by
  refine ⟨⟨?_, ?_⟩, ?_, ?_⟩ <;> decide +kernel
theorem tx_cyc : outsE 2 twoLs [] = 0 ∧ (if outsE 2 twoLs [] = 0 then cycL 2 twoLs [] else []) = [[1, 1, 0], [-1, 0, 1]] := by
  refine ⟨?_, ?_⟩ <;> decide +kernel
theorem tx_brg : brgL 2 twoLs [] = [] := by decide +kernel
theorem tx_brg2 : brgL 2 twoLs [0, 2] = [1] ∧ outsE 2 twoLs [0, 2] = 0 := by
  refine ⟨?_, by decide +kernel⟩
  have u1 : unionL [0, 2] [1] = [0, 1, 2] := unionL_eq (by simp) (by intro x; simp; constructor <;> (intro h; omega))
  have p1 : decide (cntL 2 twoLs [0, 2] < cntL 2 twoLs (unionL [0, 2] [1])) = true := by rw [u1]; decide +kernel
  rw [brgL, if_pos (by decide +kernel), show svcL [0, 2] twoLs.length = [1] by decide +kernel]
  unfold brgTo
  rw [List.take_of_length_le (by simp), List.filter_cons, if_pos p1]
  rfl
theorem row_small2 : ∀ i, i < ([[1, 1, 0], [-1, 0, 1]] : List (List Int)).length → (([[1, 1, 0], [-1, 0, 1]] : List (List Int)).getD i []).length ≤ 1000000 := fun i hi => by
  match i, hi with
  | 0, _ => decide
  | 1, _ => decide
/-- The literal of two rows. -/
theorem rows_lit2 (w : World) (r1 r2 : List Int) (c1 c2 : Array Value) (h1 : c1 = (r1.map (Value.int .i64)).toArray) (h2 : c2 = (r2.map (Value.int .i64)).toArray) :
    RowsR (((w.alloc (.cells c1 3)).alloc (.cells c2 3)).alloc (.cells #[.slice (some ⟨w.heap.size, 0, none⟩) r1.length r1.length, .slice (some ⟨w.heap.size + 1, 0, none⟩) r2.length r2.length] 25)) (((w.alloc (.cells c1 3)).alloc (.cells c2 3)).alloc (.cells #[.slice (some ⟨w.heap.size, 0, none⟩) r1.length r1.length, .slice (some ⟨w.heap.size + 1, 0, none⟩) r2.length r2.length] 25)).heap.size (some ⟨w.heap.size + 1 + 1, 0, none⟩) [r1, r2] ∧
    Below w.heap.size w (((w.alloc (.cells c1 3)).alloc (.cells c2 3)).alloc (.cells #[.slice (some ⟨w.heap.size, 0, none⟩) r1.length r1.length, .slice (some ⟨w.heap.size + 1, 0, none⟩) r2.length r2.length] 25)) := by
  have z1 := World.size_alloc w (.cells c1 3)
  have z2 := World.size_alloc (w.alloc (.cells c1 3)) (.cells c2 3)
  rw [z1] at z2
  have a1 := IntsR.litU w 3 r1 c1 h1
  have a2 := IntsR.litU (w.alloc (.cells c1 3)) 3 r2 c2 h2
  rw [z1] at a2
  have hb12 : Below (w.alloc (.cells c1 3)).heap.size (w.alloc (.cells c1 3)) ((w.alloc (.cells c1 3)).alloc (.cells c2 3)) := (Below.refl _ _).alloc (Nat.le_refl _) _
  have hb23 : Below ((w.alloc (.cells c1 3)).alloc (.cells c2 3)).heap.size ((w.alloc (.cells c1 3)).alloc (.cells c2 3)) (((w.alloc (.cells c1 3)).alloc (.cells c2 3)).alloc (.cells #[.slice (some ⟨w.heap.size, 0, none⟩) r1.length r1.length, .slice (some ⟨w.heap.size + 1, 0, none⟩) r2.length r2.length] 25)) := (Below.refl _ _).alloc (Nat.le_refl _) _
  refine ⟨fun _ => ⟨w.heap.size + 1 + 1, 0, rfl, by simp, fun i hi => ?_⟩, (below_alloc2 w _ _).trans (hb23.mono (by simp; omega))⟩
  match i, hi with
  | 0, _ => exact ⟨some ⟨w.heap.size, 0, none⟩, r1.length, by rw [cell_alloc_at _ _ _ _ _ z2.symm]; rfl, (a1.upto hb12).upto hb23⟩
  | 1, _ => exact ⟨some ⟨w.heap.size + 1, 0, none⟩, r2.length, by rw [cell_alloc_at _ _ _ _ _ z2.symm]; rfl, a2.upto hb23⟩
end Go.Proofs.Ytmojjfdamdgegaa
