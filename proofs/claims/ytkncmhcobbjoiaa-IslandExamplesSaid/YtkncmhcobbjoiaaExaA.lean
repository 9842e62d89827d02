/- The walk of IslandExamples: its table. -/
import Derived.Test.YtkncmhcobbjoiaaIslF
import Derived.Test.YtkncmhcobbjoiaaIslG
import Derived.Test.YtkncmhcobbjoiaaMembQ
import Derived.Test.YtkncmhcobbjoiaaAnyO
import Derived.Deep.RegionHeld3
import Derived.Deep.DeepCutAuto
namespace Go.Proofs.Ytkncmhcobbjoiaa
open Go.RowKit
set_option linter.unusedVariables false

/-- The table of the examples: buses, lines, out, the error. -/
def exTab : List (Int × List Ln × List Int × Int) :=
  [(0, [], [], 1), (7, [], [], 1), (5, fiveLs, [3], 1), (5, fiveLs, [1, 0], 1), (2, List.replicate 11 (0, 0, 0, 0), [9, 9], 5), (5, fiveLs, [0, 1, 2], 0)]
def exRow (i : Nat) : Int × List Ln × List Int × Int := exTab.getD i (0, [], [], 1)
/-- Eleven lines of zeros. -/
def z44 : Array Value := (lnCells (List.replicate 11 (0, 0, 0, 0))).toArray
theorem run_make11 (w : World) : (Instr.makeSlice 22 (.int .i64 11) (.int .i64 11)).run Try.prog w = .ok (.slice (some ⟨w.heap.size, 0, none⟩) 11 11) (w.alloc (.cells z44 37)) := by kernel_rfl

/-- The table lies in block g. -/
def ExRows (g : Nat) (w : World) : Prop := g < w.heap.size ∧ ∀ i, i < 6 → ∃ A c A' c', w.cell? ⟨g, i * 4, none⟩ = some (.int .i64 (exRow i).1) ∧ w.cell? ⟨g, i * 4 + 1, none⟩ = some (.slice A (exRow i).2.1.length c) ∧
  w.cell? ⟨g, i * 4 + 2, none⟩ = some (.slice A' (exRow i).2.2.1.length c') ∧ w.cell? ⟨g, i * 4 + 3, none⟩ = some (.int .i64 (exRow i).2.2.2) ∧ LinesR w w.heap.size A (exRow i).2.1 ∧ IntsR w w.heap.size A' (exRow i).2.2.1
theorem ExRows.upto {g : Nat} {w w' : World} (h : ExRows g w) (hb : Below w.heap.size w w') : ExRows g w' := by
  refine ⟨Nat.lt_of_lt_of_le h.1 hb.size, fun i hi => ?_⟩
  obtain ⟨A, c, A', c', h0, h1, h2, h3, hl, ho⟩ := h.2 i hi
  exact ⟨A, c, A', c', (hb.cell h.1).trans h0, (hb.cell h.1).trans h1, (hb.cell h.1).trans h2, (hb.cell h.1).trans h3, hl.upto hb, ho.upto hb⟩

/-- Block b holds just these cells. -/
def Blk (W : World) (b : Nat) (cs : Array Value) (t : TypeId) : Prop := W.heap[b]? = some (.cells cs t (0, 0))
theorem Blk.upto {W W' : World} {b : Nat} {cs : Array Value} {t : TypeId} (h : Blk W b cs t) (hb : Below W.heap.size W W') : Blk W' b cs t := (hb.block b (Array.getElem?_eq_some_iff.1 h).1).trans h
theorem Blk.new (W : World) (cs : Array Value) (t : TypeId) : Blk (W.alloc (.cells cs t)) W.heap.size cs t := heap_alloc_new W _
theorem Blk.cell {W : World} {b : Nat} {cs : Array Value} {t : TypeId} (h : Blk W b cs t) (i : Nat) : W.cell? ⟨b, i, none⟩ = cs[i]? := by simp [World.cell?, show W.heap[b]? = _ from h]
theorem Blk.ints {W : World} {b : Nat} {cs : Array Value} {t : TypeId} (h : Blk W b cs t) (xs : List Int) (hx : cs = (xs.map (Value.int .i64)).toArray) : IntsR W W.heap.size (some ⟨b, 0, none⟩) xs := fun hn => by
  refine ⟨b, 0, rfl, (Array.getElem?_eq_some_iff.1 h).1, fun i hi => ?_⟩
  rw [h.cell, hx]
  simp [hi]
theorem Blk.lines {W : World} {b : Nat} {cs : Array Value} {t : TypeId} (h : Blk W b cs t) (ls : List Ln) (hx : cs = (lnCells ls).toArray) : LinesR W W.heap.size (some ⟨b, 0, none⟩) ls :=
  LinesR.of_block h (by rw [hx]; simp; rw [List.take_of_length_le (by have := lnCells_length ls; omega)])

/-- The value that each operation of the table's statement makes. -/
def exF (A : Option Addr) (j : Nat) (v : Value) (W : World) : Prop :=
  match j with
  | 0 => v = .agg #[.int .i64 0, .slice none 0 0]
  | 1 => v = .agg #[.int .i64 0, .slice none 0 0, .slice none 0 0, .int .i64 1]
  | 2 => v = .agg #[.int .i64 7, .slice none 0 0]
  | 3 => v = .agg #[.int .i64 7, .slice none 0 0, .slice none 0 0, .int .i64 1]
  | 4 => v = .agg #[.int .i64 5, .slice A 3 3]
  | 5 => ∃ b, v = .slice (some ⟨b, 0, none⟩) 1 1 ∧ Blk W b #[.int .i64 3] 3
  | 6 => ∃ b, v = .agg #[.int .i64 5, .slice A 3 3, .slice (some ⟨b, 0, none⟩) 1 1, .int .i64 1] ∧ Blk W b #[.int .i64 3] 3
  | 7 => v = .agg #[.int .i64 5, .slice A 3 3]
  | 8 => ∃ b, v = .slice (some ⟨b, 0, none⟩) 2 2 ∧ Blk W b #[.int .i64 1, .int .i64 0] 3
  | 9 => ∃ b, v = .agg #[.int .i64 5, .slice A 3 3, .slice (some ⟨b, 0, none⟩) 2 2, .int .i64 1] ∧ Blk W b #[.int .i64 1, .int .i64 0] 3
  | 10 => ∃ b, v = .slice (some ⟨b, 0, none⟩) 11 11 ∧ Blk W b z44 37
  | 11 => ∃ b, v = .agg #[.int .i64 2, .slice (some ⟨b, 0, none⟩) 11 11] ∧ Blk W b z44 37
  | 12 => ∃ b, v = .slice (some ⟨b, 0, none⟩) 2 2 ∧ Blk W b #[.int .i64 9, .int .i64 9] 3
  | 13 => ∃ b c, v = .agg #[.int .i64 2, .slice (some ⟨b, 0, none⟩) 11 11, .slice (some ⟨c, 0, none⟩) 2 2, .int .i64 5] ∧ Blk W b z44 37 ∧ Blk W c #[.int .i64 9, .int .i64 9] 3
  | 14 => v = .agg #[.int .i64 5, .slice A 3 3]
  | 15 => ∃ b, v = .slice (some ⟨b, 0, none⟩) 3 3 ∧ Blk W b #[.int .i64 0, .int .i64 1, .int .i64 2] 3
  | 16 => ∃ b, v = .agg #[.int .i64 5, .slice A 3 3, .slice (some ⟨b, 0, none⟩) 3 3, .int .i64 0] ∧ Blk W b #[.int .i64 0, .int .i64 1, .int .i64 2] 3
  | 17 => ∃ g, v = .slice (some ⟨g, 0, none⟩) 6 6 ∧ ExRows g W
  | 18 => v = .int .i64 6
  | 19 => v = .int .i64 0
  | _ => True
theorem exF_up {A : Option Addr} {W W' : World} (hb : Below W.heap.size W W') (j : Nat) (v : Value) (h : exF A j v W) : exF A j v W' := by
  rcases j with _ | _ | _ | _ | _ | _ | _ | _ | _ | _ | _ | _ | _ | _ | _ | _ | _ | _ | _ | _ | j
  · exact h
  · exact h
  · exact h
  · exact h
  · exact h
  · obtain ⟨b, e, h⟩ := h
    exact ⟨b, e, h.upto hb⟩
  · obtain ⟨b, e, h⟩ := h
    exact ⟨b, e, h.upto hb⟩
  · exact h
  · obtain ⟨b, e, h⟩ := h
    exact ⟨b, e, h.upto hb⟩
  · obtain ⟨b, e, h⟩ := h
    exact ⟨b, e, h.upto hb⟩
  · obtain ⟨b, e, h⟩ := h
    exact ⟨b, e, h.upto hb⟩
  · obtain ⟨b, e, h⟩ := h
    exact ⟨b, e, h.upto hb⟩
  · obtain ⟨b, e, h⟩ := h
    exact ⟨b, e, h.upto hb⟩
  · obtain ⟨b, c, e, h, k⟩ := h
    exact ⟨b, c, e, h.upto hb, k.upto hb⟩
  · exact h
  · obtain ⟨b, e, h⟩ := h
    exact ⟨b, e, h.upto hb⟩
  · obtain ⟨b, e, h⟩ := h
    exact ⟨b, e, h.upto hb⟩
  · obtain ⟨g, e, h⟩ := h
    exact ⟨g, e, h.upto hb⟩
  · exact h
  · exact h
  · trivial

theorem ex_fin {W : World} {g ba bb bc bd be : Nat} {A : Option Addr} {t : TypeId} (hA : LinesR W W.heap.size A fiveLs) (h1 : Blk W ba #[.int .i64 3] 3) (h2 : Blk W bb #[.int .i64 1, .int .i64 0] 3) (h3 : Blk W bc z44 37) (h4 : Blk W bd #[.int .i64 9, .int .i64 9] 3) (h5 : Blk W be #[.int .i64 0, .int .i64 1, .int .i64 2] 3)
    (hg : Blk W g #[.int .i64 0, .slice none 0 0, .slice none 0 0, .int .i64 1, .int .i64 7, .slice none 0 0, .slice none 0 0, .int .i64 1, .int .i64 5, .slice A 3 3, .slice (some ⟨ba, 0, none⟩) 1 1, .int .i64 1, .int .i64 5, .slice A 3 3, .slice (some ⟨bb, 0, none⟩) 2 2, .int .i64 1, .int .i64 2, .slice (some ⟨bc, 0, none⟩) 11 11, .slice (some ⟨bd, 0, none⟩) 2 2, .int .i64 5, .int .i64 5, .slice A 3 3, .slice (some ⟨be, 0, none⟩) 3 3, .int .i64 0] t) : ExRows g W := by
  refine ⟨(Array.getElem?_eq_some_iff.1 hg).1, fun i hi => ?_⟩
  have hz : ∀ k, W.cell? ⟨g, k, none⟩ = (#[.int .i64 0, .slice none 0 0, .slice none 0 0, .int .i64 1, .int .i64 7, .slice none 0 0, .slice none 0 0, .int .i64 1, .int .i64 5, .slice A 3 3, .slice (some ⟨ba, 0, none⟩) 1 1, .int .i64 1, .int .i64 5, .slice A 3 3, .slice (some ⟨bb, 0, none⟩) 2 2, .int .i64 1, .int .i64 2, .slice (some ⟨bc, 0, none⟩) 11 11, .slice (some ⟨bd, 0, none⟩) 2 2, .int .i64 5, .int .i64 5, .slice A 3 3, .slice (some ⟨be, 0, none⟩) 3 3, .int .i64 0] : Array Value)[k]? := fun k => hg.cell k
  match i, hi with
  | 0, _ => exact ⟨none, 0, none, 0, hz 0, hz 1, hz 2, hz 3, LinesR.nil_, IntsR.nil_⟩
  | 1, _ => exact ⟨none, 0, none, 0, hz 4, hz 5, hz 6, hz 7, LinesR.nil_, IntsR.nil_⟩
  | 2, _ => exact ⟨A, 3, _, 1, hz 8, hz 9, hz 10, hz 11, hA, h1.ints [3] rfl⟩
  | 3, _ => exact ⟨A, 3, _, 2, hz 12, hz 13, hz 14, hz 15, hA, h2.ints [1, 0] rfl⟩
  | 4, _ => exact ⟨_, 11, _, 2, hz 16, hz 17, hz 18, hz 19, h3.lines (List.replicate 11 (0, 0, 0, 0)) rfl, h4.ints [9, 9] rfl⟩
  | 5, _ => exact ⟨A, 3, _, 3, hz 20, hz 21, hz 22, hz 23, hA, h5.ints [0, 1, 2] rfl⟩

/-- What lies through the loop. -/
structure ExSt (g B : Nat) (A : Option Addr) (W : World) : Prop where
  p0 : W.cell? ⟨B, 0, none⟩ = some (.int .i64 5)
  p1 : W.cell? ⟨B, 1, none⟩ = some (.slice A 3 3)
  hA : LinesR W W.heap.size A fiveLs
  rows : ExRows g W
  ltB : B < W.heap.size
theorem ExSt.upto {g B : Nat} {A : Option Addr} {W W' : World} (h : ExSt g B A W) (hb : Below W.heap.size W W') : ExSt g B A W' :=
  ⟨(hb.cell h.ltB).trans h.p0, (hb.cell h.ltB).trans h.p1, h.hA.upto hb, h.rows.upto hb, Nat.lt_of_lt_of_le h.ltB hb.size⟩
/-- And through a round: the row in its box X. -/
structure ExRow2 (g B : Nat) (A : Option Addr) (nb : Int) (ls : List Ln) (out : List Int) (er : Int) (A2 A3 : Option Addr) (c2 c3 X : Nat) (W : World) : Prop where
  ex : ExSt g B A W
  x0 : W.cell? ⟨X, 0, none⟩ = some (.int .i64 nb)
  x1 : W.cell? ⟨X, 1, none⟩ = some (.slice A2 ls.length c2)
  x2 : W.cell? ⟨X, 2, none⟩ = some (.slice A3 out.length c3)
  x3 : W.cell? ⟨X, 3, none⟩ = some (.int .i64 er)
  hl : LinesR W W.heap.size A2 ls
  ho : IntsR W W.heap.size A3 out
  ltX : X < W.heap.size
theorem ExRow2.upto {g B : Nat} {A : Option Addr} {nb : Int} {ls : List Ln} {out : List Int} {er : Int} {A2 A3 : Option Addr} {c2 c3 X : Nat} {W W' : World} (h : ExRow2 g B A nb ls out er A2 A3 c2 c3 X W) (hb : Below W.heap.size W W') : ExRow2 g B A nb ls out er A2 A3 c2 c3 X W' :=
  ⟨h.ex.upto hb, (hb.cell h.ltX).trans h.x0, (hb.cell h.ltX).trans h.x1, (hb.cell h.ltX).trans h.x2, (hb.cell h.ltX).trans h.x3, h.hl.upto hb, h.ho.upto hb, Nat.lt_of_lt_of_le h.ltX hb.size⟩
theorem rowsOwn_slice {w : World} {base : Nat} {v : Value} {rows : List (List Int)} (h : RowsOwn w base v rows) : ∃ A c, v = .slice A rows.length c := by
  obtain ⟨vs, h1, h2, _⟩ := h
  exact own_slice h2
theorem ex_facts : ∀ k, k < 6 → (exRow k).2.1.length ≤ 100 ∧ (exRow k).2.2.1.length ≤ 100 ∧ outsE (exRow k).1 (exRow k).2.1 (exRow k).2.2.1 = (exRow k).2.2.2 ∧ connE (exRow k).1 (exRow k).2.1 (exRow k).2.2.1 0 0 = (exRow k).2.2.2 ∧ consE (exRow k).1 (exRow k).2.1 (exRow k).2.2.1 [] = (exRow k).2.2.2 := by decide

/-- The chapter's network in its box. -/
structure FiveSt (B : Nat) (A : Option Addr) (W : World) : Prop where
  p0 : W.cell? ⟨B, 0, none⟩ = some (.int .i64 5)
  p1 : W.cell? ⟨B, 1, none⟩ = some (.slice A 3 3)
  hA : LinesR W W.heap.size A fiveLs
  ltB : B < W.heap.size
theorem FiveSt.of {g B : Nat} {A : Option Addr} {W : World} (h : ExSt g B A W) : FiveSt B A W := ⟨h.p0, h.p1, h.hA, h.ltB⟩
theorem FiveSt.upto {B : Nat} {A : Option Addr} {W W' : World} (h : FiveSt B A W) (hb : Below W.heap.size W W') : FiveSt B A W' :=
  ⟨(hb.cell h.ltB).trans h.p0, (hb.cell h.ltB).trans h.p1, h.hA.upto hb, Nat.lt_of_lt_of_le h.ltB hb.size⟩
theorem ex_two (w : World) (A : Option Addr) (xs ys : Array Value) (l m : List Int) (hx : xs = (l.map (Value.int .i64)).toArray) (hy : ys = (m.map (Value.int .i64)).toArray) (hA : LinesR w w.heap.size A fiveLs) :
    LinesR ((w.alloc (.cells xs 3)).alloc (.cells ys 3)).drew ((w.alloc (.cells xs 3)).alloc (.cells ys 3)).drew.heap.size A fiveLs ∧ IntsR ((w.alloc (.cells xs 3)).alloc (.cells ys 3)).drew ((w.alloc (.cells xs 3)).alloc (.cells ys 3)).drew.heap.size (some ⟨w.heap.size, 0, none⟩) l ∧
      IntsR ((w.alloc (.cells xs 3)).alloc (.cells ys 3)).drew ((w.alloc (.cells xs 3)).alloc (.cells ys 3)).drew.heap.size (some ⟨w.heap.size + 1, 0, none⟩) m := by
  refine ⟨hA.upto (below_alloc2 w _ _).drew, (IntsR.litU w _ l xs hx).upto ((Below.refl _ _).alloc (Nat.le_refl _) _).drew, ?_⟩
  have := IntsR.litU (w.alloc (.cells xs 3)) 3 m ys hy
  rw [World.size_alloc w] at this
  exact this
theorem ex_two' (w : World) (A : Option Addr) (xs ys : Array Value) (l m : List Int) (hx : xs = (l.map (Value.int .i64)).toArray) (hy : ys = (m.map (Value.int .i64)).toArray) (hA : LinesR w w.heap.size A fiveLs) :
    LinesR ((w.alloc (.cells ys 3)).alloc (.cells xs 3)).drew ((w.alloc (.cells ys 3)).alloc (.cells xs 3)).drew.heap.size A fiveLs ∧ IntsR ((w.alloc (.cells ys 3)).alloc (.cells xs 3)).drew ((w.alloc (.cells ys 3)).alloc (.cells xs 3)).drew.heap.size (some ⟨w.heap.size + 1, 0, none⟩) l ∧
      IntsR ((w.alloc (.cells ys 3)).alloc (.cells xs 3)).drew ((w.alloc (.cells ys 3)).alloc (.cells xs 3)).drew.heap.size (some ⟨w.heap.size, 0, none⟩) m :=
  have h := ex_two w A ys xs m l hy hx hA
  ⟨h.1, h.2.2, h.2.1⟩
/-- Six zeros. -/
def z6 : Array Value := #[.int .i64 0, .int .i64 0, .int .i64 0, .int .i64 0, .int .i64 0, .int .i64 0]
theorem run_make6 (w : World) : (Instr.makeSlice 25 (.int .i64 6) (.int .i64 6)).run Try.prog w = .ok (.slice (some ⟨w.heap.size, 0, none⟩) 6 6) (w.alloc (.cells z6 3)) := by kernel_rfl
theorem ex_last : (connB 5 fiveLs [] 0 5 = false ∧ connE 5 fiveLs [] 0 5 = 1 ∧ connB 5 fiveLs [] (-1) 0 = false ∧ connE 5 fiveLs [] (-1) 0 = 1 ∧ connB 5 fiveLs [3] (-1) 0 = false ∧ connE 5 fiveLs [3] (-1) 0 = 1) ∧
    (consB 5 fiveLs [] [0, 0, 0, 0, 0, 0] = false ∧ consE 5 fiveLs [] [0, 0, 0, 0, 0, 0] = 5 ∧ consB 5 fiveLs [3] [0, 0, 0, 0, 0, 0] = false ∧ consE 5 fiveLs [3] [0, 0, 0, 0, 0, 0] = 1 ∧ consB 5 fiveLs [] [1, 1, 0, 1] = true ∧ consE 5 fiveLs [] [1, 1, 0, 1] = 0) ∧
    consB 5 fiveLs [] [0, 0, 1] = false ∧ consE 5 fiveLs [] [0, 0, 1] = 0 ∧ ofL 6 [] [] = [0, 1, 2, 3, 4, 5] ∧ outsE 6 [] [] = 0 := by decide

set_option maxRecDepth 100000 in
set_option maxHeartbeats 16000000 in
theorem exa_walk (w : World) : Calls Try.prog 9 #[] w fun e w' => e = .returned (.bool true) ∧ Below w.heap.size w w' := by
  have hmk := run_make11
  go_enter Try.func9, Try.ntmps9
  go_wp2_with fail
  refine (awake_any _).mono ?_
  rintro e w1 ⟨rfl, hb1⟩
  have HB1 := Lib.hid hb1
  clear hb1
  go_wp2_with fail
  refine (five_any _).mono ?_
  rintro e w2 ⟨A, rfl, hl, hb⟩
  have HB2 := Lib.hid (HB1.out.trans (hb.mono HB1.out.size))
  have HL := Lib.hid hl
  clear hb hl HB1
  rw [show fiveLs.length = 3 from rfl]
  go_upto_region 4 with fail
  have hb : Below w2.heap.size w2 (w2.alloc (.cells #[.int .i64 5, .slice A 3 3] 24)) := (Below.refl _ _).alloc (Nat.le_refl _) _
  have p0 : (w2.alloc (.cells #[.int .i64 5, .slice A 3 3] 24)).cell? ⟨w2.heap.size, 0, none⟩ = some (.int .i64 5) := cell_alloc_at _ _ _ _ _ rfl
  have p1 : (w2.alloc (.cells #[.int .i64 5, .slice A 3 3] 24)).cell? ⟨w2.heap.size, 1, none⟩ = some (.slice A 3 3) := cell_alloc_at _ _ _ _ _ rfl
  have hsz : w2.heap.size < (w2.alloc (.cells #[.int .i64 5, .slice A 3 3] 24)).heap.size := by simp
  generalize w2.alloc (.cells #[.int .i64 5, .slice A 3 3] 24) = w3 at *
  have HB3 := Lib.hid (HB2.out.trans (hb.mono HB2.out.size))
  replace HL := Lib.hid (HL.out.upto hb)
  clear hb HB2
  generalize w2.heap.size = B at *
  go_cut [52, 53, 54] (fun s52 s53 s54 wx => ∃ g, s52 = .slice (some ⟨g, 0, none⟩) 6 6 ∧ s53 = .int .i64 6 ∧ s54 = .int .i64 0 ∧ ExRows g wx ∧ Below w3.heap.size w3 wx)
  case first =>
    refine region_each' (exF A) (fun W => Below w3.heap.size w3 W) (by kernel_rfl) (by kernel_rfl) (Below.refl _ _).drew ?_ ?_
    · intro i o ho a W hW hdep hrest
      have h1 : a.tmps.getD 1 undef = .pointer (some ⟨B, 0, none⟩) := hrest 1 (apart_of (by kernel_rfl))
      have hc : ∀ v, a.eval (.const v) = v := fun _ => rfl
      clear hrest
      rcases i with _ | _ | _ | _ | _ | _ | _ | _ | _ | _ | _ | _ | _ | _ | _ | _ | _ | _ | _ | _ | i
      · injection ho with ho
        subst ho
        clear hdep
        generalize a.eval = ρ at *
        refine ⟨.agg #[.int .i64 0, .slice none 0 0], W, ?_, hW, rfl, fun _ _ h => h⟩
        simp [go_sem]
      · injection ho with ho
        subst ho
        have d0 : exF A 0 (a.tmps.getD 35 undef) W := hdep ⟨0, .data⟩ (by simp) rfl _ _ rfl rfl
        clear hdep
        have e0 : a.eval (.tmp 35) = _ := d0
        generalize a.eval = ρ at *
        refine ⟨.agg #[.int .i64 0, .slice none 0 0, .slice none 0 0, .int .i64 1], W, ?_, hW, rfl, fun _ _ h => h⟩
        simp [go_sem, hc, e0]
      · injection ho with ho
        subst ho
        clear hdep
        generalize a.eval = ρ at *
        refine ⟨.agg #[.int .i64 7, .slice none 0 0], W, ?_, hW, rfl, fun _ _ h => h⟩
        simp [go_sem, hc]
      · injection ho with ho
        subst ho
        have d2 : exF A 2 (a.tmps.getD 37 undef) W := hdep ⟨2, .data⟩ (by simp) rfl _ _ rfl rfl
        clear hdep
        have e2 : a.eval (.tmp 37) = _ := d2
        generalize a.eval = ρ at *
        refine ⟨.agg #[.int .i64 7, .slice none 0 0, .slice none 0 0, .int .i64 1], W, ?_, hW, rfl, fun _ _ h => h⟩
        simp [go_sem, hc, e2]
      · injection ho with ho
        subst ho
        clear hdep
        have e1 : a.eval (.tmp 1) = .pointer (some ⟨B, 0, none⟩) := h1
        have g0 := (hW.cell (p := ⟨B, 0, none⟩) hsz).trans p0
        have g1 := (hW.cell (p := ⟨B, 1, none⟩) hsz).trans p1
        generalize a.eval = ρ at *
        refine ⟨.agg #[.int .i64 5, .slice A 3 3], W, ?_, hW, rfl, fun _ _ h => h⟩
        simp [go_sem, e1, g0, g1]
      · injection ho with ho
        subst ho
        clear hdep
        generalize a.eval = ρ at *
        refine ⟨.slice (some ⟨W.heap.size, 0, none⟩) 1 1, W.alloc (.cells #[.int .i64 3] 3), ?_, hW.alloc hW.size _, ⟨_, rfl, Blk.new _ _ _⟩, exF_up ((Below.refl _ _).alloc (Nat.le_refl _) _)⟩
        simp [go_sem, hc]
      · injection ho with ho
        subst ho
        have d4 : exF A 4 (a.tmps.getD 39 undef) W := hdep ⟨4, .data⟩ (by simp) rfl _ _ rfl rfl
        have d5 : exF A 5 (a.tmps.getD 40 undef) W := hdep ⟨5, .data⟩ (by simp) rfl _ _ rfl rfl
        clear hdep
        have e4 : a.eval (.tmp 39) = _ := d4
        obtain ⟨b5, e5', k5⟩ := d5
        have e5 : a.eval (.tmp 40) = _ := e5'
        generalize a.eval = ρ at *
        refine ⟨.agg #[.int .i64 5, .slice A 3 3, .slice (some ⟨b5, 0, none⟩) 1 1, .int .i64 1], W, ?_, hW, ⟨_, rfl, k5⟩, fun _ _ h => h⟩
        simp [go_sem, hc, e4, e5]
      · injection ho with ho
        subst ho
        clear hdep
        have e1 : a.eval (.tmp 1) = .pointer (some ⟨B, 0, none⟩) := h1
        have g0 := (hW.cell (p := ⟨B, 0, none⟩) hsz).trans p0
        have g1 := (hW.cell (p := ⟨B, 1, none⟩) hsz).trans p1
        generalize a.eval = ρ at *
        refine ⟨.agg #[.int .i64 5, .slice A 3 3], W, ?_, hW, rfl, fun _ _ h => h⟩
        simp [go_sem, e1, g0, g1]
      · injection ho with ho
        subst ho
        clear hdep
        generalize a.eval = ρ at *
        refine ⟨.slice (some ⟨W.heap.size, 0, none⟩) 2 2, W.alloc (.cells #[.int .i64 1, .int .i64 0] 3), ?_, hW.alloc hW.size _, ⟨_, rfl, Blk.new _ _ _⟩, exF_up ((Below.refl _ _).alloc (Nat.le_refl _) _)⟩
        simp [go_sem, hc]
      · injection ho with ho
        subst ho
        have d7 : exF A 7 (a.tmps.getD 42 undef) W := hdep ⟨7, .data⟩ (by simp) rfl _ _ rfl rfl
        have d8 : exF A 8 (a.tmps.getD 43 undef) W := hdep ⟨8, .data⟩ (by simp) rfl _ _ rfl rfl
        clear hdep
        have e7 : a.eval (.tmp 42) = _ := d7
        obtain ⟨b8, e8', k8⟩ := d8
        have e8 : a.eval (.tmp 43) = _ := e8'
        generalize a.eval = ρ at *
        refine ⟨.agg #[.int .i64 5, .slice A 3 3, .slice (some ⟨b8, 0, none⟩) 2 2, .int .i64 1], W, ?_, hW, ⟨_, rfl, k8⟩, fun _ _ h => h⟩
        simp [go_sem, hc, e7, e8]
      · injection ho with ho
        subst ho
        clear hdep
        generalize a.eval = ρ at *
        refine ⟨.slice (some ⟨W.heap.size, 0, none⟩) 11 11, W.alloc (.cells z44 37), ?_, hW.alloc hW.size _, ⟨_, rfl, Blk.new _ _ _⟩, exF_up ((Below.refl _ _).alloc (Nat.le_refl _) _)⟩
        simp [go_sem, hc, hmk]
      · injection ho with ho
        subst ho
        have d10 : exF A 10 (a.tmps.getD 45 undef) W := hdep ⟨10, .data⟩ (by simp) rfl _ _ rfl rfl
        clear hdep
        obtain ⟨b10, e10', k10⟩ := d10
        have e10 : a.eval (.tmp 45) = _ := e10'
        generalize a.eval = ρ at *
        refine ⟨.agg #[.int .i64 2, .slice (some ⟨b10, 0, none⟩) 11 11], W, ?_, hW, ⟨_, rfl, k10⟩, fun _ _ h => h⟩
        simp [go_sem, hc, e10]
      · injection ho with ho
        subst ho
        clear hdep
        generalize a.eval = ρ at *
        refine ⟨.slice (some ⟨W.heap.size, 0, none⟩) 2 2, W.alloc (.cells #[.int .i64 9, .int .i64 9] 3), ?_, hW.alloc hW.size _, ⟨_, rfl, Blk.new _ _ _⟩, exF_up ((Below.refl _ _).alloc (Nat.le_refl _) _)⟩
        simp [go_sem, hc]
      · injection ho with ho
        subst ho
        have d11 : exF A 11 (a.tmps.getD 46 undef) W := hdep ⟨11, .data⟩ (by simp) rfl _ _ rfl rfl
        have d12 : exF A 12 (a.tmps.getD 47 undef) W := hdep ⟨12, .data⟩ (by simp) rfl _ _ rfl rfl
        clear hdep
        obtain ⟨b11, e11', k11⟩ := d11
        have e11 : a.eval (.tmp 46) = _ := e11'
        obtain ⟨b12, e12', k12⟩ := d12
        have e12 : a.eval (.tmp 47) = _ := e12'
        generalize a.eval = ρ at *
        refine ⟨.agg #[.int .i64 2, .slice (some ⟨b11, 0, none⟩) 11 11, .slice (some ⟨b12, 0, none⟩) 2 2, .int .i64 5], W, ?_, hW, ⟨_, _, rfl, k11, k12⟩, fun _ _ h => h⟩
        simp [go_sem, hc, e11, e12]
      · injection ho with ho
        subst ho
        clear hdep
        have e1 : a.eval (.tmp 1) = .pointer (some ⟨B, 0, none⟩) := h1
        have g0 := (hW.cell (p := ⟨B, 0, none⟩) hsz).trans p0
        have g1 := (hW.cell (p := ⟨B, 1, none⟩) hsz).trans p1
        generalize a.eval = ρ at *
        refine ⟨.agg #[.int .i64 5, .slice A 3 3], W, ?_, hW, rfl, fun _ _ h => h⟩
        simp [go_sem, e1, g0, g1]
      · injection ho with ho
        subst ho
        clear hdep
        generalize a.eval = ρ at *
        refine ⟨.slice (some ⟨W.heap.size, 0, none⟩) 3 3, W.alloc (.cells #[.int .i64 0, .int .i64 1, .int .i64 2] 3), ?_, hW.alloc hW.size _, ⟨_, rfl, Blk.new _ _ _⟩, exF_up ((Below.refl _ _).alloc (Nat.le_refl _) _)⟩
        simp [go_sem, hc]
      · injection ho with ho
        subst ho
        have d14 : exF A 14 (a.tmps.getD 49 undef) W := hdep ⟨14, .data⟩ (by simp) rfl _ _ rfl rfl
        have d15 : exF A 15 (a.tmps.getD 50 undef) W := hdep ⟨15, .data⟩ (by simp) rfl _ _ rfl rfl
        clear hdep
        have e14 : a.eval (.tmp 49) = _ := d14
        obtain ⟨b15, e15', k15⟩ := d15
        have e15 : a.eval (.tmp 50) = _ := e15'
        generalize a.eval = ρ at *
        refine ⟨.agg #[.int .i64 5, .slice A 3 3, .slice (some ⟨b15, 0, none⟩) 3 3, .int .i64 0], W, ?_, hW, ⟨_, rfl, k15⟩, fun _ _ h => h⟩
        simp [go_sem, hc, e14, e15]
      · injection ho with ho
        subst ho
        have d1 : exF A 1 (a.tmps.getD 36 undef) W := hdep ⟨1, .data⟩ (by simp) rfl _ _ rfl rfl
        have d3 : exF A 3 (a.tmps.getD 38 undef) W := hdep ⟨3, .data⟩ (by simp) rfl _ _ rfl rfl
        have d6 : exF A 6 (a.tmps.getD 41 undef) W := hdep ⟨6, .data⟩ (by simp) rfl _ _ rfl rfl
        have d9 : exF A 9 (a.tmps.getD 44 undef) W := hdep ⟨9, .data⟩ (by simp) rfl _ _ rfl rfl
        have d13 : exF A 13 (a.tmps.getD 48 undef) W := hdep ⟨13, .data⟩ (by simp) rfl _ _ rfl rfl
        have d16 : exF A 16 (a.tmps.getD 51 undef) W := hdep ⟨16, .data⟩ (by simp) rfl _ _ rfl rfl
        clear hdep
        have e1 : a.eval (.tmp 36) = _ := d1
        have e3 : a.eval (.tmp 38) = _ := d3
        obtain ⟨b6, e6', k6⟩ := d6
        have e6 : a.eval (.tmp 41) = _ := e6'
        obtain ⟨b9, e9', k9⟩ := d9
        have e9 : a.eval (.tmp 44) = _ := e9'
        obtain ⟨b13, c13, e13', k13, m13⟩ := d13
        have e13 : a.eval (.tmp 48) = _ := e13'
        obtain ⟨b16, e16', k16⟩ := d16
        have e16 : a.eval (.tmp 51) = _ := e16'
        generalize a.eval = ρ at *
        have hbe : Below W.heap.size W (W.alloc (.cells #[.int .i64 0, .slice none 0 0, .slice none 0 0, .int .i64 1, .int .i64 7, .slice none 0 0, .slice none 0 0, .int .i64 1, .int .i64 5, .slice A 3 3, .slice (some ⟨b6, 0, none⟩) 1 1, .int .i64 1, .int .i64 5, .slice A 3 3, .slice (some ⟨b9, 0, none⟩) 2 2, .int .i64 1, .int .i64 2, .slice (some ⟨b13, 0, none⟩) 11 11, .slice (some ⟨c13, 0, none⟩) 2 2, .int .i64 5, .int .i64 5, .slice A 3 3, .slice (some ⟨b16, 0, none⟩) 3 3, .int .i64 0] 56)) := (Below.refl _ _).alloc (Nat.le_refl _) _
        refine ⟨.slice (some ⟨W.heap.size, 0, none⟩) 6 6, W.alloc (.cells #[.int .i64 0, .slice none 0 0, .slice none 0 0, .int .i64 1, .int .i64 7, .slice none 0 0, .slice none 0 0, .int .i64 1, .int .i64 5, .slice A 3 3, .slice (some ⟨b6, 0, none⟩) 1 1, .int .i64 1, .int .i64 5, .slice A 3 3, .slice (some ⟨b9, 0, none⟩) 2 2, .int .i64 1, .int .i64 2, .slice (some ⟨b13, 0, none⟩) 11 11, .slice (some ⟨c13, 0, none⟩) 2 2, .int .i64 5, .int .i64 5, .slice A 3 3, .slice (some ⟨b16, 0, none⟩) 3 3, .int .i64 0] 56), ?_, hW.alloc hW.size _, ⟨_, rfl, ex_fin ((HL.out.upto hW).upto hbe) (k6.upto hbe) (k9.upto hbe) (k13.upto hbe) (m13.upto hbe) (k16.upto hbe) (Blk.new _ _ _)⟩, exF_up hbe⟩
        simp [go_sem, e1, e3, e6, e9, e13, e16]
      · injection ho with ho
        subst ho
        have d17 : exF A 17 (a.tmps.getD 52 undef) W := hdep ⟨17, .data⟩ (by simp) rfl _ _ rfl rfl
        clear hdep
        obtain ⟨b17, e17', k17⟩ := d17
        have e17 : a.eval (.tmp 52) = _ := e17'
        generalize a.eval = ρ at *
        refine ⟨.int .i64 6, W, ?_, hW, rfl, fun _ _ h => h⟩
        simp [go_sem, e17]
      · injection ho with ho
        subst ho
        clear hdep
        generalize a.eval = ρ at *
        refine ⟨.int .i64 0, W, ?_, hW, rfl, fun _ _ h => h⟩
        simp [go_sem, hc]
      · simp at ho
    · intro vs W hW hF
      obtain ⟨g, hg, hR⟩ : exF A 17 (vs 17) W := hF 17 (by decide)
      have h18 : exF A 18 (vs 18) W := hF 18 (by decide)
      have h19 : exF A 19 (vs 19) W := hF 19 (by decide)
      have H := Lib.hid (And.intro hg (And.intro h18 (And.intro h19 (And.intro hR hW))))
      clear hF hg hR h18 h19
      simp only [putAll, Act.put, List.setIfInBounds_toArray, List.set_cons_zero, List.set_cons_succ, Nat.reduceAdd]
      go_wp2_with fail
      go_meet
      exact ⟨g, H.out.1, H.out.2.1, H.out.2.2.1, H.out.2.2.2.1, H.out.2.2.2.2⟩
  case rest =>
    obtain ⟨g, rfl, rfl, rfl, hR, hb⟩ := hcut
    have HB4 := Lib.hid (HB3.out.trans (hb.mono HB3.out.size))
    have HE := Lib.hid (ExSt.mk (g := g) (B := B) (A := A) (W := wc) ((hb.cell (p := ⟨B, 0, none⟩) hsz).trans p0) ((hb.cell (p := ⟨B, 1, none⟩) hsz).trans p1) (HL.out.upto hb) hR (Nat.lt_of_lt_of_le hsz hb.size))
    clear hb hR HB3 HL p0 p1 hsz hmk
    go_wp2_with fail
    go_loopg [0, 3, 4, 5, 6, 7, 8, 9, 10, 11, 12, 13, 14, 15, 54] 6 (fun gg s0 s3 s4 s5 s6 s7 s8 s9 s10 s11 s12 s13 s14 s15 s54 wr => ∃ k : Nat, k + gg = 6 ∧ s54 = .int .i64 k ∧ ExSt g B A wr ∧ Below w.heap.size w wr)
    case atStart => exact ⟨0, by omega, rfl, HE.out, HB4.out⟩
    case round =>
      clear HE HB4
      obtain ⟨k, hkg, rfl, hS, hBelow⟩ := hrel
      have HE := Lib.hid hS
      have HB4 := Lib.hid hBelow
      clear hS hBelow
      cases gk with
      | zero =>
        obtain rfl : k = 6 := by omega
        clear hkg
        have HS4 := Lib.hid (FiveSt.of HE.out)
        have p0 := HS4.out.p0
        have p1 := HS4.out.p1
        have K1 := Lib.hid (fun W hl => conn_any 5 A none 3 0 fiveLs [] 0 5 W hl IntsR.nil_ (by decide) (by decide))
        have K2 := Lib.hid (fun W hl => conn_any 5 A none 3 0 fiveLs [] (-1) 0 W hl IntsR.nil_ (by decide) (by decide))
        have K3 := Lib.hid (fun A' W hl ho => conn_any 5 A A' 3 1 fiveLs [3] (-1) 0 W hl ho (by decide) (by decide))
        have K4 := Lib.hid (fun A2 W hl hlb => cons_any 5 A none A2 3 0 6 fiveLs [] [0, 0, 0, 0, 0, 0] W hl IntsR.nil_ hlb (by decide) (by decide) (by decide))
        have K5 := Lib.hid (fun A' A2 W hl ho hlb => cons_any 5 A A' A2 3 1 6 fiveLs [3] [0, 0, 0, 0, 0, 0] W hl ho hlb (by decide) (by decide) (by decide))
        have K6 := Lib.hid (fun A2 W hl hlb => cons_any 5 A none A2 3 0 4 fiveLs [] [1, 1, 0, 1] W hl IntsR.nil_ hlb (by decide) (by decide) (by decide))
        have K7 := Lib.hid (fun A2 W hl hlb => cons_any 5 A none A2 3 0 3 fiveLs [] [0, 0, 1] W hl IntsR.nil_ hlb (by decide) (by decide) (by decide))
        have K8 := Lib.hid (fun W => of_any 6 none none 0 0 [] [] W LinesR.nil_ IntsR.nil_ (by decide) (by decide))
        rw [ex_last.1.1, ex_last.1.2.1] at K1
        rw [ex_last.1.2.2.1, ex_last.1.2.2.2.1] at K2
        rw [ex_last.1.2.2.2.2.1, ex_last.1.2.2.2.2.2] at K3
        rw [ex_last.2.1.1, ex_last.2.1.2.1] at K4
        rw [ex_last.2.1.2.2.1, ex_last.2.1.2.2.2.1] at K5
        rw [ex_last.2.1.2.2.2.2.1, ex_last.2.1.2.2.2.2.2] at K6
        rw [ex_last.2.2.1, ex_last.2.2.2.1] at K7
        rw [ex_last.2.2.2.2.1, ex_last.2.2.2.2.2] at K8
        have hmk := run_make6
        clear HE
        go_wp2_with fail
        refine (K1.out _ HS4.out.hA).mono ?_
        rintro e w5 ⟨rfl, hb⟩
        have HS5 := Lib.hid (HS4.out.upto hb)
        have HB5 := Lib.hid (HB4.out.trans (hb.mono HB4.out.size))
        clear p0 p1
        have p0 := HS5.out.p0
        have p1 := HS5.out.p1
        clear hb HS4 HB4
        go_wp2_with fail
        refine (K2.out _ HS5.out.hA).mono ?_
        rintro e w6 ⟨rfl, hb⟩
        have HS6 := Lib.hid (HS5.out.upto hb)
        have HB6 := Lib.hid (HB5.out.trans (hb.mono HB5.out.size))
        clear p0 p1
        have p0 := HS6.out.p0
        have p1 := HS6.out.p1
        clear hb HS5 HB5
        go_wp2_with fail
        have hb := (Below.refl w6.heap.size w6).alloc (Nat.le_refl _) (.cells #[.int .i64 3] 3)
        have hI := IntsR.litU w6 3 [3] #[.int .i64 3] rfl
        refine (K3.out _ _ (HS6.out.upto hb).hA hI).mono ?_
        rintro e w7 ⟨rfl, hb7⟩
        replace hb := hb.trans (hb7.mono hb.size)
        clear hb7 hI
        have HS7 := Lib.hid (HS6.out.upto hb)
        have HB7 := Lib.hid (HB6.out.trans (hb.mono HB6.out.size))
        clear p0 p1
        have p0 := HS7.out.p0
        have p1 := HS7.out.p1
        clear hb HS6 HB6
        go_upto_region 19 with fail
        go_cut [22, 23] (fun s22 s23 wx => s22 = .bool false ∧ s23 = .int .i64 5 ∧ Below w7.heap.size w7 wx)
        case first =>
          have hzB := HS7.out.ltB
          go_region_held3 (fun w' => w'.cell? ⟨B, 0, none⟩ = some (.int .i64 5) ∧ w'.cell? ⟨B, 1, none⟩ = some (.slice A 3 3)) (first | exact SV.out | (((try dsimp only); constructor <;> (try rw [World.cell?_drew]) <;> (repeat (first | exact p0 | exact p1 | refine cell_alloc_of _ ?_)))))
            (first | (go_at_call 13; refine (K4.out _ _ (by exact (HS7.out.hA.alloc (Nat.le_refl _) _).more (by simp)) (by exact IntsR.litU w7 _ [0, 0, 0, 0, 0, 0] _ rfl)).mono ?_; rintro e wC ⟨rfl, hbC⟩; have HBC := Lib.hid (((Below.refl w7.heap.size w7).alloc (Nat.le_refl _) _).drew.trans (hbC.mono (by simp))); have SV := Lib.hid (And.intro ((HBC.out.cell (p := ⟨B, 0, none⟩) hzB).trans p0) ((HBC.out.cell (p := ⟨B, 1, none⟩) hzB).trans p1)); clear hbC))
          all_goals (go_wp2_with fail; go_meet; exact ⟨rfl, rfl, HBC.out⟩)
        case rest =>
        obtain ⟨rfl, rfl, hb⟩ := hcut
        obtain ⟨w8, rfl⟩ : ∃ w8 : World, w8 = wc := ⟨_, rfl⟩
        have HS8 := Lib.hid (HS7.out.upto hb)
        have HB8 := Lib.hid (HB7.out.trans (hb.mono HB7.out.size))
        clear p0 p1
        have p0 := HS8.out.p0
        have p1 := HS8.out.p1
        clear hb HS7 HB7
        go_upto_region 20 with fail
        go_cut [24, 25] (fun s22 s23 wx => s22 = .bool false ∧ s23 = .int .i64 1 ∧ Below w8.heap.size w8 wx)
        case first =>
          have hzB := HS8.out.ltB
          have X1 := Lib.hid (ex_two w8 A #[.int .i64 3] z6 [3] [0, 0, 0, 0, 0, 0] rfl rfl HS8.out.hA)
          have X2 := Lib.hid (ex_two' w8 A #[.int .i64 3] z6 [3] [0, 0, 0, 0, 0, 0] rfl rfl HS8.out.hA)
          go_region_held3 (fun w' => w'.cell? ⟨B, 0, none⟩ = some (.int .i64 5) ∧ w'.cell? ⟨B, 1, none⟩ = some (.slice A 3 3)) (first | exact SV.out | (((try dsimp only); constructor <;> (try rw [World.cell?_drew]) <;> (repeat (first | exact p0 | exact p1 | refine cell_alloc_of _ ?_)))))
            (first
              | (go_at_call 13; refine (K5.out _ _ _ (by first | exact X1.out.1 | exact X2.out.1) (by first | exact X1.out.2.1 | exact X2.out.2.1) (by first | exact X1.out.2.2 | exact X2.out.2.2)).mono ?_; rintro e wC ⟨rfl, hbC⟩; have HBC := Lib.hid ((below_alloc2 w8 _ _).drew.trans (hbC.mono (by simp; omega))); have SV := Lib.hid (And.intro ((HBC.out.cell (p := ⟨B, 0, none⟩) hzB).trans p0) ((HBC.out.cell (p := ⟨B, 1, none⟩) hzB).trans p1)); clear hbC))
          all_goals (go_wp2_with fail; go_meet; exact ⟨rfl, rfl, HBC.out⟩)
        case rest =>
        obtain ⟨rfl, rfl, hb⟩ := hcut
        obtain ⟨w9, rfl⟩ : ∃ w9 : World, w9 = wc := ⟨_, rfl⟩
        have HS9 := Lib.hid (HS8.out.upto hb)
        have HB9 := Lib.hid (HB8.out.trans (hb.mono HB8.out.size))
        clear p0 p1
        have p0 := HS9.out.p0
        have p1 := HS9.out.p1
        clear hb HS8 HB8
        go_wp2_with fail
        have hb := (Below.refl w9.heap.size w9).alloc (Nat.le_refl _) (.cells #[.int .i64 1, .int .i64 1, .int .i64 0, .int .i64 1] 3)
        have hI := IntsR.litU w9 3 [1, 1, 0, 1] #[.int .i64 1, .int .i64 1, .int .i64 0, .int .i64 1] rfl
        refine (K6.out _ _ (HS9.out.upto hb).hA hI).mono ?_
        rintro e w10 ⟨rfl, hb7⟩
        replace hb := hb.trans (hb7.mono hb.size)
        clear hb7 hI
        have HS10 := Lib.hid (HS9.out.upto hb)
        have HB10 := Lib.hid (HB9.out.trans (hb.mono HB9.out.size))
        clear p0 p1
        have p0 := HS10.out.p0
        have p1 := HS10.out.p1
        clear hb HS9 HB9
        go_wp2_with fail
        have hb := (Below.refl w10.heap.size w10).alloc (Nat.le_refl _) (.cells #[.int .i64 0, .int .i64 0, .int .i64 1] 3)
        have hI := IntsR.litU w10 3 [0, 0, 1] #[.int .i64 0, .int .i64 0, .int .i64 1] rfl
        refine (K7.out _ _ (HS10.out.upto hb).hA hI).mono ?_
        rintro e w11 ⟨rfl, hb7⟩
        replace hb := hb.trans (hb7.mono hb.size)
        clear hb7 hI
        have HS11 := Lib.hid (HS10.out.upto hb)
        have HB11 := Lib.hid (HB10.out.trans (hb.mono HB10.out.size))
        clear p0 p1
        have p0 := HS11.out.p0
        have p1 := HS11.out.p1
        clear hb HS10 HB10
        go_wp2_with fail
        refine (K8.out _).mono ?_
        rintro e w12 ⟨v, rfl, hown, hb⟩
        obtain ⟨Y, y, rfl, hI⟩ := ownsRow_ints hown
        have HB12 := Lib.hid (HB11.out.trans (hb.mono HB11.out.size))
        have HI := Lib.hid hI
        clear hb hown hI HS11 HB11 p0 p1
        go_wp2_with fail
        refine (ints_same _ _ _ _ [0, 1, 2, 3, 4, 5] _ (by rw [World.size_alloc]; exact (HI.out.alloc (Nat.le_refl _) _).more (by omega)) (IntsR.litU _ _ _ _ rfl) (by decide)).mono ?_
        rintro e w13 ⟨rfl, hb⟩
        have hb' := ((Below.refl w12.heap.size w12).alloc (Nat.le_refl _) (.cells #[.int .i64 0, .int .i64 1, .int .i64 2, .int .i64 3, .int .i64 4, .int .i64 5] 3)).trans (hb.mono (by simp))
        have HB13 := Lib.hid (HB12.out.trans (hb'.mono HB12.out.size))
        clear hb hb'
        go_wp2_with fail
        go_ret
        exact ⟨rfl, HB13.out⟩
      | succ g2 =>
        have hk : k < 6 := by omega
        have HG := Lib.hid hkg
        clear hkg
        obtain ⟨A2, c2, A3, c3, r0, r1, r2, r3, hl2, ho3⟩ := HE.out.rows.2 k hk
        obtain ⟨f1, f2, f3, f4, f5⟩ := ex_facts k hk
        have ka := fun W hl ho => of_any (exRow k).1 A2 A3 c2 c3 (exRow k).2.1 (exRow k).2.2.1 W hl ho (by omega) (by omega)
        have kb := fun W hl ho => refs_any (exRow k).1 A2 A3 c2 c3 (exRow k).2.1 (exRow k).2.2.1 W hl ho (by omega) (by omega)
        have km := fun W hl ho => memb_any (exRow k).1 A2 A3 c2 c3 (exRow k).2.1 (exRow k).2.2.1 W hl ho (by omega) (by omega)
        have kd := fun W hl ho => count_any (exRow k).1 A2 A3 c2 c3 (exRow k).2.1 (exRow k).2.2.1 W hl ho (by omega) (by omega)
        have ke := fun W hl ho => conn_any (exRow k).1 A2 A3 c2 c3 (exRow k).2.1 (exRow k).2.2.1 0 0 W hl ho (by omega) (by omega)
        have kf := fun W hl ho hlb => cons_any (exRow k).1 A2 A3 none c2 c3 0 (exRow k).2.1 (exRow k).2.2.1 [] W hl ho hlb (by omega) (by omega) (by decide)
        have n1 : (exRow k).2.2.2 ≠ 0 → ofL (exRow k).1 (exRow k).2.1 (exRow k).2.2.1 = [] := fun h => ofL_nil (by rw [f3]; exact h)
        have n2 : (exRow k).2.2.2 ≠ 0 → refsL (exRow k).1 (exRow k).2.1 (exRow k).2.2.1 = [] := fun h => refsL_nil (by rw [f3]; exact h)
        have n3 : (exRow k).2.2.2 ≠ 0 → membL (exRow k).1 (exRow k).2.1 (exRow k).2.2.1 = [] := fun h => by rw [membL, n1 h]; rfl
        have n4 : (exRow k).2.2.2 ≠ 0 → cntL (exRow k).1 (exRow k).2.1 (exRow k).2.2.1 = 0 := fun h => by rw [cntL, n2 h]; rfl
        rw [f3] at ka kb km kd
        rw [f4] at ke
        rw [f5] at kf
        have hz1 : ((k : Int) < 6) := by omega
        generalize ofL (exRow k).1 (exRow k).2.1 (exRow k).2.2.1 = v1 at *
        generalize refsL (exRow k).1 (exRow k).2.1 (exRow k).2.2.1 = v2 at *
        generalize membL (exRow k).1 (exRow k).2.1 (exRow k).2.2.1 = v3 at *
        generalize cntL (exRow k).1 (exRow k).2.1 (exRow k).2.2.1 = v4 at *
        generalize connB (exRow k).1 (exRow k).2.1 (exRow k).2.2.1 0 0 = v5 at *
        generalize consB (exRow k).1 (exRow k).2.1 (exRow k).2.2.1 [] = v6 at *
        clear f3 f4 f5
        generalize (exRow k).1 = nb at *
        generalize (exRow k).2.1 = ls at *
        generalize (exRow k).2.2.1 = out at *
        generalize (exRow k).2.2.2 = er at *
        have LO := Lib.hid (And.intro hl2 ho3)
        clear hl2 ho3
        have GLT := Lib.hid HE.out.rows.1
        have kk1 : (0 : Int) ≤ (k : Int) := by omega
        by_cases her : er = 0
        · subst her
          clear n1 n2 n3 n4
          have KA := Lib.hid ka
          have KB := Lib.hid kb
          have KM := Lib.hid km
          have KD := Lib.hid kd
          have KE := Lib.hid ke
          have KF := Lib.hid kf
          clear ka kb km kd ke kf
          go_wp2_with fail
          have hb : Below wr.heap.size wr (wr.alloc (.cells #[.int .i64 nb, .slice A2 ls.length c2, .slice A3 out.length c3, .int .i64 0] 56)) := (Below.refl _ _).alloc (Nat.le_refl _) _
          have hS5 : ExRow2 g B A nb ls out 0 A2 A3 c2 c3 wr.heap.size (wr.alloc (.cells #[.int .i64 nb, .slice A2 ls.length c2, .slice A3 out.length c3, .int .i64 0] 56)) := ⟨HE.out.upto hb, cell_alloc_at _ _ _ _ _ rfl, cell_alloc_at _ _ _ _ _ rfl, cell_alloc_at _ _ _ _ _ rfl, cell_alloc_at _ _ _ _ _ rfl, LO.out.1.upto hb, LO.out.2.upto hb, by simp⟩
          have HB5 := Lib.hid (HB4.out.trans (hb.mono HB4.out.size))
          generalize wr.alloc (.cells #[.int .i64 nb, .slice A2 ls.length c2, .slice A3 out.length c3, .int .i64 0] 56) = w5 at *
          generalize wr.heap.size = X at *
          have HS5 := Lib.hid hS5
          have x0 := hS5.x0
          have x1 := hS5.x1
          have x2 := hS5.x2
          have x3 := hS5.x3
          clear hb hS5 r0 r1 r2 r3 HE HB4 LO GLT
          go_wp2_with fail
          refine (KA.out _ HS5.out.hl HS5.out.ho).mono ?_
          rintro e w6 ⟨v0, rfl, hown, hb⟩
          obtain ⟨Y0, y0, rfl, _⟩ := ownsRow_ints hown
          have HS6 := Lib.hid (HS5.out.upto hb)
          have HB6 := Lib.hid (HB5.out.trans (hb.mono HB5.out.size))
          clear x0 x1 x2 x3
          have x0 := HS6.out.x0
          have x1 := HS6.out.x1
          have x2 := HS6.out.x2
          have x3 := HS6.out.x3
          clear hb hown HS5 HB5
          go_wp2_with fail
          refine (KB.out _ HS6.out.hl HS6.out.ho).mono ?_
          rintro e w7 ⟨v1, rfl, hown, hb⟩
          obtain ⟨Y1, y1, rfl, _⟩ := ownsRow_ints hown
          have HS7 := Lib.hid (HS6.out.upto hb)
          have HB7 := Lib.hid (HB6.out.trans (hb.mono HB6.out.size))
          clear x0 x1 x2 x3
          have x0 := HS7.out.x0
          have x1 := HS7.out.x1
          have x2 := HS7.out.x2
          have x3 := HS7.out.x3
          clear hb hown HS6 HB6
          go_wp2_with fail
          refine (KM.out _ HS7.out.hl HS7.out.ho).mono ?_
          rintro e w8 ⟨v2, rfl, hown, hb⟩
          obtain ⟨Y2, y2, rfl⟩ := rowsOwn_slice hown
          have HS8 := Lib.hid (HS7.out.upto hb)
          have HB8 := Lib.hid (HB7.out.trans (hb.mono HB7.out.size))
          clear x0 x1 x2 x3
          have x0 := HS8.out.x0
          have x1 := HS8.out.x1
          have x2 := HS8.out.x2
          have x3 := HS8.out.x3
          clear hb hown HS7 HB7
          go_wp2_with fail
          refine (KD.out _ HS8.out.hl HS8.out.ho).mono ?_
          rintro e w9 ⟨rfl, hb⟩
          have hown := trivial
          have HS9 := Lib.hid (HS8.out.upto hb)
          have HB9 := Lib.hid (HB8.out.trans (hb.mono HB8.out.size))
          clear x0 x1 x2 x3
          have x0 := HS9.out.x0
          have x1 := HS9.out.x1
          have x2 := HS9.out.x2
          have x3 := HS9.out.x3
          clear hb hown HS8 HB8
          go_wp2_with fail
          refine (KE.out _ HS9.out.hl HS9.out.ho).mono ?_
          rintro e w10 ⟨rfl, hb⟩
          have hown := trivial
          have HS10 := Lib.hid (HS9.out.upto hb)
          have HB10 := Lib.hid (HB9.out.trans (hb.mono HB9.out.size))
          clear x0 x1 x2 x3
          have x0 := HS10.out.x0
          have x1 := HS10.out.x1
          have x2 := HS10.out.x2
          have x3 := HS10.out.x3
          clear hb hown HS9 HB9
          go_wp2_with fail
          refine (KF.out _ HS10.out.hl HS10.out.ho IntsR.nil_).mono ?_
          rintro e w11 ⟨rfl, hb⟩
          have hown := trivial
          have HS11 := Lib.hid (HS10.out.upto hb)
          have HB11 := Lib.hid (HB10.out.trans (hb.mono HB10.out.size))
          clear x0 x1 x2 x3
          have x0 := HS11.out.x0
          have x1 := HS11.out.x1
          have x2 := HS11.out.x2
          have x3 := HS11.out.x3
          clear hb hown HS10 HB10
          go_wp2_with fail
          go_roundg g2
          case measure => omega
          case rel => exact ⟨k + 1, by have := HG.out; omega, by go_num, HS11.out.ex, HB11.out⟩
        · obtain rfl := n1 her
          obtain rfl := n2 her
          obtain rfl := n3 her
          obtain rfl := n4 her
          have b1 : (er != er) = false := by simp
          have b2 : (er != 0) = true := by rw [bne_iff_ne]; exact her
          clear n1 n2 n3 n4 her
          have KA := Lib.hid ka
          have KB := Lib.hid kb
          have KM := Lib.hid km
          have KD := Lib.hid kd
          have KE := Lib.hid ke
          have KF := Lib.hid kf
          clear ka kb km kd ke kf
          go_wp2_with fail
          have hb : Below wr.heap.size wr (wr.alloc (.cells #[.int .i64 nb, .slice A2 ls.length c2, .slice A3 out.length c3, .int .i64 er] 56)) := (Below.refl _ _).alloc (Nat.le_refl _) _
          have hS5 : ExRow2 g B A nb ls out er A2 A3 c2 c3 wr.heap.size (wr.alloc (.cells #[.int .i64 nb, .slice A2 ls.length c2, .slice A3 out.length c3, .int .i64 er] 56)) := ⟨HE.out.upto hb, cell_alloc_at _ _ _ _ _ rfl, cell_alloc_at _ _ _ _ _ rfl, cell_alloc_at _ _ _ _ _ rfl, cell_alloc_at _ _ _ _ _ rfl, LO.out.1.upto hb, LO.out.2.upto hb, by simp⟩
          have HB5 := Lib.hid (HB4.out.trans (hb.mono HB4.out.size))
          generalize wr.alloc (.cells #[.int .i64 nb, .slice A2 ls.length c2, .slice A3 out.length c3, .int .i64 er] 56) = w5 at *
          generalize wr.heap.size = X at *
          have HS5 := Lib.hid hS5
          have x0 := hS5.x0
          have x1 := hS5.x1
          have x2 := hS5.x2
          have x3 := hS5.x3
          clear hb hS5 r0 r1 r2 r3 HE HB4 LO GLT
          go_wp2_with fail
          refine (KA.out _ HS5.out.hl HS5.out.ho).mono ?_
          rintro e w6 ⟨v0, rfl, hown, hb⟩
          obtain ⟨Y0, y0, rfl, _⟩ := ownsRow_ints hown
          have HS6 := Lib.hid (HS5.out.upto hb)
          have HB6 := Lib.hid (HB5.out.trans (hb.mono HB5.out.size))
          clear x0 x1 x2 x3
          have x0 := HS6.out.x0
          have x1 := HS6.out.x1
          have x2 := HS6.out.x2
          have x3 := HS6.out.x3
          clear hb hown HS5 HB5
          go_wp2_with fail
          refine (KB.out _ HS6.out.hl HS6.out.ho).mono ?_
          rintro e w7 ⟨v1, rfl, hown, hb⟩
          obtain ⟨Y1, y1, rfl, _⟩ := ownsRow_ints hown
          have HS7 := Lib.hid (HS6.out.upto hb)
          have HB7 := Lib.hid (HB6.out.trans (hb.mono HB6.out.size))
          clear x0 x1 x2 x3
          have x0 := HS7.out.x0
          have x1 := HS7.out.x1
          have x2 := HS7.out.x2
          have x3 := HS7.out.x3
          clear hb hown HS6 HB6
          go_wp2_with fail
          refine (KM.out _ HS7.out.hl HS7.out.ho).mono ?_
          rintro e w8 ⟨v2, rfl, hown, hb⟩
          obtain ⟨Y2, y2, rfl⟩ := rowsOwn_slice hown
          have HS8 := Lib.hid (HS7.out.upto hb)
          have HB8 := Lib.hid (HB7.out.trans (hb.mono HB7.out.size))
          clear x0 x1 x2 x3
          have x0 := HS8.out.x0
          have x1 := HS8.out.x1
          have x2 := HS8.out.x2
          have x3 := HS8.out.x3
          clear hb hown HS7 HB7
          go_wp2_with fail
          refine (KD.out _ HS8.out.hl HS8.out.ho).mono ?_
          rintro e w9 ⟨rfl, hb⟩
          have hown := trivial
          have HS9 := Lib.hid (HS8.out.upto hb)
          have HB9 := Lib.hid (HB8.out.trans (hb.mono HB8.out.size))
          clear x0 x1 x2 x3
          have x0 := HS9.out.x0
          have x1 := HS9.out.x1
          have x2 := HS9.out.x2
          have x3 := HS9.out.x3
          clear hb hown HS8 HB8
          go_wp2_with fail
          refine (KE.out _ HS9.out.hl HS9.out.ho).mono ?_
          rintro e w10 ⟨rfl, hb⟩
          have hown := trivial
          have HS10 := Lib.hid (HS9.out.upto hb)
          have HB10 := Lib.hid (HB9.out.trans (hb.mono HB9.out.size))
          clear x0 x1 x2 x3
          have x0 := HS10.out.x0
          have x1 := HS10.out.x1
          have x2 := HS10.out.x2
          have x3 := HS10.out.x3
          clear hb hown HS9 HB9
          go_wp2_with fail
          refine (KF.out _ HS10.out.hl HS10.out.ho IntsR.nil_).mono ?_
          rintro e w11 ⟨rfl, hb⟩
          have hown := trivial
          have HS11 := Lib.hid (HS10.out.upto hb)
          have HB11 := Lib.hid (HB10.out.trans (hb.mono HB10.out.size))
          clear x0 x1 x2 x3
          have x0 := HS11.out.x0
          have x1 := HS11.out.x1
          have x2 := HS11.out.x2
          have x3 := HS11.out.x3
          clear hb hown HS10 HB10
          go_wp2_with fail
          go_roundg g2
          case measure => omega
          case rel => exact ⟨k + 1, by have := HG.out; omega, by go_num, HS11.out.ex, HB11.out⟩
end Go.Proofs.Ytkncmhcobbjoiaa
