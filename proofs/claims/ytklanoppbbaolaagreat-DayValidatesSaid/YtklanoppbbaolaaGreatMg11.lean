/- The text OpnC. -/
import Derived.Test.YtklanoppbbaolaaGreatMg2
import Derived.Test.YtklanoppbbaolaaGreatMg10
/- A law's arguments as lists: cases, strings, uint16. -/
namespace Go.Proofs.YtklanoppbbaolaaGreat
open Go.ChangeShapes Go.WideShapes Go.ChangeAt Go.RowKit Go.Deep Go.Joins
set_option linter.unusedVariables false
set_option linter.unusedSimpArgs false
set_option maxRecDepth 100000

section
variable {H : Type} {enc : TypeId × Value → H} {W : World} {base b0 : Nat} {d : DataW H} {p : List MemPlace} {v : Value}
theorem addC_eq (b off i : Nat) : (⟨b, off, none⟩ : Addr).add i = ⟨b, off + i, none⟩ := by unfold Addr.add; split <;> simp_all
theorem open_row {α : Type} {E : Enc α} (zz : α) {t e : TypeId} {fs : Array Field} {fuel : Nat} {x : DataW H × List MemPlace} (ht : Tryz.prog.underlying t = some (.slice e)) (he : Tryz.prog.underlying e = some (.struct fs))
    (hone : oneCellFields Tryz.prog fs = true) (hC : Tryz.prog.cellsOf e = fs.size) (hn0 : 0 < fs.size)
    (helem : ∀ (k : Nat) (c : List Value), c.length = fs.size → (∀ (j : Nat) (f : Field), fs[j]? = some f → ∃ (v : Value) (y : DataW H × List MemPlace), c[j]? = some v ∧ DataW.trod enc Tryz.prog W 0 (fun _ => true) true k f.type [v] = some y) → ∃ z, E W W.heap.size c z)
    (h : DataW.trod enc Tryz.prog W 0 (fun _ => true) true fuel t [v] = some x) :
    ∃ (A : Option Addr) (l : List α) (c : Nat), v = .slice A l.length c ∧ l.length ≤ c ∧ RowR E fs.size W W.heap.size A l := by
  rcases open_slice_fields ht he hone hC h with hcs | ⟨a, len, cap, hcs, hl, hi⟩
  · simp at hcs
    subst hcs
    exact ⟨none, [], 0, rfl, Nat.le_refl _, RowR.nil_⟩
  · simp at hcs
    subst hcs
    have each : ∀ i, i < len → ∃ (c : List Value) (z : α), c.length = fs.size ∧ E W W.heap.size c z ∧ ∀ (j : Nat) v, c[j]? = some v → W.cell? (a.add (i * fs.size + j)) = some v := by
      intro i hil
      obtain ⟨k, hk⟩ := hi i hil
      have hcell : ∀ (j : Nat) v, ((List.range fs.size).map fun j => (W.cell? (a.add (i * fs.size + j))).getD (.bool false))[j]? = some v → W.cell? (a.add (i * fs.size + j)) = some v := by
        intro j v hv
        rw [List.getElem?_map] at hv
        by_cases hj : j < fs.size
        · rw [List.getElem?_range hj, Option.map_some] at hv
          obtain ⟨u, y, h1, _⟩ := hk j fs[j] (Array.getElem?_eq_getElem hj)
          rw [h1] at hv ⊢
          simpa using hv
        · rw [List.getElem?_eq_none (by simp; omega)] at hv; cases hv
      obtain ⟨z, hz⟩ := helem k ((List.range fs.size).map fun j => (W.cell? (a.add (i * fs.size + j))).getD (.bool false)) (by simp) (fun j f hj => by
        obtain ⟨u, y, h1, h2⟩ := hk j f hj
        have hjl : j < fs.size := (Array.getElem?_eq_some_iff.1 hj).1
        refine ⟨u, y, ?_, h2⟩
        rw [List.getElem?_map, List.getElem?_range hjl, Option.map_some, h1]
        rfl)
      exact ⟨_, z, by simp, hz, hcell⟩
    obtain ⟨f, hf⟩ : ∃ f : Nat → List Value × α, ∀ i, i < len → (f i).1.length = fs.size ∧ E W W.heap.size (f i).1 (f i).2 ∧ ∀ (j : Nat) v, (f i).1[j]? = some v → W.cell? (a.add (i * fs.size + j)) = some v := by
      have each' : ∀ i, ∃ cz : List Value × α, i < len → cz.1.length = fs.size ∧ E W W.heap.size cz.1 cz.2 ∧ ∀ (j : Nat) v, cz.1[j]? = some v → W.cell? (a.add (i * fs.size + j)) = some v := fun i => by
        by_cases hi : i < len
        · obtain ⟨c, z, h1, h2, h3⟩ := each i hi
          exact ⟨(c, z), fun _ => ⟨h1, h2, h3⟩⟩
        · exact ⟨([], zz), fun h => absurd h hi⟩
      exact ⟨fun i => Classical.choose (each' i), fun i => Classical.choose_spec (each' i)⟩
    refine ⟨some a, (List.range len).map (fun i => (f i).2), cap, by simp, by simpa using hl, (List.range len).map (fun i => (f i).1), by simp, ?_, ?_, fun hn => ?_⟩
    · intro c hc
      obtain ⟨i, hi, rfl⟩ := List.mem_map.1 hc
      exact (hf i (List.mem_range.1 hi)).1
    · intro i c z hc hz
      rw [List.getElem?_map] at hc hz
      by_cases hi : i < len
      · rw [List.getElem?_range hi] at hc hz
        simp at hc hz
        subst hc; subst hz
        exact (hf i hi).2.1
      · rw [List.getElem?_eq_none (by simp; omega)] at hc; cases hc
    · simp at hn
      obtain ⟨b, off, spot⟩ := a
      have h00 : ∃ v, (f 0).1[0]? = some v := ⟨_, List.getElem?_eq_getElem (by rw [(hf 0 hn).1]; exact hn0)⟩
      obtain ⟨v, hv⟩ := h00
      have hc0 := (hf 0 hn).2.2 0 v hv
      obtain rfl : spot = none := by simpa [Addr.add] using World.cell?_spot hc0
      rw [addC_eq] at hc0
      refine ⟨b, off, rfl, World.block_lt_of_cell? W _ hc0, fun i j c v hc hv => ?_⟩
      rw [List.getElem?_map] at hc
      by_cases hi : i < len
      · rw [List.getElem?_range hi] at hc
        simp at hc
        subst hc
        have := (hf i hi).2.2 j v hv
        rw [addC_eq, ← Nat.add_assoc] at this
        exact this
      · rw [List.getElem?_eq_none (by simp; omega)] at hc; cases hc
theorem st_fieldsC : ∃ f0 f1 : Field, Tryz.prog.underlying 79 = some (.struct #[f0, f1]) ∧ oneCellFields Tryz.prog #[f0, f1] = true ∧ Tryz.prog.underlying f0.type = some (.int .i64) ∧ Tryz.prog.underlying f1.type = some (.int .i64) :=
  ⟨_, _, Tryz.underlying79, by kernel_rfl, by kernel_rfl, by kernel_rfl⟩
theorem st_cellsC : Tryz.prog.cellsOf 79 = 2 := by kernel_rfl
theorem open_st {k : Nat} {v : Value} {x : DataW H × List MemPlace} (hf : DataW.trod enc Tryz.prog W 0 (fun _ => true) true k 36 [v] = some x) :
    ∃ (A : Option Addr) (l : List St) (c : Nat), v = .slice A l.length c ∧ l.length ≤ c ∧ RowR StE 2 W W.heap.size A l := by
  obtain ⟨f0, f1, hu, hone, u0, u1⟩ := st_fieldsC
  refine open_row (fs := #[f0, f1]) (0, 0) Tryz.underlying36 hu hone st_cellsC (by simp) (fun k c hl hc => ?_) hf
  rcases c with _ | ⟨a0, _ | ⟨a1, _ | ⟨_, _⟩⟩⟩ <;> simp at hl
  obtain ⟨v0, y0, e0, t0⟩ := hc 0 f0 rfl
  obtain rfl : a0 = v0 := by simpa using e0
  obtain ⟨z0, g0, _⟩ := DataW.trod_int u0 t0
  simp at g0
  subst g0
  obtain ⟨v1, y1, e1, t1⟩ := hc 1 f1 rfl
  obtain rfl : a1 = v1 := by simpa using e1
  obtain ⟨z1, g1, _⟩ := DataW.trod_int u1 t1
  simp at g1
  subst g1
  exact ⟨(z0, z1), rfl⟩
theorem ln_fieldsC : ∃ f0 f1 f2 f3 : Field, Tryz.prog.underlying 170 = some (.struct #[f0, f1, f2, f3]) ∧ oneCellFields Tryz.prog #[f0, f1, f2, f3] = true ∧ Tryz.prog.underlying f0.type = some (.int .i64) ∧ Tryz.prog.underlying f1.type = some (.int .i64) ∧ Tryz.prog.underlying f2.type = some (.int .i64) ∧ Tryz.prog.underlying f3.type = some (.int .i64) :=
  ⟨_, _, _, _, Tryz.underlying170, by kernel_rfl, by kernel_rfl, by kernel_rfl, by kernel_rfl, by kernel_rfl⟩
theorem ln_cellsC : Tryz.prog.cellsOf 170 = 4 := by kernel_rfl
theorem open_ln {k : Nat} {v : Value} {x : DataW H × List MemPlace} (hf : DataW.trod enc Tryz.prog W 0 (fun _ => true) true k 26 [v] = some x) :
    ∃ (A : Option Addr) (l : List Ln) (c : Nat), v = .slice A l.length c ∧ l.length ≤ c ∧ RowR LnE 4 W W.heap.size A l := by
  obtain ⟨f0, f1, f2, f3, hu, hone, u0, u1, u2, u3⟩ := ln_fieldsC
  refine open_row (fs := #[f0, f1, f2, f3]) (0, 0, 0, 0) Tryz.underlying26 hu hone ln_cellsC (by simp) (fun k c hl hc => ?_) hf
  rcases c with _ | ⟨a0, _ | ⟨a1, _ | ⟨a2, _ | ⟨a3, _ | ⟨_, _⟩⟩⟩⟩⟩ <;> simp at hl
  obtain ⟨v0, y0, e0, t0⟩ := hc 0 f0 rfl
  obtain rfl : a0 = v0 := by simpa using e0
  obtain ⟨z0, g0, _⟩ := DataW.trod_int u0 t0
  simp at g0
  subst g0
  obtain ⟨v1, y1, e1, t1⟩ := hc 1 f1 rfl
  obtain rfl : a1 = v1 := by simpa using e1
  obtain ⟨z1, g1, _⟩ := DataW.trod_int u1 t1
  simp at g1
  subst g1
  obtain ⟨v2, y2, e2, t2⟩ := hc 2 f2 rfl
  obtain rfl : a2 = v2 := by simpa using e2
  obtain ⟨z2, g2, _⟩ := DataW.trod_int u2 t2
  simp at g2
  subst g2
  obtain ⟨v3, y3, e3, t3⟩ := hc 3 f3 rfl
  obtain rfl : a3 = v3 := by simpa using e3
  obtain ⟨z3, g3, _⟩ := DataW.trod_int u3 t3
  simp at g3
  subst g3
  exact ⟨(z0, z1, z2, z3), rfl⟩
theorem og_fieldsC : ∃ f0 f1 f2 f3 : Field, Tryz.prog.underlying 42 = some (.struct #[f0, f1, f2, f3]) ∧ oneCellFields Tryz.prog #[f0, f1, f2, f3] = true ∧ Tryz.prog.underlying f0.type = some (.int .u8) ∧ Tryz.prog.underlying f1.type = some (.int .i64) ∧ Tryz.prog.underlying f2.type = some (.int .i64) ∧ Tryz.prog.underlying f3.type = some (.int .i64) :=
  ⟨_, _, _, _, Tryz.underlying42, by kernel_rfl, by kernel_rfl, by kernel_rfl, by kernel_rfl, by kernel_rfl⟩
theorem og_cellsC : Tryz.prog.cellsOf 42 = 4 := by kernel_rfl
theorem open_og {k : Nat} {v : Value} {x : DataW H × List MemPlace} (hf : DataW.trod enc Tryz.prog W 0 (fun _ => true) true k 31 [v] = some x) :
    ∃ (A : Option Addr) (l : List Og) (c : Nat), v = .slice A l.length c ∧ l.length ≤ c ∧ RowR OgE' 4 W W.heap.size A l := by
  obtain ⟨f0, f1, f2, f3, hu, hone, u0, u1, u2, u3⟩ := og_fieldsC
  refine open_row (fs := #[f0, f1, f2, f3]) (0, 0, 0, 0) Tryz.underlying31 hu hone og_cellsC (by simp) (fun k c hl hc => ?_) hf
  rcases c with _ | ⟨a0, _ | ⟨a1, _ | ⟨a2, _ | ⟨a3, _ | ⟨_, _⟩⟩⟩⟩⟩ <;> simp at hl
  obtain ⟨v0, y0, e0, t0⟩ := hc 0 f0 rfl
  obtain rfl : a0 = v0 := by simpa using e0
  obtain ⟨z0, g0, _⟩ := DataW.trod_int u0 t0
  simp at g0
  subst g0
  obtain ⟨v1, y1, e1, t1⟩ := hc 1 f1 rfl
  obtain rfl : a1 = v1 := by simpa using e1
  obtain ⟨z1, g1, _⟩ := DataW.trod_int u1 t1
  simp at g1
  subst g1
  obtain ⟨v2, y2, e2, t2⟩ := hc 2 f2 rfl
  obtain rfl : a2 = v2 := by simpa using e2
  obtain ⟨z2, g2, _⟩ := DataW.trod_int u2 t2
  simp at g2
  subst g2
  obtain ⟨v3, y3, e3, t3⟩ := hc 3 f3 rfl
  obtain rfl : a3 = v3 := by simpa using e3
  obtain ⟨z3, g3, _⟩ := DataW.trod_int u3 t3
  simp at g3
  subst g3
  exact ⟨(z0, z1, z2, z3), rfl⟩
theorem rt_fieldsC : ∃ f0 f1 f2 : Field, Tryz.prog.underlying 44 = some (.struct #[f0, f1, f2]) ∧ oneCellFields Tryz.prog #[f0, f1, f2] = true ∧ Tryz.prog.underlying f0.type = some (.int .i64) ∧ Tryz.prog.underlying f1.type = some (.int .i64) ∧ Tryz.prog.underlying f2.type = some (.int .i64) :=
  ⟨_, _, _, Tryz.underlying44, by kernel_rfl, by kernel_rfl, by kernel_rfl, by kernel_rfl⟩
theorem rt_cellsC : Tryz.prog.cellsOf 44 = 3 := by kernel_rfl
theorem open_rt {k : Nat} {v : Value} {x : DataW H × List MemPlace} (hf : DataW.trod enc Tryz.prog W 0 (fun _ => true) true k 32 [v] = some x) :
    ∃ (A : Option Addr) (l : List Rt) (c : Nat), v = .slice A l.length c ∧ l.length ≤ c ∧ RowR RtE 3 W W.heap.size A l := by
  obtain ⟨f0, f1, f2, hu, hone, u0, u1, u2⟩ := rt_fieldsC
  refine open_row (fs := #[f0, f1, f2]) (0, 0, 0) Tryz.underlying32 hu hone rt_cellsC (by simp) (fun k c hl hc => ?_) hf
  rcases c with _ | ⟨a0, _ | ⟨a1, _ | ⟨a2, _ | ⟨_, _⟩⟩⟩⟩ <;> simp at hl
  obtain ⟨v0, y0, e0, t0⟩ := hc 0 f0 rfl
  obtain rfl : a0 = v0 := by simpa using e0
  obtain ⟨z0, g0, _⟩ := DataW.trod_int u0 t0
  simp at g0
  subst g0
  obtain ⟨v1, y1, e1, t1⟩ := hc 1 f1 rfl
  obtain rfl : a1 = v1 := by simpa using e1
  obtain ⟨z1, g1, _⟩ := DataW.trod_int u1 t1
  simp at g1
  subst g1
  obtain ⟨v2, y2, e2, t2⟩ := hc 2 f2 rfl
  obtain rfl : a2 = v2 := by simpa using e2
  obtain ⟨z2, g2, _⟩ := DataW.trod_int u2 t2
  simp at g2
  subst g2
  exact ⟨(z0, z1, z2), rfl⟩
theorem bd_fieldsC : ∃ f0 f1 : Field, Tryz.prog.underlying 38 = some (.struct #[f0, f1]) ∧ oneCellFields Tryz.prog #[f0, f1] = true ∧ Tryz.prog.underlying f0.type = some (.int .i64) ∧ f1.type = 36 :=
  ⟨_, _, Tryz.underlying38, by kernel_rfl, by kernel_rfl, rfl⟩
theorem bd_cellsC : Tryz.prog.cellsOf 38 = 2 := by kernel_rfl
theorem open_bd {k : Nat} {v : Value} {x : DataW H × List MemPlace} (hf : DataW.trod enc Tryz.prog W 0 (fun _ => true) true k 23 [v] = some x) :
    ∃ (A : Option Addr) (l : List Bd) (c : Nat), v = .slice A l.length c ∧ l.length ≤ c ∧ RowR BdR 2 W W.heap.size A l := by
  obtain ⟨f0, f1, hu, hone, u0, u1⟩ := bd_fieldsC
  refine open_row (fs := #[f0, f1]) bd0 Tryz.underlying23 hu hone bd_cellsC (by simp) (fun k c hl hc => ?_) hf
  rcases c with _ | ⟨a0, _ | ⟨a1, _ | ⟨_, _⟩⟩⟩ <;> simp at hl
  obtain ⟨v0, y0, e0, t0⟩ := hc 0 f0 rfl
  obtain rfl : a0 = v0 := by simpa using e0
  obtain ⟨z0, g0, _⟩ := DataW.trod_int u0 t0
  simp at g0
  subst g0
  obtain ⟨v1, y1, e1, t1⟩ := hc 1 f1 rfl
  obtain rfl : a1 = v1 := by simpa using e1
  rw [u1] at t1
  obtain ⟨A1, l1, c1, rfl, h1, r1⟩ := open_st t1
  exact ⟨⟨z0, l1⟩, A1, c1, rfl, h1, r1⟩
theorem un_fieldsC : ∃ f0 f1 f2 f3 f4 f5 f6 f7 f8 : Field, Tryz.prog.underlying 81 = some (.struct #[f0, f1, f2, f3, f4, f5, f6, f7, f8]) ∧ oneCellFields Tryz.prog #[f0, f1, f2, f3, f4, f5, f6, f7, f8] = true ∧ Tryz.prog.underlying f0.type = some (.int .i64) ∧ Tryz.prog.underlying f1.type = some (.int .i64) ∧ f2.type = 36 ∧ Tryz.prog.underlying f3.type = some (.int .i64) ∧ Tryz.prog.underlying f4.type = some (.int .i64) ∧ Tryz.prog.underlying f5.type = some (.int .i64) ∧ Tryz.prog.underlying f6.type = some (.int .i64) ∧ Tryz.prog.underlying f7.type = some (.int .i64) ∧ Tryz.prog.underlying f8.type = some (.int .i64) :=
  ⟨_, _, _, _, _, _, _, _, _, Tryz.underlying81, by kernel_rfl, by kernel_rfl, by kernel_rfl, rfl, by kernel_rfl, by kernel_rfl, by kernel_rfl, by kernel_rfl, by kernel_rfl, by kernel_rfl⟩
theorem un_cellsC : Tryz.prog.cellsOf 81 = 9 := by kernel_rfl
theorem open_un {k : Nat} {v : Value} {x : DataW H × List MemPlace} (hf : DataW.trod enc Tryz.prog W 0 (fun _ => true) true k 29 [v] = some x) :
    ∃ (A : Option Addr) (l : List Un) (c : Nat), v = .slice A l.length c ∧ l.length ≤ c ∧ RowR UnR 9 W W.heap.size A l := by
  obtain ⟨f0, f1, f2, f3, f4, f5, f6, f7, f8, hu, hone, u0, u1, u2, u3, u4, u5, u6, u7, u8⟩ := un_fieldsC
  refine open_row (fs := #[f0, f1, f2, f3, f4, f5, f6, f7, f8]) un0 Tryz.underlying29 hu hone un_cellsC (by simp) (fun k c hl hc => ?_) hf
  rcases c with _ | ⟨a0, _ | ⟨a1, _ | ⟨a2, _ | ⟨a3, _ | ⟨a4, _ | ⟨a5, _ | ⟨a6, _ | ⟨a7, _ | ⟨a8, _ | ⟨_, _⟩⟩⟩⟩⟩⟩⟩⟩⟩⟩ <;> simp at hl
  obtain ⟨v0, y0, e0, t0⟩ := hc 0 f0 rfl
  obtain rfl : a0 = v0 := by simpa using e0
  obtain ⟨z0, g0, _⟩ := DataW.trod_int u0 t0
  simp at g0
  subst g0
  obtain ⟨v1, y1, e1, t1⟩ := hc 1 f1 rfl
  obtain rfl : a1 = v1 := by simpa using e1
  obtain ⟨z1, g1, _⟩ := DataW.trod_int u1 t1
  simp at g1
  subst g1
  obtain ⟨v2, y2, e2, t2⟩ := hc 2 f2 rfl
  obtain rfl : a2 = v2 := by simpa using e2
  rw [u2] at t2
  obtain ⟨A2, l2, c2, rfl, h2, r2⟩ := open_st t2
  obtain ⟨v3, y3, e3, t3⟩ := hc 3 f3 rfl
  obtain rfl : a3 = v3 := by simpa using e3
  obtain ⟨z3, g3, _⟩ := DataW.trod_int u3 t3
  simp at g3
  subst g3
  obtain ⟨v4, y4, e4, t4⟩ := hc 4 f4 rfl
  obtain rfl : a4 = v4 := by simpa using e4
  obtain ⟨z4, g4, _⟩ := DataW.trod_int u4 t4
  simp at g4
  subst g4
  obtain ⟨v5, y5, e5, t5⟩ := hc 5 f5 rfl
  obtain rfl : a5 = v5 := by simpa using e5
  obtain ⟨z5, g5, _⟩ := DataW.trod_int u5 t5
  simp at g5
  subst g5
  obtain ⟨v6, y6, e6, t6⟩ := hc 6 f6 rfl
  obtain rfl : a6 = v6 := by simpa using e6
  obtain ⟨z6, g6, _⟩ := DataW.trod_int u6 t6
  simp at g6
  subst g6
  obtain ⟨v7, y7, e7, t7⟩ := hc 7 f7 rfl
  obtain rfl : a7 = v7 := by simpa using e7
  obtain ⟨z7, g7, _⟩ := DataW.trod_int u7 t7
  simp at g7
  subst g7
  obtain ⟨v8, y8, e8, t8⟩ := hc 8 f8 rfl
  obtain rfl : a8 = v8 := by simpa using e8
  obtain ⟨z8, g8, _⟩ := DataW.trod_int u8 t8
  simp at g8
  subst g8
  exact ⟨⟨z0, z1, l2, z3, z4, z5, z6, z7, z8⟩, A2, c2, rfl, h2, r2⟩
theorem hr_fieldsC : ∃ f0 f1 f2 : Field, Tryz.prog.underlying 25 = some (.struct #[f0, f1, f2]) ∧ oneCellFields Tryz.prog #[f0, f1, f2] = true ∧ f0.type = 23 ∧ f1.type = 23 ∧ Tryz.prog.underlying f2.type = some (.int .i64) :=
  ⟨_, _, _, Tryz.underlying25, by kernel_rfl, rfl, rfl, by kernel_rfl⟩
theorem hr_cellsC : Tryz.prog.cellsOf 25 = 3 := by kernel_rfl
theorem open_hr {k : Nat} {v : Value} {x : DataW H × List MemPlace} (hf : DataW.trod enc Tryz.prog W 0 (fun _ => true) true k 30 [v] = some x) :
    ∃ (A : Option Addr) (l : List Hr) (c : Nat), v = .slice A l.length c ∧ l.length ≤ c ∧ RowR HrR 3 W W.heap.size A l := by
  obtain ⟨f0, f1, f2, hu, hone, u0, u1, u2⟩ := hr_fieldsC
  refine open_row (fs := #[f0, f1, f2]) hr0 Tryz.underlying30 hu hone hr_cellsC (by simp) (fun k c hl hc => ?_) hf
  rcases c with _ | ⟨a0, _ | ⟨a1, _ | ⟨a2, _ | ⟨_, _⟩⟩⟩⟩ <;> simp at hl
  obtain ⟨v0, y0, e0, t0⟩ := hc 0 f0 rfl
  obtain rfl : a0 = v0 := by simpa using e0
  rw [u0] at t0
  obtain ⟨A0, l0, c0, rfl, h0, r0⟩ := open_bd t0
  obtain ⟨v1, y1, e1, t1⟩ := hc 1 f1 rfl
  obtain rfl : a1 = v1 := by simpa using e1
  rw [u1] at t1
  obtain ⟨A1, l1, c1, rfl, h1, r1⟩ := open_bd t1
  obtain ⟨v2, y2, e2, t2⟩ := hc 2 f2 rfl
  obtain rfl : a2 = v2 := by simpa using e2
  obtain ⟨z2, g2, _⟩ := DataW.trod_int u2 t2
  simp at g2
  subst g2
  exact ⟨⟨l0, l1, z2⟩, A0, c0, A1, c1, rfl, h0, h1, r0, r1⟩
theorem net_fieldsC : ∃ f0 f1 : Field, Tryz.prog.underlying 28 = some (.struct #[f0, f1]) ∧ oneCellFields Tryz.prog #[f0, f1] = true ∧ Tryz.prog.underlying f0.type = some (.int .i64) ∧ f1.type = 26 :=
  ⟨_, _, Tryz.underlying28, by kernel_rfl, by kernel_rfl, rfl⟩
theorem case_fieldsC : ∃ f0 f1 f2 f3 f4 : Field, Tryz.prog.underlying 34 = some (.struct #[f0, f1, f2, f3, f4]) ∧ (f0.type = 28 ∧ f0.offset = 0) ∧ (f1.type = 29 ∧ f1.offset = 2) ∧ (f2.type = 30 ∧ f2.offset = 3) ∧ (f3.type = 31 ∧ f3.offset = 4) ∧ (f4.type = 32 ∧ f4.offset = 5) :=
  ⟨_, _, _, _, _, Tryz.underlying34, ⟨rfl, rfl⟩, ⟨rfl, rfl⟩, ⟨rfl, rfl⟩, ⟨rfl, rfl⟩, ⟨rfl, rfl⟩⟩
theorem case_cellsC : Tryz.prog.cellsOf 34 = 6 := by kernel_rfl
theorem net_cellsC : Tryz.prog.cellsOf 28 = 2 := by kernel_rfl
theorem sl_cellsC : Tryz.prog.cellsOf 29 = 1 ∧ Tryz.prog.cellsOf 30 = 1 ∧ Tryz.prog.cellsOf 31 = 1 ∧ Tryz.prog.cellsOf 32 = 1 := ⟨by kernel_rfl, by kernel_rfl, by kernel_rfl, by kernel_rfl⟩
theorem open_case (hv : Value.okWide Tryz.prog W .any base 34 v) (h : DataW.Trod enc Tryz.prog W 0 (fun _ => true) true 34 v d p) :
    ∃ (x : Cs) (A1 A2 A3 A4 A5 : Option Addr) (c1 c2 c3 c4 c5 : Nat), v = .agg #[.int .i64 x.net.buses, .slice A1 x.net.lines.length c1, .slice A2 x.units.length c2, .slice A3 x.hours.length c3, .slice A4 x.outs.length c4, .slice A5 x.rights.length c5] ∧
      RowR LnE 4 W W.heap.size A1 x.net.lines ∧ RowR UnR 9 W W.heap.size A2 x.units ∧ RowR HrR 3 W W.heap.size A3 x.hours ∧ RowR OgE' 4 W W.heap.size A4 x.outs ∧ RowR RtE 3 W W.heap.size A5 x.rights := by
  obtain ⟨f0, f1, f2, f3, f4, hu, ⟨u0, o0⟩, ⟨u1, o1⟩, ⟨u2, o2⟩, ⟨u3, o3⟩, ⟨u4, o4⟩⟩ := case_fieldsC
  obtain ⟨cs, rfl, hsz⟩ := okWide_struct hu hv
  rw [case_cellsC] at hsz
  obtain ⟨l⟩ := cs
  replace hsz : l.length = 6 := hsz
  rcases l with _ | ⟨a0, _ | ⟨a1, _ | ⟨a2, _ | ⟨a3, _ | ⟨a4, _ | ⟨a5, _ | ⟨_, _⟩⟩⟩⟩⟩⟩⟩ <;> simp at hsz
  obtain ⟨fuel, hf⟩ := h
  obtain ⟨xs, n, _, _, _, hlen, hf⟩ := DataW.trod_struct hu hf
  have e : (Value.agg #[a0, a1, a2, a3, a4, a5]).cells.toList = [a0, a1, a2, a3, a4, a5] := rfl
  rw [e] at hf
  have k0 := hf 0 f0 rfl
  have k1 := hf 1 f1 rfl
  have k2 := hf 2 f2 rfl
  have k3 := hf 3 f3 rfl
  have k4 := hf 4 f4 rfl
  rw [u0, o0, net_cellsC] at k0
  rw [u1, o1, sl_cellsC.1] at k1
  rw [u2, o2, sl_cellsC.2.1] at k2
  rw [u3, o3, sl_cellsC.2.2.1] at k3
  rw [u4, o4, sl_cellsC.2.2.2] at k4
  have hx : xs.length = 5 := hlen
  rcases xs with _ | ⟨x0, _ | ⟨x1, _ | ⟨x2, _ | ⟨x3, _ | ⟨x4, _ | ⟨_, _⟩⟩⟩⟩⟩⟩ <;> simp at hx
  replace k0 : DataW.trod enc Tryz.prog W 0 (fun _ => true) true n 28 [a0, a1] = some x0 := k0
  obtain ⟨m0, m1, hun, hone, w0, w1⟩ := net_fieldsC
  obtain ⟨y0, y1, n', _, _, q0, q1⟩ := trod_struct2 hun k0
  obtain ⟨r0, s0⟩ := hone_of hone 0 m0 rfl
  obtain ⟨r1, s1⟩ := hone_of hone 1 m1 rfl
  rw [r0, s0] at q0
  rw [r1, s1, w1] at q1
  obtain ⟨nb, g0, _⟩ := DataW.trod_int w0 q0
  simp at g0
  subst g0
  obtain ⟨A1, l1, c1, rfl, _, h1⟩ := open_ln (show DataW.trod enc Tryz.prog W 0 (fun _ => true) true n' 26 [a1] = some y1 from q1)
  obtain ⟨A2, l2, c2, rfl, _, h2⟩ := open_un (show DataW.trod enc Tryz.prog W 0 (fun _ => true) true n 29 [a2] = some x1 from k1)
  obtain ⟨A3, l3, c3, rfl, _, h3⟩ := open_hr (show DataW.trod enc Tryz.prog W 0 (fun _ => true) true n 30 [a3] = some x2 from k2)
  obtain ⟨A4, l4, c4, rfl, _, h4⟩ := open_og (show DataW.trod enc Tryz.prog W 0 (fun _ => true) true n 31 [a4] = some x3 from k3)
  obtain ⟨A5, l5, c5, rfl, _, h5⟩ := open_rt (show DataW.trod enc Tryz.prog W 0 (fun _ => true) true n 32 [a5] = some x4 from k4)
  exact ⟨⟨⟨nb, l1⟩, l2, l3, l4, l5⟩, A1, A2, A3, A4, A5, c1, c2, c3, c4, c5, rfl, h1, h2, h3, h4, h5⟩
end
end Go.Proofs.YtklanoppbbaolaaGreat
