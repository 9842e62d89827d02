/- A law's arguments as lists: []int and the network. -/
import Derived.Test.YtklanoppbbaolaaGreatOpen
namespace Go.Proofs.YtklanoppbbaolaaGreat
open Go.ChangeShapes Go.WideShapes Go.ChangeAt Go.RowKit Go.Deep Go.Joins
set_option linter.unusedVariables false
set_option maxRecDepth 100000

section
variable {H : Type} {enc : TypeId × Value → H} {W : World} {base b0 : Nat} {d : DataW H} {p : List MemPlace} {v : Value}

theorem cells_int : Tryz.prog.cellsOf 3 = 1 := by kernel_rfl
theorem add_eq (b off i : Nat) : (⟨b, off, none⟩ : Addr).add i = ⟨b, off + i, none⟩ := by unfold Addr.add; split <;> simp_all

theorem open_il_cell {n : Nat} {v : Value} {x : DataW H × List MemPlace} (hf : DataW.trod enc Tryz.prog W 0 (fun _ => true) true n 67 [v] = some x) :
    ∃ (A : Option Addr) (xs : List Int) (c : Nat), v = .slice A xs.length c ∧ xs.length ≤ c ∧ IntsR W W.heap.size A xs := by
  rcases open_ints Tryz.underlying67 Tryz.underlying3 cells_int hf with ⟨hcs, hx⟩ | ⟨a, len', cap', zs, hcs, _, hl, hm, hz, hx, hcell, hwz⟩
  · simp at hcs
    subst hcs
    exact ⟨none, [], 0, rfl, Nat.le_refl _, IntsR.nil_⟩
  · simp at hcs
    subst hcs
    simp only [if_true] at hz
    refine ⟨some a, zs.take len', cap', by rw [List.length_take, Nat.min_eq_left (by omega)], by simp; omega, fun hn => ?_⟩
    rw [List.length_take, Nat.min_eq_left (by omega)] at hn
    obtain ⟨b, off, rfl, hc⟩ := ints_at hcell (by omega)
    refine ⟨b, off, rfl, World.block_lt_of_cell? W ⟨b, off + 0, none⟩ (hc 0 (by omega)), fun i hi => ?_⟩
    rw [List.length_take, Nat.min_eq_left (by omega)] at hi
    rw [hc i (by omega), List.getD_eq_getElem?_getD, List.getD_eq_getElem?_getD, List.getElem?_take_of_lt hi]

theorem open_il (hv : Value.okWide Tryz.prog W .any base 67 v) (h : DataW.Trod enc Tryz.prog W 0 (fun _ => true) true 67 v d p) :
    ∃ (A : Option Addr) (xs : List Int) (c : Nat), v = .slice A xs.length c ∧ xs.length ≤ c ∧ IntsR W W.heap.size A xs := by
  obtain ⟨a0, len, cap, rfl⟩ := okWide_slice Tryz.underlying67 hv
  obtain ⟨fuel, hf⟩ := h
  exact open_il_cell (by simpa [Value.cells] using hf)

theorem line_fields : ∃ f0 f1 f2 f3 : Field, Tryz.prog.underlying 170 = some (.struct #[f0, f1, f2, f3]) ∧ oneCellFields Tryz.prog #[f0, f1, f2, f3] = true ∧
    Tryz.prog.underlying f0.type = some (.int .i64) ∧ Tryz.prog.underlying f1.type = some (.int .i64) ∧ Tryz.prog.underlying f2.type = some (.int .i64) ∧ Tryz.prog.underlying f3.type = some (.int .i64) :=
  ⟨_, _, _, _, Tryz.underlying170, by kernel_rfl, Tryz.underlying3, Tryz.underlying3, Tryz.underlying2, Tryz.underlying2⟩
theorem cells_line : Tryz.prog.cellsOf 170 = 4 := by kernel_rfl

theorem open_lines_cell {n : Nat} {v : Value} {x : DataW H × List MemPlace} (hf : DataW.trod enc Tryz.prog W 0 (fun _ => true) true n 26 [v] = some x) :
    ∃ (A : Option Addr) (ls : List Ln) (c : Nat), v = .slice A ls.length c ∧ ls.length ≤ c ∧ LinesR W W.heap.size A ls := by
  obtain ⟨f0, f1, f2, f3, hu, hone, u0, u1, u2, u3⟩ := line_fields
  rcases open_slice_fields Tryz.underlying26 hu hone cells_line hf with hcs | ⟨a, len, cap, hcs, hl, hi⟩
  · simp at hcs
    subst hcs
    exact ⟨none, [], 0, rfl, Nat.le_refl _, LinesR.nil_⟩
  · simp at hcs
    subst hcs
    have each : ∀ i, i < len → ∃ l : Ln, W.cell? (a.add (i * 4)) = some (.int .i64 l.1) ∧ W.cell? (a.add (i * 4 + 1)) = some (.int .i64 l.2.1) ∧ W.cell? (a.add (i * 4 + 2)) = some (.int .i64 l.2.2.1) ∧ W.cell? (a.add (i * 4 + 3)) = some (.int .i64 l.2.2.2) := by
      intro i hil
      obtain ⟨k, hk⟩ := hi i hil
      obtain ⟨v0, y0, c0, t0⟩ := hk 0 f0 rfl
      obtain ⟨v1, y1, c1, t1⟩ := hk 1 f1 rfl
      obtain ⟨v2, y2, c2, t2⟩ := hk 2 f2 rfl
      obtain ⟨v3, y3, c3, t3⟩ := hk 3 f3 rfl
      obtain ⟨z0, e0, _⟩ := DataW.trod_int u0 t0
      obtain ⟨z1, e1, _⟩ := DataW.trod_int u1 t1
      obtain ⟨z2, e2, _⟩ := DataW.trod_int u2 t2
      obtain ⟨z3, e3, _⟩ := DataW.trod_int u3 t3
      simp at e0 e1 e2 e3
      subst e0 e1 e2 e3
      exact ⟨(z0, z1, z2, z3), c0, c1, c2, c3⟩
    obtain ⟨f, hf⟩ : ∃ f : Nat → Ln, ∀ i, i < len → W.cell? (a.add (i * 4)) = some (.int .i64 (f i).1) ∧ W.cell? (a.add (i * 4 + 1)) = some (.int .i64 (f i).2.1) ∧ W.cell? (a.add (i * 4 + 2)) = some (.int .i64 (f i).2.2.1) ∧ W.cell? (a.add (i * 4 + 3)) = some (.int .i64 (f i).2.2.2) :=
      ⟨fun i => if h : i < len then Classical.choose (each i h) else (0, 0, 0, 0), fun i h => by dsimp only; rw [dif_pos h]; exact Classical.choose_spec (each i h)⟩
    refine ⟨some a, (List.range len).map f, cap, by simp, by simpa using hl, fun hn => ?_⟩
    simp at hn
    obtain ⟨b, off, spot⟩ := a
    obtain rfl : spot = none := by simpa [Addr.add] using World.cell?_spot (hf 0 (by omega)).1
    refine ⟨b, off, rfl, World.block_lt_of_cell? W _ (by have := (hf 0 (by omega)).1; rw [add_eq] at this; exact this), fun i hi => ?_⟩
    simp at hi
    obtain ⟨h0, h1, h2, h3⟩ := hf i hi
    rw [add_eq] at h0 h1 h2 h3
    have e : ((List.range len).map f).getD i (0, 0, 0, 0) = f i := by rw [List.getD_eq_getElem?_getD, List.getElem?_map, List.getElem?_range hi]; rfl
    rw [e]
    simp only [← Nat.add_assoc] at h0 h1 h2 h3
    exact ⟨h0, h1, h2, h3⟩

theorem net_fields : ∃ f0 f1 : Field, Tryz.prog.underlying 28 = some (.struct #[f0, f1]) ∧ oneCellFields Tryz.prog #[f0, f1] = true ∧ f0.type = 3 ∧ f1.type = 26 :=
  ⟨_, _, Tryz.underlying28, by kernel_rfl, rfl, rfl⟩
theorem cells_net : Tryz.prog.cellsOf 28 = 2 := by kernel_rfl

theorem open_net (hv : Value.okWide Tryz.prog W .any base 28 v) (h : DataW.Trod enc Tryz.prog W 0 (fun _ => true) true 28 v d p) :
    ∃ (nb : Int) (A : Option Addr) (ls : List Ln) (c : Nat), v = .agg #[.int .i64 nb, .slice A ls.length c] ∧ ls.length ≤ c ∧ LinesR W W.heap.size A ls := by
  obtain ⟨f0, f1, hu, hone, e0, e1⟩ := net_fields
  obtain ⟨v0, v1, y0, y1, n, rfl, _, _, t0, t1⟩ := open_agg2 hu hone cells_net hv h
  rw [e0] at t0
  rw [e1] at t1
  obtain ⟨nb, hz, _⟩ := DataW.trod_int Tryz.underlying3 t0
  simp at hz
  subst hz
  obtain ⟨A, ls, c, rfl, hc, hl⟩ := open_lines_cell t1
  exact ⟨nb, A, ls, c, rfl, hc, hl⟩

theorem open_i (hv : Value.okWide Tryz.prog W .any base 3 v) (h : DataW.Trod enc Tryz.prog W 0 (fun _ => true) true 3 v d p) :
    ∃ x : Int, v = .int .i64 x ∧ -9223372036854775808 ≤ x ∧ x ≤ 9223372036854775807 := by
  obtain ⟨x, rfl, _, _, hw⟩ := open_int Tryz.underlying3 hv h
  have := bounds_i64 hw
  exact ⟨x, rfl, this.1, this.2⟩
theorem open_i64 (hv : Value.okWide Tryz.prog W .any base 2 v) (h : DataW.Trod enc Tryz.prog W 0 (fun _ => true) true 2 v d p) :
    ∃ x : Int, v = .int .i64 x ∧ -9223372036854775808 ≤ x ∧ x ≤ 9223372036854775807 := by
  obtain ⟨x, rfl, _, _, hw⟩ := open_int Tryz.underlying2 hv h
  have := bounds_i64 hw
  exact ⟨x, rfl, this.1, this.2⟩
end
end Go.Proofs.YtklanoppbbaolaaGreat
