/- A law's arguments as lists: outages, ints, bytes. -/
import Derived.Test.YtklfijhlibpmaaaOpen
import Derived.Test.YtklfijhlibpmaaaOgW
namespace Go.Proofs.Ytklfijhlibpmaaa
open Go.ChangeShapes Go.WideShapes Go.ChangeAt Go.RowKit Go.Deep Go.Joins
set_option linter.unusedVariables false
set_option maxRecDepth 100000

section
variable {H : Type} {enc : TypeId × Value → H} {W : World} {base b0 : Nat} {d : DataW H} {p : List MemPlace} {v : Value}
theorem add_eq (b off i : Nat) : (⟨b, off, none⟩ : Addr).add i = ⟨b, off + i, none⟩ := by unfold Addr.add; split <;> simp_all
theorem og_fields : ∃ f0 f1 f2 f3 : Field, Try.prog.underlying 27 = some (.struct #[f0, f1, f2, f3]) ∧ oneCellFields Try.prog #[f0, f1, f2, f3] = true ∧
    Try.prog.underlying f0.type = some (.int .u8) ∧ Try.prog.underlying f1.type = some (.int .i64) ∧ Try.prog.underlying f2.type = some (.int .i64) ∧ Try.prog.underlying f3.type = some (.int .i64) :=
  ⟨_, _, _, _, Try.underlying27, by kernel_rfl, Try.underlying5, Try.underlying3, Try.underlying3, Try.underlying3⟩
theorem cells_og : Try.prog.cellsOf 27 = 4 := by kernel_rfl
theorem open_og_cell {n : Nat} {v : Value} {x : DataW H × List MemPlace} (hf : DataW.trod enc Try.prog W 0 (fun _ => true) true n 22 [v] = some x) :
    ∃ (A : Option Addr) (ls : List Og) (c : Nat), v = .slice A ls.length c ∧ ls.length ≤ c ∧ OgsR W W.heap.size A ls ∧ OgBs ls := by
  obtain ⟨f0, f1, f2, f3, hu, hone, u0, u1, u2, u3⟩ := og_fields
  rcases open_slice_fields Try.underlying22 hu hone cells_og hf with hcs | ⟨a, len, cap, hcs, hl, hi⟩
  · simp at hcs
    subst hcs
    exact ⟨none, [], 0, rfl, Nat.le_refl _, OgsR.nil_, fun o ho => by simp at ho⟩
  · simp at hcs
    subst hcs
    have each : ∀ i, i < len → ∃ l : Og, (W.cell? (a.add (i * 4)) = some (.int .u8 l.1) ∧ W.cell? (a.add (i * 4 + 1)) = some (.int .i64 l.2.1) ∧ W.cell? (a.add (i * 4 + 2)) = some (.int .i64 l.2.2.1) ∧ W.cell? (a.add (i * 4 + 3)) = some (.int .i64 l.2.2.2)) ∧ OgB l := by
      intro i hil
      obtain ⟨k, hk⟩ := hi i hil
      obtain ⟨v0, y0, c0, t0⟩ := hk 0 f0 rfl
      obtain ⟨v1, y1, c1, t1⟩ := hk 1 f1 rfl
      obtain ⟨v2, y2, c2, t2⟩ := hk 2 f2 rfl
      obtain ⟨v3, y3, c3, t3⟩ := hk 3 f3 rfl
      obtain ⟨z0, e0, _⟩ := DataW.trod_int u0 t0
      obtain ⟨z1, e1, _⟩ := DataW.trod_int u1 t1
      obtain ⟨z2, e2, _, w2⟩ := DataW.trod_int u2 t2
      obtain ⟨z3, e3, _, w3⟩ := DataW.trod_int u3 t3
      simp at e0 e1 e2 e3
      subst e0 e1 e2 e3
      have h2 := bounds_i64 w2
      have h3 := bounds_i64 w3
      exact ⟨(z0, z1, z2, z3), ⟨c0, c1, c2, c3⟩, h2.1, h2.2, h3.1, h3.2⟩
    obtain ⟨f, hf⟩ : ∃ f : Nat → Og, ∀ i, i < len → (W.cell? (a.add (i * 4)) = some (.int .u8 (f i).1) ∧ W.cell? (a.add (i * 4 + 1)) = some (.int .i64 (f i).2.1) ∧ W.cell? (a.add (i * 4 + 2)) = some (.int .i64 (f i).2.2.1) ∧ W.cell? (a.add (i * 4 + 3)) = some (.int .i64 (f i).2.2.2)) ∧ OgB (f i) :=
      ⟨fun i => if h : i < len then Classical.choose (each i h) else (0, 0, 0, 0), fun i h => by dsimp only; rw [dif_pos h]; exact Classical.choose_spec (each i h)⟩
    refine ⟨some a, (List.range len).map f, cap, by simp, by simpa using hl, fun hn => ?_, ?_⟩
    · simp at hn
      obtain ⟨b, off, spot⟩ := a
      obtain rfl : spot = none := by simpa [Addr.add] using World.cell?_spot (hf 0 (by omega)).1.1
      refine ⟨b, off, rfl, World.block_lt_of_cell? W _ (by have := (hf 0 (by omega)).1.1; rw [add_eq] at this; exact this), fun i hi => ?_⟩
      simp at hi
      obtain ⟨⟨h0, h1, h2, h3⟩, _⟩ := hf i hi
      rw [add_eq] at h0 h1 h2 h3
      have e : ((List.range len).map f).getD i (0, 0, 0, 0) = f i := by rw [List.getD_eq_getElem?_getD, List.getElem?_map, List.getElem?_range hi]; rfl
      rw [e]
      simp only [← Nat.add_assoc] at h0 h1 h2 h3
      exact ⟨h0, h1, h2, h3⟩
    · intro o ho
      rw [List.mem_map] at ho
      obtain ⟨i, hi, rfl⟩ := ho
      exact (hf i (List.mem_range.1 hi)).2
theorem open_og (hv : Value.okWide Try.prog W .any base 22 v) (h : DataW.Trod enc Try.prog W 0 (fun _ => true) true 22 v d p) :
    ∃ (A : Option Addr) (ls : List Og) (c : Nat), v = .slice A ls.length c ∧ ls.length ≤ c ∧ OgsR W W.heap.size A ls ∧ OgBs ls := by
  obtain ⟨a0, len, cap, rfl⟩ := okWide_slice Try.underlying22 hv
  obtain ⟨fuel, hf⟩ := h
  exact open_og_cell (by simpa [Value.cells] using hf)
theorem open_i (hv : Value.okWide Try.prog W .any base 3 v) (h : DataW.Trod enc Try.prog W 0 (fun _ => true) true 3 v d p) :
    ∃ x : Int, v = .int .i64 x ∧ -9223372036854775808 ≤ x ∧ x ≤ 9223372036854775807 := by
  obtain ⟨x, rfl, _, _, hw⟩ := open_int Try.underlying3 hv h
  have := bounds_i64 hw
  exact ⟨x, rfl, this.1, this.2⟩
theorem open_u8 (hv : Value.okWide Try.prog W .any base 5 v) (h : DataW.Trod enc Try.prog W 0 (fun _ => true) true 5 v d p) :
    ∃ x : Int, v = .int .u8 x ∧ 0 ≤ x ∧ x ≤ 255 := by
  obtain ⟨x, rfl, _, _, hw⟩ := open_int Try.underlying5 hv h
  simp [Lit.wf, IntKind.min, IntKind.max, IntKind.signed, IntKind.bits] at hw
  exact ⟨x, rfl, by omega, by omega⟩
end
end Go.Proofs.Ytklfijhlibpmaaa
