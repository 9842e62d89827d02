/- NetExamples: the second table, and the last calls. -/
import Derived.Test.YtcacaiakkfgdpaaNexA
import Derived.Test.YtcacaiakkfgdpaaAwkN
import Derived.Test.YtcacaiakkfgdpaaStrB
import Derived.Test.YtcacaiakkfgdpaaUniB
namespace Go.Proofs.Ytcacaiakkfgdpaa
open Go.RowKit
set_option linter.unusedVariables false
set_option maxRecDepth 100000

def NexOuts (g : Nat) (W : World) : Prop := g < W.heap.size ∧ ∀ i, i < 6 → ∃ A xs c, W.cell? ⟨g, i * 2, none⟩ = some (.slice A xs.length c) ∧ W.cell? ⟨g, i * 2 + 1, none⟩ = some (.int .i64 (outsE 3 threeLs xs)) ∧ IntsR W W.heap.size A xs ∧ xs.length ≤ 3
theorem NexOuts.upto {g : Nat} {W W' : World} (h : NexOuts g W) (hb : Below W.heap.size W W') : NexOuts g W' := by
  refine ⟨Nat.lt_of_lt_of_le h.1 hb.size, fun i hi => ?_⟩
  obtain ⟨A, xs, c, h1, h2, h3, h4⟩ := h.2 i hi
  exact ⟨A, xs, c, (hb.cell (p := ⟨g, i * 2, none⟩) h.1).trans h1, (hb.cell (p := ⟨g, i * 2 + 1, none⟩) h.1).trans h2, h3.upto hb, h4⟩
theorem Blk.ints {W : World} {b : Nat} {cs : Array Value} {t : TypeId} (h : Blk W b cs t) (xs : List Int) (hx : cs = (xs.map (Value.int .i64)).toArray) : IntsR W W.heap.size (some ⟨b, 0, none⟩) xs := fun hn => by
  refine ⟨b, 0, rfl, (Array.getElem?_eq_some_iff.1 h).1, fun i hi => ?_⟩
  rw [h.cell, hx]
  simp [hi]
theorem atE_zero (xs : List Int) : atE 3 threeLs xs 0 = outsE 3 threeLs xs := by
  unfold atE
  by_cases h : outsE 3 threeLs xs = 0
  · rw [if_pos h, h]; rfl
  · rw [if_neg h]
theorem nex_at (A3 : Option Addr) (W : World) (hl : LinesR W W.heap.size A3 threeLs) : Calls Try.prog 22 #[.agg #[.int .i64 3, .slice A3 3 3], .slice none 0 0, .int .i64 3] W (IntsE W [] 1) := by
  have h := at_any 3 A3 none 3 0 threeLs [] 3 W hl IntsR.nil_ (by decide) (by decide)
  rw [show atL 3 threeLs [] 3 = [] by decide +kernel, show atE 3 threeLs [] 3 = 1 by decide +kernel] at h
  exact h
theorem nex_rev1 (A3 : Option Addr) (W : World) (hl : LinesR W W.heap.size A3 threeLs) : Calls Try.prog 34 #[.agg #[.int .i64 3, .slice A3 3 3], .int .i64 3] W (NetRE W 0 [] 1) := by
  have h := rev_any 3 A3 3 threeLs 3 W hl (by decide)
  rw [show revNb 3 threeLs 3 = 0 by decide +kernel, show revL 3 threeLs 3 = [] by decide +kernel, show revE 3 threeLs 3 = 1 by decide +kernel] at h
  exact h
theorem nex_rev2 (A3 : Option Addr) (W : World) (hl : LinesR W W.heap.size A3 threeLs) : Calls Try.prog 34 #[.agg #[.int .i64 3, .slice A3 3 3], .int .i64 (-1)] W (NetRE W 0 [] 1) := by
  have h := rev_any 3 A3 3 threeLs (-1) W hl (by decide)
  rw [show revNb 3 threeLs (-1) = 0 by decide +kernel, show revL 3 threeLs (-1) = [] by decide +kernel, show revE 3 threeLs (-1) = 1 by decide +kernel] at h
  exact h
theorem nex_uni1 (X : Option Addr) (W : World) (h : IntsR W W.heap.size X [0, 0]) : Calls Try.prog 29 #[.slice X 2 2, .slice none 0 0] W (IntsE W [] 1) := by
  have k := union_any X none 2 0 [0, 0] [] W h IntsR.nil_ (by decide) (by decide)
  have hn : ¬ (ascB [0, 0] = true ∧ ascB [] = true) := by decide +kernel
  rw [uniL, uniE, if_neg hn, if_neg hn] at k
  exact k
theorem nex_uni2 (X : Option Addr) (W : World) (h : IntsR W W.heap.size X [-1]) : Calls Try.prog 29 #[.slice none 0 0, .slice X 1 1] W (IntsE W [] 1) := by
  have k := union_any none X 0 1 [] [-1] W IntsR.nil_ h (by decide) (by decide)
  have hn : ¬ (ascB [] = true ∧ ascB [-1] = true) := by decide +kernel
  rw [uniL, uniE, if_neg hn, if_neg hn] at k
  exact k
theorem nex_uni3 (W : World) : Calls Try.prog 29 #[.slice none 0 0, .slice none 0 0] W (IntsE W [] 0) := by
  have k := union_any none none 0 0 [] [] W IntsR.nil_ IntsR.nil_ (by decide) (by decide)
  have hn : ascB [] = true ∧ ascB [] = true := by decide +kernel
  rw [uniL, uniE, if_pos hn, if_pos hn, unionL_eq (l := []) (by simp) (by simp)] at k
  exact k
theorem nex_outs (w5 : World) (A3 : Option Addr) : (((((((w5.alloc (.cells #[.int .i64 3, .slice A3 3 3] 24)).alloc (.cells #[.int .i64 0, .int .i64 1, .int .i64 2] 3)).alloc (.cells #[.int .i64 1, .int .i64 1] 3)).alloc (.cells #[.int .i64 2, .int .i64 1] 3)).alloc (.cells #[.int .i64 3] 3)).alloc (.cells #[.int .i64 (-1)] 3)).alloc (.cells #[.slice none 0 0, .int .i64 0, .slice (some ⟨w5.heap.size + 1, 0, none⟩) 3 3, .int .i64 0, .slice (some ⟨w5.heap.size + 1 + 1, 0, none⟩) 2 2, .int .i64 1, .slice (some ⟨w5.heap.size + 1 + 1 + 1, 0, none⟩) 2 2, .int .i64 1, .slice (some ⟨w5.heap.size + 1 + 1 + 1 + 1, 0, none⟩) 1 1, .int .i64 1, .slice (some ⟨w5.heap.size + 1 + 1 + 1 + 1 + 1, 0, none⟩) 1 1, .int .i64 1] 55)).cell? ⟨w5.heap.size, 0, none⟩ = some (.int .i64 3) ∧ (((((((w5.alloc (.cells #[.int .i64 3, .slice A3 3 3] 24)).alloc (.cells #[.int .i64 0, .int .i64 1, .int .i64 2] 3)).alloc (.cells #[.int .i64 1, .int .i64 1] 3)).alloc (.cells #[.int .i64 2, .int .i64 1] 3)).alloc (.cells #[.int .i64 3] 3)).alloc (.cells #[.int .i64 (-1)] 3)).alloc (.cells #[.slice none 0 0, .int .i64 0, .slice (some ⟨w5.heap.size + 1, 0, none⟩) 3 3, .int .i64 0, .slice (some ⟨w5.heap.size + 1 + 1, 0, none⟩) 2 2, .int .i64 1, .slice (some ⟨w5.heap.size + 1 + 1 + 1, 0, none⟩) 2 2, .int .i64 1, .slice (some ⟨w5.heap.size + 1 + 1 + 1 + 1, 0, none⟩) 1 1, .int .i64 1, .slice (some ⟨w5.heap.size + 1 + 1 + 1 + 1 + 1, 0, none⟩) 1 1, .int .i64 1] 55)).cell? ⟨w5.heap.size, 1, none⟩ = some (.slice A3 3 3) ∧ NexOuts (w5.heap.size + 1 + 1 + 1 + 1 + 1 + 1) (((((((w5.alloc (.cells #[.int .i64 3, .slice A3 3 3] 24)).alloc (.cells #[.int .i64 0, .int .i64 1, .int .i64 2] 3)).alloc (.cells #[.int .i64 1, .int .i64 1] 3)).alloc (.cells #[.int .i64 2, .int .i64 1] 3)).alloc (.cells #[.int .i64 3] 3)).alloc (.cells #[.int .i64 (-1)] 3)).alloc (.cells #[.slice none 0 0, .int .i64 0, .slice (some ⟨w5.heap.size + 1, 0, none⟩) 3 3, .int .i64 0, .slice (some ⟨w5.heap.size + 1 + 1, 0, none⟩) 2 2, .int .i64 1, .slice (some ⟨w5.heap.size + 1 + 1 + 1, 0, none⟩) 2 2, .int .i64 1, .slice (some ⟨w5.heap.size + 1 + 1 + 1 + 1, 0, none⟩) 1 1, .int .i64 1, .slice (some ⟨w5.heap.size + 1 + 1 + 1 + 1 + 1, 0, none⟩) 1 1, .int .i64 1] 55)) ∧ w5.heap.size < (((((((w5.alloc (.cells #[.int .i64 3, .slice A3 3 3] 24)).alloc (.cells #[.int .i64 0, .int .i64 1, .int .i64 2] 3)).alloc (.cells #[.int .i64 1, .int .i64 1] 3)).alloc (.cells #[.int .i64 2, .int .i64 1] 3)).alloc (.cells #[.int .i64 3] 3)).alloc (.cells #[.int .i64 (-1)] 3)).alloc (.cells #[.slice none 0 0, .int .i64 0, .slice (some ⟨w5.heap.size + 1, 0, none⟩) 3 3, .int .i64 0, .slice (some ⟨w5.heap.size + 1 + 1, 0, none⟩) 2 2, .int .i64 1, .slice (some ⟨w5.heap.size + 1 + 1 + 1, 0, none⟩) 2 2, .int .i64 1, .slice (some ⟨w5.heap.size + 1 + 1 + 1 + 1, 0, none⟩) 1 1, .int .i64 1, .slice (some ⟨w5.heap.size + 1 + 1 + 1 + 1 + 1, 0, none⟩) 1 1, .int .i64 1] 55)).heap.size ∧ Below w5.heap.size w5 (((((((w5.alloc (.cells #[.int .i64 3, .slice A3 3 3] 24)).alloc (.cells #[.int .i64 0, .int .i64 1, .int .i64 2] 3)).alloc (.cells #[.int .i64 1, .int .i64 1] 3)).alloc (.cells #[.int .i64 2, .int .i64 1] 3)).alloc (.cells #[.int .i64 3] 3)).alloc (.cells #[.int .i64 (-1)] 3)).alloc (.cells #[.slice none 0 0, .int .i64 0, .slice (some ⟨w5.heap.size + 1, 0, none⟩) 3 3, .int .i64 0, .slice (some ⟨w5.heap.size + 1 + 1, 0, none⟩) 2 2, .int .i64 1, .slice (some ⟨w5.heap.size + 1 + 1 + 1, 0, none⟩) 2 2, .int .i64 1, .slice (some ⟨w5.heap.size + 1 + 1 + 1 + 1, 0, none⟩) 1 1, .int .i64 1, .slice (some ⟨w5.heap.size + 1 + 1 + 1 + 1 + 1, 0, none⟩) 1 1, .int .i64 1] 55)) := by
  have b0 : Below w5.heap.size w5 (w5.alloc (.cells #[.int .i64 3, .slice A3 3 3] 24)) := (Below.refl _ _).alloc (Nat.le_refl _) _
  have k0 := Blk.new w5 #[.int .i64 3, .slice A3 3 3] 24
  have s0 := World.size_alloc w5 (.cells #[.int .i64 3, .slice A3 3 3] 24)
  generalize w5.alloc (.cells #[.int .i64 3, .slice A3 3 3] 24) = W0 at *
  have b1 : Below W0.heap.size W0 (W0.alloc (.cells #[.int .i64 0, .int .i64 1, .int .i64 2] 3)) := (Below.refl _ _).alloc (Nat.le_refl _) _
  have k1 := Blk.new W0 #[.int .i64 0, .int .i64 1, .int .i64 2] 3
  have s1 := World.size_alloc W0 (.cells #[.int .i64 0, .int .i64 1, .int .i64 2] 3)
  generalize W0.alloc (.cells #[.int .i64 0, .int .i64 1, .int .i64 2] 3) = W1 at *
  have b2 : Below W1.heap.size W1 (W1.alloc (.cells #[.int .i64 1, .int .i64 1] 3)) := (Below.refl _ _).alloc (Nat.le_refl _) _
  have k2 := Blk.new W1 #[.int .i64 1, .int .i64 1] 3
  have s2 := World.size_alloc W1 (.cells #[.int .i64 1, .int .i64 1] 3)
  generalize W1.alloc (.cells #[.int .i64 1, .int .i64 1] 3) = W2 at *
  have b3 : Below W2.heap.size W2 (W2.alloc (.cells #[.int .i64 2, .int .i64 1] 3)) := (Below.refl _ _).alloc (Nat.le_refl _) _
  have k3 := Blk.new W2 #[.int .i64 2, .int .i64 1] 3
  have s3 := World.size_alloc W2 (.cells #[.int .i64 2, .int .i64 1] 3)
  generalize W2.alloc (.cells #[.int .i64 2, .int .i64 1] 3) = W3 at *
  have b4 : Below W3.heap.size W3 (W3.alloc (.cells #[.int .i64 3] 3)) := (Below.refl _ _).alloc (Nat.le_refl _) _
  have k4 := Blk.new W3 #[.int .i64 3] 3
  have s4 := World.size_alloc W3 (.cells #[.int .i64 3] 3)
  generalize W3.alloc (.cells #[.int .i64 3] 3) = W4 at *
  have b5 : Below W4.heap.size W4 (W4.alloc (.cells #[.int .i64 (-1)] 3)) := (Below.refl _ _).alloc (Nat.le_refl _) _
  have k5 := Blk.new W4 #[.int .i64 (-1)] 3
  have s5 := World.size_alloc W4 (.cells #[.int .i64 (-1)] 3)
  generalize W4.alloc (.cells #[.int .i64 (-1)] 3) = W5 at *
  have b6 : Below W5.heap.size W5 (W5.alloc (.cells #[.slice none 0 0, .int .i64 0, .slice (some ⟨w5.heap.size + 1, 0, none⟩) 3 3, .int .i64 0, .slice (some ⟨w5.heap.size + 1 + 1, 0, none⟩) 2 2, .int .i64 1, .slice (some ⟨w5.heap.size + 1 + 1 + 1, 0, none⟩) 2 2, .int .i64 1, .slice (some ⟨w5.heap.size + 1 + 1 + 1 + 1, 0, none⟩) 1 1, .int .i64 1, .slice (some ⟨w5.heap.size + 1 + 1 + 1 + 1 + 1, 0, none⟩) 1 1, .int .i64 1] 55)) := (Below.refl _ _).alloc (Nat.le_refl _) _
  have k6 := Blk.new W5 #[.slice none 0 0, .int .i64 0, .slice (some ⟨w5.heap.size + 1, 0, none⟩) 3 3, .int .i64 0, .slice (some ⟨w5.heap.size + 1 + 1, 0, none⟩) 2 2, .int .i64 1, .slice (some ⟨w5.heap.size + 1 + 1 + 1, 0, none⟩) 2 2, .int .i64 1, .slice (some ⟨w5.heap.size + 1 + 1 + 1 + 1, 0, none⟩) 1 1, .int .i64 1, .slice (some ⟨w5.heap.size + 1 + 1 + 1 + 1 + 1, 0, none⟩) 1 1, .int .i64 1] 55
  have s6 := World.size_alloc W5 (.cells #[.slice none 0 0, .int .i64 0, .slice (some ⟨w5.heap.size + 1, 0, none⟩) 3 3, .int .i64 0, .slice (some ⟨w5.heap.size + 1 + 1, 0, none⟩) 2 2, .int .i64 1, .slice (some ⟨w5.heap.size + 1 + 1 + 1, 0, none⟩) 2 2, .int .i64 1, .slice (some ⟨w5.heap.size + 1 + 1 + 1 + 1, 0, none⟩) 1 1, .int .i64 1, .slice (some ⟨w5.heap.size + 1 + 1 + 1 + 1 + 1, 0, none⟩) 1 1, .int .i64 1] 55)
  generalize W5.alloc (.cells #[.slice none 0 0, .int .i64 0, .slice (some ⟨w5.heap.size + 1, 0, none⟩) 3 3, .int .i64 0, .slice (some ⟨w5.heap.size + 1 + 1, 0, none⟩) 2 2, .int .i64 1, .slice (some ⟨w5.heap.size + 1 + 1 + 1, 0, none⟩) 2 2, .int .i64 1, .slice (some ⟨w5.heap.size + 1 + 1 + 1 + 1, 0, none⟩) 1 1, .int .i64 1, .slice (some ⟨w5.heap.size + 1 + 1 + 1 + 1 + 1, 0, none⟩) 1 1, .int .i64 1] 55) = W6 at *
  replace k0 := k0.upto b1
  replace k0 := k0.upto b2
  replace k0 := k0.upto b3
  replace k0 := k0.upto b4
  replace k0 := k0.upto b5
  replace k0 := k0.upto b6
  replace k1 := k1.upto b2
  replace k1 := k1.upto b3
  replace k1 := k1.upto b4
  replace k1 := k1.upto b5
  replace k1 := k1.upto b6
  replace k2 := k2.upto b3
  replace k2 := k2.upto b4
  replace k2 := k2.upto b5
  replace k2 := k2.upto b6
  replace k3 := k3.upto b4
  replace k3 := k3.upto b5
  replace k3 := k3.upto b6
  replace k4 := k4.upto b5
  replace k4 := k4.upto b6
  replace k5 := k5.upto b6
  have hb := ((((((b0.trans (b1.mono (by omega))).trans (b2.mono (by omega))).trans (b3.mono (by omega))).trans (b4.mono (by omega))).trans (b5.mono (by omega))).trans (b6.mono (by omega)))
  rw [show W0.heap.size = w5.heap.size + 1 by omega] at k1
  rw [show W1.heap.size = w5.heap.size + 1 + 1 by omega] at k2
  rw [show W2.heap.size = w5.heap.size + 1 + 1 + 1 by omega] at k3
  rw [show W3.heap.size = w5.heap.size + 1 + 1 + 1 + 1 by omega] at k4
  rw [show W4.heap.size = w5.heap.size + 1 + 1 + 1 + 1 + 1 by omega] at k5
  rw [show W5.heap.size = w5.heap.size + 1 + 1 + 1 + 1 + 1 + 1 by omega] at k6
  refine ⟨by rw [k0.cell]; rfl, by rw [k0.cell]; rfl, ⟨by omega, fun i hi => ?_⟩, by omega, hb⟩
  have hz : ∀ k, W6.cell? ⟨w5.heap.size + 1 + 1 + 1 + 1 + 1 + 1, k, none⟩ = (#[.slice none 0 0, .int .i64 0, .slice (some ⟨w5.heap.size + 1, 0, none⟩) 3 3, .int .i64 0, .slice (some ⟨w5.heap.size + 1 + 1, 0, none⟩) 2 2, .int .i64 1, .slice (some ⟨w5.heap.size + 1 + 1 + 1, 0, none⟩) 2 2, .int .i64 1, .slice (some ⟨w5.heap.size + 1 + 1 + 1 + 1, 0, none⟩) 1 1, .int .i64 1, .slice (some ⟨w5.heap.size + 1 + 1 + 1 + 1 + 1, 0, none⟩) 1 1, .int .i64 1] : Array Value)[k]? := fun k => k6.cell k
  match i, hi with
  | 0, _ => exact ⟨none, [], 0, hz 0, (hz 1).trans (by rw [show outsE 3 threeLs [] = 0 by decide +kernel]; rfl), IntsR.nil_, by decide⟩
  | 1, _ => exact ⟨_, [0, 1, 2], 3, hz 2, (hz 3).trans (by rw [show outsE 3 threeLs [0, 1, 2] = 0 by decide +kernel]; rfl), k1.ints [0, 1, 2] rfl, by decide⟩
  | 2, _ => exact ⟨_, [1, 1], 2, hz 4, (hz 5).trans (by rw [show outsE 3 threeLs [1, 1] = 1 by decide +kernel]; rfl), k2.ints [1, 1] rfl, by decide⟩
  | 3, _ => exact ⟨_, [2, 1], 2, hz 6, (hz 7).trans (by rw [show outsE 3 threeLs [2, 1] = 1 by decide +kernel]; rfl), k3.ints [2, 1] rfl, by decide⟩
  | 4, _ => exact ⟨_, [3], 1, hz 8, (hz 9).trans (by rw [show outsE 3 threeLs [3] = 1 by decide +kernel]; rfl), k4.ints [3] rfl, by decide⟩
  | 5, _ => exact ⟨_, [(-1)], 1, hz 10, (hz 11).trans (by rw [show outsE 3 threeLs [(-1)] = 1 by decide +kernel]; rfl), k5.ints [(-1)] rfl, by decide⟩
  | n + 6, h => exact absurd h (by omega)
end Go.Proofs.Ytcacaiakkfgdpaa
