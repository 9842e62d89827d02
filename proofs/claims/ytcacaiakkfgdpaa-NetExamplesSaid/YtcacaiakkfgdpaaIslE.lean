/- The contracts of five, awake and Long. -/
import Derived.Test.YtcacaiakkfgdpaaIslN
namespace Go.Proofs.Ytcacaiakkfgdpaa
open Go.RowKit
set_option linter.unusedVariables false

def fiveLs : List Ln := [(0, 3, 1, 0), (3, 1, 1, 0), (2, 4, 1, 0)]

/-- A network comes back, its lines in memory. -/
def NetE (w : World) (nb : Int) (ls : List Ln) (e : Ending) (w' : World) : Prop :=
  ∃ A, e = .returned (.agg #[.int .i64 nb, .slice A ls.length ls.length]) ∧ LinesR w' w'.heap.size A ls ∧ Below w.heap.size w w'

/-- The cells of lines. -/
def lnCells (ls : List Ln) : List Value := ls.flatMap fun l => [.int .i64 l.1, .int .i64 l.2.1, .int .i64 l.2.2.1, .int .i64 l.2.2.2]
theorem lnCells_at (ls : List Ln) : ∀ (i : Nat), i < ls.length → (lnCells ls)[i * 4]? = some (.int .i64 (ls.getD i (0, 0, 0, 0)).1) ∧ (lnCells ls)[i * 4 + 1]? = some (.int .i64 (ls.getD i (0, 0, 0, 0)).2.1) ∧
    (lnCells ls)[i * 4 + 2]? = some (.int .i64 (ls.getD i (0, 0, 0, 0)).2.2.1) ∧ (lnCells ls)[i * 4 + 3]? = some (.int .i64 (ls.getD i (0, 0, 0, 0)).2.2.2) := by
  induction ls with
  | nil => intro i hi; simp at hi
  | cons l ls ih =>
    intro i hi
    cases i with
    | zero => simp [lnCells]
    | succ i =>
      have := ih i (by simpa using hi)
      have e : lnCells (l :: ls) = [.int .i64 l.1, .int .i64 l.2.1, .int .i64 l.2.2.1, .int .i64 l.2.2.2] ++ lnCells ls := by simp [lnCells]
      rw [e]
      have a0 : (i + 1) * 4 = 4 + i * 4 := by omega
      have a1 : (i + 1) * 4 + 1 = 4 + (i * 4 + 1) := by omega
      have a2 : (i + 1) * 4 + 2 = 4 + (i * 4 + 2) := by omega
      have a3 : (i + 1) * 4 + 3 = 4 + (i * 4 + 3) := by omega
      rw [a1, a2, a3, a0]
      rw [List.getElem?_append_right (by simp), List.getElem?_append_right (by simp), List.getElem?_append_right (by simp), List.getElem?_append_right (by simp)]
      simpa using this
/-- A block whose first cells are these lines. -/
theorem LinesR.of_block {w : World} {g : Nat} {cs : Array Value} {t : TypeId} {fz : Nat × Nat} {ls : List Ln} (h : w.heap[g]? = some (.cells cs t fz)) (hc : cs.toList.take (ls.length * 4) = lnCells ls) : LinesR w w.heap.size (some ⟨g, 0, none⟩) ls := fun hn => by
  refine ⟨g, 0, rfl, (Array.getElem?_eq_some_iff.1 h).1, fun i hi => ?_⟩
  have hcell : ∀ j, j < ls.length * 4 → w.cell? ⟨g, 0 + j, none⟩ = (lnCells ls)[j]? := by
    intro j hj
    rw [← hc, List.getElem?_take_of_lt hj]
    simp [World.cell?, h]
  obtain ⟨h0, h1, h2, h3⟩ := lnCells_at ls i hi
  have g0 := hcell (i * 4) (by omega)
  have g1 := hcell (i * 4 + 1) (by omega)
  have g2 := hcell (i * 4 + 2) (by omega)
  have g3 := hcell (i * 4 + 3) (by omega)
  simp only [← Nat.add_assoc] at g0 g1 g2 g3
  exact ⟨g0.trans h0, g1.trans h1, g2.trans h2, g3.trans h3⟩
theorem lnCells_length (ls : List Ln) : (lnCells ls).length = ls.length * 4 := by
  induction ls with
  | nil => rfl
  | cons l ls ih =>
    have e : lnCells (l :: ls) = [.int .i64 l.1, .int .i64 l.2.1, .int .i64 l.2.2.1, .int .i64 l.2.2.2] ++ lnCells ls := by simp [lnCells]
    rw [e, List.length_append, ih]
    simp
    omega
theorem LinesR.lit (w : World) (t : TypeId) (ls : List Ln) (cs : Array Value) (h : cs = (lnCells ls).toArray) : LinesR (w.alloc (.cells cs t)) (w.heap.size + 1) (some ⟨w.heap.size, 0, none⟩) ls := by
  have hl := lnCells_length ls
  have := LinesR.of_block (w := w.alloc (.cells cs t)) (g := w.heap.size) (ls := ls) (heap_alloc_new w _) (by rw [h]; simp; rw [List.take_of_length_le (by omega)])
  rwa [World.size_alloc] at this
theorem IntsR.lit (w : World) (t : TypeId) (xs : List Int) (cs : Array Value) (h : cs = (xs.map (Value.int .i64)).toArray) : IntsR (w.alloc (.cells cs t)) (w.heap.size + 1) (some ⟨w.heap.size, 0, none⟩) xs := fun hn => by
  refine ⟨w.heap.size, 0, rfl, by omega, fun i hi => ?_⟩
  rw [cell_alloc_at _ _ _ _ _ rfl, h]
  simp [hi]

theorem ints_same (A A' : Option Addr) (c c' : Nat) (xs : List Int) (w : World) (hx : IntsR w w.heap.size A xs) (hy : IntsR w w.heap.size A' xs) (h1 : xs.length ≤ 1000000) :
    Calls Try.prog 23 #[.slice A xs.length c, .slice A' xs.length c'] w fun e w' => e = .returned (.bool true) ∧ Below w.heap.size w w' := by
  refine (ints_any A A' c c' xs xs w hx hy h1 h1).mono ?_
  rintro e w' ⟨rfl, n, rfl⟩
  exact ⟨by simp, below_drewN (Below.refl _ _) n⟩
theorem IntsR.litU (w : World) (t : TypeId) (xs : List Int) (cs : Array Value) (h : cs = (xs.map (Value.int .i64)).toArray) : IntsR (w.alloc (.cells cs t)) (w.alloc (.cells cs t)).heap.size (some ⟨w.heap.size, 0, none⟩) xs := by
  rw [World.size_alloc]; exact IntsR.lit w t xs cs h

set_option maxHeartbeats 1000000 in
theorem five_any (w : World) : Calls Try.prog 49 #[] w (NetE w 5 fiveLs) := by
  go_enter Try.func49, Try.ntmps49
  go_wp2
  refine bodyPost_ret (v := .agg #[.int .i64 5, .slice (some ⟨w.heap.size + 1, 0, none⟩) 3 3]) (by simp [results, Try.results49, go_sem]) rfl ⟨_, rfl, ?_, ?_⟩
  · have h := LinesR.lit (w.alloc (.cells #[.int .i64 5, .slice (some ⟨w.heap.size + 1, 0, none⟩) 3 3] 24)) 51 fiveLs _ (by rfl)
    rw [World.size_alloc] at h
    rw [World.size_alloc, World.size_alloc]
    exact h
  · exact below_alloc2 _ _ _

theorem five_outs : outsE 5 fiveLs [] = 0 ∧ outsE 5 fiveLs [1] = 0 := by decide
theorem five_of : ofL 5 fiveLs [] = [0, 0, 1, 0, 1] ∧ refsL 5 fiveLs [] = [0, 2] ∧ ofL 5 fiveLs [1] = [0, 1, 2, 0, 2] ∧ refsL 5 fiveLs [1] = [0, 1, 2] := by decide

set_option maxRecDepth 100000 in
set_option maxHeartbeats 4000000 in
theorem awake_any (w : World) : Calls Try.prog 35 #[] w fun e w' => e = .returned (.bool true) ∧ Below w.heap.size w w' := by
  have k1 := fun A W hl => of_any 5 A none 3 0 fiveLs [] W hl IntsR.nil_ (by decide) (by decide)
  have k2 := fun A W hl => refs_any 5 A none 3 0 fiveLs [] W hl IntsR.nil_ (by decide) (by decide)
  have k3 := fun A A' W hl ho => of_any 5 A A' 3 1 fiveLs [1] W hl ho (by decide) (by decide)
  have k4 := fun A A' W hl ho => refs_any 5 A A' 3 1 fiveLs [1] W hl ho (by decide) (by decide)
  rw [five_outs.1, five_of.1] at k1
  rw [five_outs.1, five_of.2.1] at k2
  rw [five_outs.2, five_of.2.2.1] at k3
  rw [five_outs.2, five_of.2.2.2] at k4
  have K1 := Lib.hid k1
  have K2 := Lib.hid k2
  have K3 := Lib.hid k3
  have K4 := Lib.hid k4
  clear k1 k2 k3 k4
  go_enter Try.func35, Try.ntmps35
  go_wp2_with fail
  refine (five_any _).mono ?_
  rintro e w1 ⟨A1, rfl, hl1, hb1⟩
  have HB1 := Lib.hid hb1
  have HL1 := Lib.hid hl1
  clear hb1 hl1
  go_wp2_with fail
  refine (K1.out _ _ HL1.out).mono ?_
  rintro e w2 ⟨v, rfl, hown, hb2⟩
  obtain ⟨B1, d1, rfl, hI1⟩ := ownsRow_ints hown
  have HB2 := Lib.hid (HB1.out.trans (hb2.mono HB1.out.size))
  have HI1 := Lib.hid hI1
  clear hown hb2 hI1 HB1 HL1
  go_wp2_with fail
  refine (five_any _).mono ?_
  rintro e w3 ⟨A2, rfl, hl, hb⟩
  have HB3 := Lib.hid (HB2.out.trans (hb.mono HB2.out.size))
  have HL := Lib.hid hl
  have HI1' := Lib.hid (HI1.out.upto hb)
  clear hb hl HI1
  go_wp2_with fail
  refine (K2.out _ _ HL.out).mono ?_
  rintro e w4 ⟨v, rfl, hown, hb⟩
  obtain ⟨B2, d2, rfl, hI⟩ := ownsRow_ints hown
  have HB4 := Lib.hid (HB3.out.trans (hb.mono HB3.out.size))
  have HI1 := Lib.hid (HI1'.out.upto hb)
  have HI2 := Lib.hid hI
  clear hown hb hI HI1' HL
  go_wp2_with fail
  refine (five_any _).mono ?_
  rintro e w5 ⟨A3, rfl, hl, hb⟩
  have HB5 := Lib.hid (HB4.out.trans (hb.mono HB4.out.size))
  have HL := Lib.hid hl
  have HI1' := Lib.hid (HI1.out.upto hb)
  have HI2' := Lib.hid (HI2.out.upto hb)
  clear hb hl HI1 HI2
  go_wp2_with fail
  refine (K3.out _ _ _ (by rw [World.size_alloc]; exact (HL.out.alloc (Nat.le_refl _) _).more (by omega)) (IntsR.litU _ _ _ _ rfl)).mono ?_
  rintro e w6 ⟨v, rfl, hown, hb⟩
  obtain ⟨B3, d3, rfl, hI⟩ := ownsRow_ints hown
  have hb' := ((Below.refl w5.heap.size w5).alloc (Nat.le_refl _) (.cells #[.int .i64 1] 3)).trans (hb.mono (by simp))
  have HB6 := Lib.hid (HB5.out.trans (hb'.mono HB5.out.size))
  have HI1 := Lib.hid (HI1'.out.upto hb')
  have HI2 := Lib.hid (HI2'.out.upto hb')
  have HI3 := Lib.hid hI
  clear hown hb hI HI1' HI2' HL hb'
  go_wp2_with fail
  refine (five_any _).mono ?_
  rintro e w7 ⟨A4, rfl, hl, hb⟩
  have HB7 := Lib.hid (HB6.out.trans (hb.mono HB6.out.size))
  have HL := Lib.hid hl
  have HI1' := Lib.hid (HI1.out.upto hb)
  have HI2' := Lib.hid (HI2.out.upto hb)
  have HI3' := Lib.hid (HI3.out.upto hb)
  clear hb hl HI1 HI2 HI3
  go_wp2_with fail
  refine (K4.out _ _ _ (by rw [World.size_alloc]; exact (HL.out.alloc (Nat.le_refl _) _).more (by omega)) (IntsR.litU _ _ _ _ rfl)).mono ?_
  rintro e w8 ⟨v, rfl, hown, hb⟩
  obtain ⟨B4, d4, rfl, hI⟩ := ownsRow_ints hown
  have hb' := ((Below.refl w7.heap.size w7).alloc (Nat.le_refl _) (.cells #[.int .i64 1] 3)).trans (hb.mono (by simp))
  have HB8 := Lib.hid (HB7.out.trans (hb'.mono HB7.out.size))
  have HI1 := Lib.hid (HI1'.out.upto hb')
  have HI2 := Lib.hid (HI2'.out.upto hb')
  have HI3 := Lib.hid (HI3'.out.upto hb')
  have HI4 := Lib.hid hI
  clear hown hb hI HI1' HI2' HI3' HL hb'
  go_wp2_with fail
  refine (ints_same _ _ _ _ [0, 0, 1, 0, 1] _ (by rw [World.size_alloc]; exact (HI1.out.alloc (Nat.le_refl _) _).more (by omega)) (IntsR.litU _ _ _ _ rfl) (by decide)).mono ?_
  rintro e w9 ⟨rfl, hb⟩
  have hb' := ((Below.refl w8.heap.size w8).alloc (Nat.le_refl _) (.cells #[.int .i64 0, .int .i64 0, .int .i64 1, .int .i64 0, .int .i64 1] 3)).trans (hb.mono (by simp))
  have HB9 := Lib.hid (HB8.out.trans (hb'.mono HB8.out.size))
  replace HI2 := Lib.hid (HI2.out.upto hb')
  replace HI3 := Lib.hid (HI3.out.upto hb')
  replace HI4 := Lib.hid (HI4.out.upto hb')
  clear hb hb'
  go_wp2_with fail
  refine (ints_same _ _ _ _ [0, 2] _ (by rw [World.size_alloc]; exact (HI2.out.alloc (Nat.le_refl _) _).more (by omega)) (IntsR.litU _ _ _ _ rfl) (by decide)).mono ?_
  rintro e w10 ⟨rfl, hb⟩
  have hb' := ((Below.refl w9.heap.size w9).alloc (Nat.le_refl _) (.cells #[.int .i64 0, .int .i64 2] 3)).trans (hb.mono (by simp))
  have HB10 := Lib.hid (HB9.out.trans (hb'.mono HB9.out.size))
  replace HI3 := Lib.hid (HI3.out.upto hb')
  replace HI4 := Lib.hid (HI4.out.upto hb')
  clear hb hb'
  go_wp2_with fail
  refine (ints_same _ _ _ _ [0, 1, 2, 0, 2] _ (by rw [World.size_alloc]; exact (HI3.out.alloc (Nat.le_refl _) _).more (by omega)) (IntsR.litU _ _ _ _ rfl) (by decide)).mono ?_
  rintro e w11 ⟨rfl, hb⟩
  have hb' := ((Below.refl w10.heap.size w10).alloc (Nat.le_refl _) (.cells #[.int .i64 0, .int .i64 1, .int .i64 2, .int .i64 0, .int .i64 2] 3)).trans (hb.mono (by simp))
  have HB11 := Lib.hid (HB10.out.trans (hb'.mono HB10.out.size))
  replace HI4 := Lib.hid (HI4.out.upto hb')
  clear hb hb'
  go_wp2_with fail
  refine (ints_same _ _ _ _ [0, 1, 2] _ (by rw [World.size_alloc]; exact (HI4.out.alloc (Nat.le_refl _) _).more (by omega)) (IntsR.litU _ _ _ _ rfl) (by decide)).mono ?_
  rintro e w12 ⟨rfl, hb⟩
  have hb' := ((Below.refl w11.heap.size w11).alloc (Nat.le_refl _) (.cells #[.int .i64 0, .int .i64 1, .int .i64 2] 3)).trans (hb.mono (by simp))
  have HB12 := Lib.hid (HB11.out.trans (hb'.mono HB11.out.size))
  clear hb hb'
  go_wp2_with fail
  go_ret
  exact ⟨rfl, HB12.out⟩
end Go.Proofs.Ytcacaiakkfgdpaa
