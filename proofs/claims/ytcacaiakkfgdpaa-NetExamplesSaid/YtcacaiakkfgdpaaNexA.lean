/- The table of NetExamples. -/
import Derived.Test.YtcacaiakkfgdpaaAnyX
import Derived.Test.YtcacaiakkfgdpaaLawF
import Derived.Test.YtcacaiakkfgdpaaLawG
import Derived.Test.YtcacaiakkfgdpaaNetB
namespace Go.Proofs.Ytcacaiakkfgdpaa
open Go.RowKit
set_option linter.unusedVariables false

/-- Block b holds just these cells. -/
def Blk (W : World) (b : Nat) (cs : Array Value) (t : TypeId) : Prop := W.heap[b]? = some (.cells cs t (0, 0))
theorem Blk.upto {W W' : World} {b : Nat} {cs : Array Value} {t : TypeId} (h : Blk W b cs t) (hb : Below W.heap.size W W') : Blk W' b cs t := (hb.block b (Array.getElem?_eq_some_iff.1 h).1).trans h
theorem Blk.new (W : World) (cs : Array Value) (t : TypeId) : Blk (W.alloc (.cells cs t)) W.heap.size cs t := heap_alloc_new W _
theorem Blk.cell {W : World} {b : Nat} {cs : Array Value} {t : TypeId} (h : Blk W b cs t) (i : Nat) : W.cell? ⟨b, i, none⟩ = cs[i]? := by simp [World.cell?, show W.heap[b]? = _ from h]
theorem Blk.lines {W : World} {b : Nat} {cs : Array Value} {t : TypeId} (h : Blk W b cs t) (ls : List Ln) (hx : cs = (lnCells ls).toArray) : LinesR W W.heap.size (some ⟨b, 0, none⟩) ls :=
  LinesR.of_block h (by rw [hx]; simp; rw [List.take_of_length_le (by have := lnCells_length ls; omega)])
theorem Blk.grown {W W' : World} {b B : Nat} {cs : Array Value} {t : TypeId} {u : Value} {xs : List Value} (h : Blk W b cs t) (hs : cs.size < 40) (hown : W.ownsRow B 51 4 u 10 xs) (hg : W.grownBy W' u.ownBlock) : Blk W' b cs t := by
  refine (hg.block b (Array.getElem?_eq_some_iff.1 h).1 ?_).trans h
  intro e
  rcases hown.2 with ⟨_, h0⟩ | ⟨g, cap, cur, rfl, _, hg', h1, _, h2, _⟩
  · omega
  · simp only [Value.ownBlock, Option.some.injEq] at e
    subst e
    rw [show W.heap[b]? = _ from h] at hg'
    simp only [Option.some.injEq, Obj.cells.injEq] at hg'
    rw [hg'.1] at hs
    omega

def tenLs : List Ln := List.replicate 10 (0, 1, 1, 0)
/-- What Check says of a row's network, now and later. -/
def RowC (W : World) (nb : Int) (A : Option Addr) (m c : Nat) (e : Int) : Prop := ∀ W', Below W.heap.size W W' → Calls Try.prog 18 #[.agg #[.int .i64 nb, .slice A m c]] W' fun x w' => x = .returned (.int .i64 e) ∧ Below W'.heap.size W' w'
theorem RowC.upto {W W' : World} {nb : Int} {A : Option Addr} {m c : Nat} {e : Int} (h : RowC W nb A m c e) (hb : Below W.heap.size W W') : RowC W' nb A m c e := fun W'' hb' => h W'' (hb.trans (hb'.mono hb.size))
theorem RowC.of {W : World} {nb : Int} {A : Option Addr} {c : Nat} {ls : List Ln} (h : LinesR W W.heap.size A ls) : RowC W nb A ls.length c (checkE nb ls) := fun W' hb => check_any nb A c ls W' (h.upto hb)
theorem check_bad (A : Option Addr) (m c : Nat) (w : World) : Calls Try.prog 18 #[.agg #[.int .i64 0, .slice A m c]] w fun x w' => x = .returned (.int .i64 1) ∧ Below w.heap.size w w' := by
  go_enter Try.func18, Try.ntmps18
  go_wp2
  go_step3
  go_wp2
  try rw [Exit.noGoto_ret]
  go_ret
  exact ⟨rfl, (Below.refl _ _).alloc (Nat.le_refl _) _⟩
theorem check_eleven (nb : Int) (h0 : ¬ nb < 1) (h1 : ¬ 6 < nb) (A : Option Addr) (c : Nat) (w : World) : Calls Try.prog 18 #[.agg #[.int .i64 nb, .slice A 11 c]] w fun x w' => x = .returned (.int .i64 5) ∧ Below w.heap.size w w' := by
  go_enter Try.func18, Try.ntmps18
  go_wp2
  go_step3
  go_wp2
  try rw [Exit.noGoto_ret]
  go_ret
  exact ⟨rfl, (Below.refl _ _).alloc (Nat.le_refl _) _⟩
def NexRows (g : Nat) (W : World) : Prop := g < W.heap.size ∧ ∀ i, i < 16 → ∃ nb A m c e, W.cell? ⟨g, i * 3, none⟩ = some (.int .i64 nb) ∧ W.cell? ⟨g, i * 3 + 1, none⟩ = some (.slice A m c) ∧ W.cell? ⟨g, i * 3 + 2, none⟩ = some (.int .i64 e) ∧ RowC W nb A m c e
theorem NexRows.upto {g : Nat} {W W' : World} (h : NexRows g W) (hb : Below W.heap.size W W') : NexRows g W' := by
  refine ⟨Nat.lt_of_lt_of_le h.1 hb.size, fun i hi => ?_⟩
  obtain ⟨nb, A, m, c, e, h1, h2, h3, h4⟩ := h.2 i hi
  exact ⟨nb, A, m, c, e, (hb.cell (p := ⟨g, i * 3, none⟩) h.1).trans h1, (hb.cell (p := ⟨g, i * 3 + 1, none⟩) h.1).trans h2, (hb.cell (p := ⟨g, i * 3 + 2, none⟩) h.1).trans h3, h4.upto hb⟩

/-- The value that each operation of the table's statement makes. -/
def nexF (B T : Nat) (done : Nat → Prop) (j : Nat) (v : Value) (W : World) : Prop :=
  match j with
  | 0 => v = .agg #[.int .i64 0, .slice none 0 0]
  | 1 => v = .agg #[.int .i64 0, .slice none 0 0, .int .i64 1]
  | 2 => v = .agg #[.int .i64 1, .slice none 0 0]
  | 3 => v = .agg #[.int .i64 1, .slice none 0 0, .int .i64 0]
  | 4 => v = .agg #[.int .i64 6, .slice none 0 0]
  | 5 => v = .agg #[.int .i64 6, .slice none 0 0, .int .i64 0]
  | 6 => v = .agg #[.int .i64 7, .slice none 0 0]
  | 7 => v = .agg #[.int .i64 7, .slice none 0 0, .int .i64 1]
  | 8 => v = .slice (some ⟨T, 0, none⟩) 10 10
  | 9 => v = .agg #[.int .i64 2, .slice (some ⟨T, 0, none⟩) 10 10]
  | 10 => v = .agg #[.int .i64 2, .slice (some ⟨T, 0, none⟩) 10 10, .int .i64 0]
  | 11 => ∃ b, v = .slice (some ⟨b, 0, none⟩) 0 0 ∧ Blk W b #[] 51 ∧ B ≤ b
  | 12 => v = .slice (some ⟨T, 0, none⟩) 10 10
  | 13 => ¬ done 16 → W.ownsRow B 51 4 v 10 (lnCells tenLs)
  | 14 => v = .agg #[.int .i64 0, .int .i64 1, .int .i64 1, .int .i64 0]
  | 15 => ∃ b, v = .slice (some ⟨b, 0, none⟩) 1 1 ∧ Blk W b #[.int .i64 0, .int .i64 1, .int .i64 1, .int .i64 0] 51
  | 16 => ∃ A c, v = .slice A 11 c
  | 17 => ∃ A c, v = .agg #[.int .i64 2, .slice A 11 c]
  | 18 => ∃ A c, v = .agg #[.int .i64 2, .slice A 11 c, .int .i64 5]
  | 19 => ∃ b, v = .slice (some ⟨b, 0, none⟩) 0 0 ∧ Blk W b #[] 51 ∧ B ≤ b
  | 20 => v = .slice (some ⟨T, 0, none⟩) 10 10
  | 21 => ¬ done 24 → W.ownsRow B 51 4 v 10 (lnCells tenLs)
  | 22 => v = .agg #[.int .i64 0, .int .i64 1, .int .i64 1, .int .i64 0]
  | 23 => ∃ b, v = .slice (some ⟨b, 0, none⟩) 1 1 ∧ Blk W b #[.int .i64 0, .int .i64 1, .int .i64 1, .int .i64 0] 51
  | 24 => ∃ A c, v = .slice A 11 c
  | 25 => ∃ A c, v = .agg #[.int .i64 0, .slice A 11 c]
  | 26 => ∃ A c, v = .agg #[.int .i64 0, .slice A 11 c, .int .i64 1]
  | 27 => ∃ b, v = .slice (some ⟨b, 0, none⟩) 0 0 ∧ Blk W b #[] 51 ∧ B ≤ b
  | 28 => v = .slice (some ⟨T, 0, none⟩) 10 10
  | 29 => ¬ done 32 → W.ownsRow B 51 4 v 10 (lnCells tenLs)
  | 30 => v = .agg #[.int .i64 0, .int .i64 1, .int .i64 1, .int .i64 0]
  | 31 => ∃ b, v = .slice (some ⟨b, 0, none⟩) 1 1 ∧ Blk W b #[.int .i64 0, .int .i64 1, .int .i64 1, .int .i64 0] 51
  | 32 => ∃ A c, v = .slice A 11 c
  | 33 => ∃ A c, v = .agg #[.int .i64 1, .slice A 11 c]
  | 34 => ∃ A c, v = .agg #[.int .i64 1, .slice A 11 c, .int .i64 5]
  | 35 => v = .agg #[.int .i64 0, .int .i64 1, .int .i64 1, .int .i64 0]
  | 36 => ∃ b, v = .slice (some ⟨b, 0, none⟩) 1 1 ∧ Blk W b #[.int .i64 0, .int .i64 1, .int .i64 1, .int .i64 0] 51
  | 37 => ∃ b, v = .agg #[.int .i64 1, .slice (some ⟨b, 0, none⟩) 1 1] ∧ Blk W b #[.int .i64 0, .int .i64 1, .int .i64 1, .int .i64 0] 51
  | 38 => ∃ b, v = .agg #[.int .i64 1, .slice (some ⟨b, 0, none⟩) 1 1, .int .i64 1] ∧ Blk W b #[.int .i64 0, .int .i64 1, .int .i64 1, .int .i64 0] 51
  | 39 => v = .agg #[.int .i64 1, .int .i64 1, .int .i64 1, .int .i64 0]
  | 40 => ∃ b, v = .slice (some ⟨b, 0, none⟩) 1 1 ∧ Blk W b #[.int .i64 1, .int .i64 1, .int .i64 1, .int .i64 0] 51
  | 41 => ∃ b, v = .agg #[.int .i64 2, .slice (some ⟨b, 0, none⟩) 1 1] ∧ Blk W b #[.int .i64 1, .int .i64 1, .int .i64 1, .int .i64 0] 51
  | 42 => ∃ b, v = .agg #[.int .i64 2, .slice (some ⟨b, 0, none⟩) 1 1, .int .i64 1] ∧ Blk W b #[.int .i64 1, .int .i64 1, .int .i64 1, .int .i64 0] 51
  | 43 => v = .agg #[.int .i64 (-1), .int .i64 1, .int .i64 1, .int .i64 0]
  | 44 => ∃ b, v = .slice (some ⟨b, 0, none⟩) 1 1 ∧ Blk W b #[.int .i64 (-1), .int .i64 1, .int .i64 1, .int .i64 0] 51
  | 45 => ∃ b, v = .agg #[.int .i64 2, .slice (some ⟨b, 0, none⟩) 1 1] ∧ Blk W b #[.int .i64 (-1), .int .i64 1, .int .i64 1, .int .i64 0] 51
  | 46 => ∃ b, v = .agg #[.int .i64 2, .slice (some ⟨b, 0, none⟩) 1 1, .int .i64 1] ∧ Blk W b #[.int .i64 (-1), .int .i64 1, .int .i64 1, .int .i64 0] 51
  | 47 => v = .agg #[.int .i64 1, .int .i64 0, .int .i64 1000, .int .i64 1000000]
  | 48 => ∃ b, v = .slice (some ⟨b, 0, none⟩) 1 1 ∧ Blk W b #[.int .i64 1, .int .i64 0, .int .i64 1000, .int .i64 1000000] 51
  | 49 => ∃ b, v = .agg #[.int .i64 2, .slice (some ⟨b, 0, none⟩) 1 1] ∧ Blk W b #[.int .i64 1, .int .i64 0, .int .i64 1000, .int .i64 1000000] 51
  | 50 => ∃ b, v = .agg #[.int .i64 2, .slice (some ⟨b, 0, none⟩) 1 1, .int .i64 0] ∧ Blk W b #[.int .i64 1, .int .i64 0, .int .i64 1000, .int .i64 1000000] 51
  | 51 => v = .agg #[.int .i64 1, .int .i64 0, .int .i64 1001, .int .i64 0]
  | 52 => ∃ b, v = .slice (some ⟨b, 0, none⟩) 1 1 ∧ Blk W b #[.int .i64 1, .int .i64 0, .int .i64 1001, .int .i64 0] 51
  | 53 => ∃ b, v = .agg #[.int .i64 2, .slice (some ⟨b, 0, none⟩) 1 1] ∧ Blk W b #[.int .i64 1, .int .i64 0, .int .i64 1001, .int .i64 0] 51
  | 54 => ∃ b, v = .agg #[.int .i64 2, .slice (some ⟨b, 0, none⟩) 1 1, .int .i64 1] ∧ Blk W b #[.int .i64 1, .int .i64 0, .int .i64 1001, .int .i64 0] 51
  | 55 => v = .agg #[.int .i64 1, .int .i64 0, .int .i64 0, .int .i64 0]
  | 56 => ∃ b, v = .slice (some ⟨b, 0, none⟩) 1 1 ∧ Blk W b #[.int .i64 1, .int .i64 0, .int .i64 0, .int .i64 0] 51
  | 57 => ∃ b, v = .agg #[.int .i64 2, .slice (some ⟨b, 0, none⟩) 1 1] ∧ Blk W b #[.int .i64 1, .int .i64 0, .int .i64 0, .int .i64 0] 51
  | 58 => ∃ b, v = .agg #[.int .i64 2, .slice (some ⟨b, 0, none⟩) 1 1, .int .i64 1] ∧ Blk W b #[.int .i64 1, .int .i64 0, .int .i64 0, .int .i64 0] 51
  | 59 => v = .agg #[.int .i64 1, .int .i64 0, .int .i64 1, .int .i64 1000001]
  | 60 => ∃ b, v = .slice (some ⟨b, 0, none⟩) 1 1 ∧ Blk W b #[.int .i64 1, .int .i64 0, .int .i64 1, .int .i64 1000001] 51
  | 61 => ∃ b, v = .agg #[.int .i64 2, .slice (some ⟨b, 0, none⟩) 1 1] ∧ Blk W b #[.int .i64 1, .int .i64 0, .int .i64 1, .int .i64 1000001] 51
  | 62 => ∃ b, v = .agg #[.int .i64 2, .slice (some ⟨b, 0, none⟩) 1 1, .int .i64 1] ∧ Blk W b #[.int .i64 1, .int .i64 0, .int .i64 1, .int .i64 1000001] 51
  | 63 => v = .agg #[.int .i64 1, .int .i64 0, .int .i64 1, .int .i64 (-1)]
  | 64 => ∃ b, v = .slice (some ⟨b, 0, none⟩) 1 1 ∧ Blk W b #[.int .i64 1, .int .i64 0, .int .i64 1, .int .i64 (-1)] 51
  | 65 => ∃ b, v = .agg #[.int .i64 2, .slice (some ⟨b, 0, none⟩) 1 1] ∧ Blk W b #[.int .i64 1, .int .i64 0, .int .i64 1, .int .i64 (-1)] 51
  | 66 => ∃ b, v = .agg #[.int .i64 2, .slice (some ⟨b, 0, none⟩) 1 1, .int .i64 1] ∧ Blk W b #[.int .i64 1, .int .i64 0, .int .i64 1, .int .i64 (-1)] 51
  | 67 => ∃ g, v = .slice (some ⟨g, 0, none⟩) 16 16 ∧ NexRows g W
  | 68 => v = .int .i64 16
  | 69 => v = .int .i64 0
  | _ => True
theorem nexF_up {B T : Nat} {done done' : Nat → Prop} {j : Nat} {v : Value} {W W' : World} (h : nexF B T done j v W) (hb : Below W.heap.size W W') (hd : ∀ p, done p → done' p) : nexF B T done' j v W' := by
  rcases j with _ | _ | _ | _ | _ | _ | _ | _ | _ | _ | _ | _ | _ | _ | _ | _ | _ | _ | _ | _ | _ | _ | _ | _ | _ | _ | _ | _ | _ | _ | _ | _ | _ | _ | _ | _ | _ | _ | _ | _ | _ | _ | _ | _ | _ | _ | _ | _ | _ | _ | _ | _ | _ | _ | _ | _ | _ | _ | _ | _ | _ | _ | _ | _ | _ | _ | _ | _ | _ | _ | j
  · exact h
  · exact h
  · exact h
  · exact h
  · exact h
  · exact h
  · exact h
  · exact h
  · exact h
  · exact h
  · exact h
  · obtain ⟨b, e, h, h2⟩ := h
    exact ⟨b, e, h.upto hb, h2⟩
  · exact h
  · exact fun hn => ownsRow_below (h fun hp => hn (hd _ hp)) hb
  · exact h
  · obtain ⟨b, e, h⟩ := h
    exact ⟨b, e, h.upto hb⟩
  · exact h
  · exact h
  · exact h
  · obtain ⟨b, e, h, h2⟩ := h
    exact ⟨b, e, h.upto hb, h2⟩
  · exact h
  · exact fun hn => ownsRow_below (h fun hp => hn (hd _ hp)) hb
  · exact h
  · obtain ⟨b, e, h⟩ := h
    exact ⟨b, e, h.upto hb⟩
  · exact h
  · exact h
  · exact h
  · obtain ⟨b, e, h, h2⟩ := h
    exact ⟨b, e, h.upto hb, h2⟩
  · exact h
  · exact fun hn => ownsRow_below (h fun hp => hn (hd _ hp)) hb
  · exact h
  · obtain ⟨b, e, h⟩ := h
    exact ⟨b, e, h.upto hb⟩
  · exact h
  · exact h
  · exact h
  · exact h
  · obtain ⟨b, e, h⟩ := h
    exact ⟨b, e, h.upto hb⟩
  · obtain ⟨b, e, h⟩ := h
    exact ⟨b, e, h.upto hb⟩
  · obtain ⟨b, e, h⟩ := h
    exact ⟨b, e, h.upto hb⟩
  · exact h
  · obtain ⟨b, e, h⟩ := h
    exact ⟨b, e, h.upto hb⟩
  · obtain ⟨b, e, h⟩ := h
    exact ⟨b, e, h.upto hb⟩
  · obtain ⟨b, e, h⟩ := h
    exact ⟨b, e, h.upto hb⟩
  · exact h
  · obtain ⟨b, e, h⟩ := h
    exact ⟨b, e, h.upto hb⟩
  · obtain ⟨b, e, h⟩ := h
    exact ⟨b, e, h.upto hb⟩
  · obtain ⟨b, e, h⟩ := h
    exact ⟨b, e, h.upto hb⟩
  · exact h
  · obtain ⟨b, e, h⟩ := h
    exact ⟨b, e, h.upto hb⟩
  · obtain ⟨b, e, h⟩ := h
    exact ⟨b, e, h.upto hb⟩
  · obtain ⟨b, e, h⟩ := h
    exact ⟨b, e, h.upto hb⟩
  · exact h
  · obtain ⟨b, e, h⟩ := h
    exact ⟨b, e, h.upto hb⟩
  · obtain ⟨b, e, h⟩ := h
    exact ⟨b, e, h.upto hb⟩
  · obtain ⟨b, e, h⟩ := h
    exact ⟨b, e, h.upto hb⟩
  · exact h
  · obtain ⟨b, e, h⟩ := h
    exact ⟨b, e, h.upto hb⟩
  · obtain ⟨b, e, h⟩ := h
    exact ⟨b, e, h.upto hb⟩
  · obtain ⟨b, e, h⟩ := h
    exact ⟨b, e, h.upto hb⟩
  · exact h
  · obtain ⟨b, e, h⟩ := h
    exact ⟨b, e, h.upto hb⟩
  · obtain ⟨b, e, h⟩ := h
    exact ⟨b, e, h.upto hb⟩
  · obtain ⟨b, e, h⟩ := h
    exact ⟨b, e, h.upto hb⟩
  · exact h
  · obtain ⟨b, e, h⟩ := h
    exact ⟨b, e, h.upto hb⟩
  · obtain ⟨b, e, h⟩ := h
    exact ⟨b, e, h.upto hb⟩
  · obtain ⟨b, e, h⟩ := h
    exact ⟨b, e, h.upto hb⟩
  · obtain ⟨g, e, h⟩ := h
    exact ⟨g, e, h.upto hb⟩
  · exact h
  · exact h
  · trivial
theorem nexF_grow {B T : Nat} {done done' : Nat → Prop} {j : Nat} {v u : Value} {xs : List Value} {W W' : World} (h : nexF B T done j v W) (hown : W.ownsRow B 51 4 u 10 xs) (hg : W.grownBy W' u.ownBlock) (hj : done j)
    (h13 : done 13 → done' 16) (h21 : done 21 → done' 24) (h29 : done 29 → done' 32) (h67 : ¬ done 67) : nexF B T done' j v W' := by
  rcases j with _ | _ | _ | _ | _ | _ | _ | _ | _ | _ | _ | _ | _ | _ | _ | _ | _ | _ | _ | _ | _ | _ | _ | _ | _ | _ | _ | _ | _ | _ | _ | _ | _ | _ | _ | _ | _ | _ | _ | _ | _ | _ | _ | _ | _ | _ | _ | _ | _ | _ | _ | _ | _ | _ | _ | _ | _ | _ | _ | _ | _ | _ | _ | _ | _ | _ | _ | _ | _ | _ | j
  · exact h
  · exact h
  · exact h
  · exact h
  · exact h
  · exact h
  · exact h
  · exact h
  · exact h
  · exact h
  · exact h
  · obtain ⟨b, e, h, h2⟩ := h
    exact ⟨b, e, h.grown (by decide) hown hg, h2⟩
  · exact h
  · exact fun hn => absurd (h13 hj) hn
  · exact h
  · obtain ⟨b, e, h⟩ := h
    exact ⟨b, e, h.grown (by decide) hown hg⟩
  · exact h
  · exact h
  · exact h
  · obtain ⟨b, e, h, h2⟩ := h
    exact ⟨b, e, h.grown (by decide) hown hg, h2⟩
  · exact h
  · exact fun hn => absurd (h21 hj) hn
  · exact h
  · obtain ⟨b, e, h⟩ := h
    exact ⟨b, e, h.grown (by decide) hown hg⟩
  · exact h
  · exact h
  · exact h
  · obtain ⟨b, e, h, h2⟩ := h
    exact ⟨b, e, h.grown (by decide) hown hg, h2⟩
  · exact h
  · exact fun hn => absurd (h29 hj) hn
  · exact h
  · obtain ⟨b, e, h⟩ := h
    exact ⟨b, e, h.grown (by decide) hown hg⟩
  · exact h
  · exact h
  · exact h
  · exact h
  · obtain ⟨b, e, h⟩ := h
    exact ⟨b, e, h.grown (by decide) hown hg⟩
  · obtain ⟨b, e, h⟩ := h
    exact ⟨b, e, h.grown (by decide) hown hg⟩
  · obtain ⟨b, e, h⟩ := h
    exact ⟨b, e, h.grown (by decide) hown hg⟩
  · exact h
  · obtain ⟨b, e, h⟩ := h
    exact ⟨b, e, h.grown (by decide) hown hg⟩
  · obtain ⟨b, e, h⟩ := h
    exact ⟨b, e, h.grown (by decide) hown hg⟩
  · obtain ⟨b, e, h⟩ := h
    exact ⟨b, e, h.grown (by decide) hown hg⟩
  · exact h
  · obtain ⟨b, e, h⟩ := h
    exact ⟨b, e, h.grown (by decide) hown hg⟩
  · obtain ⟨b, e, h⟩ := h
    exact ⟨b, e, h.grown (by decide) hown hg⟩
  · obtain ⟨b, e, h⟩ := h
    exact ⟨b, e, h.grown (by decide) hown hg⟩
  · exact h
  · obtain ⟨b, e, h⟩ := h
    exact ⟨b, e, h.grown (by decide) hown hg⟩
  · obtain ⟨b, e, h⟩ := h
    exact ⟨b, e, h.grown (by decide) hown hg⟩
  · obtain ⟨b, e, h⟩ := h
    exact ⟨b, e, h.grown (by decide) hown hg⟩
  · exact h
  · obtain ⟨b, e, h⟩ := h
    exact ⟨b, e, h.grown (by decide) hown hg⟩
  · obtain ⟨b, e, h⟩ := h
    exact ⟨b, e, h.grown (by decide) hown hg⟩
  · obtain ⟨b, e, h⟩ := h
    exact ⟨b, e, h.grown (by decide) hown hg⟩
  · exact h
  · obtain ⟨b, e, h⟩ := h
    exact ⟨b, e, h.grown (by decide) hown hg⟩
  · obtain ⟨b, e, h⟩ := h
    exact ⟨b, e, h.grown (by decide) hown hg⟩
  · obtain ⟨b, e, h⟩ := h
    exact ⟨b, e, h.grown (by decide) hown hg⟩
  · exact h
  · obtain ⟨b, e, h⟩ := h
    exact ⟨b, e, h.grown (by decide) hown hg⟩
  · obtain ⟨b, e, h⟩ := h
    exact ⟨b, e, h.grown (by decide) hown hg⟩
  · obtain ⟨b, e, h⟩ := h
    exact ⟨b, e, h.grown (by decide) hown hg⟩
  · exact h
  · obtain ⟨b, e, h⟩ := h
    exact ⟨b, e, h.grown (by decide) hown hg⟩
  · obtain ⟨b, e, h⟩ := h
    exact ⟨b, e, h.grown (by decide) hown hg⟩
  · obtain ⟨b, e, h⟩ := h
    exact ⟨b, e, h.grown (by decide) hown hg⟩
  · exact absurd hj h67
  · exact h
  · exact h
  · trivial

theorem nex_fin {W : World} {g T b38 b42 b46 b50 b54 b58 b62 b66 c18 c26 c34 : Nat} {A18 A26 A34 : Option Addr} {t : TypeId} (hT : LinesR W W.heap.size (some ⟨T, 0, none⟩) tenLs) (h38 : Blk W b38 #[.int .i64 0, .int .i64 1, .int .i64 1, .int .i64 0] 51) (h42 : Blk W b42 #[.int .i64 1, .int .i64 1, .int .i64 1, .int .i64 0] 51) (h46 : Blk W b46 #[.int .i64 (-1), .int .i64 1, .int .i64 1, .int .i64 0] 51) (h50 : Blk W b50 #[.int .i64 1, .int .i64 0, .int .i64 1000, .int .i64 1000000] 51) (h54 : Blk W b54 #[.int .i64 1, .int .i64 0, .int .i64 1001, .int .i64 0] 51) (h58 : Blk W b58 #[.int .i64 1, .int .i64 0, .int .i64 0, .int .i64 0] 51) (h62 : Blk W b62 #[.int .i64 1, .int .i64 0, .int .i64 1, .int .i64 1000001] 51) (h66 : Blk W b66 #[.int .i64 1, .int .i64 0, .int .i64 1, .int .i64 (-1)] 51)
    (hg : Blk W g #[.int .i64 0, .slice none 0 0, .int .i64 1, .int .i64 1, .slice none 0 0, .int .i64 0, .int .i64 6, .slice none 0 0, .int .i64 0, .int .i64 7, .slice none 0 0, .int .i64 1, .int .i64 2, .slice (some ⟨T, 0, none⟩) 10 10, .int .i64 0, .int .i64 2, .slice A18 11 c18, .int .i64 5, .int .i64 0, .slice A26 11 c26, .int .i64 1, .int .i64 1, .slice A34 11 c34, .int .i64 5, .int .i64 1, .slice (some ⟨b38, 0, none⟩) 1 1, .int .i64 1, .int .i64 2, .slice (some ⟨b42, 0, none⟩) 1 1, .int .i64 1, .int .i64 2, .slice (some ⟨b46, 0, none⟩) 1 1, .int .i64 1, .int .i64 2, .slice (some ⟨b50, 0, none⟩) 1 1, .int .i64 0, .int .i64 2, .slice (some ⟨b54, 0, none⟩) 1 1, .int .i64 1, .int .i64 2, .slice (some ⟨b58, 0, none⟩) 1 1, .int .i64 1, .int .i64 2, .slice (some ⟨b62, 0, none⟩) 1 1, .int .i64 1, .int .i64 2, .slice (some ⟨b66, 0, none⟩) 1 1, .int .i64 1] t) : NexRows g W := by
  refine ⟨(Array.getElem?_eq_some_iff.1 hg).1, fun i hi => ?_⟩
  have hz : ∀ k, W.cell? ⟨g, k, none⟩ = (#[.int .i64 0, .slice none 0 0, .int .i64 1, .int .i64 1, .slice none 0 0, .int .i64 0, .int .i64 6, .slice none 0 0, .int .i64 0, .int .i64 7, .slice none 0 0, .int .i64 1, .int .i64 2, .slice (some ⟨T, 0, none⟩) 10 10, .int .i64 0, .int .i64 2, .slice A18 11 c18, .int .i64 5, .int .i64 0, .slice A26 11 c26, .int .i64 1, .int .i64 1, .slice A34 11 c34, .int .i64 5, .int .i64 1, .slice (some ⟨b38, 0, none⟩) 1 1, .int .i64 1, .int .i64 2, .slice (some ⟨b42, 0, none⟩) 1 1, .int .i64 1, .int .i64 2, .slice (some ⟨b46, 0, none⟩) 1 1, .int .i64 1, .int .i64 2, .slice (some ⟨b50, 0, none⟩) 1 1, .int .i64 0, .int .i64 2, .slice (some ⟨b54, 0, none⟩) 1 1, .int .i64 1, .int .i64 2, .slice (some ⟨b58, 0, none⟩) 1 1, .int .i64 1, .int .i64 2, .slice (some ⟨b62, 0, none⟩) 1 1, .int .i64 1, .int .i64 2, .slice (some ⟨b66, 0, none⟩) 1 1, .int .i64 1] : Array Value)[k]? := fun k => hg.cell k
  match i, hi with
  | 0, _ => exact ⟨_, _, _, _, _, hz 0, hz 1, hz 2, RowC.of (ls := []) LinesR.nil_⟩
  | 1, _ => exact ⟨_, _, _, _, _, hz 3, hz 4, hz 5, RowC.of (ls := []) LinesR.nil_⟩
  | 2, _ => exact ⟨_, _, _, _, _, hz 6, hz 7, hz 8, RowC.of (ls := []) LinesR.nil_⟩
  | 3, _ => exact ⟨_, _, _, _, _, hz 9, hz 10, hz 11, RowC.of (ls := []) LinesR.nil_⟩
  | 4, _ => exact ⟨_, _, _, _, _, hz 12, hz 13, hz 14, RowC.of hT⟩
  | 5, _ => exact ⟨_, _, _, _, _, hz 15, hz 16, hz 17, fun W' _ => check_eleven 2 (by decide) (by decide) _ _ W'⟩
  | 6, _ => exact ⟨_, _, _, _, _, hz 18, hz 19, hz 20, fun W' _ => check_bad _ _ _ W'⟩
  | 7, _ => exact ⟨_, _, _, _, _, hz 21, hz 22, hz 23, fun W' _ => check_eleven 1 (by decide) (by decide) _ _ W'⟩
  | 8, _ => exact ⟨_, _, _, _, _, hz 24, hz 25, hz 26, RowC.of (h38.lines [(0, 1, 1, 0)] rfl)⟩
  | 9, _ => exact ⟨_, _, _, _, _, hz 27, hz 28, hz 29, RowC.of (h42.lines [(1, 1, 1, 0)] rfl)⟩
  | 10, _ => exact ⟨_, _, _, _, _, hz 30, hz 31, hz 32, RowC.of (h46.lines [((-1), 1, 1, 0)] rfl)⟩
  | 11, _ => exact ⟨_, _, _, _, _, hz 33, hz 34, hz 35, RowC.of (h50.lines [(1, 0, 1000, 1000000)] rfl)⟩
  | 12, _ => exact ⟨_, _, _, _, _, hz 36, hz 37, hz 38, RowC.of (h54.lines [(1, 0, 1001, 0)] rfl)⟩
  | 13, _ => exact ⟨_, _, _, _, _, hz 39, hz 40, hz 41, RowC.of (h58.lines [(1, 0, 0, 0)] rfl)⟩
  | 14, _ => exact ⟨_, _, _, _, _, hz 42, hz 43, hz 44, RowC.of (h62.lines [(1, 0, 1, 1000001)] rfl)⟩
  | 15, _ => exact ⟨_, _, _, _, _, hz 45, hz 46, hz 47, RowC.of (h66.lines [(1, 0, 1, (-1))] rfl)⟩
  | n + 16, h => exact absurd h (by omega)

theorem wp_append_fresh {P : Program} (w : World) {o : Oper} {a : Act} {K : Act → World → Prop} {Q : Exit → Act → World → Prop} (s x : Operand) (t : TypeId)
    (ho : o.op = .call { callee := .builtin .append, args := #[s, x], argTypes := #[t, t] })
    (base : Nat) (e : TypeId) (i : TypeInfo) (z : Value) (size bytes : Nat) (ht : P.underlying t = some (.slice e)) (hi : P.info? e = some i) (hz : i.zero = some z)
    (hsize : i.size = size) (hby : i.bytes = bytes) (hzs : z.cells.size = size) (hsz : 0 < size)
    (b : Nat) (hs : a.eval s = .slice (some ⟨b, 0, none⟩) 0 0) (hown : w.ownsRow base e size (.slice (some ⟨b, 0, none⟩) 0 0) 0 [])
    (ad : Addr) (m c : Nat) (news : List Value) (hx : a.eval x = .slice (some ad) m c) (hr : Src w size (some ad) m news) (h1 : ∀ u ∈ news, u.oneCell' = true)
    (hm : 0 < m) (h63 : m ≤ 1000000) (hbytes : bytes ≤ 1000) (hbase : base ≤ w.heap.size)
    (h : ∀ v' w', w'.ownsRow base e size v' m news → Below w.heap.size w w' → K (a.put o.dst v') w') : o.wp P a w K Q := by
  have hmb : m * bytes ≤ 1000000 * 1000 := Nat.mul_le_mul h63 hbytes
  obtain ⟨v', w', hrun, h2, h3, h4⟩ := run_append_any (P := P) w base t o.type e i z size bytes ht hi hz hsize hby hzs hsz _ 0 [] hown (some ad) m c news hr h1 (by simp only [maxLen]; omega) (by rw [Nat.zero_add]; omega) hbase
  obtain ⟨ad', e', hc⟩ := hr.2 hm
  injection e' with e'
  subst e'
  have hrun2 := run_append_grow (P := P) w t o.type e i z ht hi hz ⟨b, 0, none⟩ 0 0 [] (by simp) (by simp) ad m c news (by rw [hsize]; exact hr.1) hc (by omega) (by omega) (by rw [Nat.zero_add, nextslicecap_zero hm, hby]; omega)
  rw [hrun] at hrun2
  injection hrun2 with _ hw
  unfold Oper.wp execOp
  simp only [ho, resolve, invoke, builtin, Sem.run_bind, Sem.run_pure, Result.andThen_ok, List.map_toArray, List.map_cons, List.map_nil, hs, hx, hrun]
  refine h v' w' (by simpa using h2) ?_
  rw [hw]
  exact (Below.refl _ _).drew.alloc (Nat.le_refl _) _
end Go.Proofs.Ytcacaiakkfgdpaa
