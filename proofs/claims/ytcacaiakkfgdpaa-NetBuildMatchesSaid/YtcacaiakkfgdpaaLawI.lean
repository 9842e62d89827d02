/- What holds between the steps of NetBuildMatches. -/
import Derived.Test.YtcacaiakkfgdpaaLawG
import Derived.Test.YtcacaiakkfgdpaaLawH
namespace Go.Proofs.Ytcacaiakkfgdpaa
open Go.RowKit
set_option linter.unusedVariables false

/-- Before the rounds: the two boxes for what is wanted. -/
structure NbmW (w0 : World) (sb : Int) (sl : List Ln) (sk : List Int) (tb : Int) (tl : List Ln) (Ai : Option Addr) (ci : Nat) (W : World) : Prop where
  want : ∃ Aw cw, W.cell? ⟨w0.heap.size, 0, none⟩ = some (.int .i64 sb) ∧ W.cell? ⟨w0.heap.size, 1, none⟩ = some (.slice Aw sl.length cw) ∧ W.ownsRow (w0.heap.size + 2) 51 4 (.slice Aw sl.length cw) sl.length (lnCells sl)
  ints : W.ownsRow (w0.heap.size + 2) 3 1 (.slice Ai sk.length ci) sk.length (sk.map (Value.int .i64))
  turn : ∃ At ct, W.cell? ⟨w0.heap.size + 1, 0, none⟩ = some (.int .i64 tb) ∧ W.cell? ⟨w0.heap.size + 1, 1, none⟩ = some (.slice At tl.length ct) ∧ W.ownsRow (w0.heap.size + 2) 51 4 (.slice At tl.length ct) tl.length (lnCells tl)
  froz : ∀ i, i < 2 → ∀ j, W.frozen? ⟨w0.heap.size + i, j, none⟩ = false
  size : w0.heap.size + 2 ≤ W.heap.size
  below : Below w0.heap.size w0 W
theorem nbmW_start (w0 : World) : NbmW w0 0 [] [] 0 [] none 0 ((w0.alloc (.cells #[.int .i64 0, .slice none 0 0] 24)).alloc (.cells #[.int .i64 0, .slice none 0 0] 24)) :=
  ⟨⟨none, 0, by simp, by simp, World.ownsRow_nil _ _ _ _⟩, World.ownsRow_nil _ _ _ _, ⟨none, 0, by simp, by simp, World.ownsRow_nil _ _ _ _⟩, fun i hi j => by
    rcases (by omega : i = 0 ∨ i = 1) with rfl | rfl <;> simp, by simp, below_alloc2 _ _ _⟩
section
variable {w0 W W' : World} {sb tb : Int} {sl tl : List Ln} {sk : List Int} {Ai : Option Addr} {ci : Nat}
theorem NbmW.up (h : NbmW w0 sb sl sk tb tl Ai ci W) (hb : Below W.heap.size W W') : NbmW w0 sb sl sk tb tl Ai ci W' := by
  have hs := h.size
  have l0 : w0.heap.size < W.heap.size := by omega
  have l1 : w0.heap.size + 1 < W.heap.size := by omega
  obtain ⟨Aw, cw, x0, x1, ho⟩ := h.want
  obtain ⟨At, ct, y0, y1, hq⟩ := h.turn
  exact ⟨⟨Aw, cw, (hb.cell (p := ⟨w0.heap.size, 0, none⟩) l0).trans x0, (hb.cell (p := ⟨w0.heap.size, 1, none⟩) l0).trans x1, ownsRow_below ho hb⟩, ownsRow_below h.ints hb,
    ⟨At, ct, (hb.cell (p := ⟨w0.heap.size + 1, 0, none⟩) l1).trans y0, (hb.cell (p := ⟨w0.heap.size + 1, 1, none⟩) l1).trans y1, ownsRow_below hq hb⟩,
    fun i hi j => (hb.frozen (p := ⟨w0.heap.size + i, j, none⟩) (by show w0.heap.size + i < _; omega)).trans (h.froz i hi j), Nat.le_trans hs hb.size, h.below.trans (hb.mono h.below.size)⟩
theorem NbmW.setWant (h : NbmW w0 sb sl sk tb tl Ai ci W) {nb : Int} {ms : List Ln} {ks : List Int} {Aw Ak : Option Addr} {cw ck : Nat} (h1 : W.ownsRow (w0.heap.size + 2) 51 4 (.slice Aw ms.length cw) ms.length (lnCells ms)) (h2 : W.ownsRow (w0.heap.size + 2) 3 1 (.slice Ak ks.length ck) ks.length (ks.map (Value.int .i64))) :
    NbmW w0 nb ms ks tb tl Ak ck ((W.setCell ⟨w0.heap.size, 0, none⟩ (.int .i64 nb)).setCell ⟨w0.heap.size, 1, none⟩ (.slice Aw ms.length cw)) := by
  obtain ⟨A0, c0, x0, x1, _⟩ := h.want
  obtain ⟨At, ct, y0, y1, hq⟩ := h.turn
  have o1 : ∀ (i : Nat) (v : Value) (V : World) {e : TypeId} {z : Nat} {u : Value} {n : Nat} {xs : List Value}, V.ownsRow (w0.heap.size + 2) e z u n xs → (V.setCell ⟨w0.heap.size, i, none⟩ v).ownsRow (w0.heap.size + 2) e z u n xs := fun i v V {e z u n xs} hh =>
    ownsRow_set hh (p := ⟨w0.heap.size, i, none⟩) (by show w0.heap.size < _; omega) v
  have c1 : ∀ (i j : Nat) (v : Value) (V : World), (V.setCell ⟨w0.heap.size, i, none⟩ v).cell? ⟨w0.heap.size + 1, j, none⟩ = V.cell? ⟨w0.heap.size + 1, j, none⟩ := fun i j v V => World.cell?_setCell_other _ _ _ _ (by intro e; injection e with e1; omega)
  refine ⟨⟨Aw, cw, ?_, ?_, o1 _ _ _ (o1 _ _ _ h1)⟩, o1 _ _ _ (o1 _ _ _ h2), ⟨At, ct, by rw [c1, c1]; exact y0, by rw [c1, c1]; exact y1, o1 _ _ _ (o1 _ _ _ hq)⟩, fun i hi j => by rw [World.frozen?_setCell, World.frozen?_setCell]; exact h.froz i hi j, by simpa using h.size, (h.below.setCell (p := ⟨w0.heap.size, 0, none⟩) (Nat.le_refl _) _).setCell (p := ⟨w0.heap.size, 1, none⟩) (Nat.le_refl _) _⟩
  · rw [World.cell?_setCell_other _ _ _ _ (by simp)]; exact World.cell?_setCell_same _ _ _ x0
  · refine World.cell?_setCell_same _ _ _ (u := .slice A0 sl.length c0) ?_
    rw [World.cell?_setCell_other _ _ _ _ (by simp)]; exact x1
theorem NbmW.setTurn (h : NbmW w0 sb sl sk tb tl Ai ci W) {nb : Int} {ms : List Ln} {Aw : Option Addr} {cw : Nat} (h1 : W.ownsRow (w0.heap.size + 2) 51 4 (.slice Aw ms.length cw) ms.length (lnCells ms)) :
    NbmW w0 sb sl sk nb ms Ai ci ((W.setCell ⟨w0.heap.size + 1, 0, none⟩ (.int .i64 nb)).setCell ⟨w0.heap.size + 1, 1, none⟩ (.slice Aw ms.length cw)) := by
  obtain ⟨A0, c0, x0, x1, hq⟩ := h.want
  obtain ⟨At, ct, y0, y1, _⟩ := h.turn
  have o1 : ∀ (i : Nat) (v : Value) (V : World) {e : TypeId} {z : Nat} {u : Value} {n : Nat} {xs : List Value}, V.ownsRow (w0.heap.size + 2) e z u n xs → (V.setCell ⟨w0.heap.size + 1, i, none⟩ v).ownsRow (w0.heap.size + 2) e z u n xs := fun i v V {e z u n xs} hh =>
    ownsRow_set hh (p := ⟨w0.heap.size + 1, i, none⟩) (by show w0.heap.size + 1 < _; omega) v
  have c1 : ∀ (i j : Nat) (v : Value) (V : World), (V.setCell ⟨w0.heap.size + 1, i, none⟩ v).cell? ⟨w0.heap.size, j, none⟩ = V.cell? ⟨w0.heap.size, j, none⟩ := fun i j v V => World.cell?_setCell_other _ _ _ _ (by intro e; injection e with e1; omega)
  refine ⟨⟨A0, c0, by rw [c1, c1]; exact x0, by rw [c1, c1]; exact x1, o1 _ _ _ (o1 _ _ _ hq)⟩, o1 _ _ _ (o1 _ _ _ h.ints), ⟨Aw, cw, ?_, ?_, o1 _ _ _ (o1 _ _ _ h1)⟩, fun i hi j => by rw [World.frozen?_setCell, World.frozen?_setCell]; exact h.froz i hi j, by simpa using h.size, (h.below.setCell (p := ⟨w0.heap.size + 1, 0, none⟩) (by show w0.heap.size ≤ w0.heap.size + 1; omega) _).setCell (p := ⟨w0.heap.size + 1, 1, none⟩) (by show w0.heap.size ≤ w0.heap.size + 1; omega) _⟩
  · rw [World.cell?_setCell_other _ _ _ _ (by simp)]; exact World.cell?_setCell_same _ _ _ y0
  · refine World.cell?_setCell_same _ _ _ (u := .slice At tl.length ct) ?_
    rw [World.cell?_setCell_other _ _ _ _ (by simp)]; exact y1
end
theorem notRow_of {W : World} {B : Nat} {Aa Al : Option Addr} {ms : List Ln} {xs : List Int} {cl : Nat} (h1 : LinesR W B Aa ms) (h2 : IntsR W B Al xs) : NotRow Aa ms.length [(Al, xs.length, cl)] B := by
  refine ⟨fun hn g off e => ?_, fun i hi hn g off e => ?_⟩
  · obtain ⟨b, o, e', hb, _⟩ := h1 hn
    rw [e] at e'
    injection e' with e'
    injection e' with e'
    omega
  · obtain rfl : i = 0 := by simp at hi; omega
    obtain ⟨b, o, e', hb, _⟩ := h2 hn
    change Al = _ at e
    rw [e] at e'
    injection e' with e'
    injection e' with e'
    omega

/-- At a round's head. -/
structure NbmI (s : Nat) (nb : Int) (A : Option Addr) (c : Nat) (ls : List Ln) (mb : Int) (D : Option Addr) (cd : Nat) (ks : List Ln) (O : Option Addr) (out : List Int) (Am : Option Addr) (cm : Nat) (Ax : Option Addr) (Bm Bw : Nat)
    (sb : Int) (Aw : Option Addr) (cw : Nat) (sl : List Ln) (Ai : Option Addr) (sk : List Int) (tb : Int) (At : Option Addr) (ct : Nat) (tl : List Ln) (W : World) : Prop where
  lines : LinesR W W.heap.size A ls
  other : LinesR W W.heap.size D ks
  outO : IntsR W W.heap.size O out
  own : LinesR W W.heap.size Am ls
  outs : IntsR W W.heap.size Ax out
  wl : LinesR W W.heap.size Aw sl
  wk : IntsR W W.heap.size Ai sk
  tln : LinesR W W.heap.size At tl
  q0 : W.cell? ⟨s, 0, none⟩ = some (.int .i64 nb)
  q1 : W.cell? ⟨s, 1, none⟩ = some (.slice A ls.length c)
  p0 : W.cell? ⟨s + 1, 0, none⟩ = some (.int .i64 mb)
  p1 : W.cell? ⟨s + 1, 1, none⟩ = some (.slice D ks.length cd)
  m0 : W.cell? ⟨Bm, 0, none⟩ = some (.int .i64 nb)
  m1 : W.cell? ⟨Bm, 1, none⟩ = some (.slice Am ls.length cm)
  v0 : W.cell? ⟨Bw, 0, none⟩ = some (.int .i64 sb)
  v1 : W.cell? ⟨Bw, 1, none⟩ = some (.slice Aw sl.length cw)
  t0 : W.cell? ⟨Bw + 1, 0, none⟩ = some (.int .i64 tb)
  t1 : W.cell? ⟨Bw + 1, 1, none⟩ = some (.slice At tl.length ct)
theorem NbmI.upto {s : Nat} {nb : Int} {A : Option Addr} {c : Nat} {ls : List Ln} {mb : Int} {D : Option Addr} {cd : Nat} {ks : List Ln} {O : Option Addr} {out : List Int} {Am : Option Addr} {cm : Nat} {Ax : Option Addr} {Bm Bw : Nat}
    {sb : Int} {Aw : Option Addr} {cw : Nat} {sl : List Ln} {Ai : Option Addr} {sk : List Int} {tb : Int} {At : Option Addr} {ct : Nat} {tl : List Ln} {W W' : World} (h : NbmI s nb A c ls mb D cd ks O out Am cm Ax Bm Bw sb Aw cw sl Ai sk tb At ct tl W) (hb : Below W.heap.size W W') : NbmI s nb A c ls mb D cd ks O out Am cm Ax Bm Bw sb Aw cw sl Ai sk tb At ct tl W' :=
  have k : ∀ {p : Addr} {v : Value}, W.cell? p = some v → W'.cell? p = some v := fun {p v} e => (hb.cell (cell_block e)).trans e
  ⟨h.lines.upto hb, h.other.upto hb, h.outO.upto hb, h.own.upto hb, h.outs.upto hb, h.wl.upto hb, h.wk.upto hb, h.tln.upto hb, k h.q0, k h.q1, k h.p0, k h.p1, k h.m0, k h.m1, k h.v0, k h.v1, k h.t0, k h.t1⟩
end Go.Proofs.Ytcacaiakkfgdpaa
