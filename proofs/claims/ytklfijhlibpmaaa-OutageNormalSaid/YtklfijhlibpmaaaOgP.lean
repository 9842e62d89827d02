/- Blocks that hold one outage, two of them laid in either order. -/
import Derived.Test.YtklfijhlibpmaaaOgM
import Derived.Test.YtklfijhlibpmaaaAnyE
import Derived.Deep.DeepCutAuto
namespace Go.Proofs.Ytklfijhlibpmaaa
open Go.RowKit
set_option linter.unusedVariables false

/-- Block b holds just these cells. -/
def Blk (W : World) (b : Nat) (cs : Array Value) (t : TypeId) : Prop := W.heap[b]? = some (.cells cs t (0, 0))
theorem Blk.lt {W : World} {b : Nat} {cs : Array Value} {t : TypeId} (h : Blk W b cs t) : b < W.heap.size := (Array.getElem?_eq_some_iff.1 h).1
theorem Blk.cell {W : World} {b : Nat} {cs : Array Value} {t : TypeId} (h : Blk W b cs t) (i : Nat) : W.cell? ⟨b, i, none⟩ = cs[i]? := by simp [World.cell?, show W.heap[b]? = _ from h]
theorem Blk.frz {W : World} {b : Nat} {cs : Array Value} {t : TypeId} (h : Blk W b cs t) (i : Nat) : W.frozen? ⟨b, i, none⟩ = false := by simp [World.frozen?, show W.heap[b]? = _ from h]
theorem Blk.alloc {W : World} {b : Nat} {cs : Array Value} {t : TypeId} (h : Blk W b cs t) (o : Obj) : Blk (W.alloc o) b cs t := (Below.heap_alloc W o b h.lt).trans h
theorem Blk.new (W : World) (cs : Array Value) (t : TypeId) : Blk (W.alloc (.cells cs t)) W.heap.size cs t := heap_alloc_new W _
theorem Blk.set {W : World} {b : Nat} {cs : Array Value} {t : TypeId} (h : Blk W b cs t) (i : Nat) (v : Value) : Blk (W.setCell ⟨b, i, none⟩ v) b (cs.setIfInBounds i v) t := by
  unfold Blk at *
  have hb := (Array.getElem?_eq_some_iff.1 h).1
  simp [World.setCell, Array.getElem?_modify, h]
theorem Blk.other {W : World} {b : Nat} {cs : Array Value} {t : TypeId} (h : Blk W b cs t) {p : Addr} (hp : p.block ≠ b) (v : Value) : Blk (W.setCell p v) b cs t := (Below.heap_setCell W p v b (fun e => hp e.symm)).trans h
/-- Four cells stored. -/
def set4 (W : World) (b : Nat) (o : Og) : World := (((W.setCell ⟨b, 0, none⟩ (.int .u8 o.1)).setCell ⟨b, 1, none⟩ (.int .i64 o.2.1)).setCell ⟨b, 2, none⟩ (.int .i64 o.2.2.1)).setCell ⟨b, 3, none⟩ (.int .i64 o.2.2.2)
theorem Blk.set4 {W : World} {b : Nat} {z0 z1 z2 z3 : Value} {t : TypeId} (h : Blk W b #[z0, z1, z2, z3] t) (o : Og) : Blk (set4 W b o) b #[.int .u8 o.1, .int .i64 o.2.1, .int .i64 o.2.2.1, .int .i64 o.2.2.2] t := by
  have := (((h.set 0 (.int .u8 o.1)).set 1 (.int .i64 o.2.1)).set 2 (.int .i64 o.2.2.1)).set 3 (.int .i64 o.2.2.2)
  unfold Go.Proofs.Ytklfijhlibpmaaa.set4
  simpa using this
theorem Blk.set4o {W : World} {b p : Nat} {cs : Array Value} {t : TypeId} (h : Blk W b cs t) (hp : p ≠ b) (o : Og) : Blk (Go.Proofs.Ytklfijhlibpmaaa.set4 W p o) b cs t :=
  (((h.other (p := ⟨p, 0, none⟩) hp _).other (p := ⟨p, 1, none⟩) hp _).other (p := ⟨p, 2, none⟩) hp _).other (p := ⟨p, 3, none⟩) hp _
theorem below_set4 {B : Nat} {w W : World} (h : Below B w W) {p : Nat} (hp : B ≤ p) (o : Og) : Below B w (set4 W p o) :=
  (((h.setCell (p := ⟨p, 0, none⟩) hp _).setCell (p := ⟨p, 1, none⟩) hp _).setCell (p := ⟨p, 2, none⟩) hp _).setCell (p := ⟨p, 3, none⟩) hp _
theorem size_set4 (W : World) (p : Nat) (o : Og) : (set4 W p o).heap.size = W.heap.size := by simp [set4, World.setCell]
def zOg : Array Value := #[.int .u8 0, .int .i64 0, .int .i64 0, .int .i64 0]
def cOg (o : Og) : Array Value := #[.int .u8 o.1, .int .i64 o.2.1, .int .i64 o.2.2.1, .int .i64 o.2.2.2]

/-- Two boxes, laid in either order, each filled once. -/
def TwoF (V : Value) (b off j k s : Nat) (x y : Og) (done : Nat → Prop) (i : Nat) (v : Value) (W : World) : Prop :=
  match i with
  | 0 => v = V
  | 1 => v = .int .i64 (k : Int)
  | 2 => v = .int .i64 (j : Int)
  | 3 => v = .pointer (some ⟨b, off + j * 4, none⟩)
  | 4 => v = ogV x
  | 5 => v = V
  | 6 => v = .int .i64 (k : Int)
  | 7 => v = .pointer (some ⟨b, off + k * 4, none⟩)
  | 8 => v = ogV y
  | 9 => ∃ p, v = .pointer (some ⟨p, 0, none⟩) ∧ s ≤ p ∧ (¬ done 11 → Blk W p zOg 27) ∧ (done 11 → Blk W p (cOg x) 27)
  | 10 => ∃ p, v = .pointer (some ⟨p, 0, none⟩) ∧ s ≤ p ∧ (¬ done 12 → Blk W p zOg 27) ∧ (done 12 → Blk W p (cOg y) 27)
  | _ => True
def TwoE (n p q : Nat) (done : Nat → Prop) (a : Act) (W : World) : Prop :=
  a.tmps.size = n ∧ (done 9 → ∃ P, P < W.heap.size ∧ a.tmps.getD p undef = .pointer (some ⟨P, 0, none⟩)) ∧ (done 10 → ∃ P, P < W.heap.size ∧ a.tmps.getD q undef = .pointer (some ⟨P, 0, none⟩)) ∧ (done 9 → done 10 → a.tmps.getD p undef ≠ a.tmps.getD q undef)
theorem TwoE.pure {n p q i : Nat} {done : Nat → Prop} {a : Act} {W W' : World} (h : TwoE n p q done a W) {d : Tmp} (hd : d < n) (h1 : d ≠ p) (h2 : d ≠ q) (h9 : i ≠ 9) (h10 : i ≠ 10) (hs : W.heap.size ≤ W'.heap.size) (v : Value) : TwoE n p q (more done i) (a.put (some d) v) W' := by
  obtain ⟨e1, e2, e3, e4⟩ := h
  have g1 : (a.put (some d) v).tmps.getD p undef = a.tmps.getD p undef := by rw [getD_put _ _ _ _ (by rw [e1]; exact hd), if_neg h1]
  have g2 : (a.put (some d) v).tmps.getD q undef = a.tmps.getD q undef := by rw [getD_put _ _ _ _ (by rw [e1]; exact hd), if_neg h2]
  refine ⟨by simp [Act.put, e1], ?_, ?_, ?_⟩
  · rintro (h | h)
    · exact absurd h.symm h9
    · obtain ⟨P, hP, e⟩ := e2 h; exact ⟨P, by omega, g1.trans e⟩
  · rintro (h | h)
    · exact absurd h.symm h10
    · obtain ⟨P, hP, e⟩ := e3 h; exact ⟨P, by omega, g2.trans e⟩
  · rintro (h | h) (h' | h')
    · exact absurd h.symm h9
    · exact absurd h.symm h9
    · exact absurd h'.symm h10
    · rw [g1, g2]; exact e4 h h'
theorem TwoE.store {n p q i : Nat} {done : Nat → Prop} {a : Act} {W W' : World} (h : TwoE n p q done a W) (h9 : i ≠ 9) (h10 : i ≠ 10) (hs : W.heap.size ≤ W'.heap.size) (v : Value) : TwoE n p q (more done i) (a.put none v) W' := by
  obtain ⟨e1, e2, e3, e4⟩ := h
  refine ⟨e1, ?_, ?_, ?_⟩
  · rintro (h | h)
    · exact absurd h.symm h9
    · obtain ⟨P, hP, e⟩ := e2 h; exact ⟨P, by omega, e⟩
  · rintro (h | h)
    · exact absurd h.symm h10
    · obtain ⟨P, hP, e⟩ := e3 h; exact ⟨P, by omega, e⟩
  · rintro (h | h) (h' | h')
    · exact absurd h.symm h9
    · exact absurd h.symm h9
    · exact absurd h'.symm h10
    · exact e4 h h'
theorem TwoE.first {n p q : Nat} {done : Nat → Prop} {a : Act} {W : World} (h : TwoE n p q done a W) (hp : p < n) (hne : p ≠ q) (hn : ¬ done 9) (o : Obj) : TwoE n p q (more done 9) (a.put (some p) (.pointer (some ⟨W.heap.size, 0, none⟩))) (W.alloc o) := by
  obtain ⟨e1, e2, e3, e4⟩ := h
  have g1 : (a.put (some p) (.pointer (some ⟨W.heap.size, 0, none⟩))).tmps.getD p undef = .pointer (some ⟨W.heap.size, 0, none⟩) := by rw [getD_put _ _ _ _ (by rw [e1]; assumption), if_pos rfl]
  have g2 : (a.put (some p) (.pointer (some ⟨W.heap.size, 0, none⟩))).tmps.getD q undef = a.tmps.getD q undef := by rw [getD_put _ _ _ _ (by rw [e1]; assumption), if_neg hne]
  refine ⟨by simp [Act.put, e1], fun _ => ⟨_, by simp, g1⟩, ?_, ?_⟩
  · rintro (h | h)
    · exact absurd h (by decide)
    · obtain ⟨P, hP, e⟩ := e3 h; exact ⟨P, by simp; omega, g2.trans e⟩
  · rintro _ (h | h)
    · exact absurd h (by decide)
    · obtain ⟨P, hP, e⟩ := e3 h
      rw [g1, g2, e]
      intro hh
      injection hh with hh
      injection hh with hh
      injection hh with hh
      omega
theorem TwoE.second {n p q : Nat} {done : Nat → Prop} {a : Act} {W : World} (h : TwoE n p q done a W) (hq : q < n) (hne : p ≠ q) (hn : ¬ done 10) (o : Obj) : TwoE n p q (more done 10) (a.put (some q) (.pointer (some ⟨W.heap.size, 0, none⟩))) (W.alloc o) := by
  obtain ⟨e1, e2, e3, e4⟩ := h
  have g1 : (a.put (some q) (.pointer (some ⟨W.heap.size, 0, none⟩))).tmps.getD q undef = .pointer (some ⟨W.heap.size, 0, none⟩) := by rw [getD_put _ _ _ _ (by rw [e1]; assumption), if_pos rfl]
  have g2 : (a.put (some q) (.pointer (some ⟨W.heap.size, 0, none⟩))).tmps.getD p undef = a.tmps.getD p undef := by rw [getD_put _ _ _ _ (by rw [e1]; assumption), if_neg (fun h => hne h.symm)]
  refine ⟨by simp [Act.put, e1], ?_, fun _ => ⟨_, by simp, g1⟩, ?_⟩
  · rintro (h | h)
    · exact absurd h (by decide)
    · obtain ⟨P, hP, e⟩ := e2 h; exact ⟨P, by simp; omega, g2.trans e⟩
  · rintro (h | h) _
    · exact absurd h (by decide)
    · obtain ⟨P, hP, e⟩ := e2 h
      rw [g1, g2, e]
      intro hh
      injection hh with hh
      injection hh with hh
      injection hh with hh
      omega
end Go.Proofs.Ytklfijhlibpmaaa
