/- The text TreD. -/
import Derived.Defers
import Derived.Recover
import Derived.Deep.DeepCutAuto
import Derived.Test.YtmojjfdamdgegaaMg32
/- tree.search: a search in depth, its closures and its deferred call. -/
namespace Go.Proofs.Ytmojjfdamdgegaa
open Go.RowKit
set_option linter.unusedVariables false

/-- One bus's lines, tried in turn. -/
def dfsL (ls : List Ln) (rec : Int → Int → List Int → Option (Bool × List Int)) (bus last : Int) : List Int → List Int → Option (Bool × List Int)
  | [], t => some (false, t)
  | k :: ks, t =>
    if k = last ∨ (crossF (ls.getD k.toNat (0, 0, 0, 0)) bus).2 = 0 then dfsL ls rec bus last ks t
    else match rec (crossF (ls.getD k.toNat (0, 0, 0, 0)) bus).1 k (t.set k.toNat (crossF (ls.getD k.toNat (0, 0, 0, 0)) bus).2) with
      | none => none
      | some (true, t') => some (true, t')
      | some (false, t') => dfsL ls rec bus last ks (t'.set k.toNat 0)
/-- The search in depth, with so much fuel; none: the fuel is out. -/
def dfsF (ls : List Ln) (ch : List Int) (goal : Int) : Nat → Int → Int → List Int → Option (Bool × List Int)
  | 0, _, _, _ => none
  | f + 1, bus, last, t => if bus = goal then some (true, t) else dfsL ls (dfsF ls ch goal f) bus last ch t
theorem dfsL_length {ls : List Ln} {rec : Int → Int → List Int → Option (Bool × List Int)} (hrec : ∀ b l t r t', rec b l t = some (r, t') → t'.length = t.length) {bus last : Int} : ∀ {ks t : List Int} {r : Bool} {t' : List Int}, dfsL ls rec bus last ks t = some (r, t') → t'.length = t.length := by
  intro ks
  induction ks with
  | nil => intro t r t' h; simp [dfsL] at h; rw [h.2]
  | cons k ks ih =>
    intro t r t' h
    rw [dfsL] at h
    split at h
    · exact ih h
    · split at h
      · cases h
      · rename_i heq
        simp at h
        have := hrec _ _ _ _ _ heq
        rw [← h.2, this]; simp
      · rename_i heq
        have h1 := hrec _ _ _ _ _ heq
        have h2 := ih h
        rw [h2]; simp [h1]
theorem dfsF_length {ls : List Ln} {ch : List Int} {goal : Int} (f : Nat) : ∀ (bus last : Int) (t : List Int) (r : Bool) (t' : List Int), dfsF ls ch goal f bus last t = some (r, t') → t'.length = t.length := by
  induction f with
  | zero => intro bus last t r t' h; cases h
  | succ f ih =>
    intro bus last t r t' h
    rw [dfsF] at h
    split at h
    · simp at h; rw [h.2]
    · exact dfsL_length ih h

theorem cell_blk {w : World} {p : Addr} {v : Value} (h : w.cell? p = some v) : p.block < w.heap.size := World.block_lt_of_cell? w p h
def ptr (b : Nat) : Value := .pointer (some ⟨b, 0, none⟩)
def tryV (Rb Vb : Nat) : Value := .func (.func 53) #[] #[.pointer (some ⟨Rb, 0, none⟩), .pointer (some ⟨Vb, 0, none⟩)]
def visV (Tb Rb Lb Nb Yb : Nat) : Value := .func (.func 55) #[] #[.pointer (some ⟨Tb, 0, none⟩), .pointer (some ⟨Rb, 0, none⟩), .pointer (some ⟨Lb, 0, none⟩), .pointer (some ⟨Nb, 0, none⟩), .pointer (some ⟨Yb, 0, none⟩)]

/-- What the closures share: all but the trail's cells stays. -/
structure SEnv (A : Option Addr) (c : Nat) (ls : List Ln) (C : Option Addr) (cc : Nat) (ch : List Int) (goal : Int) (Nb Lb Tb Rb Vb Yb G : Nat) (W : World) : Prop where
  n1 : W.cell? ⟨Nb, 1, none⟩ = some (.slice A ls.length c)
  lines : LinesR W G A ls
  l0 : W.cell? ⟨Lb, 0, none⟩ = some (.slice C ch.length cc)
  ints : IntsR W G C ch
  t0 : W.cell? ⟨Tb, 0, none⟩ = some (.int .i64 goal)
  r0 : W.cell? ⟨Rb, 0, none⟩ = some (.slice (some ⟨G, 0, none⟩) ls.length ls.length)
  v0 : W.cell? ⟨Vb, 0, none⟩ = some (visV Tb Rb Lb Nb Yb)
  y0 : W.cell? ⟨Yb, 0, none⟩ = some (tryV Rb Vb)
  ne : Nb ≠ G ∧ Lb ≠ G ∧ Tb ≠ G ∧ Rb ≠ G ∧ Vb ≠ G ∧ Yb ≠ G
  lt : G < W.heap.size
section
variable {A : Option Addr} {c : Nat} {ls : List Ln} {C : Option Addr} {cc : Nat} {ch : List Int} {goal : Int} {Nb Lb Tb Rb Vb Yb G : Nat} {W W' : World}
theorem SEnv.up (h : SEnv A c ls C cc ch goal Nb Lb Tb Rb Vb Yb G W) (hg : W.grownBy W' (some G)) : SEnv A c ls C cc ch goal Nb Lb Tb Rb Vb Yb G W' := by
  have k : ∀ {p : Addr} {v : Value}, W.cell? p = some v → p.block ≠ G → W'.cell? p = some v := fun {p v} e hn => (World.cell?_of_block (hg.block p.block (cell_blk e) (fun h => hn (by injection h)))).trans e
  have k2 : ∀ p : Addr, p.block < G → W'.cell? p = W.cell? p := fun p hp => World.cell?_of_block (hg.block p.block (Nat.lt_trans hp h.lt) (fun e => by injection e with e; omega))
  obtain ⟨a, b, c', d, e, f⟩ := h.ne
  exact ⟨k h.n1 a, h.lines.keep k2, k h.l0 b, h.ints.keep k2, k h.t0 c', k h.r0 d, k h.v0 e, k h.y0 f, h.ne, Nat.lt_of_lt_of_le h.lt hg.size⟩
end
theorem RowI.frz {t : TypeId} {w : World} {g : Nat} {p : List Int} (h : RowI t w g p) (i : Nat) : w.frozen? ⟨g, i, none⟩ = false := by
  unfold RowI at h
  simp [World.frozen?, h]
theorem RowI.put {t : TypeId} {w : World} {g : Nat} {p : List Int} (h : RowI t w g p) (i : Nat) (x : Int) : RowI t (w.setCell ⟨g, i, none⟩ (.int .i64 x)) g (p.set i x) := by
  unfold RowI at h ⊢
  simp [World.setCell, Array.getElem?_modify, h, List.map_set]
theorem RowI.grow {t : TypeId} {w w' : World} {g : Nat} {p : List Int} (h : RowI t w g p) (hb : Below w.heap.size w w') : RowI t w' g p := by
  unfold RowI at h ⊢
  exact (hb.block g (Array.getElem?_eq_some_iff.1 h).1).trans h
theorem grown_below {w w' : World} {o : Option Nat} (hb : Below w.heap.size w w') : w.grownBy w' o := ⟨hb.os, hb.tape, hb.output, hb.size, fun k hk _ => hb.block k hk⟩
theorem grown_trans {a b d : World} {o : Option Nat} (h1 : a.grownBy b o) (h2 : b.grownBy d o) : a.grownBy d o :=
  ⟨h2.os.trans h1.os, h2.tape.trans h1.tape, h2.output.trans h1.output, Nat.le_trans h1.size h2.size, fun k hk hn => (h2.block k (Nat.lt_of_lt_of_le hk h1.size) hn).trans (h1.block k hk hn)⟩
theorem grown_set {w : World} {G i : Nat} (v : Value) : w.grownBy (w.setCell ⟨G, i, none⟩ v) (some G) :=
  ⟨rfl, rfl, rfl, by simp [World.setCell], fun k hk hn => Below.heap_setCell w _ v k (fun e => hn (by rw [e]))⟩

/-- The deferred closure. -/
theorem undo_deferred (F Rb L G m k : Nat) (t : List Int) (found : Bool) (u : FrameMode) (w : World) (hk : k < m) (hm : t.length = m) (h0 : w.cell? ⟨F, 0, none⟩ = some (.bool found)) (h1 : w.cell? ⟨Rb, 0, none⟩ = some (.slice (some ⟨G, 0, none⟩) m m)) (h2 : w.cell? ⟨L, 0, none⟩ = some (.int .i64 (k : Int))) (hr : RowI 3 w G t) :
    CallsD Try.prog 54 #[.pointer (some ⟨F, 0, none⟩), .pointer (some ⟨Rb, 0, none⟩), .pointer (some ⟨L, 0, none⟩)] u w fun e u' w' => u' = u ∧ (e = .returned (.tuple #[]) ∧ w' = if found then w else w.setCell ⟨G, k, none⟩ (.int .i64 0)) := by
  have hc := hr.cell (i := k) (by omega)
  have hz := hr.frz k
  cases found with
  | true =>
    go_enter_d Try.func54, Try.ntmps54
    go_wp2
    go_end0
    exact ⟨rfl, rfl⟩
  | false =>
    go_enter_d Try.func54, Try.ntmps54
    go_wp2
    go_end0
    exact ⟨rfl, rfl⟩

/-- The trail behind a try. -/
def undoT (r : Bool) (k : Nat) (t : List Int) : List Int := if r then t else t.set k 0
/-- What visit does, with so much fuel. -/
def VisitOk (ls : List Ln) (ch : List Int) (goal : Int) (f : Nat) : Prop :=
  ∀ (A : Option Addr) (c : Nat) (C : Option Addr) (cc Nb Lb Tb Rb Vb Yb G : Nat) (bus last : Int) (t : List Int) (r : Bool) (t' : List Int) (W : World), dfsF ls ch goal f bus last t = some (r, t') → t.length = ls.length → SEnv A c ls C cc ch goal Nb Lb Tb Rb Vb Yb G W → RowI 3 W G t →
    Calls Try.prog 55 #[.int .i64 bus, .int .i64 last, .pointer (some ⟨Tb, 0, none⟩), .pointer (some ⟨Rb, 0, none⟩), .pointer (some ⟨Lb, 0, none⟩), .pointer (some ⟨Nb, 0, none⟩), .pointer (some ⟨Yb, 0, none⟩)] W fun e w' =>
      (∃ v, e = .returned (.tuple #[v, .bool r])) ∧ W.grownBy w' (some G) ∧ RowI 3 w' G t'

set_option maxRecDepth 100000 in
set_option maxHeartbeats 4000000 in
theorem try_any {ls : List Ln} {ch : List Int} {goal : Int} {f : Nat} (hv : VisitOk ls ch goal f) (A : Option Addr) (c : Nat) (C : Option Addr) (cc Nb Lb Tb Rb Vb Yb G : Nat) (k : Nat) (bus sign : Int) (t : List Int) (r : Bool) (t' : List Int) (W : World) (hk : k < ls.length) (hm : ls.length ≤ 1000000)
    (hd : dfsF ls ch goal f bus (k : Int) (t.set k sign) = some (r, t')) (hl : t.length = ls.length) (he : SEnv A c ls C cc ch goal Nb Lb Tb Rb Vb Yb G W) (hr : RowI 3 W G t) :
    Calls Try.prog 53 #[.int .i64 (k : Int), .int .i64 bus, .int .i64 sign, .pointer (some ⟨Rb, 0, none⟩), .pointer (some ⟨Vb, 0, none⟩)] W fun e w' =>
      (∃ v, e = .returned (.tuple #[v, .bool r])) ∧ W.grownBy w' (some G) ∧ RowI 3 w' G (undoT r k t') := by
  have hmf : ∀ (fn : Fn) (first cap : Array Value) (w : World), (Instr.makeFunc fn first cap).run Try.prog w = .ok (.func fn first cap) w := fun _ _ _ _ => rfl
  have hb2 : Below W.heap.size W ((W.alloc (.cells #[.int .i64 (k : Int)] 3)).alloc (.cells #[.bool false] 4)) := below_alloc2 _ _ _
  have hg2 : W.grownBy ((W.alloc (.cells #[.int .i64 (k : Int)] 3)).alloc (.cells #[.bool false] 4)) (some G) := grown_below hb2
  have he2 := he.up hg2
  have hr2 := hr.grow hb2
  have x0 : ((W.alloc (.cells #[.int .i64 (k : Int)] 3)).alloc (.cells #[.bool false] 4)).cell? ⟨W.heap.size, 0, none⟩ = some (.int .i64 (k : Int)) := by simp
  have x1 : ((W.alloc (.cells #[.int .i64 (k : Int)] 3)).alloc (.cells #[.bool false] 4)).cell? ⟨W.heap.size + 1, 0, none⟩ = some (.bool false) := by simp
  have z1 : ((W.alloc (.cells #[.int .i64 (k : Int)] 3)).alloc (.cells #[.bool false] 4)).frozen? ⟨W.heap.size + 1, 0, none⟩ = false := by simp
  have hGW := he.lt
  have hs2 : W.heap.size + 2 ≤ ((W.alloc (.cells #[.int .i64 (k : Int)] 3)).alloc (.cells #[.bool false] 4)).heap.size := by simp
  have HG2 := Lib.hid hg2
  have HE2 := Lib.hid he2
  have HR2 := Lib.hid hr2
  have HV := Lib.hid hv
  have HD := Lib.hid hd
  have HL := Lib.hid hl
  clear hb2 hg2 he2 hr2 hv hd hl he hr
  go_enter_defers Try.func53, Try.ntmps53
  go_upto_region 1 with fail
  generalize (W.alloc (.cells #[.int .i64 (k : Int)] 3)).alloc (.cells #[.bool false] 4) = W2 at *
  have r0 := HE2.out.r0
  have hc := HR2.out.cell (i := k) (by rw [HL.out]; exact hk)
  have hz := HR2.out.frz k
  have i1 : (0 : Int) ≤ (k : Int) := by omega
  have i2 : (k : Int) < (ls.length : Int) := by omega
  go_upto_region 2 with fail
  have hg3 : W2.grownBy (W2.setCell ⟨G, k, none⟩ (.int .i64 sign)) (some G) := grown_set _
  have he3 := HE2.out.up hg3
  have hr3 := HR2.out.put k sign
  have hne1 : ¬ W.heap.size = G := by omega
  have hne2 : ¬ W.heap.size + 1 = G := by omega
  have hcell3 : ∀ b, b ≠ G → (W2.setCell ⟨G, k, none⟩ (.int .i64 sign)).cell? ⟨b, 0, none⟩ = W2.cell? ⟨b, 0, none⟩ := fun b hb => World.cell?_setCell_other _ _ _ _ (by intro e; injection e with e1; exact hb e1.symm)
  have y0 := (hcell3 _ hne1).trans x0
  have y1 := (hcell3 _ hne2).trans x1
  have zz1 : (W2.setCell ⟨G, k, none⟩ (.int .i64 sign)).frozen? ⟨W.heap.size + 1, 0, none⟩ = false := by rw [World.frozen?_setCell]; exact z1
  have hs3 : W.heap.size + 2 ≤ (W2.setCell ⟨G, k, none⟩ (.int .i64 sign)).heap.size := by simpa using hs2
  have HG3 := Lib.hid (grown_trans HG2.out hg3)
  have HE3 := Lib.hid he3
  have HR3 := Lib.hid hr3
  clear hg3 he3 hr3 hcell3 x0 x1 z1 hs2 r0 hc hz HG2 HE2 HR2
  generalize W2.setCell ⟨G, k, none⟩ (.int .i64 sign) = W3 at *
  have v0 := HE3.out.v0
  unfold visV at v0
  go_wp2_with fail
  refine (HV.out A c C cc Nb Lb Tb Rb Vb Yb G bus (k : Int) (t.set k sign) r t' W3 HD.out (by simp [HL.out]) HE3.out HR3.out).mono ?_
  rintro e W4 ⟨⟨v, rfl⟩, hg, hr⟩
  have hk4 : ∀ {b : Nat} {v : Value}, b ≠ G → W3.cell? ⟨b, 0, none⟩ = some v → W4.cell? ⟨b, 0, none⟩ = some v := fun {b v} hb e => (World.cell?_of_block (hg.block b (cell_blk e) (fun h => hb (by injection h)))).trans e
  have w0 := hk4 hne1 y0
  have w1 := hk4 hne2 y1
  have wz : W4.frozen? ⟨W.heap.size + 1, 0, none⟩ = false := (World.frozen?_of_block (hg.block (W.heap.size + 1) (by omega) (fun h => hne2 (by injection h)))).trans zz1
  have wr0 := (HE3.out.up hg).r0
  have HG4 := Lib.hid (grown_trans HG3.out hg)
  have HR4 := Lib.hid hr
  have hs4 : W.heap.size + 2 ≤ W4.heap.size := Nat.le_trans hs3 hg.size
  have hlen : t'.length = ls.length := by rw [dfsF_length _ _ _ _ _ _ HD.out]; simp [HL.out]
  clear hg hr hk4 y0 y1 zz1 v0 HE3 HR3 HG3
  go_wp2_with fail
  have hg5 : W4.grownBy (W4.setCell ⟨W.heap.size + 1, 0, none⟩ (.bool r)) (some (W.heap.size + 1)) := grown_set _
  have u1 : (W4.setCell ⟨W.heap.size + 1, 0, none⟩ (.bool r)).cell? ⟨W.heap.size + 1, 0, none⟩ = some (.bool r) := World.cell?_setCell_same _ _ _ w1
  have u0 : (W4.setCell ⟨W.heap.size + 1, 0, none⟩ (.bool r)).cell? ⟨W.heap.size, 0, none⟩ = some (.int .i64 (k : Int)) := by
    rw [World.cell?_setCell_other _ _ _ _ (by intro e; injection e with e1; omega)]; exact w0
  have hRs : Rb ≠ W.heap.size + 1 := by have := cell_blk wr0; intro e; rw [e] at wr0; rw [w1] at wr0; cases wr0
  have ur : (W4.setCell ⟨W.heap.size + 1, 0, none⟩ (.bool r)).cell? ⟨Rb, 0, none⟩ = some (.slice (some ⟨G, 0, none⟩) ls.length ls.length) := by
    rw [World.cell?_setCell_other _ _ _ _ (by intro e; injection e with e1; exact hRs e1.symm)]; exact wr0
  have hrow5 : RowI 3 (W4.setCell ⟨W.heap.size + 1, 0, none⟩ (.bool r)) G t' := by
    have h := HR4.out
    unfold RowI at h ⊢
    rw [Below.heap_setCell W4 _ _ G (fun e => hne2 e.symm)]
    exact h
  have hgW : W.grownBy (W4.setCell ⟨W.heap.size + 1, 0, none⟩ (.bool r)) (some G) :=
    ⟨HG4.out.os, HG4.out.tape, HG4.out.output, Nat.le_trans HG4.out.size hg5.size, fun b hb hn => (hg5.block b (Nat.lt_of_lt_of_le hb HG4.out.size) (fun e => by injection e with e; omega)).trans (HG4.out.block b hb hn)⟩
  generalize W4.setCell ⟨W.heap.size + 1, 0, none⟩ (.bool r) = W5 at *
  clear hg5 w0 w1 wz wr0 HG4 HR4
  refine leaves_cons (f := 54) (args := #[.pointer (some ⟨W.heap.size + 1, 0, none⟩), .pointer (some ⟨Rb, 0, none⟩), .pointer (some ⟨W.heap.size, 0, none⟩)]) (by simp) (by simp [go_sem]) ?_
  refine (undo_deferred (W.heap.size + 1) Rb W.heap.size G ls.length k t' r .returning W5 hk hlen u1 ur u0 hrow5).mono ?_
  rintro e u' w'' ⟨rfl, rfl, rfl⟩
  cases r with
  | true =>
    refine ⟨.tuple #[v, .bool true], by simp [results, Try.results53, go_sem, u1], ⟨_, rfl⟩, hgW, hrow5⟩
  | false =>
    have u2 : (W5.setCell ⟨G, k, none⟩ (.int .i64 0)).cell? ⟨W.heap.size + 1, 0, none⟩ = some (.bool false) := by
      rw [World.cell?_setCell_other _ _ _ _ (by intro e; injection e with e1; exact hne2 e1.symm)]; exact u1
    refine ⟨.tuple #[v, .bool false], by simp [results, Try.results53, go_sem, u2], ⟨_, rfl⟩, grown_trans hgW (grown_set _), hrow5.put k 0⟩
end Go.Proofs.Ytmojjfdamdgegaa
