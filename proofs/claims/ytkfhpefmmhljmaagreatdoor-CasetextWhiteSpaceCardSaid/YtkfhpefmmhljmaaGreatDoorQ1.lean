/- Texts in one: Words, Open, Only. -/
import Derived.WalkKit
import Derived.Below
import Derived.Laws.OwnMore
import Derived.Deep.AppendLies
import Derived.Deep.Draws
import Derived.Lib.Hide
import Derived.ProofKit
import Derived.OpenShut
import Derived.JoinedCond
import Derived.Deep.Slices
import Derived.Deep.Fields
import Derived.ChangeSame
import Derived.Lib.SmallJoins
import Derived.Test.YtkfhpefmmhljmaaGreatDoorRows
set_option linter.unusedVariables false
set_option linter.unusedSimpArgs false
/- Words -/
namespace Go.Proofs.YtkfhpefmmhljmaaGreatDoor
open Go.RowKit
abbrev Ln := Int × Int × Int × Int
def IntsR (w : World) (B : Nat) (A : Option Addr) (xs : List Int) : Prop :=
 0 < xs.length → ∃ b off, A = some ⟨b, off, none⟩ ∧ b < B ∧ ∀ i, i < xs.length → w.cell? ⟨b, off + i, none⟩ = some (.int .i64 (xs.getD i 0))
def LinesR (w : World) (B : Nat) (A : Option Addr) (ls : List Ln) : Prop :=
 0 < ls.length → ∃ b off, A = some ⟨b, off, none⟩ ∧ b < B ∧ ∀ i, i < ls.length →
  w.cell? ⟨b, off + i * 4, none⟩ = some (.int .i64 (ls.getD i (0, 0, 0, 0)).1) ∧
  w.cell? ⟨b, off + i * 4 + 1, none⟩ = some (.int .i64 (ls.getD i (0, 0, 0, 0)).2.1) ∧
  w.cell? ⟨b, off + i * 4 + 2, none⟩ = some (.int .i64 (ls.getD i (0, 0, 0, 0)).2.2.1) ∧
  w.cell? ⟨b, off + i * 4 + 3, none⟩ = some (.int .i64 (ls.getD i (0, 0, 0, 0)).2.2.2)
section
variable {w w' : World} {B B' : Nat} {A : Option Addr} {xs : List Int} {ls : List Ln}
theorem IntsR.nil_ : IntsR w B A [] := fun h => absurd h (by simp)
theorem IntsR.keep (h : IntsR w B A xs) (hk : ∀ p : Addr, p.block < B → w'.cell? p = w.cell? p) : IntsR w' B A xs := fun hn => by
 obtain ⟨b, off, e, hb, hc⟩ := h hn;exact ⟨b, off, e, hb, fun i hi => (hk _ hb).trans (hc i hi)⟩
theorem IntsR.more (h : IntsR w B A xs) (hB : B ≤ B') : IntsR w B' A xs := fun hn => by
 obtain ⟨b, off, e, hb, hc⟩ := h hn;exact ⟨b, off, e, by omega, hc⟩
theorem IntsR.below (h : IntsR w B A xs) (hb : Below B w w') : IntsR w' B A xs := h.keep fun _ hp => hb.cell hp
theorem IntsR.upto (h : IntsR w w.heap.size A xs) (hb : Below w.heap.size w w') : IntsR w' w'.heap.size A xs := (h.below hb).more hb.size
theorem IntsR.drewN (h : IntsR w B A xs) (n : Nat) : IntsR (w.drewN n) B A xs := h
theorem IntsR.alloc (h : IntsR w B A xs) (hB : B ≤ w.heap.size) (o : Obj) : IntsR (w.alloc o) B A xs := h.keep fun p hp => World.cell?_alloc_lt w o p (by omega)
theorem LinesR.nil_ : LinesR w B A [] := fun h => absurd h (by simp)
theorem LinesR.keep (h : LinesR w B A ls) (hk : ∀ p : Addr, p.block < B → w'.cell? p = w.cell? p) : LinesR w' B A ls := fun hn => by
 obtain ⟨b, off, e, hb, hc⟩ := h hn;refine ⟨b, off, e, hb, fun i hi => ?_⟩;obtain ⟨h0, h1, h2, h3⟩ := hc i hi;exact ⟨(hk _ hb).trans h0, (hk _ hb).trans h1, (hk _ hb).trans h2, (hk _ hb).trans h3⟩
theorem LinesR.more (h : LinesR w B A ls) (hB : B ≤ B') : LinesR w B' A ls := fun hn => by
 obtain ⟨b, off, e, hb, hc⟩ := h hn;exact ⟨b, off, e, by omega, hc⟩
theorem LinesR.below (h : LinesR w B A ls) (hb : Below B w w') : LinesR w' B A ls := h.keep fun _ hp => hb.cell hp
theorem LinesR.upto (h : LinesR w w.heap.size A ls) (hb : Below w.heap.size w w') : LinesR w' w'.heap.size A ls := (h.below hb).more hb.size
theorem LinesR.drewN (h : LinesR w B A ls) (n : Nat) : LinesR (w.drewN n) B A ls := h
theorem LinesR.alloc (h : LinesR w B A ls) (hB : B ≤ w.heap.size) (o : Obj) : LinesR (w.alloc o) B A ls := h.keep fun p hp => World.cell?_alloc_lt w o p (by omega)
end
theorem below_drewN {B : Nat} {a w : World} (h : Below B a w) (n : Nat) : Below B a (w.drewN n) := ⟨h.os, h.tape, h.output, h.size, h.block⟩
theorem cell_alloc_at (w : World) (cs : Array Value) (t : TypeId) (b off : Nat) (hb : b = w.heap.size) : (w.alloc (.cells cs t)).cell? ⟨b, off, none⟩ = cs[off]? := by
 subst hb;have h : (w.alloc (.cells cs t)).heap[w.heap.size]? = some (.cells cs t) := heap_alloc_new w _;simp only [World.cell?, h];rfl
theorem cell_alloc_of {w : World} {p : Addr} {v : Value} (o : Obj) (h : w.cell? p = some v) : (w.alloc o).cell? p = some v :=
 (World.cell?_alloc_lt w o p (World.block_lt_of_cell? w p h)).trans h
theorem ret_bool {a b : Bool} (h : a = b) : Ending.returned (.bool a) = .returned (.bool b) := by rw [h]
theorem ret_int {k : IntKind} {a b : Int} (h : a = b) : Ending.returned (.int k a) = .returned (.int k b) := by rw [h]
theorem getD_eq {α : Type} (l : List α) (i : Nat) (d : α) (h : i < l.length) : l.getD i d = l[i] := by simp [h]
end Go.Proofs.YtkfhpefmmhljmaaGreatDoor
/- Open -/
namespace Go.Proofs.YtkfhpefmmhljmaaGreatDoor
open Go.ChangeShapes Go.WideShapes Go.ChangeAt Go.RowKit Go.Deep Go.Joins
set_option linter.unusedVariables false
theorem Tryz.own : ownKnob Tryz.prog.godebug = none := by kernel_rfl
theorem Tryz.laidOut : laidOutB Tryz.prog = true := by kernel_rfl
section
variable {H : Type} {enc : TypeId × Value → H} {P : Program}
theorem trodAll_stays {W W' : World} {sp : Nat → Bool} (hl : laidOutB P = true) : ∀ {ts : List TypeId} {vs : List Value} {ds : List (DataW H)} {ps : List MemPlace}, (∀ t ∈ ts, P.readableRec t = true ∧ t < P.types.size) →
  DataW.TrodAll enc P W 0 (fun _ => true) true ts vs ds ps → (∀ p ∈ ps, W.sameAt W' p) → (∀ p ∈ ps, sp p.block = true) → DataW.TrodAll enc P W' 0 sp true ts vs ds ps
 | [], vs, ds, ps, _, h, _, _ => by
  obtain ⟨rfl, rfl, rfl⟩ := trodAll_nil h;exact rfl
 | t :: ts, vs, ds, ps, hts, h, h1, h2 => by
  obtain ⟨v, vs', d, ds', p, q, rfl, rfl, rfl, hv, hr⟩ := trodAll_cons h;exact trodAll_cons_mk (WideElems.Trod_stays hl (hts t (by simp)).1 (hts t (by simp)).2 hv (fun x hx => h1 x (by simp [hx])) (fun x hx => h2 x (by simp [hx])))
   (trodAll_stays hl (fun x hx => hts x (by simp [hx])) hr (fun x hx => h1 x (by simp [hx])) (fun x hx => h2 x (by simp [hx])))
theorem law_post {f : Func} {s : ChangeSpec} {tb : TypeId} {W W' : World} {args : Array Value} {ds gs : List (DataW H)} {before : List MemPlace}
  (hlo : laidOutB P = true) (hts : ∀ t ∈ f.params.toList, P.readableRec t = true ∧ t < P.types.size) (hrt : f.resultTypes = #[tb]) (htb : P.underlying tb = some .bool) (hsv : s.vars = [])
  (hW : DataW.Whole enc P f.params.toList s.vars false W args.toList ds gs before)
  (hres : (s.fn H (ds ++ gs)).results = [.lit (.bool true)]) (harg : (s.fn H (ds ++ gs)).args = ds) (hvr : (s.fn H (ds ++ gs)).vars = []) (hb : Below W.heap.size W W') :
  s.post enc P f false true false false W args (.bool true) W' := by
 have hlt : ∀ p ∈ before, p.block < W.heap.size := fun p hp => hW.lt p hp
 have hW' := hW;obtain ⟨p, q, hA, hV, rfl, hz, hn⟩ := hW';rw [hsv] at hV;obtain ⟨rfl, rfl⟩ := trodVars_none hV;rw [List.append_nil] at hlt;have hstay : ∀ sp : Nat → Bool, (∀ x ∈ p, sp x.block = true) → DataW.TrodAll enc P W' 0 sp true f.params.toList args.toList ds p := fun sp hsp =>
  trodAll_stays hlo hts hA (fun x hx => hb.same (hlt x hx)) hsp
 have hold : ∀ x ∈ p, (fun b => decide (b < W.heap.size)) x.block = true := fun x hx => by simpa using hlt x hx
 have hr : ∀ (b : Nat) (sp : Nat → Bool) (hd : Bool), DataW.TrodAll enc P W' b sp hd f.resultTypes.toList ((Value.bool true).resultList f.resultTypes.size) (s.fn H (ds ++ [])).results [] := by
  intro b sp hd;rw [hres, hrt];exact trodAll_cons_mk (shut_bool htb _) trodAll_mk0
 refine ⟨ds, [], p ++ [], [], p, [], hW, hr _ _ _, ?_, ?_, World.keptBut_mono (fun x hx => ⟨hx, .inr ?_⟩) (hb.frame (· ∈ p ++ [])), fun h => by cases h⟩
 ·rw [harg]; exact hstay _ hold
 ·rw [hsv, hvr]; exact rfl
 ·simpa using hx
end
section
variable {H : Type} {enc : TypeId × Value → H} {P : Program} {w : World} {base : Nat} {spare : Nat → Bool} {held : Bool}
theorem open_slice_fields {t e : TypeId} {fs : Array Field} {fuel : Nat} {cs : List Value} {x : DataW H × List MemPlace} (ht : P.underlying t = some (.slice e)) (he : P.underlying e = some (.struct fs))
  (hone : oneCellFields P fs = true) (hC : P.cellsOf e = fs.size) (h : DataW.trod enc P w base spare held fuel t cs = some x) :
  (cs = [.slice none 0 0]) ∨
  ∃ (a : Addr) (len cap : Nat), cs = [.slice (some a) len cap] ∧ len ≤ cap ∧
   ∀ i, i < len → ∃ (n : Nat), ∀ (j : Nat) (f : Field), fs[j]? = some f → ∃ (v : Value) (y : DataW H × List MemPlace), w.cell? (a.add (i * fs.size + j)) = some v ∧ DataW.trod enc P w base spare held n f.type [v] = some y := by
 rcases open_slice ht h with h0 | ⟨a, len, cap, m, n, D, Pl, hcs, hb, hl, hm, hmm, hx, hi⟩
 ·exact .inl h0.1
 ·refine .inr ⟨a, len, cap, hcs, hl, fun i him => ?_⟩;obtain ⟨cs', hc, ht'⟩ := hi i (by rw [hmm]; split <;> omega);rw [hC] at hc;obtain ⟨ys, n', hn', hy, hlen, hyl, hf⟩ := DataW.trod_struct he ht';obtain ⟨_, hcl, hat⟩ := World.cells?_some hc;refine ⟨n', fun j f hj => ?_⟩;obtain ⟨ho, hk⟩ := hone_of hone j f hj;have hjl : j < fs.size := (Array.getElem?_eq_some_iff.1 hj).1;have hcell := hat j hjl;have hv : cs'[j]? = some (cs'[j]'(by omega)) := List.getElem?_eq_getElem (by omega);have h1 := hf j f hj;rw [ho, hk] at h1;have hone' : (cs'.drop j).take 1 = [cs'[j]'(by omega)] := by
   rw [List.drop_eq_getElem_cons (by omega)];rfl
  rw [hone'] at h1;have hys : ys[j]? = some (ys[j]'(by omega)) := List.getElem?_eq_getElem (by omega);exact ⟨_, _, by rw [← Go.Deep.add_add, hcell, hv], h1.trans hys⟩
end
end Go.Proofs.YtkfhpefmmhljmaaGreatDoor
/- Only -/
namespace Go.Proofs.YtkfhpefmmhljmaaGreatDoor
open Go.RowKit
section
variable {a w : World} {row : Option Nat}
theorem only_alloc (h : a.grownBy w row) (o : Obj) : a.grownBy (w.alloc o) row :=
 ⟨h.os, h.tape, h.output, Nat.le_trans h.size (by simp), fun i hi hne => (Below.heap_alloc w o i (Nat.lt_of_lt_of_le hi h.size)).trans (h.block i hi hne)⟩
theorem only_setCell {g : Nat} (h : a.grownBy w (some g)) {p : Addr} (hp : p.block = g ∨ a.heap.size ≤ p.block) (u : Value) : a.grownBy (w.setCell p u) (some g) :=
 ⟨h.os, h.tape, h.output, by simpa [World.setCell] using h.size, fun i hi hne => (Below.heap_setCell w p u i (by
  rintro rfl;rcases hp with hp | hp
  ·exact hne (by rw [hp])
  ·omega)).trans (h.block i hi hne)⟩
end
theorem own_ne {w : World} {b b' : Nat} {e e' : TypeId} {s s' : Nat} {v u : Value} {n m : Nat} {xs ys : List Value} (h : w.ownsRow b e s v n xs) (k : w.ownsRow b' e' s' u m ys) (hne : e ≠ e') : u.ownBlock = none ∨ u.ownBlock ≠ v.ownBlock := by
 rcases k.2 with ⟨rfl, _⟩ | ⟨g', cap', cur', rfl, _, hg', _⟩
 ·exact .inl rfl
 ·right;rcases h.2 with ⟨rfl, _⟩ | ⟨g, cap, cur, rfl, _, hg, _⟩
  ·simp [Value.ownBlock]
  ·intro he;have : g' = g := by simpa [Value.ownBlock] using he
   subst this;rw [hg] at hg';injection hg' with hg'
   injection hg' with _ ht
   exact hne ht
end Go.Proofs.YtkfhpefmmhljmaaGreatDoor
