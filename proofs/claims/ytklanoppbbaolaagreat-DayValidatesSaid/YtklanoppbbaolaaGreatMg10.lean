/- Texts in one: CtM, CtW. -/
import Derived.Maps.AppendAt
import Derived.OwnWalk
import Derived.Laws.IdiomCopy
import Derived.Test.YtklanoppbbaolaaGreatMg1
import Derived.Test.YtklanoppbbaolaaGreatMg9
/- Words for memory of the Casetext seat: rows of the call's own beside other blocks. No program is named here. -/
namespace Go.Proofs.YtklanoppbbaolaaGreat
open Go.RowKit
set_option linter.unusedSimpArgs false
set_option linter.unusedVariables false

theorem below_appended {W w2 : World} {base : Nat} {e : TypeId} {size : Nat} {v : Value} {k : Nat} {xs : List Value} {tmp : Obj} (hrow : W.ownsRow base e size v k xs) (hb : base ≤ W.heap.size) (hgrow : (W.alloc tmp).grownBy w2 v.ownBlock) : Below base W w2 := by
  refine ((Below.refl base W).alloc hb tmp).grown hgrow (by simp; omega) fun j ej => ?_
  rcases hrow.2 with ⟨rfl, _⟩ | ⟨g, cap, cur, rfl, hb, _, _⟩
  · simp [Value.ownBlock] at ej
  · obtain rfl : g = j := by simpa [Value.ownBlock] using ej
    exact hb
/-- A store into another block leaves a row. -/
theorem ownsRow_setOther {w : World} {base : Nat} {e : TypeId} {size : Nat} {v : Value} {n : Nat} {xs : List Value} (h : w.ownsRow base e size v n xs) {p : Addr} (hp : v.ownBlock ≠ some p.block) (u : Value) : (w.setCell p u).ownsRow base e size v n xs := by
  refine ⟨h.1, ?_⟩
  rcases h.2 with h' | ⟨g, cap, cur, h1, h2, h3, h4⟩
  · exact .inl h'
  · refine .inr ⟨g, cap, cur, h1, h2, (Below.heap_setCell w p u g (fun e => hp ?_)).trans h3, h4⟩
    rw [h1, Value.ownBlock, e]
theorem ownsRow_blocks {w : World} {base : Nat} {e : TypeId} {size : Nat} {v : Value} {n : Nat} {xs : List Value} (h : w.ownsRow base e size v n xs) {b : Nat} (hb : b < base ∨ w.heap.size ≤ b) : v.ownBlock ≠ some b := fun e => by
  have := h.lt b e
  omega
theorem ownsRow_slice {w : World} {base : Nat} {e : TypeId} {size : Nat} {v : Value} {n : Nat} {xs : List Value} (h : w.ownsRow base e size v n xs) : ∃ A c, v = .slice A n c ∧ n ≤ c := by
  rcases h.2 with ⟨rfl, rfl⟩ | ⟨g, cap, cur, rfl, _, _, _, hc, _⟩
  · exact ⟨none, 0, rfl, Nat.le_refl _⟩
  · exact ⟨_, cap, rfl, by first | omega | skip⟩

/-- The block b holds these values ahead, and they may be written. -/
def Box (w : World) (b : Nat) (vs : List Value) : Prop := ∀ j, j < vs.length → w.cell? ⟨b, j, none⟩ = vs[j]? ∧ w.frozen? ⟨b, j, none⟩ = false
section
variable {w w' : World} {b B : Nat} {vs vs' : List Value}
theorem Box.new (w : World) (cs : Array Value) (t : TypeId) : Box (w.alloc (.cells cs t)) w.heap.size cs.toList := fun j hj => by
  refine ⟨?_, ?_⟩
  · rw [cell_alloc_at _ _ _ _ _ rfl]; simp
  · simp
theorem Box.up (h : Box w b vs) (hb : Below B w w') (hlt : b < B) : Box w' b vs := fun j hj => ⟨(hb.cell (p := ⟨b, j, none⟩) hlt).trans (h j hj).1, (hb.frozen (p := ⟨b, j, none⟩) hlt).trans (h j hj).2⟩
theorem Box.lt (h : Box w b vs) (hn : 0 < vs.length) : b < w.heap.size := by
  have := (h 0 hn).1
  rw [List.getElem?_eq_getElem hn] at this
  exact World.block_lt_of_cell? w ⟨b, 0, none⟩ this
theorem Box.c (h : Box w b vs) (j : Nat) (v : Value) (hv : vs[j]? = some v) : w.cell? ⟨b, j, none⟩ = some v := ((h j (List.getElem?_eq_some_iff.1 hv).1).1).trans hv
theorem Box.f (h : Box w b vs) (j : Nat) (hj : j < vs.length) : w.frozen? ⟨b, j, none⟩ = false := (h j hj).2
theorem size_sets (w : World) (b : Nat) : ∀ (vs : List Value) (o : Nat), (w.setCells b o vs).heap.size = w.heap.size := by
  intro vs
  induction vs generalizing w with
  | nil => intro o; rfl
  | cons v r ih => intro o; rw [World.setCells, ih, World.size_setCell]
theorem below_sets {a : World} (h : Below B a w) (hb : B ≤ b) : ∀ (vs : List Value) (o : Nat), Below B a (w.setCells b o vs) := by
  intro vs
  induction vs generalizing w with
  | nil => intro o; exact h
  | cons v r ih => intro o; rw [World.setCells]; exact ih (h.setCell (p := ⟨b, o, none⟩) hb v) _
theorem Box.sets (h : Box w b vs) (hl : vs'.length = vs.length) : Box (w.setCells b 0 vs') b vs' := fun j hj => by
  refine ⟨?_, by rw [World.frozen?_setCells]; exact (h j (by omega)).2⟩
  have := World.cell?_setCells_in b vs' 0 w (fun i hi => by
    rw [Nat.zero_add, (h i (by omega)).1, List.getElem?_eq_getElem (by omega)]; rfl) j hj
  rw [Nat.zero_add] at this
  rw [this, List.getElem?_eq_getElem hj]
theorem Box.set1 (h : Box w b vs) (j : Nat) (hj : j < vs.length) (v : Value) : Box (w.setCell ⟨b, j, none⟩ v) b (vs.set j v) := fun i hi => by
  rw [List.length_set] at hi
  refine ⟨?_, by rw [World.frozen?_setCell]; exact (h i hi).2⟩
  by_cases e : j = i
  · subst e
    rw [World.cell?_setCell_same _ _ _ ((h j hj).1.trans (List.getElem?_eq_getElem hj))]
    simp [hj]
  · rw [World.cell?_setCell_other _ _ _ _ (by simp [e]), (h i hi).1, List.getElem?_set_ne e]
theorem Box.other (h : Box w b vs) {p : Addr} (hp : p.block ≠ b) (v : Value) : Box (w.setCell p v) b vs := fun i hi =>
  ⟨by rw [World.cell?_setCell_other _ _ _ _ (fun e => hp (by rw [e]))]; exact (h i hi).1, by rw [World.frozen?_setCell]; exact (h i hi).2⟩
theorem Box.others (h : Box w b vs) {b' : Nat} (hp : b' ≠ b) (o : Nat) (us : List Value) : Box (w.setCells b' o us) b vs := fun i hi =>
  ⟨by rw [World.cell?_setCells_out _ _ _ _ _ (fun e => absurd e.symm hp)]; exact (h i hi).1, by rw [World.frozen?_setCells]; exact (h i hi).2⟩
theorem Box.alloc (h : Box w b vs) (hlt : b < w.heap.size) (o : Obj) : Box (w.alloc o) b vs := h.up ((Below.refl w.heap.size w).alloc (Nat.le_refl _) o) hlt
end
end Go.Proofs.YtklanoppbbaolaaGreat
/- Rows of elements that themselves hold rows: read, and of the call's own. -/
namespace Go.Proofs.YtklanoppbbaolaaGreat
open Go.RowKit
set_option linter.unusedSimpArgs false
set_option linter.unusedVariables false

/-- How an element lies in its cells. -/
abbrev Enc (α : Type) := World → Nat → List Value → α → Prop
theorem flatten_at {n : Nat} {raws : List (List Value)} (h : ∀ c ∈ raws, c.length = n) : ∀ (i j : Nat) (c : List Value), raws[i]? = some c → j < n → raws.flatten[i * n + j]? = c[j]? := by
  induction raws with
  | nil => intro i j c hc; simp at hc
  | cons a r ih =>
    intro i j c hc hj
    have ha := h a (by simp)
    cases i with
    | zero =>
      simp at hc
      subst hc
      rw [List.flatten_cons, Nat.zero_mul, Nat.zero_add, List.getElem?_append_left (by omega)]
    | succ i =>
      rw [List.flatten_cons, List.getElem?_append_right (by rw [ha, Nat.succ_mul]; omega), ha, show (i + 1) * n + j - n = i * n + j by rw [Nat.succ_mul]; omega]
      exact ih (fun c hc => h c (by simp [hc])) i j c (by simpa using hc) hj
theorem flatten_length {n : Nat} {raws : List (List Value)} (h : ∀ c ∈ raws, c.length = n) : raws.flatten.length = raws.length * n := by
  induction raws with
  | nil => simp
  | cons a r ih =>
    rw [List.flatten_cons, List.length_append, ih (fun c hc => h c (by simp [hc])), h a (by simp), List.length_cons, Nat.succ_mul]
    omega
section
variable {α : Type} {E : Enc α} {n : Nat} {w w' : World} {B B' base base' : Nat} {A : Option Addr} {l : List α}
/-- The slice address A holds the elements l, n cells each, in a block below B. -/
def RowR (E : Enc α) (n : Nat) (w : World) (B : Nat) (A : Option Addr) (l : List α) : Prop :=
  ∃ raws : List (List Value), raws.length = l.length ∧ (∀ c ∈ raws, c.length = n) ∧ (∀ (i : Nat) c x, raws[i]? = some c → l[i]? = some x → E w B c x) ∧
    (0 < l.length → ∃ b off, A = some ⟨b, off, none⟩ ∧ b < B ∧ ∀ (i j : Nat) c v, raws[i]? = some c → c[j]? = some v → w.cell? ⟨b, off + i * n + j, none⟩ = some v)
theorem RowR.at_ (h : RowR E n w B A l) (k : Nat) (d : α) (hk : k < l.length) : ∃ b off c, A = some ⟨b, off, none⟩ ∧ b < B ∧ c.length = n ∧ E w B c (l.getD k d) ∧ ∀ (j : Nat) v, c[j]? = some v → w.cell? ⟨b, off + k * n + j, none⟩ = some v := by
  obtain ⟨raws, h1, h2, h3, h4⟩ := h
  obtain ⟨b, off, rfl, hb, hc⟩ := h4 (by omega)
  have hr : raws[k]? = some raws[k] := List.getElem?_eq_getElem (by omega)
  refine ⟨b, off, raws[k], rfl, hb, h2 _ (List.getElem_mem _), h3 k _ _ hr ?_, fun j v hv => hc k j _ v hr hv⟩
  rw [getD_eq l k d hk]
  exact List.getElem?_eq_getElem hk
structure EKeep (E : Enc α) : Prop where
  out : ∀ {w w' : World} {B B' : Nat} {c : List Value} {x : α}, (∀ p : Addr, p.block < B → w'.cell? p = w.cell? p) → B ≤ B' → E w B c x → E w' B' c x
theorem RowR.keep (hE : EKeep E) (h : RowR E n w B A l) (hk : ∀ p : Addr, p.block < B → w'.cell? p = w.cell? p) (hB : B ≤ B') : RowR E n w' B' A l := by
  obtain ⟨raws, h1, h2, h3, h4⟩ := h
  refine ⟨raws, h1, h2, fun i c x hc hx => hE.out hk hB (h3 i c x hc hx), fun hn => ?_⟩
  obtain ⟨b, off, e, hb, hc⟩ := h4 hn
  exact ⟨b, off, e, by omega, fun i j c v h5 h6 => (hk _ hb).trans (hc i j c v h5 h6)⟩
theorem RowR.upto (hE : EKeep E) (h : RowR E n w w.heap.size A l) (hb : Below w.heap.size w w') : RowR E n w' w'.heap.size A l := h.keep hE (fun _ hp => hb.cell hp) hb.size
theorem RowR.up (hE : EKeep E) (h : RowR E n w B A l) (hb : Below B w w') : RowR E n w' B A l := h.keep hE (fun _ hp => hb.cell hp) (Nat.le_refl _)
theorem RowR.grown (hE : EKeep E) {g : Nat} (h : RowR E n w B A l) (hb : w.grownBy w' (some g)) (hg : B ≤ g) (hB : B ≤ w.heap.size) : RowR E n w' B A l :=
  h.keep hE (fun p hp => World.cell?_of_block (hb.block p.block (by omega) (fun e => by injection e; omega))) (Nat.le_refl _)
theorem RowR.nil_ : RowR E n w B A [] := ⟨[], rfl, (fun _ h => by cases h), (fun i c x h => by simp at h), fun h => absurd h (by simp)⟩
/-- The row is the call's own. -/
def RowO (E : Enc α) (t : TypeId) (n : Nat) (w : World) (base : Nat) (v : Value) (l : List α) : Prop :=
  ∃ raws : List (List Value), raws.length = l.length ∧ (∀ c ∈ raws, c.length = n) ∧ (∀ (i : Nat) c x, raws[i]? = some c → l[i]? = some x → E w base c x) ∧ w.ownsRow base t n v l.length raws.flatten
theorem RowO.nil_ (E : Enc α) (t : TypeId) (n : Nat) (w : World) (base : Nat) : RowO E t n w base (.slice none 0 0) [] := ⟨[], rfl, (fun _ h => by cases h), (fun i c x h => by simp at h), World.ownsRow_nil _ _ _ _⟩
/-- Block k is of one of these types. -/
def TypedIn (ts : List TypeId) (w : World) (k : Nat) : Prop := ∃ t ∈ ts, ∃ cur fz, w.heap[k]? = some (.cells cur t fz)
/-- The element lies in blocks from base on of these types. -/
structure EOwn (E : Enc α) (ts : List TypeId) : Prop where
  out : ∀ {w w' : World} {base base' : Nat} {c : List Value} {x : α}, base' ≤ base → (∀ k, base ≤ k → TypedIn ts w k → w'.heap[k]? = w.heap[k]?) → E w base c x → E w' base' c x
theorem RowO.keep {ts : List TypeId} {t : TypeId} {v : Value} (hE : EOwn E ts) (h : RowO E t n w base v l) (hb : base' ≤ base) (hk : ∀ k, base ≤ k → TypedIn (t :: ts) w k → w'.heap[k]? = w.heap[k]?) : RowO E t n w' base' v l := by
  obtain ⟨raws, h1, h2, h3, h4⟩ := h
  refine ⟨raws, h1, h2, fun i c x hc hx => hE.out hb (fun k hk1 ⟨t', ht', cur, fz, hc'⟩ => hk k hk1 ⟨t', by simp [ht'], cur, fz, hc'⟩) (h3 i c x hc hx), h4.1, ?_⟩
  rcases h4.2 with h5 | ⟨g, cap, cur, h5, h6, h7, h8⟩
  · exact .inl h5
  · exact .inr ⟨g, cap, cur, h5, by omega, (hk g h6 ⟨t, by simp, cur, _, h7⟩).trans h7, h8⟩
theorem RowO.below {ts : List TypeId} {t : TypeId} {v : Value} (hE : EOwn E ts) (h : RowO E t n w base v l) (hb : Below w.heap.size w w') : RowO E t n w' base v l :=
  h.keep hE (Nat.le_refl _) fun k _ ⟨t', _, cur, fz, hc⟩ => hb.block k (Array.getElem?_eq_some_iff.1 hc).1
theorem RowO.grown {ts : List TypeId} {t : TypeId} {v : Value} {g : Nat} (hE : EOwn E ts) (h : RowO E t n w base v l) (hb : w.grownBy w' (some g)) (hg : g < base) : RowO E t n w' base v l :=
  h.keep hE (Nat.le_refl _) fun k hk ⟨t', _, cur, fz, hc⟩ => hb.block k (Array.getElem?_eq_some_iff.1 hc).1 (fun e => by injection e; omega)
theorem RowO.mono {ts : List TypeId} {t : TypeId} {v : Value} (hE : EOwn E ts) (h : RowO E t n w base v l) (hb : base' ≤ base) : RowO E t n w base' v l := h.keep hE hb fun _ _ _ => rfl
theorem EOwn.up {ts : List TypeId} {c : List Value} {x : α} (hE : EOwn E ts) (h : E w base c x) (hb : Below w.heap.size w w') : E w' base c x :=
  hE.out (Nat.le_refl _) (fun k _ ⟨t', _, cur, fz, hc⟩ => hb.block k (Array.getElem?_eq_some_iff.1 hc).1) h
theorem EOwn.grown {ts : List TypeId} {c : List Value} {x : α} {g : Nat} (hE : EOwn E ts) (h : E w base c x) (hb : w.grownBy w' (some g)) (hg : g < base) : E w' base c x :=
  hE.out (Nat.le_refl _) (fun k hk ⟨t', _, cur, fz, hc⟩ => hb.block k (Array.getElem?_eq_some_iff.1 hc).1 (fun e => by injection e; omega)) h
theorem EOwn.mono {ts : List TypeId} {c : List Value} {x : α} (hE : EOwn E ts) (h : E w base c x) (hb : base' ≤ base) : E w base' c x := hE.out hb (fun _ _ _ => rfl) h
/-- A set of one cell in a block below the base, or of a box of another type. -/
theorem EOwn.set {ts : List TypeId} {c : List Value} {x : α} (hE : EOwn E ts) (h : E w base c x) {g : Nat} (hg : g < base) (vs : List Value) (o : Nat) : E (w.setCells g o vs) base c x :=
  hE.out (Nat.le_refl _) (fun k hk _ => by
    have : ∀ (vs : List Value) (o : Nat) (w : World), (w.setCells g o vs).heap[k]? = w.heap[k]? := by
      intro vs
      induction vs with
      | nil => intro o w; rfl
      | cons v r ih => intro o w; rw [World.setCells, ih, Below.heap_setCell w ⟨g, o, none⟩ v k (by show k ≠ g; omega)]
    exact this vs o w) h
theorem RowO.set {ts : List TypeId} {t : TypeId} {v : Value} (hE : EOwn E ts) (h : RowO E t n w base v l) {g : Nat} (hg : g < base) (vs : List Value) (o : Nat) : RowO E t n (w.setCells g o vs) base v l :=
  h.keep hE (Nat.le_refl _) fun k hk _ => by
    have : ∀ (vs : List Value) (o : Nat) (w : World), (w.setCells g o vs).heap[k]? = w.heap[k]? := by
      intro vs
      induction vs with
      | nil => intro o w; rfl
      | cons v r ih => intro o w; rw [World.setCells, ih, Below.heap_setCell w ⟨g, o, none⟩ v k (by show k ≠ g; omega)]
    exact this vs o w
/-- An element more. -/
theorem RowO.more {ts : List TypeId} {t : TypeId} {v v' : Value} {tmp : Obj} {c : List Value} {x : α} {w2 : World} (hE : EOwn E ts) (ht : t ∉ ts) (h : RowO E t n w base v l) (hc : c.length = n) (hx : E w base c x)
    (hsame : w.heap.size ≤ w2.heap.size) (hgr : (w.alloc tmp).grownBy w2 v.ownBlock) (ho : ∀ xs, w.ownsRow base t n v l.length xs → w2.ownsRow base t n v' (l.length + 1) (xs ++ c)) : RowO E t n w2 base v' (l ++ [x]) := by
  obtain ⟨raws, h1, h2, h3, h4⟩ := h
  have hkeep : ∀ k, base ≤ k → TypedIn ts w k → w2.heap[k]? = w.heap[k]? := fun k hk ⟨t', ht', cur, fz, hcur⟩ => by
    have hlt := (Array.getElem?_eq_some_iff.1 hcur).1
    refine (hgr.block k (by simp; omega) ?_).trans (Below.heap_alloc w tmp k hlt)
    intro e
    rcases h4.2 with ⟨rfl, _⟩ | ⟨g, cap, cur', rfl, _, hg, _⟩
    · simp [Value.ownBlock] at e
    · have : k = g := by simpa [Value.ownBlock] using e
      subst this
      rw [hcur] at hg
      injection hg with hg
      injection hg with _ h5
      exact ht (h5 ▸ ht')
  refine ⟨raws ++ [c], by simp [h1], fun d hd => ?_, fun i d y hd hy => ?_, ?_⟩
  · rcases List.mem_append.1 hd with hd | hd
    · exact h2 d hd
    · simp at hd; rw [hd]; exact hc
  · rcases Nat.lt_or_ge i l.length with hi | hi
    · rw [List.getElem?_append_left (by omega)] at hd hy
      exact hE.out (Nat.le_refl _) hkeep (h3 i d y hd hy)
    · rw [List.getElem?_append_right (by omega)] at hd hy
      have hi' : i = l.length := by
        have := (List.getElem?_eq_some_iff.1 hy).1
        simp at this
        omega
      subst hi'
      rw [h1, Nat.sub_self] at hd
      rw [Nat.sub_self] at hy
      simp at hd hy
      subst hd
      subst hy
      exact hE.out (Nat.le_refl _) hkeep hx
  · have := ho _ h4
    rw [List.length_append, List.length_singleton, List.flatten_append]
    simpa using this
/-- An own row, read. -/
theorem RowO.read {E' : Enc α} {t : TypeId} {v : Value} (h : RowO E t n w base v l) (hE : ∀ c x, E w base c x → E' w w.heap.size c x) : ∃ A c, v = .slice A l.length c ∧ l.length ≤ c ∧ RowR E' n w w.heap.size A l := by
  obtain ⟨raws, h1, h2, h3, h4⟩ := h
  obtain ⟨A, c, rfl, hc⟩ := ownsRow_slice h4
  refine ⟨A, c, rfl, hc, raws, h1, h2, fun i c x hc hx => hE _ _ (h3 i c x hc hx), fun hn => ?_⟩
  obtain ⟨g, cap, hv, hb, hg⟩ := h4.form hn
  injection hv with hA
  subst hA
  refine ⟨g, 0, rfl, hg, fun i j c v hc hv => ?_⟩
  have hj : j < n := by have := h2 c (List.mem_of_getElem? hc); have := (List.getElem?_eq_some_iff.1 hv).1; omega
  have hi : i < raws.length := (List.getElem?_eq_some_iff.1 hc).1
  have hlt : i * n + j < l.length * n := by
    have : (i + 1) * n ≤ l.length * n := Nat.mul_le_mul_right _ (by omega)
    rw [Nat.succ_mul] at this
    omega
  rw [Nat.zero_add, h4.cellAt (i * n + j) hlt, flatten_at h2 i j c hc hj]
  exact hv
end
-- the elements of a case
def stC (x : St) : List Value := [.int .i64 x.1, .int .i64 x.2]
def StE : Enc St := fun _ _ c x => c = stC x
theorem StE.keep : EKeep StE := ⟨fun _ _ h => h⟩
theorem StE.own : EOwn StE [] := ⟨fun _ _ h => h⟩
def lnC (x : Ln) : List Value := [.int .i64 x.1, .int .i64 x.2.1, .int .i64 x.2.2.1, .int .i64 x.2.2.2]
def LnE : Enc Ln := fun _ _ c x => c = lnC x
theorem LnE.keep : EKeep LnE := ⟨fun _ _ h => h⟩
theorem LnE.own : EOwn LnE [] := ⟨fun _ _ h => h⟩
def ogC (x : Og) : List Value := [.int .u8 x.1, .int .i64 x.2.1, .int .i64 x.2.2.1, .int .i64 x.2.2.2]
def OgE' : Enc Og := fun _ _ c x => c = ogC x
theorem OgE'.keep : EKeep OgE' := ⟨fun _ _ h => h⟩
theorem OgE'.own : EOwn OgE' [] := ⟨fun _ _ h => h⟩
def rtC (x : Rt) : List Value := [.int .i64 x.1, .int .i64 x.2.1, .int .i64 x.2.2]
def RtE : Enc Rt := fun _ _ c x => c = rtC x
theorem RtE.keep : EKeep RtE := ⟨fun _ _ h => h⟩
theorem RtE.own : EOwn RtE [] := ⟨fun _ _ h => h⟩
def BdR : Enc Bd := fun w B c b => ∃ A cap, c = [.int .i64 b.bus, .slice A b.steps.length cap] ∧ b.steps.length ≤ cap ∧ RowR StE 2 w B A b.steps
theorem BdR.keep : EKeep BdR := ⟨fun hk hB ⟨A, cap, h1, h2, h3⟩ => ⟨A, cap, h1, h2, h3.keep StE.keep hk hB⟩⟩
def BdO : Enc Bd := fun w base c b => ∃ v, c = [.int .i64 b.bus, v] ∧ RowO StE 79 2 w base v b.steps
theorem BdO.own : EOwn BdO [79] := ⟨fun hb hk ⟨v, h1, h2⟩ => ⟨v, h1, h2.keep StE.own hb hk⟩⟩
theorem BdO.read {w : World} {base : Nat} {c : List Value} {b : Bd} (h : BdO w base c b) : BdR w w.heap.size c b := by
  obtain ⟨v, h1, h2⟩ := h
  obtain ⟨A, cap, rfl, hc, hr⟩ := h2.read (E' := StE) (fun _ _ h => h)
  exact ⟨A, cap, h1, hc, hr⟩
def UnR : Enc Un := fun w B c u => ∃ A cap, c = [.int .i64 u.bus, .int .i64 u.min, .slice A u.steps.length cap, .int .i64 u.up, .int .i64 u.down, .int .i64 u.start, .int .i64 u.idle, .int .i64 u.spin, .int .i64 u.on] ∧ u.steps.length ≤ cap ∧ RowR StE 2 w B A u.steps
theorem UnR.keep : EKeep UnR := ⟨fun hk hB ⟨A, cap, h1, h2, h3⟩ => ⟨A, cap, h1, h2, h3.keep StE.keep hk hB⟩⟩
def UnO : Enc Un := fun w base c u => ∃ v, c = [.int .i64 u.bus, .int .i64 u.min, v, .int .i64 u.up, .int .i64 u.down, .int .i64 u.start, .int .i64 u.idle, .int .i64 u.spin, .int .i64 u.on] ∧ RowO StE 79 2 w base v u.steps
theorem UnO.own : EOwn UnO [79] := ⟨fun hb hk ⟨v, h1, h2⟩ => ⟨v, h1, h2.keep StE.own hb hk⟩⟩
theorem UnO.read {w : World} {base : Nat} {c : List Value} {u : Un} (h : UnO w base c u) : UnR w w.heap.size c u := by
  obtain ⟨v, h1, h2⟩ := h
  obtain ⟨A, cap, rfl, hc, hr⟩ := h2.read (E' := StE) (fun _ _ h => h)
  exact ⟨A, cap, h1, hc, hr⟩
def HrR : Enc Hr := fun w B c h => ∃ A cap A' cap', c = [.slice A h.bids.length cap, .slice A' h.real.length cap', .int .i64 h.need] ∧ h.bids.length ≤ cap ∧ h.real.length ≤ cap' ∧ RowR BdR 2 w B A h.bids ∧ RowR BdR 2 w B A' h.real
theorem HrR.keep : EKeep HrR := ⟨fun hk hB ⟨A, cap, A', cap', h1, h2, h2', h3, h4⟩ => ⟨A, cap, A', cap', h1, h2, h2', h3.keep BdR.keep hk hB, h4.keep BdR.keep hk hB⟩⟩
def HrO : Enc Hr := fun w base c h => ∃ v v', c = [v, v', .int .i64 h.need] ∧ RowO BdO 38 2 w base v h.bids ∧ RowO BdO 38 2 w base v' h.real
theorem HrO.own : EOwn HrO [38, 79] := ⟨fun hb hk ⟨v, v', h1, h2, h3⟩ => ⟨v, v', h1, h2.keep BdO.own hb hk, h3.keep BdO.own hb hk⟩⟩
theorem HrO.read {w : World} {base : Nat} {c : List Value} {h : Hr} (hh : HrO w base c h) : HrR w w.heap.size c h := by
  obtain ⟨v, v', h1, h2, h3⟩ := hh
  obtain ⟨A, cap, rfl, hc, hr⟩ := h2.read (E' := BdR) (fun _ _ h => h.read)
  obtain ⟨A', cap', rfl, hc', hr'⟩ := h3.read (E' := BdR) (fun _ _ h => h.read)
  exact ⟨A, cap, A', cap', h1, hc, hc', hr, hr'⟩
/-- A case's value, read. -/
def CsR (w : World) (B : Nat) (c : List Value) (x : Cs) : Prop := ∃ A1 c1 A2 c2 A3 c3 A4 c4 A5 c5, c = [.int .i64 x.net.buses, .slice A1 x.net.lines.length c1, .slice A2 x.units.length c2, .slice A3 x.hours.length c3, .slice A4 x.outs.length c4, .slice A5 x.rights.length c5] ∧
  RowR LnE 4 w B A1 x.net.lines ∧ RowR UnR 9 w B A2 x.units ∧ RowR HrR 3 w B A3 x.hours ∧ RowR OgE' 4 w B A4 x.outs ∧ RowR RtE 3 w B A5 x.rights
theorem CsR.keep : EKeep CsR := ⟨fun hk hB ⟨A1, c1, A2, c2, A3, c3, A4, c4, A5, c5, h, h1, h2, h3, h4, h5⟩ =>
  ⟨A1, c1, A2, c2, A3, c3, A4, c4, A5, c5, h, h1.keep LnE.keep hk hB, h2.keep UnR.keep hk hB, h3.keep HrR.keep hk hB, h4.keep OgE'.keep hk hB, h5.keep RtE.keep hk hB⟩⟩
def NtO : Enc Nt := fun w base c n => ∃ v, c = [.int .i64 n.buses, v] ∧ RowO LnE 170 4 w base v n.lines
theorem NtO.own : EOwn NtO [170] := ⟨fun hb hk ⟨v, h1, h2⟩ => ⟨v, h1, h2.keep LnE.own hb hk⟩⟩
theorem RowR.lines {w : World} {B : Nat} {A : Option Addr} {l : List Ln} (h : RowR LnE 4 w B A l) : LinesR w B A l := fun hn => by
  obtain ⟨raws, h1, h2, h3, h4⟩ := h
  obtain ⟨b, off, rfl, hb, hc⟩ := h4 hn
  refine ⟨b, off, rfl, hb, fun i hi => ?_⟩
  have hr : raws[i]? = some raws[i] := List.getElem?_eq_getElem (by omega)
  have hx : l[i]? = some (l.getD i (0, 0, 0, 0)) := by rw [getD_eq l i _ hi]; exact List.getElem?_eq_getElem hi
  have he : raws[i] = lnC (l.getD i (0, 0, 0, 0)) := h3 i _ _ hr hx
  rw [he] at hr
  exact ⟨hc i 0 _ _ hr rfl, hc i 1 _ _ hr rfl, hc i 2 _ _ hr rfl, hc i 3 _ _ hr rfl⟩
theorem RowR.ogs {w : World} {B : Nat} {A : Option Addr} {l : List Og} (h : RowR OgE' 4 w B A l) : OgsR w B A l := fun hn => by
  obtain ⟨raws, h1, h2, h3, h4⟩ := h
  obtain ⟨b, off, rfl, hb, hc⟩ := h4 hn
  refine ⟨b, off, rfl, hb, fun i hi => ?_⟩
  have hr : raws[i]? = some raws[i] := List.getElem?_eq_getElem (by omega)
  have hx : l[i]? = some (l.getD i (0, 0, 0, 0)) := by rw [getD_eq l i _ hi]; exact List.getElem?_eq_getElem hi
  have he : raws[i] = ogC (l.getD i (0, 0, 0, 0)) := h3 i _ _ hr hx
  rw [he] at hr
  exact ⟨hc i 0 _ _ hr rfl, hc i 1 _ _ hr rfl, hc i 2 _ _ hr rfl, hc i 3 _ _ hr rfl⟩
end Go.Proofs.YtklanoppbbaolaaGreat
