/- Both is the union of ascending lists; rows that may be overwritten. -/
import Derived.Test.YtcacaiakkfgdpaaLawB
import Derived.Test.YtcacaiakkfgdpaaUniB
namespace Go.Proofs.Ytcacaiakkfgdpaa
open Go.RowKit
set_option linter.unusedVariables false

theorem bothL_mem (a b : List Int) : ∀ z, z ∈ bothL a b ↔ z ∈ a ∨ z ∈ b := by
  induction a, b using bothL.induct with
  | case1 a => intro z; simp [bothL]
  | case2 y b ih => intro z; rw [bothL, List.mem_cons, ih]; simp
  | case3 x a y b h ih => intro z; rw [bothL, if_pos h, List.mem_cons, ih]; simp [or_assoc]
  | case4 x a y b h h' ih =>
    intro z; rw [bothL, if_neg h, if_pos h', List.mem_cons, ih]
    simp only [List.mem_cons]
    constructor
    · rintro (e | (e | e) | e) <;> simp [e]
    · rintro ((e | e) | e | e) <;> simp [e]
  | case5 x a y b h h' ih =>
    obtain rfl : x = y := by omega
    intro z; rw [bothL, if_neg h, if_neg h', List.mem_cons, ih]
    simp only [List.mem_cons]
    constructor
    · rintro (e | e | e) <;> simp [e]
    · rintro ((e | e) | e | e) <;> simp [e]
theorem bothL_sorted (a b : List Int) : a.Pairwise (· < ·) → b.Pairwise (· < ·) → (bothL a b).Pairwise (· < ·) := by
  induction a, b using bothL.induct with
  | case1 a => intro h _; simpa [bothL] using h
  | case2 y b ih =>
    intro h1 h2
    rw [List.pairwise_cons] at h2
    rw [bothL, List.pairwise_cons]
    exact ⟨fun z hz => h2.1 z (by simpa using (bothL_mem _ _ z).1 hz), ih h1 h2.2⟩
  | case3 x a y b h ih =>
    intro h1 h2
    rw [bothL, if_pos h, List.pairwise_cons]
    have g1 := List.pairwise_cons.1 h1
    have g2 := List.pairwise_cons.1 h2
    refine ⟨fun z hz => ?_, ih g1.2 h2⟩
    rcases (bothL_mem _ _ z).1 hz with hz | hz
    · exact g1.1 z hz
    · rcases List.mem_cons.1 hz with rfl | hz
      · exact h
      · have := g2.1 z hz; omega
  | case4 x a y b h h' ih =>
    intro h1 h2
    rw [bothL, if_neg h, if_pos h', List.pairwise_cons]
    have g1 := List.pairwise_cons.1 h1
    have g2 := List.pairwise_cons.1 h2
    refine ⟨fun z hz => ?_, ih h1 g2.2⟩
    rcases (bothL_mem _ _ z).1 hz with hz | hz
    · rcases List.mem_cons.1 hz with rfl | hz
      · exact h'
      · have := g1.1 z hz; omega
    · exact g2.1 z hz
  | case5 x a y b h h' ih =>
    intro h1 h2
    rw [bothL, if_neg h, if_neg h', List.pairwise_cons]
    have g1 := List.pairwise_cons.1 h1
    have g2 := List.pairwise_cons.1 h2
    refine ⟨fun z hz => ?_, ih g1.2 g2.2⟩
    rcases (bothL_mem _ _ z).1 hz with hz | hz
    · exact g1.1 z hz
    · have := g2.1 z hz; omega
theorem both_union {a b : List Int} (ha : ascB a = true) (hb : ascB b = true) : bothL a b = unionL a b :=
  (unionL_eq (bothL_sorted a b ((asc_iff a).1 ha).1 ((asc_iff b).1 hb).1) (bothL_mem a b)).symm

/-- n cells at A may be overwritten, whatever new block holds the rows' headers. -/
def Spoils (w : World) (base : Nat) (A : Option Addr) (n : Nat) : Prop := ∀ hb, w.heap.size ≤ hb → RowOk w base hb A n
theorem Spoils.upto {w w' : World} {base : Nat} {A : Option Addr} {n : Nat} (h : Spoils w base A n) (hb : Below w.heap.size w w') : Spoils w' base A n := fun x hx =>
  (h x (Nat.le_trans hb.size hx)).stay (Stay.below hb)
theorem Spoils.stay {w w' : World} {base : Nat} {A : Option Addr} {n : Nat} (h : Spoils w base A n) (hs : Stay w w') (hz : w.heap.size ≤ w'.heap.size) : Spoils w' base A n := fun x hx =>
  (h x (Nat.le_trans hz hx)).stay hs
theorem Spoils.nil {w : World} {base : Nat} {A : Option Addr} : Spoils w base A 0 := fun _ _ => RowOk.nil
theorem Spoils.own {w : World} {base B : Nat} {e : TypeId} {size : Nat} {A : Option Addr} {n c : Nat} {xs : List Value} (h : w.ownsRow base e size (.slice A n c) n xs) (hB : B ≤ base) : Spoils w B A (n * size) := fun hb hx => by
  obtain ⟨A', c', e, hr⟩ := RowOk.own (hb := hb) h hB (.inr hx)
  injection e with e1
  rw [e1]; exact hr

theorem spoil_lit (base : Nat) (nb : Int) (AL : Option Addr) (m cl : Nat) (rows : List (Option Addr × Nat × Nat)) (cr : Nat) (t : TypeId) (W : World) (hl : Spoils W base AL (m * 4)) (hr : ∀ i, i < rows.length → Spoils W base (rows.getD i (none, 0, 0)).1 (rows.getD i (none, 0, 0)).2.1)
    (hbase : base ≤ W.heap.size) (h1 : m ≤ 1000000) (h2 : rows.length ≤ 1000000) (h3 : ∀ i, i < rows.length → (rows.getD i (none, 0, 0)).2.1 ≤ 1000000) :
    Calls Try.prog 27 #[.agg #[.int .i64 nb, .slice AL m cl], .slice (some ⟨W.heap.size, 0, none⟩) rows.length cr] (W.alloc (.cells (rows.map fun r => Value.slice r.1 r.2.1 r.2.2).toArray t)) fun e w' => (∃ v, e = .returned v) ∧ Below base W w' ∧ Stay W w' := by
  have hb0 : Below W.heap.size W (W.alloc (.cells (rows.map fun r => Value.slice r.1 r.2.1 r.2.2).toArray t)) := (Below.refl _ _).alloc (Nat.le_refl _) _
  have hs0 := Stay.below hb0
  refine (spoil14_any base W.heap.size 0 nb AL cl m _ cr rows _ (fun _ => ⟨rfl, by simp⟩) (fun i hi => ?_) ((hl _ (Nat.le_refl _)).stay hs0) (fun i hi => (hr i hi _ (Nat.le_refl _)).stay hs0) (Nat.le_trans hbase hb0.size) h1 h2 h3).mono ?_
  · rw [Nat.zero_add, cell_alloc_at _ _ _ _ _ rfl]
    simp [hi]
  · rintro e w' ⟨hv, hb, hs⟩
    exact ⟨hv, (hb0.mono hbase).trans (hb.mono (Nat.le_refl _)), hs0.trans hs⟩
theorem spoil_one (base : Nat) (A : Option Addr) (n c : Nat) (t : TypeId) (W : World) (h : Spoils W base A n) (hbase : base ≤ W.heap.size) (h3 : n ≤ 1000000) :
    Calls Try.prog 27 #[.agg #[.int .i64 0, .slice none 0 0], .slice (some ⟨W.heap.size, 0, none⟩) 1 1] (W.alloc (.cells #[.slice A n c] t)) fun e w' => (∃ v, e = .returned v) ∧ Below base W w' ∧ Stay W w' :=
  spoil_lit base 0 none 0 0 [(A, n, c)] 1 t W (by rw [Nat.zero_mul]; exact Spoils.nil)
    (fun i hi => by
      obtain rfl : i = 0 := by simp at hi; omega
      exact h) hbase (by omega) (by simp)
    (fun i hi => by
      obtain rfl : i = 0 := by simp at hi; omega
      exact h3)
theorem spoil_two (base : Nat) (A A' : Option Addr) (n c n' c' : Nat) (t : TypeId) (W : World) (h : Spoils W base A n) (h' : Spoils W base A' n') (hbase : base ≤ W.heap.size) (h3 : n ≤ 1000000) (h3' : n' ≤ 1000000) :
    Calls Try.prog 27 #[.agg #[.int .i64 0, .slice none 0 0], .slice (some ⟨W.heap.size, 0, none⟩) 2 2] (W.alloc (.cells #[.slice A n c, .slice A' n' c'] t)) fun e w' => (∃ v, e = .returned v) ∧ Below base W w' ∧ Stay W w' :=
  spoil_lit base 0 none 0 0 [(A, n, c), (A', n', c')] 2 t W (by rw [Nat.zero_mul]; exact Spoils.nil)
    (fun i hi => by
      rcases (by simp at hi; omega : i = 0 ∨ i = 1) with rfl | rfl
      · exact h
      · exact h') hbase (by omega) (by simp)
    (fun i hi => by
      rcases (by simp at hi; omega : i = 0 ∨ i = 1) with rfl | rfl
      · exact h3
      · exact h3')
theorem ints_same (A A' : Option Addr) (c c' : Nat) (l : List Int) (w : World) (hx : IntsR w w.heap.size A l) (hy : IntsR w w.heap.size A' l) (h : l.length ≤ 1000000) :
    Calls Try.prog 23 #[.slice A l.length c, .slice A' l.length c'] w fun e w' => e = .returned (.bool true) ∧ Below w.heap.size w w' :=
  (ints_any A A' c c' l l w hx hy h h).mono fun e w' ⟨he, n, hn⟩ => ⟨by rw [he]; simp, by rw [hn]; exact below_drewN (Below.refl _ _) n⟩
end Go.Proofs.Ytcacaiakkfgdpaa
