/- Texts in one: OngR, OgW. -/
import Derived.BigQuiet
import Derived.BigGuardPart
import Derived.Test.YtkfhpefmmhljmaaGreatDoorF6
import Derived.Test.YtkfhpefmmhljmaaGreatDoorF2
set_option linter.unusedVariables false
set_option linter.unusedSimpArgs false
set_option maxHeartbeats 16000000
namespace Go.Proofs.YtkfhpefmmhljmaaGreatDoor
def vF (l m : List Og) : Prop := ∀ k x h : Int, (∃ o ∈ l, ogCov o k x h) ↔ ∃ o ∈ m, ogCov o k x h
theorem vF.symm {l m : List Og} (h : vF l m) : vF m l := fun k x t => (h k x t).symm
theorem vF.trans {l m n : List Og} (h : vF l m) (h' : vF m n) : vF l n := fun k x t => (h k x t).trans (h' k x t)
theorem eC : ∀ (l m : List Og), (∀ o ∈ l, o.2.2.1 ≤ o.2.2.2) → (∀ o ∈ m, o.2.2.1 ≤ o.2.2.2) → l.Pairwise ogSep → m.Pairwise ogSep → vF l m → l = m := by
 intro l
 induction l with
 | nil =>
  intro m _ hm _ _ hs;cases m with
  | nil => rfl
  | cons b m =>
   obtain ⟨o, ho, _⟩ := (hs b.1 b.2.1 b.2.2.1).2 ⟨b, by simp, rfl, rfl, Int.le_refl _, hm b (by simp)⟩;simp at ho
 | cons a l ih =>
  intro m hl hm pl pm hs;cases m with
  | nil =>
   obtain ⟨o, ho, _⟩ := (hs a.1 a.2.1 a.2.2.1).1 ⟨a, by simp, rfl, rfl, Int.le_refl _, hl a (by simp)⟩;simp at ho
  | cons b m =>
   obtain ⟨pl1, pl2⟩ := List.pairwise_cons.1 pl;obtain ⟨pm1, pm2⟩ := List.pairwise_cons.1 pm;have ha := hl a (by simp);have hb := hm b (by simp);have low : ∀ (u : Og) (t : List Og), (∀ o ∈ t, ogSep u o) → u.2.2.1 ≤ u.2.2.2 → ∀ k x h : Int, (∃ o ∈ u :: t, ogCov o k x h) → u.1 < k ∨ u.1 = k ∧ (u.2.1 < x ∨ u.2.1 = x ∧ u.2.2.1 ≤ h) := by
    rintro u t hu hut k x h ⟨o, ho, hc⟩;rcases List.mem_cons.1 ho with rfl | ho
    ·unfold ogCov at hc; omega
    ·have := hu o ho;unfold ogSep ogCov at *; omega
   have e1 := low b m pm1 hb _ _ _ ((hs a.1 a.2.1 a.2.2.1).1 ⟨a, by simp, rfl, rfl, Int.le_refl _, ha⟩);have e2 := low a l pl1 ha _ _ _ ((hs b.1 b.2.1 b.2.2.1).2 ⟨b, by simp, rfl, rfl, Int.le_refl _, hb⟩);have k1 : a.1 = b.1 := by omega
   have k2 : a.2.1 = b.2.1 := by omega
   have k3 : a.2.2.1 = b.2.2.1 := by omega
   have up : ∀ (u : Og) (t : List Og), (∀ o ∈ t, ogSep u o) → ¬ ∃ o ∈ u :: t, ogCov o u.1 u.2.1 (u.2.2.2 + 1) := by
    rintro u t hu ⟨o, ho, hc⟩;rcases List.mem_cons.1 ho with rfl | ho
    ·unfold ogCov at hc; omega
    ·have := hu o ho;unfold ogSep ogCov at *; omega
   have k4 : a.2.2.2 = b.2.2.2 := by
    rcases Int.lt_trichotomy a.2.2.2 b.2.2.2 with h | h | h
    ·exact absurd ((hs a.1 a.2.1 (a.2.2.2 + 1)).2 ⟨b, by simp, k1.symm, k2.symm, by omega, by omega⟩) (up a l pl1)
    ·exact h
    ·exact absurd ((hs b.1 b.2.1 (b.2.2.2 + 1)).1 ⟨a, by simp, k1, k2, by omega, by omega⟩) (up b m pm1)
   have hab : a = b := by
    obtain ⟨a1, a2, a3, a4⟩ := a;obtain ⟨b1, b2, b3, b4⟩ := b;simp only at k1 k2 k3 k4;rw [k1, k2, k3, k4]
   subst hab;have tail : ∀ (t t' : List Og), (∀ o ∈ t, ogSep a o) → (∀ o ∈ t', ogSep a o) → vF (a :: t) (a :: t') → ∀ k x h : Int, (∃ o ∈ t, ogCov o k x h) → ∃ o ∈ t', ogCov o k x h := by
    rintro t t' ht ht' hst k x h ⟨o, ho, hc⟩;obtain ⟨o', ho', hc'⟩ := (hst k x h).1 ⟨o, by simp [ho], hc⟩;rcases List.mem_cons.1 ho' with rfl | ho'
    ·have := ht o ho;unfold ogSep ogCov at *; omega
    ·exact ⟨o', ho', hc'⟩
   rw [ih m (fun o ho => hl o (by simp [ho])) (fun o ho => hm o (by simp [ho])) pl2 pm2 (fun k x h => ⟨tail l m pl1 pm1 hs k x h, tail m l pm1 pl1 hs.symm k x h⟩)]
instance (a b : Og) : Decidable (ogLe a b) := by unfold ogLe; infer_instance
def ogLt (a b : Og) : Prop := a.1 < b.1 ∨ a.1 = b.1 ∧ (a.2.1 < b.2.1 ∨ a.2.1 = b.2.1 ∧ a.2.2.1 < b.2.2.1)
instance (a b : Og) : Decidable (ogLt a b) := by unfold ogLt; infer_instance
structure IsNorm (l n : List Og) : Prop where
 live : ∀ o ∈ n, o.2.2.1 ≤ o.2.2.2
 sep : n.Pairwise ogSep
 same : vF n l
theorem IsNorm.eq {l l' n n' : List Og} (h : IsNorm l n) (h' : IsNorm l' n') (hs : vF l l') : n = n' :=
 eC n n' h.live h'.live h.sep h'.sep ((h.same.trans hs).trans h'.same.symm)
end Go.Proofs.YtkfhpefmmhljmaaGreatDoor
namespace Go.Proofs.YtkfhpefmmhljmaaGreatDoor
open Go.RowKit
def OgsR (w : World) (B : Nat) (A : Option Addr) (ls : List Og) : Prop :=
 0 < ls.length → ∃ b off, A = some ⟨b, off, none⟩ ∧ b < B ∧ ∀ i, i < ls.length →
  w.cell? ⟨b, off + i * 4, none⟩ = some (.int .u8 (ls.getD i (0, 0, 0, 0)).1) ∧
  w.cell? ⟨b, off + i * 4 + 1, none⟩ = some (.int .i64 (ls.getD i (0, 0, 0, 0)).2.1) ∧
  w.cell? ⟨b, off + i * 4 + 2, none⟩ = some (.int .i64 (ls.getD i (0, 0, 0, 0)).2.2.1) ∧
  w.cell? ⟨b, off + i * 4 + 3, none⟩ = some (.int .i64 (ls.getD i (0, 0, 0, 0)).2.2.2)
def OgB (o : Og) : Prop := -9223372036854775808 ≤ o.2.2.1 ∧ o.2.2.1 ≤ 9223372036854775807 ∧ -9223372036854775808 ≤ o.2.2.2 ∧ o.2.2.2 ≤ 9223372036854775807
def OgBs (l : List Og) : Prop := ∀ o ∈ l, OgB o
theorem OgBs.at_ {l : List Og} (h : OgBs l) (k : Nat) : OgB (l.getD k (0, 0, 0, 0)) := by
 by_cases hk : k < l.length
 ·rw [List.getD_eq_getElem?_getD, List.getElem?_eq_getElem hk]; exact h _ (List.getElem_mem hk)
 ·rw [List.getD_eq_getElem?_getD, List.getElem?_eq_none (by omega)]; simp [OgB]
section
variable {w w' : World} {B B' : Nat} {A : Option Addr} {ls : List Og}
theorem OgsR.nil_ : OgsR w B A [] := fun h => absurd h (by simp)
theorem OgsR.keep (h : OgsR w B A ls) (hk : ∀ p : Addr, p.block < B → w'.cell? p = w.cell? p) : OgsR w' B A ls := fun hn => by
 obtain ⟨b, off, e, hb, hc⟩ := h hn;refine ⟨b, off, e, hb, fun i hi => ?_⟩;obtain ⟨h0, h1, h2, h3⟩ := hc i hi;exact ⟨(hk _ hb).trans h0, (hk _ hb).trans h1, (hk _ hb).trans h2, (hk _ hb).trans h3⟩
theorem OgsR.more (h : OgsR w B A ls) (hB : B ≤ B') : OgsR w B' A ls := fun hn => by
 obtain ⟨b, off, e, hb, hc⟩ := h hn;exact ⟨b, off, e, by omega, hc⟩
theorem OgsR.below (h : OgsR w B A ls) (hb : Below B w w') : OgsR w' B A ls := h.keep fun _ hp => hb.cell hp
theorem OgsR.upto (h : OgsR w w A ls) (hb : Below w w w') : OgsR w' w' A ls := (h.below hb).more hb.size
theorem OgsR.alloc (h : OgsR w B A ls) (hB : B ≤ w) (o : Obj) : OgsR (w.alloc o) B A ls := h.keep fun p hp => World.cell?_alloc_lt w o p (by omega)
end
def ogEnc (o : Og) : List Value := [.int .u8 o.1, .int .i64 o.2.1, .int .i64 o.2.2.1, .int .i64 o.2.2.2]
def jK (ls : List Og) : List Value := ls.flatMap ogEnc
theorem yP (l : Og) (ls : List Og) : jK (l :: ls) = ogEnc l ++ jK ls := by simp [jK]
theorem xH (ls : List Og) : (jK ls).length = ls.length * 4 := by
 induction ls with
 | nil => rfl
 | cons l ls ih =>
  rw [yP, List.length_append, ih];simp [ogEnc];omega
theorem gV (ls : List Og) : ∀ (i : Nat), i < ls.length → (jK ls)[i * 4]? = some (.int .u8 (ls.getD i (0, 0, 0, 0)).1) ∧ (jK ls)[i * 4 + 1]? = some (.int .i64 (ls.getD i (0, 0, 0, 0)).2.1) ∧
  (jK ls)[i * 4 + 2]? = some (.int .i64 (ls.getD i (0, 0, 0, 0)).2.2.1) ∧ (jK ls)[i * 4 + 3]? = some (.int .i64 (ls.getD i (0, 0, 0, 0)).2.2.2) := by
 induction ls with
 | nil => intro i hi; simp at hi
 | cons l ls ih =>
  intro i hi;cases i with
  | zero => simp [jK, ogEnc]
  | succ i =>
   have := ih i (by simpa using hi);rw [yP];have a0 : (i + 1) * 4 = 4 + i * 4 := by omega
   have a1 : (i + 1) * 4 + 1 = 4 + (i * 4 + 1) := by omega
   have a2 : (i + 1) * 4 + 2 = 4 + (i * 4 + 2) := by omega
   have a3 : (i + 1) * 4 + 3 = 4 + (i * 4 + 3) := by omega
   rw [a1, a2, a3, a0];rw [List.getElem?_append_right (by simp [ogEnc]), List.getElem?_append_right (by simp [ogEnc]), List.getElem?_append_right (by simp [ogEnc]), List.getElem?_append_right (by simp [ogEnc])];simpa [ogEnc] using this
theorem OgsR.of_block {w : World} {g : Nat} {cs : Array Value} {t : TypeId} {fz : Nat × Nat} {ls : List Og} (h : w.heap[g]? = some (.cells cs t fz)) (hc : cs.toList.take (ls.length * 4) = jK ls) : OgsR w w (some ⟨g, 0, none⟩) ls := fun hn => by
 refine ⟨g, 0, rfl, (Array.getElem?_eq_some_iff.1 h).1, fun i hi => ?_⟩;have hcell : ∀ j, j < ls.length * 4 → w.cell? ⟨g, 0 + j, none⟩ = (jK ls)[j]? := by
  intro j hj;rw [← hc, List.getElem?_take_of_lt hj];simp [World.cell?, h]
 obtain ⟨h0, h1, h2, h3⟩ := gV ls i hi;have g0 := hcell (i * 4) (by omega);have g1 := hcell (i * 4 + 1) (by omega);have g2 := hcell (i * 4 + 2) (by omega);have g3 := hcell (i * 4 + 3) (by omega);simp only [← Nat.add_assoc] at g0 g1 g2 g3;exact ⟨g0.trans h0, g1.trans h1, g2.trans h2, g3.trans h3⟩
theorem OgsR.lit (w : World) (t : TypeId) (ls : List Og) (cs : Array Value) (h : cs = (jK ls).toArray) : OgsR (w.alloc (.cells cs t)) (w.alloc (.cells cs t)).heap.size (some ⟨w, 0, none⟩) ls := by
 have hl := xH ls;exact OgsR.of_block (w := w.alloc (.cells cs t)) (g := w) (ls := ls) (heap_alloc_new w _) (by rw [h]; simp; rw [List.take_of_length_le (by omega)])
theorem OgsR.toSrc {w : World} {B : Nat} {A : Option Addr} {ls : List Og} (h : OgsR w B A ls) : Src w 4 A ls.length (jK ls) := by
 refine ⟨xH ls, fun hp => ?_⟩;obtain ⟨b, off, rfl, _, hc⟩ := h hp;refine ⟨_, rfl, fun j v hv => ?_⟩;have hjl : j < ls.length * 4 := by rw [← xH]; exact (List.getElem?_eq_some_iff.1 hv).1
 have hi : j / 4 < ls.length := by omega
 obtain ⟨c0, c1, c2, c3⟩ := hc (j / 4) hi;obtain ⟨d0, d1, d2, d3⟩ := gV ls (j / 4) hi;have ha : (⟨b, off, none⟩ : Addr).add j = ⟨b, off + j, none⟩ := by unfold Addr.add; split <;> simp_all
 rw [ha];rcases (by omega : j % 4 = 0 ∨ j % 4 = 1 ∨ j % 4 = 2 ∨ j % 4 = 3) with h | h | h | h
 ·rw [show j = j / 4 * 4 by omega, d0] at hv; rw [show off + j = off + j / 4 * 4 by omega, c0]; exact hv
 ·rw [show j = j / 4 * 4 + 1 by omega, d1] at hv; rw [show off + j = off + j / 4 * 4 + 1 by omega, c1]; exact hv
 ·rw [show j = j / 4 * 4 + 2 by omega, d2] at hv; rw [show off + j = off + j / 4 * 4 + 2 by omega, c2]; exact hv
 ·rw [show j = j / 4 * 4 + 3 by omega, d3] at hv; rw [show off + j = off + j / 4 * 4 + 3 by omega, c3]; exact hv
theorem dP {w : World} {base : Nat} {v : Value} {xs : List Int} (h : w.ownsRow base 3 1 v xs.length (xs.map (Value.int .i64))) : ∃ A c, v = .slice A xs.length c ∧ IntsR w w A xs := by
 rcases h.2 with ⟨rfl, h0⟩ | ⟨g, cap, cur, rfl, hb, hg, h1, h2, h3, h4⟩
 ·obtain rfl : xs = [] := List.eq_nil_of_length_eq_zero h0;exact ⟨none, 0, rfl, IntsR.nil_⟩
 ·refine ⟨_, _, rfl, fun hn => ⟨g, 0, rfl, (Array.getElem?_eq_some_iff.1 hg).1, fun i hi => ?_⟩⟩;have hcell : w.cell? ⟨g, 0 + i, none⟩ = cur[i]? := by simp [World.cell?, hg]
  rw [hcell];have : (cur.toList.take (xs.length * 1))[i]? = (xs.map (Value.int .i64))[i]? := by rw [h4]
  rw [List.getElem?_take_of_lt (by omega)] at this;rw [← Array.getElem?_toList, this];simp [hi]
end Go.Proofs.YtkfhpefmmhljmaaGreatDoor
