/- Texts in one: Coz, AnyO, AnyG, Words, AnyW, Only, Shf. -/
import Derived.OwnWalkIn
import Derived.Deep.AppendLies
import Derived.Shelf.Strings.OnBuilder
import Derived.Shelf.Small.Bits
import Derived.Shelf.Small.Wraps
import Derived.Shelf.Utf8.RuneCount
import Derived.Shelf.Strconv.Itoa4
import Derived.Shelf.Strings.Shaped
import Derived.Shelf.Strings.SplitShaped
import Derived.Shelf.Unicode.Decode
import Derived.Shelf.Strings.RuneCount
import Derived.Shelf.Strings.Repeat
import Derived.Shelf.Unicode.DecodeAny
import Derived.Shelf.Strings.BuilderCap
import Derived.Test.YtkfhpefmmhljmaaGreatDoorProg
set_option linter.unusedVariables false
set_option linter.unusedSimpArgs false
set_option maxHeartbeats 16000000
namespace Go.Proofs.YtkfhpefmmhljmaaGreatDoor
instance : CoeOut World Nat := ⟨fun w => w.heap.size⟩
end Go.Proofs.YtkfhpefmmhljmaaGreatDoor
namespace Go.Proofs.YtkfhpefmmhljmaaGreatDoor
open Go.RowKit
section
variable {P : Program} {ops : Array Oper} {Q : Exit → Act → World → Prop} {F : Nat → Value → World → Prop} {I : World → Prop} {a0 : Act}
def Apart (ops : Array Oper) (d : Tmp) : Prop := ∀ (j : Nat) (o : Oper), ops[j]? = some o → o.dst ≠ some d
theorem jC (a : Act) (d e : Tmp) (v : Value) (h : d < a.tmps.size) : (a.put (some d) v).tmps.getD e undef = if d = e then v else a.tmps.getD e undef := by
 unfold Act.put;simp only [Array.getD_eq_getD_getElem?, Array.getElem?_setIfInBounds];by_cases hde : d = e
 ·subst hde;simp [h]
 ·simp [hde]
theorem qV (a : Act) (d : Option Tmp) (v : Value) : (a.put d v).tmps.size = a.tmps.size := by
 unfold Act.put;cases d <;> simp
theorem vE (a : Act) (d : Option Tmp) (v : Value) : (a.put d v).defers = a.defers := by
 unfold Act.put;cases d <;> rfl
theorem dG (listed : Array Bool) (i j : Nat) (h : i < listed.size) : (listed.setIfInBounds i true).getD j false = true ↔ i = j ∨ listed.getD j false = true := by
 simp only [Array.getD_eq_getD_getElem?, Array.getElem?_setIfInBounds];by_cases hij : i = j
 ·subst hij;simp [h]
 ·simp [hij]
theorem nU (listed : Array Bool) (i j : Nat) (h : i < listed.size) : (listed.setIfInBounds i true).getD j true = true ↔ i = j ∨ listed.getD j true = true := by
 simp only [Array.getD_eq_getD_getElem?, Array.getElem?_setIfInBounds];by_cases hij : i = j
 ·subst hij;simp [h]
 ·simp [hij]
theorem fC (listed : Array Bool) (j : Nat) (h : j < listed.size) : listed.getD j false = listed.getD j true := by simp [Array.getD, h]
def xC (n : Nat) (listed : Array Bool) : Nat := ((List.range n).filter fun i => !listed.getD i true).length
theorem uM {n i : Nat} {listed : Array Bool} (hn : listed.size = n) (hi : i < n) (h : listed.getD i true = false) : xC n (listed.setIfInBounds i true) < xC n listed := by
 have e : ((List.range n).filter fun k => !(listed.setIfInBounds i true).getD k true) = (((List.range n).filter fun k => !listed.getD k true).filter fun k => decide (k ≠ i)) := by
  rw [List.filter_filter];refine List.filter_congr fun k hk => ?_
  have := nU listed i k (by omega);cases h1 : (listed.setIfInBounds i true).getD k true <;> cases h2 : listed.getD k true <;> by_cases h3 : k = i <;> simp_all
 unfold xC;rw [e];refine List.length_filter_lt_length_iff_exists.2 ⟨i, ?_, by simp⟩;rw [List.mem_filter, List.mem_range];exact ⟨hi, by simp [h]⟩
def qH (ops : List Oper) (vs : Nat → Value) (k : Nat) (a : Act) : Act :=
 match ops with
 | [] => a
 | o :: rest => qH rest vs (k + 1) (a.put o.dst (vs k))
theorem dW (ops : List Oper) (vs : Nat → Value) : ∀ (k : Nat) (a : Act), (qH ops vs k a).defers = a.defers := by
 induction ops with
 | nil => intro k a; rfl
 | cons o rest ih => intro k a; rw [qH, ih, vE]
theorem nL (ops : List Oper) (vs : Nat → Value) : ∀ (k : Nat) (a : Act), (qH ops vs k a).tmps.size = a.tmps.size := by
 induction ops with
 | nil => intro k a; rfl
 | cons o rest ih => intro k a; rw [qH, ih, qV]
theorem zCd {a b : Act} (h1 : a.defers = b.defers) (h2 : a.tmps.size = b.tmps.size) (h : ∀ d, a.tmps.getD d undef = b.tmps.getD d undef) : a = b := by
 obtain ⟨t, ds⟩ := a;obtain ⟨t', ds'⟩ := b;simp only at h1 h2 h;subst h1
 congr 1
 refine Array.ext h2 fun i hi hi' => ?_
 have := h i;simpa [Array.getD, hi, hi'] using this
end
section
variable {P : Program} {ops : Array Oper} {Q : Exit → Act → World → Prop} {F : Nat → Value → World → Prop} {I : World → Prop} {a0 : Act}
theorem jW {listed : Array Bool} (hu : xC ops.size listed ≤ 0) : ∀ j, j < ops.size → listed.getD j true = true := by
 intro j hj;by_cases hl : listed.getD j true = true
 ·exact hl
 ·exfalso;have h0 : ((List.range ops.size).filter fun i => !listed.getD i true) = [] := List.eq_nil_of_length_eq_zero (by unfold xC at hu; omega);have : j ∈ ((List.range ops.size).filter fun i => !listed.getD i true) := by
   rw [List.mem_filter, List.mem_range];exact ⟨hj, by simpa using hl⟩
  rw [h0] at this;simp at this
theorem dC {listed : Array Bool} (hall : ∀ j, j < ops.size → listed.getD j true = true) : Region.ready .any ops listed = [] := by
 refine List.eq_nil_iff_forall_not_mem.2 fun j hj => ?_
 rw [mem_ready] at hj;obtain ⟨h1, o, ho, _⟩ := hj;rw [hall j (Array.getElem?_eq_some_iff.1 ho).1] at h1;simp at h1
theorem gK (n : Nat) (listed : Array Bool) : xC n listed ≤ n := Nat.le_trans (List.length_filter_le _ _) (by simp)
theorem bW {a : Act} {j : Nat} {o : Oper} {d : Tmp} {b : Bool} (ho : ops[j]? = some o) (hd : o.dst = some d) (h : a.tmps.getD d undef = .bool b) : yielded ops a.tmps j = some b := by
 unfold yielded;rw [ho];simp only [Option.bind_some, hd];have e : a.tmps[d]? = some (.bool b) := by
  rw [Array.getD_eq_getD_getElem?] at h;cases hq : a.tmps[d]? with
  | none => rw [hq] at h; simp [undef] at h
  | some u => rw [hq] at h; simp at h; rw [h]
 rw [e]
theorem xX {o o' : Oper} {a : Act} {j : Nat} {want b : Bool} {d : Tmp} (hg : o.guard = some (j, want)) (ho : ops[j]? = some o') (hd : o'.dst = some d) (h : a.tmps.getD d undef = .bool b) : Region.wanted o (yielded ops a.tmps) = (b == want) := by
 unfold Region.wanted;rw [hg];show (yielded ops a.tmps j == some want) = (b == want)
 rw [bW ho hd h];cases b <;> cases want <;> rfl
end
abbrev Ln := Int × Int × Int × Int
def IntsR (w : World) (B : Nat) (A : Option Addr) (xs : List Int) : Prop :=
 0 < xs.length → ∃ b off, A = some ⟨b, off, none⟩ ∧ b < B ∧ ∀ i, i < xs.length → w.cell? ⟨b, off + i, none⟩ = some (.int .i64 (xs.getD i 0))
def jI (w : World) (B : Nat) (A : Option Addr) (ls : List Ln) : Prop :=
 0 < ls.length → ∃ b off, A = some ⟨b, off, none⟩ ∧ b < B ∧ ∀ i, i < ls.length →
  w.cell? ⟨b, off + i * 4, none⟩ = some (.int .i64 (ls.getD i (0, 0, 0, 0)).1) ∧
  w.cell? ⟨b, off + i * 4 + 1, none⟩ = some (.int .i64 (ls.getD i (0, 0, 0, 0)).2.1) ∧
  w.cell? ⟨b, off + i * 4 + 2, none⟩ = some (.int .i64 (ls.getD i (0, 0, 0, 0)).2.2.1) ∧
  w.cell? ⟨b, off + i * 4 + 3, none⟩ = some (.int .i64 (ls.getD i (0, 0, 0, 0)).2.2.2)
section
variable {w w' : World} {B B' : Nat} {A : Option Addr} {xs : List Int} {ls : List Ln}
theorem IntsR.nil_ : IntsR w B A [] := fun h => absurd h (by simp)
theorem IntsR.keep (h : IntsR w B A xs) (hk : ∀ p : Addr, p.block < B → w'.cell? p = w.cell? p) : IntsR w' B A xs := fun hn => by
 obtain ⟨b, off, e, hb, hc⟩ := h hn;exact ⟨b, off, e, hb, fun i hi => (hk _ hb).trans (hc i hi)⟩
theorem IntsR.more (h : IntsR w B A xs) (hB : B ≤ B') : IntsR w B' A xs := fun hn => by
 obtain ⟨b, off, e, hb, hc⟩ := h hn;exact ⟨b, off, e, by omega, hc⟩
theorem IntsR.below (h : IntsR w B A xs) (hb : Below B w w') : IntsR w' B A xs := h.keep fun _ hp => hb.cell hp
theorem IntsR.upto (h : IntsR w w A xs) (hb : Below w w w') : IntsR w' w' A xs := (h.below hb).more hb.size
theorem IntsR.drewN (h : IntsR w B A xs) (n : Nat) : IntsR (w.drewN n) B A xs := h
theorem IntsR.alloc (h : IntsR w B A xs) (hB : B ≤ w) (o : Obj) : IntsR (w.alloc o) B A xs := h.keep fun p hp => World.cell?_alloc_lt w o p (by omega)
theorem jI.nil_ : jI w B A [] := fun h => absurd h (by simp)
theorem jI.keep (h : jI w B A ls) (hk : ∀ p : Addr, p.block < B → w'.cell? p = w.cell? p) : jI w' B A ls := fun hn => by
 obtain ⟨b, off, e, hb, hc⟩ := h hn;refine ⟨b, off, e, hb, fun i hi => ?_⟩;obtain ⟨h0, h1, h2, h3⟩ := hc i hi;exact ⟨(hk _ hb).trans h0, (hk _ hb).trans h1, (hk _ hb).trans h2, (hk _ hb).trans h3⟩
theorem jI.more (h : jI w B A ls) (hB : B ≤ B') : jI w B' A ls := fun hn => by
 obtain ⟨b, off, e, hb, hc⟩ := h hn;exact ⟨b, off, e, by omega, hc⟩
theorem jI.below (h : jI w B A ls) (hb : Below B w w') : jI w' B A ls := h.keep fun _ hp => hb.cell hp
theorem jI.upto (h : jI w w A ls) (hb : Below w w w') : jI w' w' A ls := (h.below hb).more hb.size
theorem jI.drewN (h : jI w B A ls) (n : Nat) : jI (w.drewN n) B A ls := h
theorem jI.alloc (h : jI w B A ls) (hB : B ≤ w) (o : Obj) : jI (w.alloc o) B A ls := h.keep fun p hp => World.cell?_alloc_lt w o p (by omega)
end
theorem qM {B : Nat} {a w : World} (h : Below B a w) (n : Nat) : Below B a (w.drewN n) := ⟨h.os, h.tape, h.output, h.size, h.block⟩
theorem jU (w : World) (cs : Array Value) (t : TypeId) (b off : Nat) (hb : b = w.heap.size) : (w.alloc (.cells cs t)).cell? ⟨b, off, none⟩ = cs[off]? := by
 subst hb;have h : (w.alloc (.cells cs t)).heap[w.heap.size]? = some (.cells cs t) := heap_alloc_new w _;simp only [World.cell?, h];rfl
theorem zJ {w : World} {p : Addr} {v : Value} (o : Obj) (h : w.cell? p = some v) : (w.alloc o).cell? p = some v :=
 (World.cell?_alloc_lt w o p (World.block_lt_of_cell? w p h)).trans h
theorem qB {a b : Bool} (h : a = b) : Ending.returned (.bool a) = .returned (.bool b) := by rw [h]
theorem zI {k : IntKind} {a b : Int} (h : a = b) : Ending.returned (.int k a) = .returned (.int k b) := by rw [h]
theorem zK {α : Type} (l : List α) (i : Nat) (d : α) (h : i < l.length) : l.getD i d = l[i] := by simp [h]
section
variable {P : Program} {ops : Array Oper} {Q : Exit → Act → World → Prop} {F : Nat → Value → World → Prop} {I : World → Prop} {a0 : Act}
def Did (F : Nat → Value → World → Prop) (a : Act) (w : World) (j : Nat) (o : Oper) : Prop := (∀ d, o.dst = some d → F j (a.tmps.getD d undef) w) ∧ (o.dst = none → ∃ v, F j v w)
structure WInv (ops : Array Oper) (F : Nat → Value → World → Prop) (I : World → Prop) (a0 : Act) (listed : Array Bool) (a : Act) (w : World) : Prop where
 size : listed.size = ops.size
 defers : a.defers = a0.defers
 tmps : a.tmps.size = a0.tmps.size
 world : I w
 did : ∀ (j : Nat) (o : Oper), ops[j]? = some o → listed.getD j false = true → Did F a w j o
 rest : ∀ d : Tmp, Apart ops d → a.tmps.getD d undef = a0.tmps.getD d undef
theorem dD {listed : Array Bool} (hs : listed.size = ops.size) (hac : ∀ (j : Nat) (o : Oper), ops[j]? = some o → ∀ e ∈ o.after, Region.binds .any e = true → e.on < j) (h : Region.ready .any ops listed = []) : ∀ j, j < ops.size → listed.getD j true = true := by
 intro j
 induction j using Nat.strongRecOn with
 | ind j ih =>
  intro hj;by_cases hl : listed.getD j true = true
  ·exact hl
  ·exfalso;have hm : j ∈ Region.ready .any ops listed := by
    rw [mem_ready];refine ⟨by simpa using hl, ops[j], Array.getElem?_eq_getElem hj, fun e he hb => ?_⟩;have hlt := hac j _ (Array.getElem?_eq_getElem hj) e he hb;rw [fC _ _ (by omega)];exact ih e.on hlt (by omega)
   rw [h] at hm;simp at hm
theorem yO (ops : List Oper) (vs : Nat → Value) (d : Tmp) : ∀ (k : Nat) (a : Act), (∀ o ∈ ops, ∀ e, o.dst = some e → e < a.tmps.size) → (∀ o ∈ ops, o.dst ≠ some d) → (qH ops vs k a).tmps.getD d undef = a.tmps.getD d undef := by
 induction ops with
 | nil => intro k a _ _; rfl
 | cons o rest ih =>
  intro k a hb h;rw [qH, ih _ _ (fun o' ho' => by rw [qV]; exact hb o' (by simp [ho'])) (fun o' ho' => h o' (by simp [ho']))];cases he : o.dst with
  | none => rfl
  | some e => rw [jC _ _ _ _ (hb o (by simp) e he), if_neg (fun e' => h o (by simp) (by rw [he, e']))]
theorem uA (ops : List Oper) (vs : Nat → Value) (d : Tmp) : ∀ (k j : Nat) (a : Act) (o : Oper), (∀ o ∈ ops, ∀ e, o.dst = some e → e < a.tmps.size) → (∀ (i j : Nat) (o o' : Oper) (d : Tmp), ops[i]? = some o → ops[j]? = some o' → o.dst = some d → o'.dst = some d → i = j) → ops[j]? = some o → o.dst = some d → (qH ops vs k a).tmps.getD d undef = vs (k + j) := by
 induction ops with
 | nil => intro k j a o _ _ h; simp at h
 | cons x rest ih =>
  intro k j a o hb hdj hj hd;cases j with
  | zero =>
   simp at hj;subst hj;rw [qH, yO _ _ _ _ _ (fun o' ho' => by rw [qV]; exact hb o' (by simp [ho'])), hd, jC _ _ _ _ (hb x (by simp) d hd), if_pos rfl]
   ·simp
   ·intro o' ho' hd';obtain ⟨n, hn⟩ := List.mem_iff_getElem?.1 ho';have := hdj 0 (n + 1) x o' d (by simp) (by simpa using hn) hd hd';omega
  | succ j =>
   rw [qH, ih (k + 1) j _ o (fun o' ho' => by rw [qV]; exact hb o' (by simp [ho'])) (fun i j o o' d hi hj h h' => by
    have := hdj (i + 1) (j + 1) o o' d (by simpa using hi) (by simpa using hj) h h';omega) (by simpa using hj) hd]
   congr 1
   omega
theorem pU (hds : ∀ (j : Nat) (o : Oper), ops[j]? = some o → ∀ d, o.dst = some d → d < a0.tmps.size) (hdj : ∀ (i j : Nat) (o o' : Oper) (d : Tmp), ops[i]? = some o → ops[j]? = some o' → o.dst = some d → o'.dst = some d → i = j)
  (hdone : ∀ (vs : Nat → Value) w, I w → (∀ j, j < ops.size → F j (vs j) w) → Q .normal (qH ops.toList vs 0 a0) w) (a : Act) (w : World) (h : WInv ops F I a0 (Array.replicate ops.size true) a w) : Q .normal a w := by
 have hb : ∀ o ∈ ops.toList, ∀ e, o.dst = some e → e < a0.tmps.size := fun o ho => by
  obtain ⟨n, hn⟩ := List.mem_iff_getElem?.1 ho;exact hds n o (by simpa using hn)
 have hdj' : ∀ (i j : Nat) (o o' : Oper) (d : Tmp), ops.toList[i]? = some o → ops.toList[j]? = some o' → o.dst = some d → o'.dst = some d → i = j := fun i j o o' d hi hj he => hdj i j o o' d (by simpa using hi) (by simpa using hj) he
 have hd : ∀ (j : Nat) (o : Oper), ops[j]? = some o → Did F a w j o := fun j o hj => h.did j o hj (by
  have hlt : j < ops.size := (Array.getElem?_eq_some_iff.1 hj).1;simp [Array.getD, hlt])
 have hex : ∀ j : Nat, ∃ v : Value, (j < ops.size → F j v w) ∧ ∀ o d, ops[j]? = some o → o.dst = some d → v = a.tmps.getD d undef := fun j => by
  by_cases hj : j < ops.size
  ·obtain ⟨h1, h2⟩ := hd j ops[j] (Array.getElem?_eq_getElem hj);cases hdd : ops[j].dst with
   | none =>
    obtain ⟨v, hv⟩ := h2 hdd;exact ⟨v, fun _ => hv, fun o d ho hod => by rw [Array.getElem?_eq_getElem hj] at ho; injection ho with ho; subst ho; rw [hdd] at hod; cases hod⟩
   | some d =>
    exact ⟨_, fun _ => h1 d hdd, fun o d' ho hod => by rw [Array.getElem?_eq_getElem hj] at ho; injection ho with ho; subst ho; rw [hdd] at hod; injection hod with hod; rw [hod]⟩
  ·exact ⟨undef, fun h => absurd h hj, fun o d ho _ => absurd (Array.getElem?_eq_some_iff.1 ho).1 hj⟩
 have hc := fun j => Classical.choose_spec (hex j)
 have e : a = qH ops.toList (fun j => Classical.choose (hex j)) 0 a0 := by
  refine zCd (by rw [dW]; exact h.defers) (by rw [nL]; exact h.tmps) fun d => ?_
  by_cases hap : Apart ops d
  ·rw [yO _ _ _ _ _ hb (fun o ho hd => by
    obtain ⟨n, hn⟩ := List.mem_iff_getElem?.1 ho;exact hap n o (by simpa using hn) hd)]
   exact h.rest d hap
  ·unfold Apart at hap;simp only [Classical.not_forall, Classical.not_not] at hap;obtain ⟨j, o, hj, hod⟩ := hap;rw [uA _ _ d 0 j a0 o hb hdj' (by simpa using hj) hod, Nat.zero_add];exact ((hc j).2 o d hj hod).symm
 rw [e];exact hdone _ w h.world fun j hj => (hc j).1 hj
def xE (ops : Array Oper) (n : Nat) : Bool :=
 (List.range ops.size).all fun j => match ops[j]? with
  | none => true
  | some o => (o.after.all fun e => !Region.binds .any e || decide (e.on < j)) && (match o.dst with | some d => decide (d < n) | none => true) &&
   (List.range j).all fun i => match ops[i]? with
    | none => true
    | some o' => decide (o'.dst = none) || decide (o'.dst ≠ o.dst)
theorem jT {n : Nat} (h : xE ops n = true) : (∀ (j : Nat) (o : Oper), ops[j]? = some o → ∀ e ∈ o.after, Region.binds .any e = true → e.on < j) ∧
  (∀ (j : Nat) (o : Oper), ops[j]? = some o → ∀ d, o.dst = some d → d < n) ∧ (∀ (i j : Nat) (o o' : Oper) (d : Tmp), ops[i]? = some o → ops[j]? = some o' → o.dst = some d → o'.dst = some d → i = j) := by
 unfold xE at h;rw [List.all_eq_true] at h;have each : ∀ (j : Nat) (o : Oper), ops[j]? = some o → (∀ e ∈ o.after, Region.binds .any e = true → e.on < j) ∧ (∀ d, o.dst = some d → d < n) ∧ ∀ (i : Nat) (o' : Oper), i < j → ops[i]? = some o' → ∀ d, o'.dst = some d → o.dst ≠ some d := by
  intro j o ho;have hlt : j < ops.size := (Array.getElem?_eq_some_iff.1 ho).1;have hj := h j (List.mem_range.2 hlt);rw [ho] at hj;simp only [Bool.and_eq_true] at hj;obtain ⟨⟨h1, h3⟩, h4⟩ := hj;refine ⟨?_, ?_, ?_⟩
  ·rw [Array.all_eq_true_iff_forall_mem] at h1;intro e he hb;simpa [hb] using h1 e he
  ·intro d hd;rw [hd] at h3;simpa using h3
  ·intro i o' hi ho' d hd hd';rw [List.all_eq_true] at h4;have := h4 i (List.mem_range.2 hi);rw [ho'] at this;simp [hd, hd'] at this
 refine ⟨fun j o ho => (each j o ho).1, fun j o ho => (each j o ho).2.1, fun i j o o' d hi hj he he' => ?_⟩;rcases Nat.lt_trichotomy i j with h1 | h1 | h1
 ·exact absurd he' ((each j o' hj).2.2 i o h1 hi d he)
 ·exact h1
 ·exact absurd he ((each i o hi).2.2 j o' h1 hj d he')
theorem qU {o : Oper} {a : Act} {w w' : World} {v : Value} {K : Act → World → Prop} (hrun : (execOp a.eval o).run P w = .ok (.value v) w') (h : K (a.put o.dst v) w') : o.wp P a w K Q := by
 unfold Oper.wp; rw [hrun]; exact h
theorem jY {o : Oper} {a : Act} {w w' : World} {K : Act → World → Prop} (hrun : (execOp a.eval o).run P w = .ok .skip w') (h : K (a.put o.dst undef) w') : o.wp P a w K Q := by
 unfold Oper.wp; rw [hrun]; exact h
theorem zV {o : Oper} {a : Act} {w w' : World} {f : FuncId} {args : Array Value} {K : Act → World → Prop} {R : Value → World → Prop} (hrun : (execOp a.eval o).run P w = .ok (.enter f args) w') (hc : Calls P f args w' fun e w'' => ∃ v, e = .returned v ∧ R v w'') (h : ∀ v w'', R v w'' → K (a.put o.dst v) w'') : o.wp P a w K Q := by
 unfold Oper.wp; rw [hrun];exact hc.mono fun e w'' ⟨v, he, hr⟩ => by subst he; exact h v w'' hr
end
section
variable {a w : World} {row : Option Nat}
theorem cM (h : a.grownBy w row) (o : Obj) : a.grownBy (w.alloc o) row :=
 ⟨h.os, h.tape, h.output, Nat.le_trans h.size (by simp), fun i hi hne => (Below.heap_alloc w o i (Nat.lt_of_lt_of_le hi h.size)).trans (h.block i hi hne)⟩
theorem qJ {g : Nat} (h : a.grownBy w (some g)) {p : Addr} (hp : p.block = g ∨ a ≤ p.block) (u : Value) : a.grownBy (w.setCell p u) (some g) :=
 ⟨h.os, h.tape, h.output, by simpa [World.setCell] using h.size, fun i hi hne => (Below.heap_setCell w p u i (by
  rintro rfl;rcases hp with hp | hp
  ·exact hne (by rw [hp])
  ·omega)).trans (h.block i hi hne)⟩
end
theorem wR {w : World} {b b' : Nat} {e e' : TypeId} {s s' : Nat} {v u : Value} {n m : Nat} {xs ys : List Value} (h : w.ownsRow b e s v n xs) (k : w.ownsRow b' e' s' u m ys) (hne : e ≠ e') : u.ownBlock = none ∨ u.ownBlock ≠ v.ownBlock := by
 rcases k.2 with ⟨rfl, _⟩ | ⟨g', cap', cur', rfl, _, hg', _⟩
 ·exact .inl rfl
 ·right;rcases h.2 with ⟨rfl, _⟩ | ⟨g, cap, cur, rfl, _, hg, _⟩
  ·simp [Value.ownBlock]
  ·intro he;have : g' = g := by simpa [Value.ownBlock] using he
   subst this;rw [hg] at hg';injection hg' with hg'
   injection hg' with _ ht
   exact hne ht
end Go.Proofs.YtkfhpefmmhljmaaGreatDoor
namespace Go.Proofs
open Go.Shelf
def Tryz.lays170_ren : Go.Shelf.Ren := ⟨fun | 170 => 61 | n => n, fun | 70 => 112 | 3 => 3 | 0 => 0 | 72 => 115 | 37 => 113 | 5 => 5 | n => n, fun | n => n⟩
theorem Tryz.lays170 : Go.Proofs.Lays.n170 Tryz.prog Tryz.lays170_ren := {
 mixed := by kernel_rfl
 f170 := Tryz.func61.trans (congrArg some (by kernel_rfl))
 t0 := Tryz.underlying0
 a0 := Tryz.isAgg0
 z0 := Tryz.sizeOf0
 v0 := Tryz.zeroValue0
 t3 := Tryz.underlying3
 a3 := Tryz.isAgg3
 z3 := Tryz.sizeOf3
 v3 := Tryz.zeroValue3
 t37 := Tryz.underlying113
 a37 := Tryz.isAgg113
 z37 := Tryz.sizeOf113
 v37 := Tryz.zeroValue113
 t70 := Tryz.underlying112
 a70 := Tryz.isAgg112
 z70 := Tryz.sizeOf112
 v70 := Tryz.zeroValue112
 t72 := Tryz.underlying115
 a72 := Tryz.isAgg115
 z72 := Tryz.sizeOf115
 v72 := Tryz.zeroValue115 }
open Go.RowKit in
theorem Tryz.Builder_Len (B b : Nat) (bs : List Value) (w : World) (h : Lib.IsBuilder 115 5 B b bs w) :
  Calls Tryz.prog 61 #[.pointer (some ⟨b, 0, none⟩)] w fun e w' => e = .returned (.int .i64 bs.length) ∧ w' = w := Any.Builder_Len Tryz.lays170 B b bs w h
def Tryz.lays169_ren : Go.Shelf.Ren := ⟨fun | 169 => 62 | n => n, fun | 70 => 112 | 9 => 9 | 0 => 0 | 72 => 115 | 37 => 113 | 127 => 198 | 3 => 3 | 5 => 5 | n => n, fun | n => n⟩
theorem Tryz.lays169 : Go.Proofs.Lays.n169 Tryz.prog Tryz.lays169_ren := {
 mixed := by kernel_rfl
 f169 := Tryz.func62.trans (congrArg some (by kernel_rfl))
 t0 := Tryz.underlying0
 a0 := Tryz.isAgg0
 z0 := Tryz.sizeOf0
 v0 := Tryz.zeroValue0
 t3 := Tryz.underlying3
 a3 := Tryz.isAgg3
 z3 := Tryz.sizeOf3
 v3 := Tryz.zeroValue3
 t9 := Tryz.underlying9
 a9 := Tryz.isAgg9
 z9 := Tryz.sizeOf9
 v9 := Tryz.zeroValue9
 t37 := Tryz.underlying113
 a37 := Tryz.isAgg113
 z37 := Tryz.sizeOf113
 v37 := Tryz.zeroValue113
 t70 := Tryz.underlying112
 a70 := Tryz.isAgg112
 z70 := Tryz.sizeOf112
 v70 := Tryz.zeroValue112
 t72 := Tryz.underlying115
 a72 := Tryz.isAgg115
 z72 := Tryz.sizeOf115
 v72 := Tryz.zeroValue115
 t127 := Tryz.underlying198
 a127 := Tryz.isAgg198
 z127 := Tryz.sizeOf198
 v127 := Tryz.zeroValue198 }
theorem Tryz.Builder_Extra_169 : Builder.Extra Tryz.prog Tryz.lays169_ren := {
 sizeBuilder := by kernel_rfl
 liesBuilder := by kernel_rfl
 t5 := Tryz.underlying5
 a5 := Tryz.isAgg5
 z5 := Tryz.sizeOf5
 v5 := Tryz.zeroValue5
 infoByte := by kernel_rfl
 cellsByte := by kernel_rfl
 sizeByte := by kernel_rfl
 neB5 := by decide }
open Go.RowKit in
theorem Tryz.Builder_String_any (B b : Nat) (l : List UInt8) (w : World) (h : Lib.IsBuilder 115 5 B b (Lib.byteCells l) w) (hBw : B ≤ w) :
  Calls Tryz.prog 62 #[.pointer (some ⟨b, 0, none⟩)] w fun e w' => e = .returned (.string ⟨l.toArray⟩) ∧ Below B w w' := Any.Builder_String_any Tryz.lays169 Tryz.Builder_Extra_169 B b l w h hBw
def Tryz.lays156_ren : Go.Shelf.Ren := ⟨fun | 156 => 29 | 165 => 59 | 166 => 60 | 169 => 62 | 240 => 125 | 241 => 126 | 276 => 169 | 277 => 170 | n => n, fun | 31 => 71 | 9 => 9 | 3 => 3 | 4 => 4 | 0 => 0 | 20 => 20 | 72 => 115 | 76 => 119 | 70 => 112 | 37 => 113 | 75 => 118 | 127 => 198 | 164 => 236 | 5 => 5 | 80 => 122 | n => n, fun | n => n⟩
theorem Tryz.lays156 : Go.Proofs.Lays.n156 Tryz.prog Tryz.lays156_ren := {
 mixed := by kernel_rfl
 f156 := Tryz.func29.trans (congrArg some (by kernel_rfl))
 f165 := Tryz.func59.trans (congrArg some (by kernel_rfl))
 f166 := Tryz.func60.trans (congrArg some (by kernel_rfl))
 f169 := Tryz.func62.trans (congrArg some (by kernel_rfl))
 f240 := Tryz.func125.trans (congrArg some (by kernel_rfl))
 f241 := Tryz.func126.trans (congrArg some (by kernel_rfl))
 f276 := Tryz.func169.trans (congrArg some (by kernel_rfl))
 f277 := Tryz.func170.trans (congrArg some (by kernel_rfl))
 t0 := Tryz.underlying0
 a0 := Tryz.isAgg0
 z0 := Tryz.sizeOf0
 v0 := Tryz.zeroValue0
 t3 := Tryz.underlying3
 a3 := Tryz.isAgg3
 z3 := Tryz.sizeOf3
 v3 := Tryz.zeroValue3
 t4 := Tryz.underlying4
 a4 := Tryz.isAgg4
 z4 := Tryz.sizeOf4
 v4 := Tryz.zeroValue4
 t9 := Tryz.underlying9
 a9 := Tryz.isAgg9
 z9 := Tryz.sizeOf9
 v9 := Tryz.zeroValue9
 t20 := Tryz.underlying20
 a20 := Tryz.isAgg20
 z20 := Tryz.sizeOf20
 v20 := Tryz.zeroValue20
 t31 := Tryz.underlying71
 a31 := Tryz.isAgg71
 z31 := Tryz.sizeOf71
 v31 := Tryz.zeroValue71
 t37 := Tryz.underlying113
 a37 := Tryz.isAgg113
 z37 := Tryz.sizeOf113
 v37 := Tryz.zeroValue113
 t70 := Tryz.underlying112
 a70 := Tryz.isAgg112
 z70 := Tryz.sizeOf112
 v70 := Tryz.zeroValue112
 t72 := Tryz.underlying115
 a72 := Tryz.isAgg115
 z72 := Tryz.sizeOf115
 v72 := Tryz.zeroValue115
 t75 := Tryz.underlying118
 a75 := Tryz.isAgg118
 z75 := Tryz.sizeOf118
 v75 := Tryz.zeroValue118
 t76 := Tryz.underlying119
 a76 := Tryz.isAgg119
 z76 := Tryz.sizeOf119
 v76 := Tryz.zeroValue119
 t127 := Tryz.underlying198
 a127 := Tryz.isAgg198
 z127 := Tryz.sizeOf198
 v127 := Tryz.zeroValue198
 t164 := Tryz.underlying236
 a164 := Tryz.isAgg236
 z164 := Tryz.sizeOf236
 v164 := Tryz.zeroValue236 }
theorem Tryz.Builder_Extra_156 : Builder.Extra Tryz.prog Tryz.lays156_ren := {
 sizeBuilder := by kernel_rfl
 liesBuilder := by kernel_rfl
 t5 := Tryz.underlying5
 a5 := Tryz.isAgg5
 z5 := Tryz.sizeOf5
 v5 := Tryz.zeroValue5
 infoByte := by kernel_rfl
 cellsByte := by kernel_rfl
 sizeByte := by kernel_rfl
 neB5 := by decide }
open Go.RowKit in
theorem Tryz.strings_Join (bk o c : Nat) (xs : List ByteArray) (sep : ByteArray) (w : World) (hcells : ∀ (j : Nat) x, xs[j]? = some x → w.cell? ⟨bk, o + j, none⟩ = some (.string x)) (hbk : bk < w) (hN : xs.length ≤ 140737488355328) (hcap : xs.length ≤ c) (hlen : (Lib.join (xs.map (·.data.toList)) sep.data.toList).length ≤ 140737488355328) :
  Calls Tryz.prog 29 #[.slice (some ⟨bk, o, none⟩) xs.length c, .string sep] w fun e w' => e = .returned (.string ⟨(Lib.join (xs.map (·.data.toList)) sep.data.toList).toArray⟩) ∧ Below w w w' := Any.strings_Join Tryz.lays156 Tryz.Builder_Extra_156 bk o c xs sep w hcells hbk hN hcap hlen
def Tryz.lays133_ren : Go.Shelf.Ren := ⟨fun | 133 => 236 | 128 => 241 | n => n, fun | 51 => 192 | 3 => 3 | 4 => 4 | 46 => 108 | 5 => 5 | 9 => 9 | n => n, fun | n => n⟩
theorem Tryz.lays133 : Go.Proofs.Lays.n133 Tryz.prog Tryz.lays133_ren := {
 mixed := by kernel_rfl
 f128 := Tryz.func241.trans (congrArg some (by kernel_rfl))
 f133 := Tryz.func236.trans (congrArg some (by kernel_rfl))
 t3 := Tryz.underlying3
 a3 := Tryz.isAgg3
 z3 := Tryz.sizeOf3
 v3 := Tryz.zeroValue3
 t4 := Tryz.underlying4
 a4 := Tryz.isAgg4
 z4 := Tryz.sizeOf4
 v4 := Tryz.zeroValue4
 t5 := Tryz.underlying5
 a5 := Tryz.isAgg5
 z5 := Tryz.sizeOf5
 v5 := Tryz.zeroValue5
 t9 := Tryz.underlying9
 a9 := Tryz.isAgg9
 z9 := Tryz.sizeOf9
 v9 := Tryz.zeroValue9
 t46 := Tryz.underlying108
 a46 := Tryz.isAgg108
 z46 := Tryz.sizeOf108
 v46 := Tryz.zeroValue108
 t51 := Tryz.underlying192
 a51 := Tryz.isAgg192
 z51 := Tryz.sizeOf192
 v51 := Tryz.zeroValue192 }
theorem Tryz.bits_LeadingZeros32 (x : Int) (w : World) (h0 : 0 ≤ x) (h1 : x ≤ 4294967295) :
  Calls Tryz.prog 236 #[.int .u32 x] w fun e w' => e = .returned (.int .i64 (32 - (Lib.bitLen x.toNat : Int))) ∧ w' = w := Any.bits_LeadingZeros32 Tryz.lays133 x w h0 h1
def Tryz.lays103_ren : Go.Shelf.Ren := ⟨fun | 103 => 194 | 210 => 221 | 206 => 124 | n => n, fun | 9 => 9 | 4 => 4 | 24 => 255 | 3 => 3 | n => n, fun | n => n⟩
theorem Tryz.lays103 : Go.Proofs.Lays.n103 Tryz.prog Tryz.lays103_ren := {
 mixed := by kernel_rfl
 f103 := Tryz.func194.trans (congrArg some (by kernel_rfl))
 f206 := Tryz.func124.trans (congrArg some (by kernel_rfl))
 f210 := Tryz.func221.trans (congrArg some (by kernel_rfl))
 t3 := Tryz.underlying3
 a3 := Tryz.isAgg3
 z3 := Tryz.sizeOf3
 v3 := Tryz.zeroValue3
 t4 := Tryz.underlying4
 a4 := Tryz.isAgg4
 z4 := Tryz.sizeOf4
 v4 := Tryz.zeroValue4
 t9 := Tryz.underlying9
 a9 := Tryz.isAgg9
 z9 := Tryz.sizeOf9
 v9 := Tryz.zeroValue9
 t24 := Tryz.underlying255
 a24 := Tryz.isAgg255
 z24 := Tryz.sizeOf255
 v24 := Tryz.zeroValue255 }
open Go.RowKit in
theorem Tryz.strings_CutPrefix (s p : ByteArray) (w : World) :
  Calls Tryz.prog 194 #[.string s, .string p] w fun e w' => e = .returned (.tuple #[.string ⟨(Lib.trimPrefix s.data.toList p.data.toList).toArray⟩, .bool (Lib.hasPrefix s.data.toList p.data.toList)]) ∧ w' = w := Any.strings_CutPrefix Tryz.lays103 s p w
def Tryz.laysM171_ren : Go.Shelf.Ren := ⟨fun | 171 => 72 | 243 => 134 | 246 => 133 | 283 => 178 | 284 => 179 | 285 => 180 | 286 => 181 | 129 => 216 | 317 => 215 | 318 => 217 | 319 => 218 | 320 => 219 | 337 => 230 | 338 => 231 | n => n, fun | 3 => 3 | 9 => 9 | 2 => 2 | 4 => 4 | 171 => 242 | 0 => 0 | 53 => 195 | 37 => 113 | 5 => 5 | 173 => 245 | 212 => 281 | 51 => 192 | 20 => 20 | 213 => 282 | 46 => 108 | 232 => 296 | 233 => 297 | n => n, fun | 17 => 3 | 18 => 4 | 19 => 5 | n => n⟩
theorem Tryz.laysM171 : Go.Proofs.LaysM.n171 Tryz.prog Tryz.laysM171_ren := {
 mixed := by kernel_rfl
 f129 := Tryz.func216.trans (congrArg some (by kernel_rfl))
 f171 := Tryz.func72.trans (congrArg some (by kernel_rfl))
 f243 := Tryz.func134.trans (congrArg some (by kernel_rfl))
 f246 := Tryz.func133.trans (congrArg some (by kernel_rfl))
 f283 := Tryz.func178.trans (congrArg some (by kernel_rfl))
 f284 := Tryz.func179.trans (congrArg some (by kernel_rfl))
 f285 := Tryz.func180.trans (congrArg some (by kernel_rfl))
 f286 := Tryz.func181.trans (congrArg some (by kernel_rfl))
 f317 := Tryz.func215.trans (congrArg some (by kernel_rfl))
 f318 := Tryz.func217.trans (congrArg some (by kernel_rfl))
 f319 := Tryz.func218.trans (congrArg some (by kernel_rfl))
 f320 := Tryz.func219.trans (congrArg some (by kernel_rfl))
 f337 := Tryz.func230.trans (congrArg some (by kernel_rfl))
 f338 := Tryz.func231.trans (congrArg some (by kernel_rfl))
 t0 := Tryz.underlying0
 a0 := Tryz.isAgg0
 z0 := Tryz.sizeOf0
 v0 := Tryz.zeroValue0
 t2 := Tryz.underlying2
 a2 := Tryz.isAgg2
 z2 := Tryz.sizeOf2
 v2 := Tryz.zeroValue2
 t3 := Tryz.underlying3
 a3 := Tryz.isAgg3
 z3 := Tryz.sizeOf3
 v3 := Tryz.zeroValue3
 t4 := Tryz.underlying4
 a4 := Tryz.isAgg4
 z4 := Tryz.sizeOf4
 v4 := Tryz.zeroValue4
 t5 := Tryz.underlying5
 a5 := Tryz.isAgg5
 z5 := Tryz.sizeOf5
 v5 := Tryz.zeroValue5
 t9 := Tryz.underlying9
 a9 := Tryz.isAgg9
 z9 := Tryz.sizeOf9
 v9 := Tryz.zeroValue9
 t20 := Tryz.underlying20
 a20 := Tryz.isAgg20
 z20 := Tryz.sizeOf20
 v20 := Tryz.zeroValue20
 t37 := Tryz.underlying113
 a37 := Tryz.isAgg113
 z37 := Tryz.sizeOf113
 v37 := Tryz.zeroValue113
 t46 := Tryz.underlying108
 a46 := Tryz.isAgg108
 z46 := Tryz.sizeOf108
 v46 := Tryz.zeroValue108
 t51 := Tryz.underlying192
 a51 := Tryz.isAgg192
 z51 := Tryz.sizeOf192
 v51 := Tryz.zeroValue192
 t53 := Tryz.underlying195
 a53 := Tryz.isAgg195
 z53 := Tryz.sizeOf195
 v53 := Tryz.zeroValue195
 t171 := Tryz.underlying242
 a171 := Tryz.isAgg242
 z171 := Tryz.sizeOf242
 v171 := Tryz.zeroValue242
 t173 := Tryz.underlying245
 a173 := Tryz.isAgg245
 z173 := Tryz.sizeOf245
 v173 := Tryz.zeroValue245
 t212 := Tryz.underlying281
 a212 := Tryz.isAgg281
 z212 := Tryz.sizeOf281
 v212 := Tryz.zeroValue281
 t213 := Tryz.underlying282
 a213 := Tryz.isAgg282
 z213 := Tryz.sizeOf282
 t232 := Tryz.underlying296
 a232 := Tryz.isAgg296
 z232 := Tryz.sizeOf296
 v232 := Tryz.zeroValue296
 t233 := Tryz.underlying297
 a233 := Tryz.isAgg297
 z233 := Tryz.sizeOf297
 v233 := Tryz.zeroValue297
 g17 := by kernel_rfl
 g18 := by kernel_rfl
 g19 := by kernel_rfl
 i0 := by kernel_rfl
 i2 := by kernel_rfl
 i3 := by kernel_rfl
 i4 := by kernel_rfl
 i5 := by kernel_rfl
 i9 := by kernel_rfl
 i20 := by kernel_rfl
 i37 := by kernel_rfl
 i46 := by kernel_rfl
 i51 := by kernel_rfl
 i53 := by kernel_rfl
 i171 := by kernel_rfl
 i173 := by kernel_rfl
 i212 := by kernel_rfl
 i232 := by kernel_rfl
 i233 := by kernel_rfl
 m17 := by kernel_rfl
 m18 := by kernel_rfl
 m19 := by kernel_rfl }
open Go.RowKit Go.Sort Go.Lib in
theorem Tryz.strconv_Itoa (n : Int) (h0 : -9223372036854775808 ≤ n) (h1 : n ≤ 9223372036854775807) (w : World) (htab : Lib.TabIs Tryz.prog w "internal/strconv.uint64pow10" .u64 Lib.pow10Tab) :
  Calls Tryz.prog 72 #[.int .i64 n] w fun e w' => e = .returned (.string ⟨(Lib.itoa n).toArray⟩) ∧ ∃ k os, w' = grow (w.drewN k) os := Any.strconv_Itoa Tryz.laysM171 n h0 h1 w htab
def Tryz.laysM173_ren : Go.Shelf.Ren := ⟨fun | 173 => 70 | 246 => 133 | 283 => 178 | 284 => 179 | 285 => 180 | 286 => 181 | 129 => 216 | 317 => 215 | 318 => 217 | 319 => 218 | 320 => 219 | 337 => 230 | 338 => 231 | n => n, fun | 2 => 2 | 3 => 3 | 9 => 9 | 4 => 4 | 171 => 242 | 0 => 0 | 53 => 195 | 37 => 113 | 5 => 5 | 173 => 245 | 212 => 281 | 51 => 192 | 20 => 20 | 213 => 282 | 46 => 108 | 232 => 296 | 233 => 297 | n => n, fun | 17 => 3 | 18 => 4 | 19 => 5 | n => n⟩
theorem Tryz.laysM173 : Go.Proofs.LaysM.n173 Tryz.prog Tryz.laysM173_ren := {
 mixed := by kernel_rfl
 f129 := Tryz.func216.trans (congrArg some (by kernel_rfl))
 f173 := Tryz.func70.trans (congrArg some (by kernel_rfl))
 f246 := Tryz.func133.trans (congrArg some (by kernel_rfl))
 f283 := Tryz.func178.trans (congrArg some (by kernel_rfl))
 f284 := Tryz.func179.trans (congrArg some (by kernel_rfl))
 f285 := Tryz.func180.trans (congrArg some (by kernel_rfl))
 f286 := Tryz.func181.trans (congrArg some (by kernel_rfl))
 f317 := Tryz.func215.trans (congrArg some (by kernel_rfl))
 f318 := Tryz.func217.trans (congrArg some (by kernel_rfl))
 f319 := Tryz.func218.trans (congrArg some (by kernel_rfl))
 f320 := Tryz.func219.trans (congrArg some (by kernel_rfl))
 f337 := Tryz.func230.trans (congrArg some (by kernel_rfl))
 f338 := Tryz.func231.trans (congrArg some (by kernel_rfl))
 t0 := Tryz.underlying0
 a0 := Tryz.isAgg0
 z0 := Tryz.sizeOf0
 v0 := Tryz.zeroValue0
 t2 := Tryz.underlying2
 a2 := Tryz.isAgg2
 z2 := Tryz.sizeOf2
 v2 := Tryz.zeroValue2
 t3 := Tryz.underlying3
 a3 := Tryz.isAgg3
 z3 := Tryz.sizeOf3
 v3 := Tryz.zeroValue3
 t4 := Tryz.underlying4
 a4 := Tryz.isAgg4
 z4 := Tryz.sizeOf4
 v4 := Tryz.zeroValue4
 t5 := Tryz.underlying5
 a5 := Tryz.isAgg5
 z5 := Tryz.sizeOf5
 v5 := Tryz.zeroValue5
 t9 := Tryz.underlying9
 a9 := Tryz.isAgg9
 z9 := Tryz.sizeOf9
 v9 := Tryz.zeroValue9
 t20 := Tryz.underlying20
 a20 := Tryz.isAgg20
 z20 := Tryz.sizeOf20
 v20 := Tryz.zeroValue20
 t37 := Tryz.underlying113
 a37 := Tryz.isAgg113
 z37 := Tryz.sizeOf113
 v37 := Tryz.zeroValue113
 t46 := Tryz.underlying108
 a46 := Tryz.isAgg108
 z46 := Tryz.sizeOf108
 v46 := Tryz.zeroValue108
 t51 := Tryz.underlying192
 a51 := Tryz.isAgg192
 z51 := Tryz.sizeOf192
 v51 := Tryz.zeroValue192
 t53 := Tryz.underlying195
 a53 := Tryz.isAgg195
 z53 := Tryz.sizeOf195
 v53 := Tryz.zeroValue195
 t171 := Tryz.underlying242
 a171 := Tryz.isAgg242
 z171 := Tryz.sizeOf242
 v171 := Tryz.zeroValue242
 t173 := Tryz.underlying245
 a173 := Tryz.isAgg245
 z173 := Tryz.sizeOf245
 v173 := Tryz.zeroValue245
 t212 := Tryz.underlying281
 a212 := Tryz.isAgg281
 z212 := Tryz.sizeOf281
 v212 := Tryz.zeroValue281
 t213 := Tryz.underlying282
 a213 := Tryz.isAgg282
 z213 := Tryz.sizeOf282
 t232 := Tryz.underlying296
 a232 := Tryz.isAgg296
 z232 := Tryz.sizeOf296
 v232 := Tryz.zeroValue296
 t233 := Tryz.underlying297
 a233 := Tryz.isAgg297
 z233 := Tryz.sizeOf297
 v233 := Tryz.zeroValue297
 g17 := by kernel_rfl
 g18 := by kernel_rfl
 g19 := by kernel_rfl
 i0 := by kernel_rfl
 i2 := by kernel_rfl
 i3 := by kernel_rfl
 i4 := by kernel_rfl
 i5 := by kernel_rfl
 i9 := by kernel_rfl
 i20 := by kernel_rfl
 i37 := by kernel_rfl
 i46 := by kernel_rfl
 i51 := by kernel_rfl
 i53 := by kernel_rfl
 i171 := by kernel_rfl
 i173 := by kernel_rfl
 i212 := by kernel_rfl
 i232 := by kernel_rfl
 i233 := by kernel_rfl
 m17 := by kernel_rfl
 m18 := by kernel_rfl
 m19 := by kernel_rfl }
open Go.RowKit Go.Sort Go.Lib in
theorem Tryz.strconv_FormatInt_10 (n : Int) (h0 : -9223372036854775808 ≤ n) (h1 : n ≤ 9223372036854775807) (w : World) (htab : Lib.TabIs Tryz.prog w "internal/strconv.uint64pow10" .u64 Lib.pow10Tab) :
  Calls Tryz.prog 70 #[.int .i64 n, .int .i64 10] w fun e w' => e = .returned (.string ⟨(Lib.itoa n).toArray⟩) ∧ ∃ k os, w' = grow (w.drewN k) os := Any.strconv_FormatInt_10 Tryz.laysM173 n h0 h1 w htab
end Go.Proofs
