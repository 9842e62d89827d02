/- Texts in one: AnyO, AnyG, AnyW, AnyX. -/
import Derived.Orders
import Derived.Calls
import Derived.WalkKit
import Derived.KernelRfl
import Derived.OrdersIn
import Derived.OwnWalkIn
import Derived.Test.YtklanoppbbaolaaGreatMg1
/- A region whose order is drawn and whose operations each leave what the others made: one fact an operation, whatever the order. No program is named here. -/
namespace Go.Proofs.YtklanoppbbaolaaGreat
open Go.RowKit
set_option linter.unusedVariables false

section
variable {P : Program} {ops : Array Oper} {Q : Exit → Act → World → Prop} {F : Nat → Value → World → Prop} {I : World → Prop} {a0 : Act}

/-- No operation writes slot d. -/
def Apart (ops : Array Oper) (d : Tmp) : Prop := ∀ (j : Nat) (o : Oper), ops[j]? = some o → o.dst ≠ some d

/-- After the operations that are listed. -/
structure RInv (ops : Array Oper) (F : Nat → Value → World → Prop) (I : World → Prop) (a0 : Act) (listed : Array Bool) (a : Act) (w : World) : Prop where
  size : listed.size = ops.size
  defers : a.defers = a0.defers
  tmps : a.tmps.size = a0.tmps.size
  world : I w
  did : ∀ (j : Nat) (o : Oper) (d : Tmp), ops[j]? = some o → o.dst = some d → listed.getD j false = true → F j (a.tmps.getD d undef) w
  rest : ∀ d : Tmp, Apart ops d → a.tmps.getD d undef = a0.tmps.getD d undef

theorem getD_put (a : Act) (d e : Tmp) (v : Value) (h : d < a.tmps.size) : (a.put (some d) v).tmps.getD e undef = if d = e then v else a.tmps.getD e undef := by
  unfold Act.put
  simp only [Array.getD_eq_getD_getElem?, Array.getElem?_setIfInBounds]
  by_cases hde : d = e
  · subst hde
    simp [h]
  · simp [hde]
theorem size_put (a : Act) (d : Option Tmp) (v : Value) : (a.put d v).tmps.size = a.tmps.size := by
  unfold Act.put
  cases d <;> simp
theorem defers_put (a : Act) (d : Option Tmp) (v : Value) : (a.put d v).defers = a.defers := by
  unfold Act.put
  cases d <;> rfl
theorem listed_set (listed : Array Bool) (i j : Nat) (h : i < listed.size) : (listed.setIfInBounds i true).getD j false = true ↔ i = j ∨ listed.getD j false = true := by
  simp only [Array.getD_eq_getD_getElem?, Array.getElem?_setIfInBounds]
  by_cases hij : i = j
  · subst hij
    simp [h]
  · simp [hij]
theorem listed_set' (listed : Array Bool) (i j : Nat) (h : i < listed.size) : (listed.setIfInBounds i true).getD j true = true ↔ i = j ∨ listed.getD j true = true := by
  simp only [Array.getD_eq_getD_getElem?, Array.getElem?_setIfInBounds]
  by_cases hij : i = j
  · subst hij
    simp [h]
  · simp [hij]
theorem getD_ft (listed : Array Bool) (j : Nat) (h : j < listed.size) : listed.getD j false = listed.getD j true := by simp [Array.getD, h]

def unlisted (n : Nat) (listed : Array Bool) : Nat := ((List.range n).filter fun i => !listed.getD i true).length
theorem unlisted_set {n i : Nat} {listed : Array Bool} (hn : listed.size = n) (hi : i < n) (h : listed.getD i true = false) : unlisted n (listed.setIfInBounds i true) < unlisted n listed := by
  have e : ((List.range n).filter fun k => !(listed.setIfInBounds i true).getD k true) = (((List.range n).filter fun k => !listed.getD k true).filter fun k => decide (k ≠ i)) := by
    rw [List.filter_filter]
    refine List.filter_congr fun k hk => ?_
    have := listed_set' listed i k (by omega)
    cases h1 : (listed.setIfInBounds i true).getD k true <;> cases h2 : listed.getD k true <;> by_cases h3 : k = i <;> simp_all
  unfold unlisted
  rw [e]
  refine List.length_filter_lt_length_iff_exists.2 ⟨i, ?_, by simp⟩
  rw [List.mem_filter, List.mem_range]
  exact ⟨hi, by simp [h]⟩
theorem ready_nil {listed : Array Bool} (hs : listed.size = ops.size) (hac : ∀ (j : Nat) (o : Oper), ops[j]? = some o → ∀ e ∈ o.after, e.on < j) (h : Region.ready .any ops listed = []) : ∀ j, j < ops.size → listed.getD j true = true := by
  intro j
  induction j using Nat.strongRecOn with
  | ind j ih =>
    intro hj
    by_cases hl : listed.getD j true = true
    · exact hl
    · exfalso
      have hm : j ∈ Region.ready .any ops listed := by
        rw [mem_ready]
        refine ⟨by simpa using hl, ops[j], Array.getElem?_eq_getElem hj, fun e he _ => ?_⟩
        have hlt := hac j _ (Array.getElem?_eq_getElem hj) e he
        rw [getD_ft _ _ (by omega)]
        exact ih e.on hlt (by omega)
      rw [h] at hm
      simp at hm

theorem wpAny_inv (hac : ∀ (j : Nat) (o : Oper), ops[j]? = some o → ∀ e ∈ o.after, e.on < j) (hgd : ∀ (j : Nat) (o : Oper), ops[j]? = some o → o.guard = none)
    (hds : ∀ (j : Nat) (o : Oper), ops[j]? = some o → ∃ d, o.dst = some d ∧ d < a0.tmps.size) (hdj : ∀ (i j : Nat) (o o' : Oper), ops[i]? = some o → ops[j]? = some o' → o.dst = o'.dst → i = j)
    (hstep : ∀ (i : Nat) (o : Oper), ops[i]? = some o → ∀ (a : Act) (w : World), I w → (∀ e ∈ o.after, Region.binds .any e = true → ∀ (o' : Oper) (d : Tmp), ops[e.on]? = some o' → o'.dst = some d → F e.on (a.tmps.getD d undef) w) → (∀ d : Tmp, Apart ops d → a.tmps.getD d undef = a0.tmps.getD d undef) →
      ∃ v w', (execOp a.eval o).run P w = .ok (.value v) w' ∧ I w' ∧ F i v w' ∧ ∀ (j : Nat) (u : Value), F j u w → F j u w')
    (hdone : ∀ (a : Act) (w : World), RInv ops F I a0 (Array.replicate ops.size true) a w → Q .normal a w) :
    ∀ (fuel : Nat) (listed : Array Bool) (a : Act) (w : World), unlisted ops.size listed ≤ fuel → RInv ops F I a0 listed a w → wpAny P .any ops Q fuel listed a w := by
  have fin : ∀ (listed : Array Bool) (a : Act) (w : World), RInv ops F I a0 listed a w → (∀ j, j < ops.size → listed.getD j true = true) → Q .normal a w := by
    intro listed a w h hall
    refine hdone a w ⟨by simp, h.defers, h.tmps, h.world, fun j o d hj hd _ => h.did j o d hj hd ?_, h.rest⟩
    have hlt : j < ops.size := (Array.getElem?_eq_some_iff.1 hj).1
    rw [getD_ft _ _ (by rw [h.size]; exact hlt)]
    exact hall j hlt
  intro fuel
  induction fuel with
  | zero =>
    intro listed a w hu h
    have hall : ∀ j, j < ops.size → listed.getD j true = true := by
      intro j hj
      by_cases hl : listed.getD j true = true
      · exact hl
      · exfalso
        have h0 : ((List.range ops.size).filter fun i => !listed.getD i true) = [] := List.eq_nil_of_length_eq_zero (by unfold unlisted at hu; omega)
        have : j ∈ ((List.range ops.size).filter fun i => !listed.getD i true) := by
          rw [List.mem_filter, List.mem_range]
          exact ⟨hj, by simpa using hl⟩
        rw [h0] at this
        simp at this
    refine ⟨?_, fin listed a w h hall⟩
    refine List.eq_nil_iff_forall_not_mem.2 fun j hj => ?_
    rw [mem_ready] at hj
    obtain ⟨h1, o, ho, _⟩ := hj
    rw [hall j (Array.getElem?_eq_some_iff.1 ho).1] at h1
    simp at h1
  | succ fuel ih =>
    intro listed a w hu h
    refine ⟨fun hr => fin listed a w h (ready_nil h.size hac hr), fun i hi => ?_⟩
    rw [mem_ready] at hi
    obtain ⟨hli, o, ho, hdep⟩ := hi
    have hlt : i < ops.size := (Array.getElem?_eq_some_iff.1 ho).1
    unfold wpOp
    rw [ho]
    have hw : Region.wanted o (yielded ops a.tmps) = true := by simp [Region.wanted, hgd i o ho]
    simp only [hw, if_true]
    left
    obtain ⟨v, w', hrun, hI, hF, hkeep⟩ := hstep i o ho a w h.world (fun e he hb o' d ho' hd => h.did e.on o' d ho' hd (hdep e he hb)) h.rest
    unfold Oper.wp
    rw [hrun]
    obtain ⟨d, hd, hdl⟩ := hds i o ho
    show wpAny P .any ops Q fuel (listed.setIfInBounds i true) (a.put o.dst v) w'
    refine ih _ _ _ (by have := unlisted_set h.size hlt hli; omega) ⟨by simp [h.size], ?_, ?_, hI, ?_, ?_⟩
    · rw [defers_put]; exact h.defers
    · rw [size_put]; exact h.tmps
    · intro j o' d' hj hd' hl
      rw [hd, getD_put _ _ _ _ (by rw [h.tmps]; exact hdl)]
      rw [listed_set _ _ _ (by rw [h.size]; exact hlt)] at hl
      by_cases hij : i = j
      · subst hij
        rw [ho] at hj
        injection hj with hj
        subst hj
        rw [hd] at hd'
        injection hd' with hd'
        subst hd'
        rw [if_pos rfl]
        exact hF
      · rw [if_neg (fun e => hij (hdj i j o o' ho hj (by rw [hd, hd', e])))]
        exact hkeep j _ (h.did j o' d' hj hd' (hl.resolve_left hij))
    · intro d' hap
      rw [hd, getD_put _ _ _ _ (by rw [h.tmps]; exact hdl), if_neg (fun e => hap i o ho (by rw [hd, e]))]
      exact h.rest d' hap

/-- The frame with these values in the operations' slots. -/
def putAll (ops : List Oper) (vs : Nat → Value) (k : Nat) (a : Act) : Act :=
  match ops with
  | [] => a
  | o :: rest => putAll rest vs (k + 1) (a.put o.dst (vs k))
theorem putAll_defers (ops : List Oper) (vs : Nat → Value) : ∀ (k : Nat) (a : Act), (putAll ops vs k a).defers = a.defers := by
  induction ops with
  | nil => intro k a; rfl
  | cons o rest ih => intro k a; rw [putAll, ih, defers_put]
theorem putAll_size (ops : List Oper) (vs : Nat → Value) : ∀ (k : Nat) (a : Act), (putAll ops vs k a).tmps.size = a.tmps.size := by
  induction ops with
  | nil => intro k a; rfl
  | cons o rest ih => intro k a; rw [putAll, ih, size_put]
theorem putAll_other (ops : List Oper) (vs : Nat → Value) (d : Tmp) : ∀ (k : Nat) (a : Act), (∀ o ∈ ops, ∃ e, o.dst = some e ∧ e < a.tmps.size) → (∀ o ∈ ops, o.dst ≠ some d) → (putAll ops vs k a).tmps.getD d undef = a.tmps.getD d undef := by
  induction ops with
  | nil => intro k a _ _; rfl
  | cons o rest ih =>
    intro k a hb h
    obtain ⟨e, he, hlt⟩ := hb o (by simp)
    rw [putAll, ih _ _ (fun o' ho' => by rw [size_put]; exact hb o' (by simp [ho'])) (fun o' ho' => h o' (by simp [ho'])), he, getD_put _ _ _ _ hlt, if_neg (fun e' => h o (by simp) (by rw [he, e']))]
theorem putAll_at (ops : List Oper) (vs : Nat → Value) (d : Tmp) : ∀ (k j : Nat) (a : Act) (o : Oper), (∀ o ∈ ops, ∃ e, o.dst = some e ∧ e < a.tmps.size) → (∀ (i j : Nat) (o o' : Oper), ops[i]? = some o → ops[j]? = some o' → o.dst = o'.dst → i = j) → ops[j]? = some o → o.dst = some d → (putAll ops vs k a).tmps.getD d undef = vs (k + j) := by
  induction ops with
  | nil => intro k j a o _ _ h; simp at h
  | cons x rest ih =>
    intro k j a o hb hdj hj hd
    cases j with
    | zero =>
      simp at hj
      subst hj
      obtain ⟨e, he, hlt⟩ := hb x (by simp)
      rw [putAll, putAll_other _ _ _ _ _ (fun o' ho' => by rw [size_put]; exact hb o' (by simp [ho'])), hd, getD_put _ _ _ _ (by rw [he] at hd; injection hd with hd; subst hd; exact hlt), if_pos rfl]
      · simp
      · intro o' ho' hd'
        obtain ⟨n, hn⟩ := List.mem_iff_getElem?.1 ho'
        have := hdj 0 (n + 1) x o' (by simp) (by simpa using hn) (by rw [hd, hd'])
        omega
    | succ j =>
      rw [putAll, ih (k + 1) j _ o (fun o' ho' => by rw [size_put]; exact hb o' (by simp [ho'])) (fun i j o o' hi hj h => by
        have := hdj (i + 1) (j + 1) o o' (by simpa using hi) (by simpa using hj) h
        omega) (by simpa using hj) hd]
      congr 1
      omega
theorem act_ext {a b : Act} (h1 : a.defers = b.defers) (h2 : a.tmps.size = b.tmps.size) (h : ∀ d, a.tmps.getD d undef = b.tmps.getD d undef) : a = b := by
  obtain ⟨t, ds⟩ := a
  obtain ⟨t', ds'⟩ := b
  simp only at h1 h2 h
  subst h1
  congr 1
  refine Array.ext h2 fun i hi hi' => ?_
  have := h i
  simpa [Array.getD, hi, hi'] using this

/-- One fact an operation, whatever the order. -/
theorem region_each {id : Nat} {w0 : World} (F : Nat → Value → World → Prop) (I : World → Prop) (hm : P.follows .mixedOrders = true)
    (hac : ∀ (j : Nat) (o : Oper), ops[j]? = some o → ∀ e ∈ o.after, e.on < j) (hgd : ∀ (j : Nat) (o : Oper), ops[j]? = some o → o.guard = none)
    (hds : ∀ (j : Nat) (o : Oper), ops[j]? = some o → ∃ d, o.dst = some d ∧ d < a0.tmps.size) (hdj : ∀ (i j : Nat) (o o' : Oper), ops[i]? = some o → ops[j]? = some o' → o.dst = o'.dst → i = j)
    (hI : I w0.drew)
    (hstep : ∀ (i : Nat) (o : Oper), ops[i]? = some o → ∀ (a : Act) (w : World), I w → (∀ e ∈ o.after, Region.binds .any e = true → ∀ (o' : Oper) (d : Tmp), ops[e.on]? = some o' → o'.dst = some d → F e.on (a.tmps.getD d undef) w) → (∀ d : Tmp, Apart ops d → a.tmps.getD d undef = a0.tmps.getD d undef) →
      ∃ v w', (execOp a.eval o).run P w = .ok (.value v) w' ∧ I w' ∧ F i v w' ∧ ∀ (j : Nat) (u : Value), F j u w → F j u w')
    (hdone : ∀ (vs : Nat → Value) w, I w → (∀ j, j < ops.size → F j (vs j) w) → Q .normal (putAll ops.toList vs 0 a0) w) :
    (Code.region id ops true).wp P Q a0 w0 := by
  refine wp_region_any hm (wpAny_inv hac hgd hds hdj hstep ?_ _ _ _ _ ?_ ⟨by simp, rfl, rfl, hI, ?_, fun _ _ => rfl⟩)
  · intro a w h
    have hb : ∀ o ∈ ops.toList, ∃ e, o.dst = some e ∧ e < a0.tmps.size := fun o ho => by
      obtain ⟨n, hn⟩ := List.mem_iff_getElem?.1 ho
      exact hds n o (by simpa using hn)
    have hdj' : ∀ (i j : Nat) (o o' : Oper), ops.toList[i]? = some o → ops.toList[j]? = some o' → o.dst = o'.dst → i = j := fun i j o o' hi hj he => hdj i j o o' (by simpa using hi) (by simpa using hj) he
    have hd : ∀ (j : Nat) (o : Oper) (d : Tmp), ops[j]? = some o → o.dst = some d → F j (a.tmps.getD d undef) w := fun j o d hj hd => h.did j o d hj hd (by
      have hlt : j < ops.size := (Array.getElem?_eq_some_iff.1 hj).1
      simp [Array.getD, hlt])
    have e : a = putAll ops.toList (fun j => a.tmps.getD (((ops[j]?).bind (·.dst)).getD 0) undef) 0 a0 := by
      refine act_ext (by rw [putAll_defers]; exact h.defers) (by rw [putAll_size]; exact h.tmps) fun d => ?_
      by_cases hap : Apart ops d
      · rw [putAll_other _ _ _ _ _ hb (fun o ho hd => by
          obtain ⟨n, hn⟩ := List.mem_iff_getElem?.1 ho
          exact hap n o (by simpa using hn) hd)]
        exact h.rest d hap
      · unfold Apart at hap
        simp only [Classical.not_forall, Classical.not_not] at hap
        obtain ⟨j, o, hj, hod⟩ := hap
        rw [putAll_at _ _ d 0 j a0 o hb hdj' (by simpa using hj) hod]
        simp [hj, hod]
    rw [e]
    refine hdone _ w h.world fun j hj => ?_
    obtain ⟨d, hod, _⟩ := hds j ops[j] (Array.getElem?_eq_getElem hj)
    have := hd j ops[j] d (Array.getElem?_eq_getElem hj) hod
    simpa [Array.getElem?_eq_getElem hj, hod] using this
  · unfold unlisted
    refine Nat.le_trans (List.length_filter_le _ _) (by simp)
  · intro j o d hj _ hl
    have hlt : j < ops.size := (Array.getElem?_eq_some_iff.1 hj).1
    simp [Array.getD, hlt] at hl

/-- What region_each asks of the operations, as one test. -/
def regionOkB (ops : Array Oper) (n : Nat) : Bool :=
  (List.range ops.size).all fun j => match ops[j]? with
    | none => true
    | some o => (o.after.all fun e => decide (e.on < j)) && o.guard.isNone && (match o.dst with | some d => decide (d < n) | none => false) &&
      (List.range j).all fun i => match ops[i]? with
        | none => true
        | some o' => decide (o'.dst ≠ o.dst)
theorem regionOk {n : Nat} (h : regionOkB ops n = true) : (∀ (j : Nat) (o : Oper), ops[j]? = some o → ∀ e ∈ o.after, e.on < j) ∧ (∀ (j : Nat) (o : Oper), ops[j]? = some o → o.guard = none) ∧
    (∀ (j : Nat) (o : Oper), ops[j]? = some o → ∃ d, o.dst = some d ∧ d < n) ∧ (∀ (i j : Nat) (o o' : Oper), ops[i]? = some o → ops[j]? = some o' → o.dst = o'.dst → i = j) := by
  unfold regionOkB at h
  rw [List.all_eq_true] at h
  have each : ∀ (j : Nat) (o : Oper), ops[j]? = some o → (∀ e ∈ o.after, e.on < j) ∧ o.guard = none ∧ (∃ d, o.dst = some d ∧ d < n) ∧ ∀ (i : Nat) (o' : Oper), i < j → ops[i]? = some o' → o'.dst ≠ o.dst := by
    intro j o ho
    have hlt : j < ops.size := (Array.getElem?_eq_some_iff.1 ho).1
    have hj := h j (List.mem_range.2 hlt)
    rw [ho] at hj
    simp only [Bool.and_eq_true] at hj
    obtain ⟨⟨⟨h1, h2⟩, h3⟩, h4⟩ := hj
    refine ⟨?_, by simpa using h2, ?_, ?_⟩
    · rw [Array.all_eq_true_iff_forall_mem] at h1
      intro e he
      simpa using h1 e he
    · cases hd : o.dst with
      | none => rw [hd] at h3; simp at h3
      | some d => rw [hd] at h3; exact ⟨d, rfl, by simpa using h3⟩
    · intro i o' hi ho'
      rw [List.all_eq_true] at h4
      have := h4 i (List.mem_range.2 hi)
      rw [ho'] at this
      simpa using this
  refine ⟨fun j o ho => (each j o ho).1, fun j o ho => (each j o ho).2.1, fun j o ho => (each j o ho).2.2.1, fun i j o o' hi hj he => ?_⟩
  rcases Nat.lt_trichotomy i j with h1 | h1 | h1
  · exact absurd he ((each j o' hj).2.2.2 i o h1 hi)
  · exact h1
  · exact absurd he.symm ((each i o hi).2.2.2 j o' h1 hj)
theorem region_each' {id : Nat} {w0 : World} (F : Nat → Value → World → Prop) (I : World → Prop) (hm : P.follows .mixedOrders = true) (hok : regionOkB ops a0.tmps.size = true)
    (hI : I w0.drew)
    (hstep : ∀ (i : Nat) (o : Oper), ops[i]? = some o → ∀ (a : Act) (w : World), I w → (∀ e ∈ o.after, Region.binds .any e = true → ∀ (o' : Oper) (d : Tmp), ops[e.on]? = some o' → o'.dst = some d → F e.on (a.tmps.getD d undef) w) → (∀ d : Tmp, Apart ops d → a.tmps.getD d undef = a0.tmps.getD d undef) →
      ∃ v w', (execOp a.eval o).run P w = .ok (.value v) w' ∧ I w' ∧ F i v w' ∧ ∀ (j : Nat) (u : Value), F j u w → F j u w')
    (hdone : ∀ (vs : Nat → Value) w, I w → (∀ j, j < ops.size → F j (vs j) w) → Q .normal (putAll ops.toList vs 0 a0) w) :
    (Code.region id ops true).wp P Q a0 w0 :=
  region_each F I hm (regionOk hok).1 (regionOk hok).2.1 (regionOk hok).2.2.1 (regionOk hok).2.2.2 hI hstep hdone
def apartB (ops : Array Oper) (d : Tmp) : Bool := ops.all fun o => decide (o.dst ≠ some d)
theorem apart_of {d : Tmp} (h : apartB ops d = true) : Apart ops d := by
  intro j o ho
  unfold apartB at h
  rw [Array.all_eq_true_iff_forall_mem] at h
  have := h o (Array.mem_of_getElem? ho)
  simpa using this
end
end Go.Proofs.YtklanoppbbaolaaGreat
/- A region whose order is drawn, some of its operations guarded: one fact an operation, whatever the order; plain and inside a round of a range over a function. No program is named here. -/
namespace Go.Proofs.YtklanoppbbaolaaGreat
open Go.RowKit
set_option linter.unusedVariables false

section
variable {P : Program} {ops : Array Oper} {Q : Exit → Act → World → Prop} {F : Nat → Value → World → Prop} {I : World → Prop} {a0 : Act}

/-- What is asked of one operation. -/
def StepG (P : Program) (ops : Array Oper) (F : Nat → Value → World → Prop) (I : World → Prop) (a0 : Act) : Prop :=
  ∀ (i : Nat) (o : Oper), ops[i]? = some o → ∀ (a : Act) (w : World), I w → (∀ e ∈ o.after, Region.binds .any e = true → ∀ (o' : Oper) (d : Tmp), ops[e.on]? = some o' → o'.dst = some d → F e.on (a.tmps.getD d undef) w) → (∀ d : Tmp, Apart ops d → a.tmps.getD d undef = a0.tmps.getD d undef) →
    (Region.wanted o (yielded ops a.tmps) = true → ∃ v w', (execOp a.eval o).run P w = .ok (.value v) w' ∧ I w' ∧ F i v w' ∧ ∀ (j : Nat) (u : Value), F j u w → F j u w') ∧
    (Region.wanted o (yielded ops a.tmps) = false → F i undef w)

theorem rinv_put {listed : Array Bool} {a : Act} {w w' : World} {i : Nat} {o : Oper} {v : Value} (h : RInv ops F I a0 listed a w) (ho : ops[i]? = some o) (hds : ∃ d, o.dst = some d ∧ d < a0.tmps.size)
    (hdj : ∀ (i j : Nat) (o o' : Oper), ops[i]? = some o → ops[j]? = some o' → o.dst = o'.dst → i = j) (hI : I w') (hF : F i v w') (hkeep : ∀ (j : Nat) (u : Value), F j u w → F j u w') : RInv ops F I a0 (listed.setIfInBounds i true) (a.put o.dst v) w' := by
  have hlt : i < ops.size := (Array.getElem?_eq_some_iff.1 ho).1
  obtain ⟨d, hd, hdl⟩ := hds
  refine ⟨by simp [h.size], ?_, ?_, hI, ?_, ?_⟩
  · rw [defers_put]; exact h.defers
  · rw [size_put]; exact h.tmps
  · intro j o' d' hj hd' hl
    rw [hd, getD_put _ _ _ _ (by rw [h.tmps]; exact hdl)]
    rw [listed_set _ _ _ (by rw [h.size]; exact hlt)] at hl
    by_cases hij : i = j
    · subst hij
      rw [ho] at hj
      injection hj with hj
      subst hj
      rw [hd] at hd'
      injection hd' with hd'
      subst hd'
      rw [if_pos rfl]
      exact hF
    · rw [if_neg (fun e => hij (hdj i j o o' ho hj (by rw [hd, hd', e])))]
      exact hkeep j _ (h.did j o' d' hj hd' (hl.resolve_left hij))
  · intro d' hap
    rw [hd, getD_put _ _ _ _ (by rw [h.tmps]; exact hdl), if_neg (fun e => hap i o ho (by rw [hd, e]))]
    exact h.rest d' hap

theorem rinv_fin (hdone : ∀ (a : Act) (w : World), RInv ops F I a0 (Array.replicate ops.size true) a w → Q .normal a w) {listed : Array Bool} {a : Act} {w : World} (h : RInv ops F I a0 listed a w) (hall : ∀ j, j < ops.size → listed.getD j true = true) : Q .normal a w := by
  refine hdone a w ⟨by simp, h.defers, h.tmps, h.world, fun j o d hj hd _ => h.did j o d hj hd ?_, h.rest⟩
  have hlt : j < ops.size := (Array.getElem?_eq_some_iff.1 hj).1
  rw [getD_ft _ _ (by rw [h.size]; exact hlt)]
  exact hall j hlt
theorem all_of_unlisted {listed : Array Bool} (hu : unlisted ops.size listed ≤ 0) : ∀ j, j < ops.size → listed.getD j true = true := by
  intro j hj
  by_cases hl : listed.getD j true = true
  · exact hl
  · exfalso
    have h0 : ((List.range ops.size).filter fun i => !listed.getD i true) = [] := List.eq_nil_of_length_eq_zero (by unfold unlisted at hu; omega)
    have : j ∈ ((List.range ops.size).filter fun i => !listed.getD i true) := by
      rw [List.mem_filter, List.mem_range]
      exact ⟨hj, by simpa using hl⟩
    rw [h0] at this
    simp at this
theorem ready_none {listed : Array Bool} (hall : ∀ j, j < ops.size → listed.getD j true = true) : Region.ready .any ops listed = [] := by
  refine List.eq_nil_iff_forall_not_mem.2 fun j hj => ?_
  rw [mem_ready] at hj
  obtain ⟨h1, o, ho, _⟩ := hj
  rw [hall j (Array.getElem?_eq_some_iff.1 ho).1] at h1
  simp at h1

theorem wpAny_invG (hac : ∀ (j : Nat) (o : Oper), ops[j]? = some o → ∀ e ∈ o.after, e.on < j)
    (hds : ∀ (j : Nat) (o : Oper), ops[j]? = some o → ∃ d, o.dst = some d ∧ d < a0.tmps.size) (hdj : ∀ (i j : Nat) (o o' : Oper), ops[i]? = some o → ops[j]? = some o' → o.dst = o'.dst → i = j)
    (hstep : StepG P ops F I a0) (hdone : ∀ (a : Act) (w : World), RInv ops F I a0 (Array.replicate ops.size true) a w → Q .normal a w) :
    ∀ (fuel : Nat) (listed : Array Bool) (a : Act) (w : World), unlisted ops.size listed ≤ fuel → RInv ops F I a0 listed a w → wpAny P .any ops Q fuel listed a w := by
  intro fuel
  induction fuel with
  | zero =>
    intro listed a w hu h
    exact ⟨ready_none (all_of_unlisted hu), rinv_fin hdone h (all_of_unlisted hu)⟩
  | succ fuel ih =>
    intro listed a w hu h
    refine ⟨fun hr => rinv_fin hdone h (ready_nil h.size hac hr), fun i hi => ?_⟩
    rw [mem_ready] at hi
    obtain ⟨hli, o, ho, hdep⟩ := hi
    have hlt : i < ops.size := (Array.getElem?_eq_some_iff.1 ho).1
    have hs := hstep i o ho a w h.world (fun e he hb o' d ho' hd => h.did e.on o' d ho' hd (hdep e he hb)) h.rest
    have hu' : unlisted ops.size (listed.setIfInBounds i true) ≤ fuel := by have := unlisted_set h.size hlt hli; omega
    unfold wpOp
    rw [ho]
    cases hw : Region.wanted o (yielded ops a.tmps) with
    | true =>
      obtain ⟨v, w', hrun, hI, hF, hkeep⟩ := hs.1 hw
      simp only [hw, if_true]
      left
      unfold Oper.wp
      rw [hrun]
      show wpAny P .any ops Q fuel (listed.setIfInBounds i true) (a.put o.dst v) w'
      exact ih _ _ _ hu' (rinv_put h ho (hds i o ho) hdj hI hF hkeep)
    | false =>
      simp only [hw, Bool.false_eq_true, if_false]
      exact ih _ _ _ hu' (rinv_put h ho (hds i o ho) hdj h.world (hs.2 hw) fun _ _ h => h)

theorem wpAnyIn_invG {l n : Nat} (hac : ∀ (j : Nat) (o : Oper), ops[j]? = some o → ∀ e ∈ o.after, e.on < j) (hnd : ∀ (j : Nat) (o : Oper), ops[j]? = some o → ∀ c, o.op ≠ .defer c)
    (hds : ∀ (j : Nat) (o : Oper), ops[j]? = some o → ∃ d, o.dst = some d ∧ d < a0.tmps.size) (hdj : ∀ (i j : Nat) (o o' : Oper), ops[i]? = some o → ops[j]? = some o' → o.dst = o'.dst → i = j)
    (hstep : StepG P ops F I a0) (hdone : ∀ (a : Act) (w : World), RInv ops F I a0 (Array.replicate ops.size true) a w → Q .normal a w) :
    ∀ (fuel : Nat) (listed : Array Bool) (a : Act) (w : World), unlisted ops.size listed ≤ fuel → RInv ops F I a0 listed a w → wpAnyIn (Fence.wide.inRound l) n P .any ops Q fuel listed a w := by
  intro fuel
  induction fuel with
  | zero =>
    intro listed a w hu h
    exact ⟨ready_none (all_of_unlisted hu), rinv_fin hdone h (all_of_unlisted hu)⟩
  | succ fuel ih =>
    intro listed a w hu h
    refine ⟨fun hr => rinv_fin hdone h (ready_nil h.size hac hr), fun i hi => ?_⟩
    rw [mem_ready] at hi
    obtain ⟨hli, o, ho, hdep⟩ := hi
    have hlt : i < ops.size := (Array.getElem?_eq_some_iff.1 ho).1
    have hs := hstep i o ho a w h.world (fun e he hb o' d ho' hd => h.did e.on o' d ho' hd (hdep e he hb)) h.rest
    have hu' : unlisted ops.size (listed.setIfInBounds i true) ≤ fuel := by have := unlisted_set h.size hlt hli; omega
    unfold wpOpIn
    rw [ho]
    cases hw : Region.wanted o (yielded ops a.tmps) with
    | true =>
      obtain ⟨v, w', hrun, hI, hF, hkeep⟩ := hs.1 hw
      simp only [hw, if_true]
      unfold Oper.wpIn
      refine ⟨fun _ _ => trivial, ?_⟩
      rw [Oper.semAt_plain _ _ _ (hnd i o ho), hrun]
      show wpAnyIn (Fence.wide.inRound l) n P .any ops Q fuel (listed.setIfInBounds i true) (a.put o.dst v) w'
      exact ih _ _ _ hu' (rinv_put h ho (hds i o ho) hdj hI hF hkeep)
    | false =>
      simp only [hw, Bool.false_eq_true, if_false]
      refine ⟨fun _ _ => trivial, ?_⟩
      exact ih _ _ _ hu' (rinv_put h ho (hds i o ho) hdj h.world (hs.2 hw) fun _ _ h => h)

theorem rinv_done (hds : ∀ (j : Nat) (o : Oper), ops[j]? = some o → ∃ d, o.dst = some d ∧ d < a0.tmps.size) (hdj : ∀ (i j : Nat) (o o' : Oper), ops[i]? = some o → ops[j]? = some o' → o.dst = o'.dst → i = j)
    (hdone : ∀ (vs : Nat → Value) w, I w → (∀ j, j < ops.size → F j (vs j) w) → Q .normal (putAll ops.toList vs 0 a0) w) (a : Act) (w : World) (h : RInv ops F I a0 (Array.replicate ops.size true) a w) : Q .normal a w := by
  have hb : ∀ o ∈ ops.toList, ∃ e, o.dst = some e ∧ e < a0.tmps.size := fun o ho => by
    obtain ⟨n, hn⟩ := List.mem_iff_getElem?.1 ho
    exact hds n o (by simpa using hn)
  have hdj' : ∀ (i j : Nat) (o o' : Oper), ops.toList[i]? = some o → ops.toList[j]? = some o' → o.dst = o'.dst → i = j := fun i j o o' hi hj he => hdj i j o o' (by simpa using hi) (by simpa using hj) he
  have hd : ∀ (j : Nat) (o : Oper) (d : Tmp), ops[j]? = some o → o.dst = some d → F j (a.tmps.getD d undef) w := fun j o d hj hd => h.did j o d hj hd (by
    have hlt : j < ops.size := (Array.getElem?_eq_some_iff.1 hj).1
    simp [Array.getD, hlt])
  have e : a = putAll ops.toList (fun j => a.tmps.getD (((ops[j]?).bind (·.dst)).getD 0) undef) 0 a0 := by
    refine act_ext (by rw [putAll_defers]; exact h.defers) (by rw [putAll_size]; exact h.tmps) fun d => ?_
    by_cases hap : Apart ops d
    · rw [putAll_other _ _ _ _ _ hb (fun o ho hd => by
        obtain ⟨n, hn⟩ := List.mem_iff_getElem?.1 ho
        exact hap n o (by simpa using hn) hd)]
      exact h.rest d hap
    · unfold Apart at hap
      simp only [Classical.not_forall, Classical.not_not] at hap
      obtain ⟨j, o, hj, hod⟩ := hap
      rw [putAll_at _ _ d 0 j a0 o hb hdj' (by simpa using hj) hod]
      simp [hj, hod]
  rw [e]
  refine hdone _ w h.world fun j hj => ?_
  obtain ⟨d, hod, _⟩ := hds j ops[j] (Array.getElem?_eq_getElem hj)
  have := hd j ops[j] d (Array.getElem?_eq_getElem hj) hod
  simpa [Array.getElem?_eq_getElem hj, hod] using this
theorem rinv_start {w : World} (hI : I w) : RInv ops F I a0 (Array.replicate ops.size false) a0 w :=
  ⟨by simp, rfl, rfl, hI, fun j o d hj _ hl => by
    have hlt : j < ops.size := (Array.getElem?_eq_some_iff.1 hj).1
    simp [Array.getD, hlt] at hl, fun _ _ => rfl⟩
theorem unlisted_le (n : Nat) (listed : Array Bool) : unlisted n listed ≤ n := Nat.le_trans (List.length_filter_le _ _) (by simp)

/-- What is asked of the operations, guards let in, as one test. -/
def regionGB (ops : Array Oper) (n : Nat) : Bool :=
  (List.range ops.size).all fun j => match ops[j]? with
    | none => true
    | some o => (o.after.all fun e => decide (e.on < j)) && (match o.op with | .defer _ => false | _ => true) && (match o.dst with | some d => decide (d < n) | none => false) &&
      (List.range j).all fun i => match ops[i]? with
        | none => true
        | some o' => decide (o'.dst ≠ o.dst)
theorem regionG {n : Nat} (h : regionGB ops n = true) : (∀ (j : Nat) (o : Oper), ops[j]? = some o → ∀ e ∈ o.after, e.on < j) ∧ (∀ (j : Nat) (o : Oper), ops[j]? = some o → ∀ c, o.op ≠ .defer c) ∧
    (∀ (j : Nat) (o : Oper), ops[j]? = some o → ∃ d, o.dst = some d ∧ d < n) ∧ (∀ (i j : Nat) (o o' : Oper), ops[i]? = some o → ops[j]? = some o' → o.dst = o'.dst → i = j) := by
  unfold regionGB at h
  rw [List.all_eq_true] at h
  have each : ∀ (j : Nat) (o : Oper), ops[j]? = some o → (∀ e ∈ o.after, e.on < j) ∧ (∀ c, o.op ≠ .defer c) ∧ (∃ d, o.dst = some d ∧ d < n) ∧ ∀ (i : Nat) (o' : Oper), i < j → ops[i]? = some o' → o'.dst ≠ o.dst := by
    intro j o ho
    have hlt : j < ops.size := (Array.getElem?_eq_some_iff.1 ho).1
    have hj := h j (List.mem_range.2 hlt)
    rw [ho] at hj
    simp only [Bool.and_eq_true] at hj
    obtain ⟨⟨⟨h1, h2⟩, h3⟩, h4⟩ := hj
    refine ⟨?_, ?_, ?_, ?_⟩
    · rw [Array.all_eq_true_iff_forall_mem] at h1
      intro e he
      simpa using h1 e he
    · intro c hc
      rw [hc] at h2
      simp at h2
    · cases hd : o.dst with
      | none => rw [hd] at h3; simp at h3
      | some d => rw [hd] at h3; exact ⟨d, rfl, by simpa using h3⟩
    · intro i o' hi ho'
      rw [List.all_eq_true] at h4
      have := h4 i (List.mem_range.2 hi)
      rw [ho'] at this
      simpa using this
  refine ⟨fun j o ho => (each j o ho).1, fun j o ho => (each j o ho).2.1, fun j o ho => (each j o ho).2.2.1, fun i j o o' hi hj he => ?_⟩
  rcases Nat.lt_trichotomy i j with h1 | h1 | h1
  · exact absurd he ((each j o' hj).2.2.2 i o h1 hi)
  · exact h1
  · exact absurd he.symm ((each i o hi).2.2.2 j o' h1 hj)

/-- One fact an operation, whatever the order, guards let in. -/
theorem region_eachG {id : Nat} {w0 : World} (F : Nat → Value → World → Prop) (I : World → Prop) (hm : P.follows .mixedOrders = true) (hok : regionGB ops a0.tmps.size = true) (hI : I w0.drew) (hstep : StepG P ops F I a0)
    (hdone : ∀ (vs : Nat → Value) w, I w → (∀ j, j < ops.size → F j (vs j) w) → Q .normal (putAll ops.toList vs 0 a0) w) : (Code.region id ops true).wp P Q a0 w0 :=
  wp_region_any hm (wpAny_invG (regionG hok).1 (regionG hok).2.2.1 (regionG hok).2.2.2 hstep (rinv_done (regionG hok).2.2.1 (regionG hok).2.2.2 hdone) _ _ _ _ (unlisted_le _ _) (rinv_start hI))
/-- The same in a round of a range over a function. -/
theorem region_eachIn {id l n : Nat} {w0 : World} (F : Nat → Value → World → Prop) (I : World → Prop) (hm : P.follows .mixedOrders = true) (hok : regionGB ops a0.tmps.size = true) (hI : I w0.drew) (hstep : StepG P ops F I a0)
    (hdone : ∀ (vs : Nat → Value) w, I w → (∀ j, j < ops.size → F j (vs j) w) → Q .normal (putAll ops.toList vs 0 a0) w) : (Code.region id ops true).wpIn (Fence.wide.inRound l) n P Q a0 w0 :=
  wpIn_region_any hm (wpAnyIn_invG (regionG hok).1 (regionG hok).2.1 (regionG hok).2.2.1 (regionG hok).2.2.2 hstep (rinv_done (regionG hok).2.2.1 (regionG hok).2.2.2 hdone) _ _ _ _ (unlisted_le _ _) (rinv_start hI))
theorem putAll_congr (ops : List Oper) (vs us : Nat → Value) : ∀ (k : Nat) (a : Act), (∀ j, j < ops.length → vs (k + j) = us (k + j)) → putAll ops vs k a = putAll ops us k a := by
  induction ops with
  | nil => intro k a _; rfl
  | cons o rest ih =>
    intro k a h
    have h0 := h 0 (by simp)
    simp only [Nat.add_zero] at h0
    rw [putAll, putAll, h0]
    exact ih (k + 1) _ fun j hj => by
      have := h (j + 1) (by simp; omega)
      rwa [show k + 1 + j = k + (j + 1) by omega]
theorem yielded_of {a : Act} {j : Nat} {o : Oper} {d : Tmp} {b : Bool} (ho : ops[j]? = some o) (hd : o.dst = some d) (h : a.tmps.getD d undef = .bool b) : yielded ops a.tmps j = some b := by
  unfold yielded
  rw [ho]
  simp only [Option.bind_some, hd]
  have e : a.tmps[d]? = some (.bool b) := by
    rw [Array.getD_eq_getD_getElem?] at h
    cases hq : a.tmps[d]? with
    | none => rw [hq] at h; simp [undef] at h
    | some u => rw [hq] at h; simp at h; rw [h]
  rw [e]

theorem wanted_is {o o' : Oper} {a : Act} {j : Nat} {want b : Bool} {d : Tmp} (hg : o.guard = some (j, want)) (ho : ops[j]? = some o') (hd : o'.dst = some d) (h : a.tmps.getD d undef = .bool b) : Region.wanted o (yielded ops a.tmps) = (b == want) := by
  unfold Region.wanted
  rw [hg]
  show (yielded ops a.tmps j == some want) = (b == want)
  rw [yielded_of ho hd h]
  cases b <;> cases want <;> rfl

/-- What is asked of one operation that only reads. -/
def StepQ (P : Program) (ops : Array Oper) (val : Nat → Value) (a0 : Act) (w : World) : Prop :=
  ∀ (i : Nat) (o : Oper), ops[i]? = some o → ∀ (a : Act), (∀ e ∈ o.after, Region.binds .any e = true → ∀ (o' : Oper) (d : Tmp), ops[e.on]? = some o' → o'.dst = some d → a.tmps.getD d undef = val e.on) → (∀ d : Tmp, Apart ops d → a.tmps.getD d undef = a0.tmps.getD d undef) →
    (∀ (j : Nat) (want : Bool), o.guard = some (j, want) → ∀ (o' : Oper) (d : Tmp), ops[j]? = some o' → o'.dst = some d → ∀ b, a.tmps.getD d undef = .bool b → Region.wanted o (yielded ops a.tmps) = (b == want)) →
    (Region.wanted o (yielded ops a.tmps) = true → (execOp a.eval o).run P w = .ok (.value (val i)) w) ∧ (Region.wanted o (yielded ops a.tmps) = false → val i = undef)
theorem StepQ.toG {val : Nat → Value} {w : World} (h : StepQ P ops val a0 w) : StepG P ops (fun j v _ => v = val j) (fun W => W = w) a0 := by
  intro i o ho a W hW hdep hrest
  subst hW
  obtain ⟨h1, h2⟩ := h i o ho a hdep hrest (fun j want hg o' d ho' hd b hb => wanted_is hg ho' hd hb)
  exact ⟨fun hw => ⟨_, _, h1 hw, rfl, rfl, fun _ _ h => h⟩, fun hw => (h2 hw).symm⟩
/-- A region that only reads, in a round of a range over a function. -/
theorem region_quietIn {id l n : Nat} {w0 : World} (val : Nat → Value) (hm : P.follows .mixedOrders = true) (hok : regionGB ops a0.tmps.size = true) (hstep : StepQ P ops val a0 w0.drew)
    (hdone : Q .normal (putAll ops.toList val 0 a0) w0.drew) : (Code.region id ops true).wpIn (Fence.wide.inRound l) n P Q a0 w0 := by
  refine region_eachIn (fun j v _ => v = val j) (fun W => W = w0.drew) hm hok rfl hstep.toG fun vs w hw hF => ?_
  subst hw
  rw [putAll_congr ops.toList vs val 0 a0 (fun j hj => by rw [Nat.zero_add]; exact hF j (by simpa using hj))]
  exact hdone
/-- A region that only reads. -/
theorem region_quiet {id : Nat} {w0 : World} (val : Nat → Value) (hm : P.follows .mixedOrders = true) (hok : regionGB ops a0.tmps.size = true) (hstep : StepQ P ops val a0 w0.drew)
    (hdone : Q .normal (putAll ops.toList val 0 a0) w0.drew) : (Code.region id ops true).wp P Q a0 w0 := by
  refine region_eachG (fun j v _ => v = val j) (fun W => W = w0.drew) hm hok rfl hstep.toG fun vs w hw hF => ?_
  subst hw
  rw [putAll_congr ops.toList vs val 0 a0 (fun j hj => by rw [Nat.zero_add]; exact hF j (by simpa using hj))]
  exact hdone
end
end Go.Proofs.YtklanoppbbaolaaGreat
/- A region whose order is drawn, with calls and stores among its operations: one fact an operation, whatever the order. No program is named here. -/
namespace Go.Proofs.YtklanoppbbaolaaGreat
open Go.RowKit
set_option linter.unusedVariables false

section
variable {P : Program} {ops : Array Oper} {Q : Exit → Act → World → Prop} {F : Nat → Value → World → Prop} {I : World → Prop} {a0 : Act}

/-- The fact of an operation that was done. -/
def Did (F : Nat → Value → World → Prop) (a : Act) (w : World) (j : Nat) (o : Oper) : Prop := (∀ d, o.dst = some d → F j (a.tmps.getD d undef) w) ∧ (o.dst = none → ∃ v, F j v w)

structure WInv (ops : Array Oper) (F : Nat → Value → World → Prop) (I : World → Prop) (a0 : Act) (listed : Array Bool) (a : Act) (w : World) : Prop where
  size : listed.size = ops.size
  defers : a.defers = a0.defers
  tmps : a.tmps.size = a0.tmps.size
  world : I w
  did : ∀ (j : Nat) (o : Oper), ops[j]? = some o → listed.getD j false = true → Did F a w j o
  rest : ∀ d : Tmp, Apart ops d → a.tmps.getD d undef = a0.tmps.getD d undef

/-- What is asked of one operation. -/
def StepW (P : Program) (ops : Array Oper) (F : Nat → Value → World → Prop) (I : World → Prop) (a0 : Act) : Prop :=
  ∀ (i : Nat) (o : Oper), ops[i]? = some o → ∀ (a : Act) (w : World), I w → (∀ e ∈ o.after, Region.binds .any e = true → ∀ (o' : Oper), ops[e.on]? = some o' → Did F a w e.on o') → (∀ d : Tmp, Apart ops d → a.tmps.getD d undef = a0.tmps.getD d undef) →
    (Region.wanted o (yielded ops a.tmps) = true → ∀ (K : Act → World → Prop) (Q : Exit → Act → World → Prop), (∀ v w', I w' → F i v w' → (∀ (j : Nat) (u : Value), F j u w → F j u w') → K (a.put o.dst v) w') → o.wp P a w K Q) ∧
    (Region.wanted o (yielded ops a.tmps) = false → F i undef w)

theorem winv_put {listed : Array Bool} {a : Act} {w w' : World} {i : Nat} {o : Oper} {v : Value} (h : WInv ops F I a0 listed a w) (ho : ops[i]? = some o) (hds : ∀ d, o.dst = some d → d < a0.tmps.size)
    (hdj : ∀ (i j : Nat) (o o' : Oper) (d : Tmp), ops[i]? = some o → ops[j]? = some o' → o.dst = some d → o'.dst = some d → i = j) (hI : I w') (hF : F i v w') (hkeep : ∀ (j : Nat) (u : Value), F j u w → F j u w') : WInv ops F I a0 (listed.setIfInBounds i true) (a.put o.dst v) w' := by
  have hlt : i < ops.size := (Array.getElem?_eq_some_iff.1 ho).1
  cases hd : o.dst with
  | none =>
    refine ⟨by simp [h.size], by rw [defers_put]; exact h.defers, by rw [size_put]; exact h.tmps, hI, fun j o' hj hl => ?_, fun d' hap => h.rest d' hap⟩
    rw [listed_set _ _ _ (by rw [h.size]; exact hlt)] at hl
    by_cases hij : i = j
    · subst hij
      rw [ho] at hj
      injection hj with hj
      subst hj
      exact ⟨fun d hd' => (by rw [hd] at hd'; cases hd'), fun _ => ⟨v, hF⟩⟩
    · obtain ⟨h1, h2⟩ := h.did j o' hj (hl.resolve_left hij)
      exact ⟨fun d hd' => hkeep j _ (h1 d hd'), fun hn => (h2 hn).imp fun v hv => hkeep j v hv⟩
  | some d =>
    have hdl := hds d hd
    refine ⟨by simp [h.size], by rw [defers_put]; exact h.defers, by rw [size_put]; exact h.tmps, hI, fun j o' hj hl => ?_, fun d' hap => ?_⟩
    · rw [listed_set _ _ _ (by rw [h.size]; exact hlt)] at hl
      by_cases hij : i = j
      · subst hij
        rw [ho] at hj
        injection hj with hj
        subst hj
        refine ⟨fun d' hd' => ?_, fun hn => ⟨v, hF⟩⟩
        rw [hd] at hd'
        injection hd' with hd'
        subst hd'
        rw [getD_put _ _ _ _ (by rw [h.tmps]; exact hdl), if_pos rfl]
        exact hF
      · obtain ⟨h1, h2⟩ := h.did j o' hj (hl.resolve_left hij)
        refine ⟨fun d' hd' => ?_, fun hn => (h2 hn).imp fun v hv => hkeep j v hv⟩
        rw [getD_put _ _ _ _ (by rw [h.tmps]; exact hdl), if_neg (fun e => hij (hdj i j o o' d ho hj hd (by rw [hd', e])))]
        exact hkeep j _ (h1 d' hd')
    · rw [getD_put _ _ _ _ (by rw [h.tmps]; exact hdl), if_neg (fun e => hap i o ho (by rw [hd, e]))]
      exact h.rest d' hap

theorem ready_nilW {listed : Array Bool} (hs : listed.size = ops.size) (hac : ∀ (j : Nat) (o : Oper), ops[j]? = some o → ∀ e ∈ o.after, Region.binds .any e = true → e.on < j) (h : Region.ready .any ops listed = []) : ∀ j, j < ops.size → listed.getD j true = true := by
  intro j
  induction j using Nat.strongRecOn with
  | ind j ih =>
    intro hj
    by_cases hl : listed.getD j true = true
    · exact hl
    · exfalso
      have hm : j ∈ Region.ready .any ops listed := by
        rw [mem_ready]
        refine ⟨by simpa using hl, ops[j], Array.getElem?_eq_getElem hj, fun e he hb => ?_⟩
        have hlt := hac j _ (Array.getElem?_eq_getElem hj) e he hb
        rw [getD_ft _ _ (by omega)]
        exact ih e.on hlt (by omega)
      rw [h] at hm
      simp at hm

theorem wpAny_invW (hac : ∀ (j : Nat) (o : Oper), ops[j]? = some o → ∀ e ∈ o.after, Region.binds .any e = true → e.on < j)
    (hds : ∀ (j : Nat) (o : Oper), ops[j]? = some o → ∀ d, o.dst = some d → d < a0.tmps.size) (hdj : ∀ (i j : Nat) (o o' : Oper) (d : Tmp), ops[i]? = some o → ops[j]? = some o' → o.dst = some d → o'.dst = some d → i = j)
    (hstep : StepW P ops F I a0) (hdone : ∀ (a : Act) (w : World), WInv ops F I a0 (Array.replicate ops.size true) a w → Q .normal a w) :
    ∀ (fuel : Nat) (listed : Array Bool) (a : Act) (w : World), unlisted ops.size listed ≤ fuel → WInv ops F I a0 listed a w → wpAny P .any ops Q fuel listed a w := by
  have fin : ∀ {listed : Array Bool} {a : Act} {w : World}, WInv ops F I a0 listed a w → (∀ j, j < ops.size → listed.getD j true = true) → Q .normal a w := fun {listed a w} h hall => by
    refine hdone a w ⟨by simp, h.defers, h.tmps, h.world, fun j o hj _ => h.did j o hj ?_, h.rest⟩
    have hlt : j < ops.size := (Array.getElem?_eq_some_iff.1 hj).1
    rw [getD_ft _ _ (by rw [h.size]; exact hlt)]
    exact hall j hlt
  intro fuel
  induction fuel with
  | zero =>
    intro listed a w hu h
    exact ⟨ready_none (all_of_unlisted hu), fin h (all_of_unlisted hu)⟩
  | succ fuel ih =>
    intro listed a w hu h
    refine ⟨fun hr => fin h (ready_nilW h.size hac hr), fun i hi => ?_⟩
    rw [mem_ready] at hi
    obtain ⟨hli, o, ho, hdep⟩ := hi
    have hlt : i < ops.size := (Array.getElem?_eq_some_iff.1 ho).1
    have hs := hstep i o ho a w h.world (fun e he hb o' ho' => h.did e.on o' ho' (hdep e he hb)) h.rest
    have hu' : unlisted ops.size (listed.setIfInBounds i true) ≤ fuel := by have := unlisted_set h.size hlt hli; omega
    unfold wpOp
    rw [ho]
    cases hw : Region.wanted o (yielded ops a.tmps) with
    | true =>
      simp only [hw, if_true]
      left
      exact hs.1 hw _ _ fun v w' hI hF hkeep => ih _ _ _ hu' (winv_put h ho (hds i o ho) hdj hI hF hkeep)
    | false =>
      simp only [hw, Bool.false_eq_true, if_false]
      exact ih _ _ _ hu' (winv_put h ho (hds i o ho) hdj h.world (hs.2 hw) fun _ _ h => h)

theorem putAll_otherW (ops : List Oper) (vs : Nat → Value) (d : Tmp) : ∀ (k : Nat) (a : Act), (∀ o ∈ ops, ∀ e, o.dst = some e → e < a.tmps.size) → (∀ o ∈ ops, o.dst ≠ some d) → (putAll ops vs k a).tmps.getD d undef = a.tmps.getD d undef := by
  induction ops with
  | nil => intro k a _ _; rfl
  | cons o rest ih =>
    intro k a hb h
    rw [putAll, ih _ _ (fun o' ho' => by rw [size_put]; exact hb o' (by simp [ho'])) (fun o' ho' => h o' (by simp [ho']))]
    cases he : o.dst with
    | none => rfl
    | some e => rw [getD_put _ _ _ _ (hb o (by simp) e he), if_neg (fun e' => h o (by simp) (by rw [he, e']))]
theorem putAll_atW (ops : List Oper) (vs : Nat → Value) (d : Tmp) : ∀ (k j : Nat) (a : Act) (o : Oper), (∀ o ∈ ops, ∀ e, o.dst = some e → e < a.tmps.size) → (∀ (i j : Nat) (o o' : Oper) (d : Tmp), ops[i]? = some o → ops[j]? = some o' → o.dst = some d → o'.dst = some d → i = j) → ops[j]? = some o → o.dst = some d → (putAll ops vs k a).tmps.getD d undef = vs (k + j) := by
  induction ops with
  | nil => intro k j a o _ _ h; simp at h
  | cons x rest ih =>
    intro k j a o hb hdj hj hd
    cases j with
    | zero =>
      simp at hj
      subst hj
      rw [putAll, putAll_otherW _ _ _ _ _ (fun o' ho' => by rw [size_put]; exact hb o' (by simp [ho'])), hd, getD_put _ _ _ _ (hb x (by simp) d hd), if_pos rfl]
      · simp
      · intro o' ho' hd'
        obtain ⟨n, hn⟩ := List.mem_iff_getElem?.1 ho'
        have := hdj 0 (n + 1) x o' d (by simp) (by simpa using hn) hd hd'
        omega
    | succ j =>
      rw [putAll, ih (k + 1) j _ o (fun o' ho' => by rw [size_put]; exact hb o' (by simp [ho'])) (fun i j o o' d hi hj h h' => by
        have := hdj (i + 1) (j + 1) o o' d (by simpa using hi) (by simpa using hj) h h'
        omega) (by simpa using hj) hd]
      congr 1
      omega

theorem winv_done (hds : ∀ (j : Nat) (o : Oper), ops[j]? = some o → ∀ d, o.dst = some d → d < a0.tmps.size) (hdj : ∀ (i j : Nat) (o o' : Oper) (d : Tmp), ops[i]? = some o → ops[j]? = some o' → o.dst = some d → o'.dst = some d → i = j)
    (hdone : ∀ (vs : Nat → Value) w, I w → (∀ j, j < ops.size → F j (vs j) w) → Q .normal (putAll ops.toList vs 0 a0) w) (a : Act) (w : World) (h : WInv ops F I a0 (Array.replicate ops.size true) a w) : Q .normal a w := by
  have hb : ∀ o ∈ ops.toList, ∀ e, o.dst = some e → e < a0.tmps.size := fun o ho => by
    obtain ⟨n, hn⟩ := List.mem_iff_getElem?.1 ho
    exact hds n o (by simpa using hn)
  have hdj' : ∀ (i j : Nat) (o o' : Oper) (d : Tmp), ops.toList[i]? = some o → ops.toList[j]? = some o' → o.dst = some d → o'.dst = some d → i = j := fun i j o o' d hi hj he => hdj i j o o' d (by simpa using hi) (by simpa using hj) he
  have hd : ∀ (j : Nat) (o : Oper), ops[j]? = some o → Did F a w j o := fun j o hj => h.did j o hj (by
    have hlt : j < ops.size := (Array.getElem?_eq_some_iff.1 hj).1
    simp [Array.getD, hlt])
  have hex : ∀ j : Nat, ∃ v : Value, (j < ops.size → F j v w) ∧ ∀ o d, ops[j]? = some o → o.dst = some d → v = a.tmps.getD d undef := fun j => by
    by_cases hj : j < ops.size
    · obtain ⟨h1, h2⟩ := hd j ops[j] (Array.getElem?_eq_getElem hj)
      cases hdd : ops[j].dst with
      | none =>
        obtain ⟨v, hv⟩ := h2 hdd
        exact ⟨v, fun _ => hv, fun o d ho hod => by rw [Array.getElem?_eq_getElem hj] at ho; injection ho with ho; subst ho; rw [hdd] at hod; cases hod⟩
      | some d =>
        exact ⟨_, fun _ => h1 d hdd, fun o d' ho hod => by rw [Array.getElem?_eq_getElem hj] at ho; injection ho with ho; subst ho; rw [hdd] at hod; injection hod with hod; rw [hod]⟩
    · exact ⟨undef, fun h => absurd h hj, fun o d ho _ => absurd (Array.getElem?_eq_some_iff.1 ho).1 hj⟩
  have hc := fun j => Classical.choose_spec (hex j)
  have e : a = putAll ops.toList (fun j => Classical.choose (hex j)) 0 a0 := by
    refine act_ext (by rw [putAll_defers]; exact h.defers) (by rw [putAll_size]; exact h.tmps) fun d => ?_
    by_cases hap : Apart ops d
    · rw [putAll_otherW _ _ _ _ _ hb (fun o ho hd => by
        obtain ⟨n, hn⟩ := List.mem_iff_getElem?.1 ho
        exact hap n o (by simpa using hn) hd)]
      exact h.rest d hap
    · unfold Apart at hap
      simp only [Classical.not_forall, Classical.not_not] at hap
      obtain ⟨j, o, hj, hod⟩ := hap
      rw [putAll_atW _ _ d 0 j a0 o hb hdj' (by simpa using hj) hod, Nat.zero_add]
      exact ((hc j).2 o d hj hod).symm
  rw [e]
  exact hdone _ w h.world fun j hj => (hc j).1 hj
theorem winv_start {w : World} (hI : I w) : WInv ops F I a0 (Array.replicate ops.size false) a0 w :=
  ⟨by simp, rfl, rfl, hI, fun j o hj hl => by
    have hlt : j < ops.size := (Array.getElem?_eq_some_iff.1 hj).1
    simp [Array.getD, hlt] at hl, fun _ _ => rfl⟩

/-- What is asked of the operations, as one test: stores let in. -/
def regionWB (ops : Array Oper) (n : Nat) : Bool :=
  (List.range ops.size).all fun j => match ops[j]? with
    | none => true
    | some o => (o.after.all fun e => !Region.binds .any e || decide (e.on < j)) && (match o.dst with | some d => decide (d < n) | none => true) &&
      (List.range j).all fun i => match ops[i]? with
        | none => true
        | some o' => decide (o'.dst = none) || decide (o'.dst ≠ o.dst)
theorem regionW {n : Nat} (h : regionWB ops n = true) : (∀ (j : Nat) (o : Oper), ops[j]? = some o → ∀ e ∈ o.after, Region.binds .any e = true → e.on < j) ∧
    (∀ (j : Nat) (o : Oper), ops[j]? = some o → ∀ d, o.dst = some d → d < n) ∧ (∀ (i j : Nat) (o o' : Oper) (d : Tmp), ops[i]? = some o → ops[j]? = some o' → o.dst = some d → o'.dst = some d → i = j) := by
  unfold regionWB at h
  rw [List.all_eq_true] at h
  have each : ∀ (j : Nat) (o : Oper), ops[j]? = some o → (∀ e ∈ o.after, Region.binds .any e = true → e.on < j) ∧ (∀ d, o.dst = some d → d < n) ∧ ∀ (i : Nat) (o' : Oper), i < j → ops[i]? = some o' → ∀ d, o'.dst = some d → o.dst ≠ some d := by
    intro j o ho
    have hlt : j < ops.size := (Array.getElem?_eq_some_iff.1 ho).1
    have hj := h j (List.mem_range.2 hlt)
    rw [ho] at hj
    simp only [Bool.and_eq_true] at hj
    obtain ⟨⟨h1, h3⟩, h4⟩ := hj
    refine ⟨?_, ?_, ?_⟩
    · rw [Array.all_eq_true_iff_forall_mem] at h1
      intro e he hb
      simpa [hb] using h1 e he
    · intro d hd
      rw [hd] at h3
      simpa using h3
    · intro i o' hi ho' d hd hd'
      rw [List.all_eq_true] at h4
      have := h4 i (List.mem_range.2 hi)
      rw [ho'] at this
      simp [hd, hd'] at this
  refine ⟨fun j o ho => (each j o ho).1, fun j o ho => (each j o ho).2.1, fun i j o o' d hi hj he he' => ?_⟩
  rcases Nat.lt_trichotomy i j with h1 | h1 | h1
  · exact absurd he' ((each j o' hj).2.2 i o h1 hi d he)
  · exact h1
  · exact absurd he ((each i o hi).2.2 j o' h1 hj d he')

theorem region_eachW {id : Nat} {w0 : World} (F : Nat → Value → World → Prop) (I : World → Prop) (hm : P.follows .mixedOrders = true) (hok : regionWB ops a0.tmps.size = true) (hI : I w0.drew) (hstep : StepW P ops F I a0)
    (hdone : ∀ (vs : Nat → Value) w, I w → (∀ j, j < ops.size → F j (vs j) w) → Q .normal (putAll ops.toList vs 0 a0) w) : (Code.region id ops true).wp P Q a0 w0 :=
  wp_region_any hm (wpAny_invW (regionW hok).1 (regionW hok).2.1 (regionW hok).2.2 hstep (winv_done (regionW hok).2.1 (regionW hok).2.2 hdone) _ _ _ _ (unlisted_le _ _) (winv_start hI))

theorem wp_of_value {o : Oper} {a : Act} {w w' : World} {v : Value} {K : Act → World → Prop} (hrun : (execOp a.eval o).run P w = .ok (.value v) w') (h : K (a.put o.dst v) w') : o.wp P a w K Q := by
  unfold Oper.wp; rw [hrun]; exact h
theorem wp_of_skip {o : Oper} {a : Act} {w w' : World} {K : Act → World → Prop} (hrun : (execOp a.eval o).run P w = .ok .skip w') (h : K (a.put o.dst undef) w') : o.wp P a w K Q := by
  unfold Oper.wp; rw [hrun]; exact h
theorem wp_of_enter {o : Oper} {a : Act} {w w' : World} {f : FuncId} {args : Array Value} {K : Act → World → Prop} {R : Value → World → Prop} (hrun : (execOp a.eval o).run P w = .ok (.enter f args) w') (hc : Calls P f args w' fun e w'' => ∃ v, e = .returned v ∧ R v w'') (h : ∀ v w'', R v w'' → K (a.put o.dst v) w'') : o.wp P a w K Q := by
  unfold Oper.wp; rw [hrun]
  exact hc.mono fun e w'' ⟨v, he, hr⟩ => by subst he; exact h v w'' hr

/-- One operation of a region whose operations read, or call what leaves old memory as it was: the values are told. -/
def StepB (P : Program) (ops : Array Oper) (val : Nat → Value) (a0 : Act) (w0 : World) : Prop :=
  ∀ (i : Nat) (o : Oper), ops[i]? = some o → ∀ (a : Act) (w : World), Below w0.heap.size w0 w → (∀ e ∈ o.after, Region.binds .any e = true → ∀ (o' : Oper) (d : Tmp), ops[e.on]? = some o' → o'.dst = some d → a.tmps.getD d undef = val e.on) → (∀ d : Tmp, Apart ops d → a.tmps.getD d undef = a0.tmps.getD d undef) →
    (∀ (j : Nat) (want : Bool), o.guard = some (j, want) → ∀ (o' : Oper) (d : Tmp), ops[j]? = some o' → o'.dst = some d → ∀ b, a.tmps.getD d undef = .bool b → Region.wanted o (yielded ops a.tmps) = (b == want)) →
    (Region.wanted o (yielded ops a.tmps) = true → (execOp a.eval o).run P w = .ok (.value (val i)) w ∨ ∃ f args, (execOp a.eval o).run P w = .ok (.enter f args) w ∧ Calls P f args w fun e w' => e = .returned (val i) ∧ Below w.heap.size w w') ∧ (Region.wanted o (yielded ops a.tmps) = false → val i = undef)
theorem StepB.toW {val : Nat → Value} {w0 : World} (h : StepB P ops val a0 w0) : StepW P ops (fun j v _ => v = val j) (fun W => Below w0.heap.size w0 W) a0 := by
  intro i o ho a w hI hdep hrest
  obtain ⟨h1, h2⟩ := h i o ho a w hI (fun e he hb o' d ho' hd => (hdep e he hb o' ho').1 d hd) hrest (fun j want hg o' d ho' hd b hb => wanted_is hg ho' hd hb)
  refine ⟨fun hw K Q hK => ?_, fun hw => (h2 hw).symm⟩
  rcases h1 hw with hrun | ⟨f, args, hrun, hc⟩
  · exact wp_of_value hrun (hK _ _ hI rfl fun _ _ h => h)
  · refine wp_of_enter (R := fun v w' => v = val i ∧ Below w.heap.size w w') hrun (hc.mono fun e w' ⟨he, hb⟩ => ⟨_, he, rfl, hb⟩) ?_
    rintro v w' ⟨rfl, hb⟩
    exact hK _ _ (hI.trans (hb.mono hI.size)) rfl fun _ _ h => h
/-- A region of reads and such calls. -/
theorem region_calls {id : Nat} {w0 : World} (val : Nat → Value) (hm : P.follows .mixedOrders = true) (hok : regionWB ops a0.tmps.size = true) (hstep : StepB P ops val a0 w0)
    (hdone : ∀ w, Below w0.heap.size w0 w → Q .normal (putAll ops.toList val 0 a0) w) : (Code.region id ops true).wp P Q a0 w0 := by
  refine region_eachW (fun j v _ => v = val j) (fun W => Below w0.heap.size w0 W) hm hok (Below.refl _ _).drew hstep.toW fun vs w hw hF => ?_
  rw [putAll_congr ops.toList vs val 0 a0 (fun j hj => by rw [Nat.zero_add]; exact hF j (by simpa using hj))]
  exact hdone w hw
end
end Go.Proofs.YtklanoppbbaolaaGreat
/- A region whose order is drawn: the facts of its operations may say what is done and what is not yet. No program is named here. -/
namespace Go.Proofs.YtklanoppbbaolaaGreat
open Go.RowKit
set_option linter.unusedSimpArgs false
set_option linter.unusedVariables false

section
variable {P : Program} {ops : Array Oper} {Q : Exit → Act → World → Prop} {F : (Nat → Prop) → Nat → Value → World → Prop} {I : (Nat → Prop) → World → Prop} {a0 : Act}

def Closed (ops : Array Oper) (done : Nat → Prop) : Prop := ∀ (j : Nat) (o : Oper), ops[j]? = some o → done j → ∀ e ∈ o.after, Region.binds .any e = true → done e.on
def more (done : Nat → Prop) (i : Nat) : Nat → Prop := fun j => j = i ∨ done j

structure XInv (ops : Array Oper) (F : (Nat → Prop) → Nat → Value → World → Prop) (I : (Nat → Prop) → World → Prop) (a0 : Act) (listed : Array Bool) (done : Nat → Prop) (a : Act) (w : World) : Prop where
  size : listed.size = ops.size
  listed : ∀ j, j < ops.size → (done j ↔ listed.getD j false = true)
  closed : Closed ops done
  defers : a.defers = a0.defers
  tmps : a.tmps.size = a0.tmps.size
  world : I done w
  did : ∀ (j : Nat) (o : Oper), ops[j]? = some o → done j → Did (F done) a w j o
  rest : ∀ d : Tmp, Apart ops d → a.tmps.getD d undef = a0.tmps.getD d undef

/-- What is asked of one operation. -/
def StepX (P : Program) (ops : Array Oper) (F : (Nat → Prop) → Nat → Value → World → Prop) (I : (Nat → Prop) → World → Prop) (a0 : Act) : Prop :=
  ∀ (i : Nat) (o : Oper), ops[i]? = some o → ∀ (done : Nat → Prop) (a : Act) (w : World), ¬ done i → Closed ops done → I done w → (∀ e ∈ o.after, Region.binds .any e = true → done e.on ∧ ∀ (o' : Oper), ops[e.on]? = some o' → Did (F done) a w e.on o') → (∀ d : Tmp, Apart ops d → a.tmps.getD d undef = a0.tmps.getD d undef) →
    (Region.wanted o (yielded ops a.tmps) = true → ∀ (K : Act → World → Prop) (Q : Exit → Act → World → Prop), (∀ v w', I (more done i) w' → F (more done i) i v w' → (∀ (j : Nat) (u : Value), done j → (∀ (o' : Oper) (d : Tmp), ops[j]? = some o' → o'.dst = some d → u = a.tmps.getD d undef) → F done j u w → F (more done i) j u w') → K (a.put o.dst v) w') → o.wp P a w K Q) ∧
    (Region.wanted o (yielded ops a.tmps) = false → I (more done i) w ∧ F (more done i) i undef w ∧ ∀ (j : Nat) (u : Value), done j → F done j u w → F (more done i) j u w)

theorem xinv_put {listed : Array Bool} {done : Nat → Prop} {a : Act} {w w' : World} {i : Nat} {o : Oper} {v : Value} (h : XInv ops F I a0 listed done a w) (ho : ops[i]? = some o) (hni : ¬ done i) (hdep : ∀ e ∈ o.after, Region.binds .any e = true → done e.on)
    (hds : ∀ d, o.dst = some d → d < a0.tmps.size) (hdj : ∀ (i j : Nat) (o o' : Oper) (d : Tmp), ops[i]? = some o → ops[j]? = some o' → o.dst = some d → o'.dst = some d → i = j)
    (hI : I (more done i) w') (hF : F (more done i) i v w') (hkeep : ∀ (j : Nat) (u : Value), done j → (∀ (o' : Oper) (d : Tmp), ops[j]? = some o' → o'.dst = some d → u = a.tmps.getD d undef) → F done j u w → F (more done i) j u w') : XInv ops F I a0 (listed.setIfInBounds i true) (more done i) (a.put o.dst v) w' := by
  have hlt : i < ops.size := (Array.getElem?_eq_some_iff.1 ho).1
  have hlist : ∀ j, j < ops.size → (more done i j ↔ (listed.setIfInBounds i true).getD j false = true) := fun j hj => by
    rw [listed_set _ _ _ (by rw [h.size]; exact hlt), ← h.listed j hj]
    exact ⟨fun e => e.imp (fun e => e.symm) id, fun e => e.imp (fun e => e.symm) id⟩
  have hcl : Closed ops (more done i) := fun j o' hj hd e he hb => by
    rcases hd with rfl | hd
    · rw [ho] at hj
      injection hj with hj
      subst hj
      exact .inr (hdep e he hb)
    · exact .inr (h.closed j o' hj hd e he hb)
  cases hd : o.dst with
  | none =>
    refine ⟨by simp [h.size], hlist, hcl, by rw [defers_put]; exact h.defers, by rw [size_put]; exact h.tmps, hI, fun j o' hj hl => ?_, fun d' hap => h.rest d' hap⟩
    rcases hl with rfl | hl
    · rw [ho] at hj
      injection hj with hj
      subst hj
      exact ⟨fun d hd' => (by rw [hd] at hd'; cases hd'), fun _ => ⟨v, hF⟩⟩
    · obtain ⟨h1, h2⟩ := h.did j o' hj hl
      exact ⟨fun d hd' => hkeep j _ hl (fun o'' d'' ho'' hd'' => by rw [hj] at ho''; injection ho'' with ho''; subst ho''; rw [hd'] at hd''; injection hd'' with hd''; subst hd''; rfl) (h1 d hd'), fun hn => (h2 hn).imp fun v hv => hkeep j v hl (fun o'' d'' ho'' hd'' => by rw [hj] at ho''; injection ho'' with ho''; subst ho''; rw [hn] at hd''; cases hd'') hv⟩
  | some d =>
    have hdl := hds d hd
    refine ⟨by simp [h.size], hlist, hcl, by rw [defers_put]; exact h.defers, by rw [size_put]; exact h.tmps, hI, fun j o' hj hl => ?_, fun d' hap => ?_⟩
    · rcases hl with rfl | hl
      · rw [ho] at hj
        injection hj with hj
        subst hj
        refine ⟨fun d' hd' => ?_, fun hn => ⟨v, hF⟩⟩
        rw [hd] at hd'
        injection hd' with hd'
        subst hd'
        rw [getD_put _ _ _ _ (by rw [h.tmps]; exact hdl), if_pos rfl]
        exact hF
      · have hij : i ≠ j := fun e => hni (e ▸ hl)
        obtain ⟨h1, h2⟩ := h.did j o' hj hl
        refine ⟨fun d' hd' => ?_, fun hn => (h2 hn).imp fun v hv => hkeep j v hl (fun o'' d'' ho'' hd'' => by rw [hj] at ho''; injection ho'' with ho''; subst ho''; rw [hn] at hd''; cases hd'') hv⟩
        rw [getD_put _ _ _ _ (by rw [h.tmps]; exact hdl), if_neg (fun e => hij (hdj i j o o' d ho hj hd (by rw [hd', e])))]
        exact hkeep j _ hl (fun o'' d'' ho'' hd'' => by rw [hj] at ho''; injection ho'' with ho''; subst ho''; rw [hd'] at hd''; injection hd'' with hd''; subst hd''; rfl) (h1 d' hd')
    · rw [getD_put _ _ _ _ (by rw [h.tmps]; exact hdl), if_neg (fun e => hap i o ho (by rw [hd, e]))]
      exact h.rest d' hap

theorem wpAny_invX (hac : ∀ (j : Nat) (o : Oper), ops[j]? = some o → ∀ e ∈ o.after, Region.binds .any e = true → e.on < j)
    (hds : ∀ (j : Nat) (o : Oper), ops[j]? = some o → ∀ d, o.dst = some d → d < a0.tmps.size) (hdj : ∀ (i j : Nat) (o o' : Oper) (d : Tmp), ops[i]? = some o → ops[j]? = some o' → o.dst = some d → o'.dst = some d → i = j)
    (hstep : StepX P ops F I a0) (hdone : ∀ (listed : Array Bool) (done : Nat → Prop) (a : Act) (w : World), XInv ops F I a0 listed done a w → (∀ j, j < ops.size → done j) → Q .normal a w) :
    ∀ (fuel : Nat) (listed : Array Bool) (done : Nat → Prop) (a : Act) (w : World), unlisted ops.size listed ≤ fuel → XInv ops F I a0 listed done a w → wpAny P .any ops Q fuel listed a w := by
  have fin : ∀ {listed : Array Bool} {done : Nat → Prop} {a : Act} {w : World}, XInv ops F I a0 listed done a w → (∀ j, j < ops.size → listed.getD j true = true) → Q .normal a w := fun {listed done a w} h hall => by
    refine hdone _ _ a w h fun j hj => (h.listed j hj).2 ?_
    rw [getD_ft _ _ (by rw [h.size]; exact hj)]
    exact hall j hj
  intro fuel
  induction fuel with
  | zero =>
    intro listed done a w hu h
    exact ⟨ready_none (all_of_unlisted hu), fin h (all_of_unlisted hu)⟩
  | succ fuel ih =>
    intro listed done a w hu h
    refine ⟨fun hr => fin h (ready_nilW h.size hac hr), fun i hi => ?_⟩
    rw [mem_ready] at hi
    obtain ⟨hli, o, ho, hdep⟩ := hi
    have hlt : i < ops.size := (Array.getElem?_eq_some_iff.1 ho).1
    have hni : ¬ done i := fun hd => by
      have := (h.listed i hlt).1 hd
      rw [getD_ft _ _ (by rw [h.size]; exact hlt), hli] at this
      cases this
    have hdd : ∀ e ∈ o.after, Region.binds .any e = true → done e.on := fun e he hb => (h.listed e.on (Nat.lt_trans (hac i o ho e he hb) hlt)).2 (hdep e he hb)
    have hs := hstep i o ho done a w hni h.closed h.world (fun e he hb => ⟨hdd e he hb, fun o' ho' => h.did e.on o' ho' (hdd e he hb)⟩) h.rest
    have hu' : unlisted ops.size (listed.setIfInBounds i true) ≤ fuel := by have := unlisted_set h.size hlt hli; omega
    unfold wpOp
    rw [ho]
    cases hw : Region.wanted o (yielded ops a.tmps) with
    | true =>
      simp only [hw, if_true]
      left
      exact hs.1 hw _ _ fun v w' hI hF hkeep => ih _ _ _ _ hu' (xinv_put h ho hni hdd (hds i o ho) hdj hI hF hkeep)
    | false =>
      simp only [hw, Bool.false_eq_true, if_false]
      obtain ⟨h1, h2, h3⟩ := hs.2 hw
      exact ih _ _ _ _ hu' (xinv_put h ho hni hdd (hds i o ho) hdj h1 h2 fun j u hd _ => h3 j u hd)

theorem xinv_done (hds : ∀ (j : Nat) (o : Oper), ops[j]? = some o → ∀ d, o.dst = some d → d < a0.tmps.size) (hdj : ∀ (i j : Nat) (o o' : Oper) (d : Tmp), ops[i]? = some o → ops[j]? = some o' → o.dst = some d → o'.dst = some d → i = j)
    (hdone : ∀ (done : Nat → Prop) (vs : Nat → Value) w, (∀ j, j < ops.size → done j) → I done w → (∀ j, j < ops.size → F done j (vs j) w) → Q .normal (putAll ops.toList vs 0 a0) w) (listed : Array Bool) (done : Nat → Prop) (a : Act) (w : World) (h : XInv ops F I a0 listed done a w) (hall : ∀ j, j < ops.size → done j) : Q .normal a w := by
  refine winv_done (F := F done) (I := I done) hds hdj (fun vs w hI hF => hdone done vs w hall hI hF) a w ⟨by simp, h.defers, h.tmps, h.world, fun j o hj _ => h.did j o hj (hall j (Array.getElem?_eq_some_iff.1 hj).1), h.rest⟩

theorem region_eachX {id : Nat} {w0 : World} (F : (Nat → Prop) → Nat → Value → World → Prop) (I : (Nat → Prop) → World → Prop) (hm : P.follows .mixedOrders = true) (hok : regionWB ops a0.tmps.size = true) (hI : I (fun _ => False) w0.drew) (hstep : StepX P ops F I a0)
    (hdone : ∀ (done : Nat → Prop) (vs : Nat → Value) w, (∀ j, j < ops.size → done j) → I done w → (∀ j, j < ops.size → F done j (vs j) w) → Q .normal (putAll ops.toList vs 0 a0) w) : (Code.region id ops true).wp P Q a0 w0 :=
  wp_region_any hm (wpAny_invX (regionW hok).1 (regionW hok).2.1 (regionW hok).2.2 hstep (xinv_done (regionW hok).2.1 (regionW hok).2.2 hdone) _ _ (fun _ => False) _ _ (unlisted_le _ _)
    ⟨by simp, fun j hj => ⟨fun h => h.elim, fun h => by simp [Array.getD, hj] at h⟩, fun _ _ _ h => h.elim, rfl, rfl, hI, fun _ _ _ h => h.elim, fun _ _ => rfl⟩)
end
end Go.Proofs.YtklanoppbbaolaaGreat
