/- A region whose order is drawn and whose operations each leave what the others made: one fact an operation, whatever the order. No program is named here. -/
import Derived.Orders
import Derived.Calls
import Derived.WalkKit
import Derived.KernelRfl
namespace Go.Proofs.YtklanoppbbaolaaGreat
open Go.RowKit
set_option linter.unusedVariables false

section
variable {P : Program} {ops : Array Oper} {Q : Exit → Act → World → Prop} {F : Nat → Value → World → Prop} {I : World → Prop} {a0 : Act}

/-- No operation writes slot d. -/
def Apart (ops : Array Oper) (d : Tmp) : Prop := ∀ (j : Nat) (o : Oper), ops[j]? = some o → o.dst ≠ some d

/-- After the operations that are listed. -/
structure RInv (ops : Array Oper) (F : Nat → Value → World → Prop) (I : World → Prop) (a0 : Act) (listed : Array Bool) (a : Act) (w : World) : Prop where
  size : listed.size = ops.size
  defers : a.defers = a0.defers
  tmps : a.tmps.size = a0.tmps.size
  world : I w
  did : ∀ (j : Nat) (o : Oper) (d : Tmp), ops[j]? = some o → o.dst = some d → listed.getD j false = true → F j (a.tmps.getD d undef) w
  rest : ∀ d : Tmp, Apart ops d → a.tmps.getD d undef = a0.tmps.getD d undef

theorem getD_put (a : Act) (d e : Tmp) (v : Value) (h : d < a.tmps.size) : (a.put (some d) v).tmps.getD e undef = if d = e then v else a.tmps.getD e undef := by
  unfold Act.put
  simp only [Array.getD_eq_getD_getElem?, Array.getElem?_setIfInBounds]
  by_cases hde : d = e
  · subst hde
    simp [h]
  · simp [hde]
theorem size_put (a : Act) (d : Option Tmp) (v : Value) : (a.put d v).tmps.size = a.tmps.size := by
  unfold Act.put
  cases d <;> simp
theorem defers_put (a : Act) (d : Option Tmp) (v : Value) : (a.put d v).defers = a.defers := by
  unfold Act.put
  cases d <;> rfl
theorem listed_set (listed : Array Bool) (i j : Nat) (h : i < listed.size) : (listed.setIfInBounds i true).getD j false = true ↔ i = j ∨ listed.getD j false = true := by
  simp only [Array.getD_eq_getD_getElem?, Array.getElem?_setIfInBounds]
  by_cases hij : i = j
  · subst hij
    simp [h]
  · simp [hij]
theorem listed_set' (listed : Array Bool) (i j : Nat) (h : i < listed.size) : (listed.setIfInBounds i true).getD j true = true ↔ i = j ∨ listed.getD j true = true := by
  simp only [Array.getD_eq_getD_getElem?, Array.getElem?_setIfInBounds]
  by_cases hij : i = j
  · subst hij
    simp [h]
  · simp [hij]
theorem getD_ft (listed : Array Bool) (j : Nat) (h : j < listed.size) : listed.getD j false = listed.getD j true := by simp [Array.getD, h]

def unlisted (n : Nat) (listed : Array Bool) : Nat := ((List.range n).filter fun i => !listed.getD i true).length
theorem unlisted_set {n i : Nat} {listed : Array Bool} (hn : listed.size = n) (hi : i < n) (h : listed.getD i true = false) : unlisted n (listed.setIfInBounds i true) < unlisted n listed := by
  have e : ((List.range n).filter fun k => !(listed.setIfInBounds i true).getD k true) = (((List.range n).filter fun k => !listed.getD k true).filter fun k => decide (k ≠ i)) := by
    rw [List.filter_filter]
    refine List.filter_congr fun k hk => ?_
    have := listed_set' listed i k (by omega)
    cases h1 : (listed.setIfInBounds i true).getD k true <;> cases h2 : listed.getD k true <;> by_cases h3 : k = i <;> simp_all
  unfold unlisted
  rw [e]
  refine List.length_filter_lt_length_iff_exists.2 ⟨i, ?_, by simp⟩
  rw [List.mem_filter, List.mem_range]
  exact ⟨hi, by simp [h]⟩
theorem ready_nil {listed : Array Bool} (hs : listed.size = ops.size) (hac : ∀ (j : Nat) (o : Oper), ops[j]? = some o → ∀ e ∈ o.after, e.on < j) (h : Region.ready .any ops listed = []) : ∀ j, j < ops.size → listed.getD j true = true := by
  intro j
  induction j using Nat.strongRecOn with
  | ind j ih =>
    intro hj
    by_cases hl : listed.getD j true = true
    · exact hl
    · exfalso
      have hm : j ∈ Region.ready .any ops listed := by
        rw [mem_ready]
        refine ⟨by simpa using hl, ops[j], Array.getElem?_eq_getElem hj, fun e he _ => ?_⟩
        have hlt := hac j _ (Array.getElem?_eq_getElem hj) e he
        rw [getD_ft _ _ (by omega)]
        exact ih e.on hlt (by omega)
      rw [h] at hm
      simp at hm

theorem wpAny_inv (hac : ∀ (j : Nat) (o : Oper), ops[j]? = some o → ∀ e ∈ o.after, e.on < j) (hgd : ∀ (j : Nat) (o : Oper), ops[j]? = some o → o.guard = none)
    (hds : ∀ (j : Nat) (o : Oper), ops[j]? = some o → ∃ d, o.dst = some d ∧ d < a0.tmps.size) (hdj : ∀ (i j : Nat) (o o' : Oper), ops[i]? = some o → ops[j]? = some o' → o.dst = o'.dst → i = j)
    (hstep : ∀ (i : Nat) (o : Oper), ops[i]? = some o → ∀ (a : Act) (w : World), I w → (∀ e ∈ o.after, Region.binds .any e = true → ∀ (o' : Oper) (d : Tmp), ops[e.on]? = some o' → o'.dst = some d → F e.on (a.tmps.getD d undef) w) → (∀ d : Tmp, Apart ops d → a.tmps.getD d undef = a0.tmps.getD d undef) →
      ∃ v w', (execOp a.eval o).run P w = .ok (.value v) w' ∧ I w' ∧ F i v w' ∧ ∀ (j : Nat) (u : Value), F j u w → F j u w')
    (hdone : ∀ (a : Act) (w : World), RInv ops F I a0 (Array.replicate ops.size true) a w → Q .normal a w) :
    ∀ (fuel : Nat) (listed : Array Bool) (a : Act) (w : World), unlisted ops.size listed ≤ fuel → RInv ops F I a0 listed a w → wpAny P .any ops Q fuel listed a w := by
  have fin : ∀ (listed : Array Bool) (a : Act) (w : World), RInv ops F I a0 listed a w → (∀ j, j < ops.size → listed.getD j true = true) → Q .normal a w := by
    intro listed a w h hall
    refine hdone a w ⟨by simp, h.defers, h.tmps, h.world, fun j o d hj hd _ => h.did j o d hj hd ?_, h.rest⟩
    have hlt : j < ops.size := (Array.getElem?_eq_some_iff.1 hj).1
    rw [getD_ft _ _ (by rw [h.size]; exact hlt)]
    exact hall j hlt
  intro fuel
  induction fuel with
  | zero =>
    intro listed a w hu h
    have hall : ∀ j, j < ops.size → listed.getD j true = true := by
      intro j hj
      by_cases hl : listed.getD j true = true
      · exact hl
      · exfalso
        have h0 : ((List.range ops.size).filter fun i => !listed.getD i true) = [] := List.eq_nil_of_length_eq_zero (by unfold unlisted at hu; omega)
        have : j ∈ ((List.range ops.size).filter fun i => !listed.getD i true) := by
          rw [List.mem_filter, List.mem_range]
          exact ⟨hj, by simpa using hl⟩
        rw [h0] at this
        simp at this
    refine ⟨?_, fin listed a w h hall⟩
    refine List.eq_nil_iff_forall_not_mem.2 fun j hj => ?_
    rw [mem_ready] at hj
    obtain ⟨h1, o, ho, _⟩ := hj
    rw [hall j (Array.getElem?_eq_some_iff.1 ho).1] at h1
    simp at h1
  | succ fuel ih =>
    intro listed a w hu h
    refine ⟨fun hr => fin listed a w h (ready_nil h.size hac hr), fun i hi => ?_⟩
    rw [mem_ready] at hi
    obtain ⟨hli, o, ho, hdep⟩ := hi
    have hlt : i < ops.size := (Array.getElem?_eq_some_iff.1 ho).1
    unfold wpOp
    rw [ho]
    have hw : Region.wanted o (yielded ops a.tmps) = true := by simp [Region.wanted, hgd i o ho]
    simp only [hw, if_true]
    left
    obtain ⟨v, w', hrun, hI, hF, hkeep⟩ := hstep i o ho a w h.world (fun e he hb o' d ho' hd => h.did e.on o' d ho' hd (hdep e he hb)) h.rest
    unfold Oper.wp
    rw [hrun]
    obtain ⟨d, hd, hdl⟩ := hds i o ho
    show wpAny P .any ops Q fuel (listed.setIfInBounds i true) (a.put o.dst v) w'
    refine ih _ _ _ (by have := unlisted_set h.size hlt hli; omega) ⟨by simp [h.size], ?_, ?_, hI, ?_, ?_⟩
    · rw [defers_put]; exact h.defers
    · rw [size_put]; exact h.tmps
    · intro j o' d' hj hd' hl
      rw [hd, getD_put _ _ _ _ (by rw [h.tmps]; exact hdl)]
      rw [listed_set _ _ _ (by rw [h.size]; exact hlt)] at hl
      by_cases hij : i = j
      · subst hij
        rw [ho] at hj
        injection hj with hj
        subst hj
        rw [hd] at hd'
        injection hd' with hd'
        subst hd'
        rw [if_pos rfl]
        exact hF
      · rw [if_neg (fun e => hij (hdj i j o o' ho hj (by rw [hd, hd', e])))]
        exact hkeep j _ (h.did j o' d' hj hd' (hl.resolve_left hij))
    · intro d' hap
      rw [hd, getD_put _ _ _ _ (by rw [h.tmps]; exact hdl), if_neg (fun e => hap i o ho (by rw [hd, e]))]
      exact h.rest d' hap

/-- The frame with these values in the operations' slots. -/
def putAll (ops : List Oper) (vs : Nat → Value) (k : Nat) (a : Act) : Act :=
  match ops with
  | [] => a
  | o :: rest => putAll rest vs (k + 1) (a.put o.dst (vs k))
theorem putAll_defers (ops : List Oper) (vs : Nat → Value) : ∀ (k : Nat) (a : Act), (putAll ops vs k a).defers = a.defers := by
  induction ops with
  | nil => intro k a; rfl
  | cons o rest ih => intro k a; rw [putAll, ih, defers_put]
theorem putAll_size (ops : List Oper) (vs : Nat → Value) : ∀ (k : Nat) (a : Act), (putAll ops vs k a).tmps.size = a.tmps.size := by
  induction ops with
  | nil => intro k a; rfl
  | cons o rest ih => intro k a; rw [putAll, ih, size_put]
theorem putAll_other (ops : List Oper) (vs : Nat → Value) (d : Tmp) : ∀ (k : Nat) (a : Act), (∀ o ∈ ops, ∃ e, o.dst = some e ∧ e < a.tmps.size) → (∀ o ∈ ops, o.dst ≠ some d) → (putAll ops vs k a).tmps.getD d undef = a.tmps.getD d undef := by
  induction ops with
  | nil => intro k a _ _; rfl
  | cons o rest ih =>
    intro k a hb h
    obtain ⟨e, he, hlt⟩ := hb o (by simp)
    rw [putAll, ih _ _ (fun o' ho' => by rw [size_put]; exact hb o' (by simp [ho'])) (fun o' ho' => h o' (by simp [ho'])), he, getD_put _ _ _ _ hlt, if_neg (fun e' => h o (by simp) (by rw [he, e']))]
theorem putAll_at (ops : List Oper) (vs : Nat → Value) (d : Tmp) : ∀ (k j : Nat) (a : Act) (o : Oper), (∀ o ∈ ops, ∃ e, o.dst = some e ∧ e < a.tmps.size) → (∀ (i j : Nat) (o o' : Oper), ops[i]? = some o → ops[j]? = some o' → o.dst = o'.dst → i = j) → ops[j]? = some o → o.dst = some d → (putAll ops vs k a).tmps.getD d undef = vs (k + j) := by
  induction ops with
  | nil => intro k j a o _ _ h; simp at h
  | cons x rest ih =>
    intro k j a o hb hdj hj hd
    cases j with
    | zero =>
      simp at hj
      subst hj
      obtain ⟨e, he, hlt⟩ := hb x (by simp)
      rw [putAll, putAll_other _ _ _ _ _ (fun o' ho' => by rw [size_put]; exact hb o' (by simp [ho'])), hd, getD_put _ _ _ _ (by rw [he] at hd; injection hd with hd; subst hd; exact hlt), if_pos rfl]
      · simp
      · intro o' ho' hd'
        obtain ⟨n, hn⟩ := List.mem_iff_getElem?.1 ho'
        have := hdj 0 (n + 1) x o' (by simp) (by simpa using hn) (by rw [hd, hd'])
        omega
    | succ j =>
      rw [putAll, ih (k + 1) j _ o (fun o' ho' => by rw [size_put]; exact hb o' (by simp [ho'])) (fun i j o o' hi hj h => by
        have := hdj (i + 1) (j + 1) o o' (by simpa using hi) (by simpa using hj) h
        omega) (by simpa using hj) hd]
      congr 1
      omega
theorem act_ext {a b : Act} (h1 : a.defers = b.defers) (h2 : a.tmps.size = b.tmps.size) (h : ∀ d, a.tmps.getD d undef = b.tmps.getD d undef) : a = b := by
  obtain ⟨t, ds⟩ := a
  obtain ⟨t', ds'⟩ := b
  simp only at h1 h2 h
  subst h1
  congr 1
  refine Array.ext h2 fun i hi hi' => ?_
  have := h i
  simpa [Array.getD, hi, hi'] using this

/-- One fact an operation, whatever the order. -/
theorem region_each {id : Nat} {w0 : World} (F : Nat → Value → World → Prop) (I : World → Prop) (hm : P.follows .mixedOrders = true)
    (hac : ∀ (j : Nat) (o : Oper), ops[j]? = some o → ∀ e ∈ o.after, e.on < j) (hgd : ∀ (j : Nat) (o : Oper), ops[j]? = some o → o.guard = none)
    (hds : ∀ (j : Nat) (o : Oper), ops[j]? = some o → ∃ d, o.dst = some d ∧ d < a0.tmps.size) (hdj : ∀ (i j : Nat) (o o' : Oper), ops[i]? = some o → ops[j]? = some o' → o.dst = o'.dst → i = j)
    (hI : I w0.drew)
    (hstep : ∀ (i : Nat) (o : Oper), ops[i]? = some o → ∀ (a : Act) (w : World), I w → (∀ e ∈ o.after, Region.binds .any e = true → ∀ (o' : Oper) (d : Tmp), ops[e.on]? = some o' → o'.dst = some d → F e.on (a.tmps.getD d undef) w) → (∀ d : Tmp, Apart ops d → a.tmps.getD d undef = a0.tmps.getD d undef) →
      ∃ v w', (execOp a.eval o).run P w = .ok (.value v) w' ∧ I w' ∧ F i v w' ∧ ∀ (j : Nat) (u : Value), F j u w → F j u w')
    (hdone : ∀ (vs : Nat → Value) w, I w → (∀ j, j < ops.size → F j (vs j) w) → Q .normal (putAll ops.toList vs 0 a0) w) :
    (Code.region id ops true).wp P Q a0 w0 := by
  refine wp_region_any hm (wpAny_inv hac hgd hds hdj hstep ?_ _ _ _ _ ?_ ⟨by simp, rfl, rfl, hI, ?_, fun _ _ => rfl⟩)
  · intro a w h
    have hb : ∀ o ∈ ops.toList, ∃ e, o.dst = some e ∧ e < a0.tmps.size := fun o ho => by
      obtain ⟨n, hn⟩ := List.mem_iff_getElem?.1 ho
      exact hds n o (by simpa using hn)
    have hdj' : ∀ (i j : Nat) (o o' : Oper), ops.toList[i]? = some o → ops.toList[j]? = some o' → o.dst = o'.dst → i = j := fun i j o o' hi hj he => hdj i j o o' (by simpa using hi) (by simpa using hj) he
    have hd : ∀ (j : Nat) (o : Oper) (d : Tmp), ops[j]? = some o → o.dst = some d → F j (a.tmps.getD d undef) w := fun j o d hj hd => h.did j o d hj hd (by
      have hlt : j < ops.size := (Array.getElem?_eq_some_iff.1 hj).1
      simp [Array.getD, hlt])
    have e : a = putAll ops.toList (fun j => a.tmps.getD (((ops[j]?).bind (·.dst)).getD 0) undef) 0 a0 := by
      refine act_ext (by rw [putAll_defers]; exact h.defers) (by rw [putAll_size]; exact h.tmps) fun d => ?_
      by_cases hap : Apart ops d
      · rw [putAll_other _ _ _ _ _ hb (fun o ho hd => by
          obtain ⟨n, hn⟩ := List.mem_iff_getElem?.1 ho
          exact hap n o (by simpa using hn) hd)]
        exact h.rest d hap
      · unfold Apart at hap
        simp only [Classical.not_forall, Classical.not_not] at hap
        obtain ⟨j, o, hj, hod⟩ := hap
        rw [putAll_at _ _ d 0 j a0 o hb hdj' (by simpa using hj) hod]
        simp [hj, hod]
    rw [e]
    refine hdone _ w h.world fun j hj => ?_
    obtain ⟨d, hod, _⟩ := hds j ops[j] (Array.getElem?_eq_getElem hj)
    have := hd j ops[j] d (Array.getElem?_eq_getElem hj) hod
    simpa [Array.getElem?_eq_getElem hj, hod] using this
  · unfold unlisted
    refine Nat.le_trans (List.length_filter_le _ _) (by simp)
  · intro j o d hj _ hl
    have hlt : j < ops.size := (Array.getElem?_eq_some_iff.1 hj).1
    simp [Array.getD, hlt] at hl

/-- What region_each asks of the operations, as one test. -/
def regionOkB (ops : Array Oper) (n : Nat) : Bool :=
  (List.range ops.size).all fun j => match ops[j]? with
    | none => true
    | some o => (o.after.all fun e => decide (e.on < j)) && o.guard.isNone && (match o.dst with | some d => decide (d < n) | none => false) &&
      (List.range j).all fun i => match ops[i]? with
        | none => true
        | some o' => decide (o'.dst ≠ o.dst)
theorem regionOk {n : Nat} (h : regionOkB ops n = true) : (∀ (j : Nat) (o : Oper), ops[j]? = some o → ∀ e ∈ o.after, e.on < j) ∧ (∀ (j : Nat) (o : Oper), ops[j]? = some o → o.guard = none) ∧
    (∀ (j : Nat) (o : Oper), ops[j]? = some o → ∃ d, o.dst = some d ∧ d < n) ∧ (∀ (i j : Nat) (o o' : Oper), ops[i]? = some o → ops[j]? = some o' → o.dst = o'.dst → i = j) := by
  unfold regionOkB at h
  rw [List.all_eq_true] at h
  have each : ∀ (j : Nat) (o : Oper), ops[j]? = some o → (∀ e ∈ o.after, e.on < j) ∧ o.guard = none ∧ (∃ d, o.dst = some d ∧ d < n) ∧ ∀ (i : Nat) (o' : Oper), i < j → ops[i]? = some o' → o'.dst ≠ o.dst := by
    intro j o ho
    have hlt : j < ops.size := (Array.getElem?_eq_some_iff.1 ho).1
    have hj := h j (List.mem_range.2 hlt)
    rw [ho] at hj
    simp only [Bool.and_eq_true] at hj
    obtain ⟨⟨⟨h1, h2⟩, h3⟩, h4⟩ := hj
    refine ⟨?_, by simpa using h2, ?_, ?_⟩
    · rw [Array.all_eq_true_iff_forall_mem] at h1
      intro e he
      simpa using h1 e he
    · cases hd : o.dst with
      | none => rw [hd] at h3; simp at h3
      | some d => rw [hd] at h3; exact ⟨d, rfl, by simpa using h3⟩
    · intro i o' hi ho'
      rw [List.all_eq_true] at h4
      have := h4 i (List.mem_range.2 hi)
      rw [ho'] at this
      simpa using this
  refine ⟨fun j o ho => (each j o ho).1, fun j o ho => (each j o ho).2.1, fun j o ho => (each j o ho).2.2.1, fun i j o o' hi hj he => ?_⟩
  rcases Nat.lt_trichotomy i j with h1 | h1 | h1
  · exact absurd he ((each j o' hj).2.2.2 i o h1 hi)
  · exact h1
  · exact absurd he.symm ((each i o hi).2.2.2 j o' h1 hj)
theorem region_each' {id : Nat} {w0 : World} (F : Nat → Value → World → Prop) (I : World → Prop) (hm : P.follows .mixedOrders = true) (hok : regionOkB ops a0.tmps.size = true)
    (hI : I w0.drew)
    (hstep : ∀ (i : Nat) (o : Oper), ops[i]? = some o → ∀ (a : Act) (w : World), I w → (∀ e ∈ o.after, Region.binds .any e = true → ∀ (o' : Oper) (d : Tmp), ops[e.on]? = some o' → o'.dst = some d → F e.on (a.tmps.getD d undef) w) → (∀ d : Tmp, Apart ops d → a.tmps.getD d undef = a0.tmps.getD d undef) →
      ∃ v w', (execOp a.eval o).run P w = .ok (.value v) w' ∧ I w' ∧ F i v w' ∧ ∀ (j : Nat) (u : Value), F j u w → F j u w')
    (hdone : ∀ (vs : Nat → Value) w, I w → (∀ j, j < ops.size → F j (vs j) w) → Q .normal (putAll ops.toList vs 0 a0) w) :
    (Code.region id ops true).wp P Q a0 w0 :=
  region_each F I hm (regionOk hok).1 (regionOk hok).2.1 (regionOk hok).2.2.1 (regionOk hok).2.2.2 hI hstep hdone
def apartB (ops : Array Oper) (d : Tmp) : Bool := ops.all fun o => decide (o.dst ≠ some d)
theorem apart_of {d : Tmp} (h : apartB ops d = true) : Apart ops d := by
  intro j o ho
  unfold apartB at h
  rw [Array.all_eq_true_iff_forall_mem] at h
  have := h o (Array.mem_of_getElem? ho)
  simpa using this
end
end Go.Proofs.YtklanoppbbaolaaGreat
