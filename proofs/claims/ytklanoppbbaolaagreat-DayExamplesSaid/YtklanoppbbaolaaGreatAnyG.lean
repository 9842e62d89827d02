/- A region whose order is drawn, some of its operations guarded: one fact an operation, whatever the order; plain and inside a round of a range over a function. No program is named here. -/
import Derived.Test.YtklanoppbbaolaaGreatAnyO
import Derived.OrdersIn
import Derived.OwnWalkIn
namespace Go.Proofs.YtklanoppbbaolaaGreat
open Go.RowKit
set_option linter.unusedVariables false

section
variable {P : Program} {ops : Array Oper} {Q : Exit → Act → World → Prop} {F : Nat → Value → World → Prop} {I : World → Prop} {a0 : Act}

/-- What is asked of one operation. -/
def StepG (P : Program) (ops : Array Oper) (F : Nat → Value → World → Prop) (I : World → Prop) (a0 : Act) : Prop :=
  ∀ (i : Nat) (o : Oper), ops[i]? = some o → ∀ (a : Act) (w : World), I w → (∀ e ∈ o.after, Region.binds .any e = true → ∀ (o' : Oper) (d : Tmp), ops[e.on]? = some o' → o'.dst = some d → F e.on (a.tmps.getD d undef) w) → (∀ d : Tmp, Apart ops d → a.tmps.getD d undef = a0.tmps.getD d undef) →
    (Region.wanted o (yielded ops a.tmps) = true → ∃ v w', (execOp a.eval o).run P w = .ok (.value v) w' ∧ I w' ∧ F i v w' ∧ ∀ (j : Nat) (u : Value), F j u w → F j u w') ∧
    (Region.wanted o (yielded ops a.tmps) = false → F i undef w)

theorem rinv_put {listed : Array Bool} {a : Act} {w w' : World} {i : Nat} {o : Oper} {v : Value} (h : RInv ops F I a0 listed a w) (ho : ops[i]? = some o) (hds : ∃ d, o.dst = some d ∧ d < a0.tmps.size)
    (hdj : ∀ (i j : Nat) (o o' : Oper), ops[i]? = some o → ops[j]? = some o' → o.dst = o'.dst → i = j) (hI : I w') (hF : F i v w') (hkeep : ∀ (j : Nat) (u : Value), F j u w → F j u w') : RInv ops F I a0 (listed.setIfInBounds i true) (a.put o.dst v) w' := by
  have hlt : i < ops.size := (Array.getElem?_eq_some_iff.1 ho).1
  obtain ⟨d, hd, hdl⟩ := hds
  refine ⟨by simp [h.size], ?_, ?_, hI, ?_, ?_⟩
  · rw [defers_put]; exact h.defers
  · rw [size_put]; exact h.tmps
  · intro j o' d' hj hd' hl
    rw [hd, getD_put _ _ _ _ (by rw [h.tmps]; exact hdl)]
    rw [listed_set _ _ _ (by rw [h.size]; exact hlt)] at hl
    by_cases hij : i = j
    · subst hij
      rw [ho] at hj
      injection hj with hj
      subst hj
      rw [hd] at hd'
      injection hd' with hd'
      subst hd'
      rw [if_pos rfl]
      exact hF
    · rw [if_neg (fun e => hij (hdj i j o o' ho hj (by rw [hd, hd', e])))]
      exact hkeep j _ (h.did j o' d' hj hd' (hl.resolve_left hij))
  · intro d' hap
    rw [hd, getD_put _ _ _ _ (by rw [h.tmps]; exact hdl), if_neg (fun e => hap i o ho (by rw [hd, e]))]
    exact h.rest d' hap

theorem rinv_fin (hdone : ∀ (a : Act) (w : World), RInv ops F I a0 (Array.replicate ops.size true) a w → Q .normal a w) {listed : Array Bool} {a : Act} {w : World} (h : RInv ops F I a0 listed a w) (hall : ∀ j, j < ops.size → listed.getD j true = true) : Q .normal a w := by
  refine hdone a w ⟨by simp, h.defers, h.tmps, h.world, fun j o d hj hd _ => h.did j o d hj hd ?_, h.rest⟩
  have hlt : j < ops.size := (Array.getElem?_eq_some_iff.1 hj).1
  rw [getD_ft _ _ (by rw [h.size]; exact hlt)]
  exact hall j hlt
theorem all_of_unlisted {listed : Array Bool} (hu : unlisted ops.size listed ≤ 0) : ∀ j, j < ops.size → listed.getD j true = true := by
  intro j hj
  by_cases hl : listed.getD j true = true
  · exact hl
  · exfalso
    have h0 : ((List.range ops.size).filter fun i => !listed.getD i true) = [] := List.eq_nil_of_length_eq_zero (by unfold unlisted at hu; omega)
    have : j ∈ ((List.range ops.size).filter fun i => !listed.getD i true) := by
      rw [List.mem_filter, List.mem_range]
      exact ⟨hj, by simpa using hl⟩
    rw [h0] at this
    simp at this
theorem ready_none {listed : Array Bool} (hall : ∀ j, j < ops.size → listed.getD j true = true) : Region.ready .any ops listed = [] := by
  refine List.eq_nil_iff_forall_not_mem.2 fun j hj => ?_
  rw [mem_ready] at hj
  obtain ⟨h1, o, ho, _⟩ := hj
  rw [hall j (Array.getElem?_eq_some_iff.1 ho).1] at h1
  simp at h1

theorem wpAny_invG (hac : ∀ (j : Nat) (o : Oper), ops[j]? = some o → ∀ e ∈ o.after, e.on < j)
    (hds : ∀ (j : Nat) (o : Oper), ops[j]? = some o → ∃ d, o.dst = some d ∧ d < a0.tmps.size) (hdj : ∀ (i j : Nat) (o o' : Oper), ops[i]? = some o → ops[j]? = some o' → o.dst = o'.dst → i = j)
    (hstep : StepG P ops F I a0) (hdone : ∀ (a : Act) (w : World), RInv ops F I a0 (Array.replicate ops.size true) a w → Q .normal a w) :
    ∀ (fuel : Nat) (listed : Array Bool) (a : Act) (w : World), unlisted ops.size listed ≤ fuel → RInv ops F I a0 listed a w → wpAny P .any ops Q fuel listed a w := by
  intro fuel
  induction fuel with
  | zero =>
    intro listed a w hu h
    exact ⟨ready_none (all_of_unlisted hu), rinv_fin hdone h (all_of_unlisted hu)⟩
  | succ fuel ih =>
    intro listed a w hu h
    refine ⟨fun hr => rinv_fin hdone h (ready_nil h.size hac hr), fun i hi => ?_⟩
    rw [mem_ready] at hi
    obtain ⟨hli, o, ho, hdep⟩ := hi
    have hlt : i < ops.size := (Array.getElem?_eq_some_iff.1 ho).1
    have hs := hstep i o ho a w h.world (fun e he hb o' d ho' hd => h.did e.on o' d ho' hd (hdep e he hb)) h.rest
    have hu' : unlisted ops.size (listed.setIfInBounds i true) ≤ fuel := by have := unlisted_set h.size hlt hli; omega
    unfold wpOp
    rw [ho]
    cases hw : Region.wanted o (yielded ops a.tmps) with
    | true =>
      obtain ⟨v, w', hrun, hI, hF, hkeep⟩ := hs.1 hw
      simp only [hw, if_true]
      left
      unfold Oper.wp
      rw [hrun]
      show wpAny P .any ops Q fuel (listed.setIfInBounds i true) (a.put o.dst v) w'
      exact ih _ _ _ hu' (rinv_put h ho (hds i o ho) hdj hI hF hkeep)
    | false =>
      simp only [hw, Bool.false_eq_true, if_false]
      exact ih _ _ _ hu' (rinv_put h ho (hds i o ho) hdj h.world (hs.2 hw) fun _ _ h => h)

theorem wpAnyIn_invG {l n : Nat} (hac : ∀ (j : Nat) (o : Oper), ops[j]? = some o → ∀ e ∈ o.after, e.on < j) (hnd : ∀ (j : Nat) (o : Oper), ops[j]? = some o → ∀ c, o.op ≠ .defer c)
    (hds : ∀ (j : Nat) (o : Oper), ops[j]? = some o → ∃ d, o.dst = some d ∧ d < a0.tmps.size) (hdj : ∀ (i j : Nat) (o o' : Oper), ops[i]? = some o → ops[j]? = some o' → o.dst = o'.dst → i = j)
    (hstep : StepG P ops F I a0) (hdone : ∀ (a : Act) (w : World), RInv ops F I a0 (Array.replicate ops.size true) a w → Q .normal a w) :
    ∀ (fuel : Nat) (listed : Array Bool) (a : Act) (w : World), unlisted ops.size listed ≤ fuel → RInv ops F I a0 listed a w → wpAnyIn (Fence.wide.inRound l) n P .any ops Q fuel listed a w := by
  intro fuel
  induction fuel with
  | zero =>
    intro listed a w hu h
    exact ⟨ready_none (all_of_unlisted hu), rinv_fin hdone h (all_of_unlisted hu)⟩
  | succ fuel ih =>
    intro listed a w hu h
    refine ⟨fun hr => rinv_fin hdone h (ready_nil h.size hac hr), fun i hi => ?_⟩
    rw [mem_ready] at hi
    obtain ⟨hli, o, ho, hdep⟩ := hi
    have hlt : i < ops.size := (Array.getElem?_eq_some_iff.1 ho).1
    have hs := hstep i o ho a w h.world (fun e he hb o' d ho' hd => h.did e.on o' d ho' hd (hdep e he hb)) h.rest
    have hu' : unlisted ops.size (listed.setIfInBounds i true) ≤ fuel := by have := unlisted_set h.size hlt hli; omega
    unfold wpOpIn
    rw [ho]
    cases hw : Region.wanted o (yielded ops a.tmps) with
    | true =>
      obtain ⟨v, w', hrun, hI, hF, hkeep⟩ := hs.1 hw
      simp only [hw, if_true]
      unfold Oper.wpIn
      refine ⟨fun _ _ => trivial, ?_⟩
      rw [Oper.semAt_plain _ _ _ (hnd i o ho), hrun]
      show wpAnyIn (Fence.wide.inRound l) n P .any ops Q fuel (listed.setIfInBounds i true) (a.put o.dst v) w'
      exact ih _ _ _ hu' (rinv_put h ho (hds i o ho) hdj hI hF hkeep)
    | false =>
      simp only [hw, Bool.false_eq_true, if_false]
      refine ⟨fun _ _ => trivial, ?_⟩
      exact ih _ _ _ hu' (rinv_put h ho (hds i o ho) hdj h.world (hs.2 hw) fun _ _ h => h)

theorem rinv_done (hds : ∀ (j : Nat) (o : Oper), ops[j]? = some o → ∃ d, o.dst = some d ∧ d < a0.tmps.size) (hdj : ∀ (i j : Nat) (o o' : Oper), ops[i]? = some o → ops[j]? = some o' → o.dst = o'.dst → i = j)
    (hdone : ∀ (vs : Nat → Value) w, I w → (∀ j, j < ops.size → F j (vs j) w) → Q .normal (putAll ops.toList vs 0 a0) w) (a : Act) (w : World) (h : RInv ops F I a0 (Array.replicate ops.size true) a w) : Q .normal a w := by
  have hb : ∀ o ∈ ops.toList, ∃ e, o.dst = some e ∧ e < a0.tmps.size := fun o ho => by
    obtain ⟨n, hn⟩ := List.mem_iff_getElem?.1 ho
    exact hds n o (by simpa using hn)
  have hdj' : ∀ (i j : Nat) (o o' : Oper), ops.toList[i]? = some o → ops.toList[j]? = some o' → o.dst = o'.dst → i = j := fun i j o o' hi hj he => hdj i j o o' (by simpa using hi) (by simpa using hj) he
  have hd : ∀ (j : Nat) (o : Oper) (d : Tmp), ops[j]? = some o → o.dst = some d → F j (a.tmps.getD d undef) w := fun j o d hj hd => h.did j o d hj hd (by
    have hlt : j < ops.size := (Array.getElem?_eq_some_iff.1 hj).1
    simp [Array.getD, hlt])
  have e : a = putAll ops.toList (fun j => a.tmps.getD (((ops[j]?).bind (·.dst)).getD 0) undef) 0 a0 := by
    refine act_ext (by rw [putAll_defers]; exact h.defers) (by rw [putAll_size]; exact h.tmps) fun d => ?_
    by_cases hap : Apart ops d
    · rw [putAll_other _ _ _ _ _ hb (fun o ho hd => by
        obtain ⟨n, hn⟩ := List.mem_iff_getElem?.1 ho
        exact hap n o (by simpa using hn) hd)]
      exact h.rest d hap
    · unfold Apart at hap
      simp only [Classical.not_forall, Classical.not_not] at hap
      obtain ⟨j, o, hj, hod⟩ := hap
      rw [putAll_at _ _ d 0 j a0 o hb hdj' (by simpa using hj) hod]
      simp [hj, hod]
  rw [e]
  refine hdone _ w h.world fun j hj => ?_
  obtain ⟨d, hod, _⟩ := hds j ops[j] (Array.getElem?_eq_getElem hj)
  have := hd j ops[j] d (Array.getElem?_eq_getElem hj) hod
  simpa [Array.getElem?_eq_getElem hj, hod] using this
theorem rinv_start {w : World} (hI : I w) : RInv ops F I a0 (Array.replicate ops.size false) a0 w :=
  ⟨by simp, rfl, rfl, hI, fun j o d hj _ hl => by
    have hlt : j < ops.size := (Array.getElem?_eq_some_iff.1 hj).1
    simp [Array.getD, hlt] at hl, fun _ _ => rfl⟩
theorem unlisted_le (n : Nat) (listed : Array Bool) : unlisted n listed ≤ n := Nat.le_trans (List.length_filter_le _ _) (by simp)

/-- What is asked of the operations, guards let in, as one test. -/
def regionGB (ops : Array Oper) (n : Nat) : Bool :=
  (List.range ops.size).all fun j => match ops[j]? with
    | none => true
    | some o => (o.after.all fun e => decide (e.on < j)) && (match o.op with | .defer _ => false | _ => true) && (match o.dst with | some d => decide (d < n) | none => false) &&
      (List.range j).all fun i => match ops[i]? with
        | none => true
        | some o' => decide (o'.dst ≠ o.dst)
theorem regionG {n : Nat} (h : regionGB ops n = true) : (∀ (j : Nat) (o : Oper), ops[j]? = some o → ∀ e ∈ o.after, e.on < j) ∧ (∀ (j : Nat) (o : Oper), ops[j]? = some o → ∀ c, o.op ≠ .defer c) ∧
    (∀ (j : Nat) (o : Oper), ops[j]? = some o → ∃ d, o.dst = some d ∧ d < n) ∧ (∀ (i j : Nat) (o o' : Oper), ops[i]? = some o → ops[j]? = some o' → o.dst = o'.dst → i = j) := by
  unfold regionGB at h
  rw [List.all_eq_true] at h
  have each : ∀ (j : Nat) (o : Oper), ops[j]? = some o → (∀ e ∈ o.after, e.on < j) ∧ (∀ c, o.op ≠ .defer c) ∧ (∃ d, o.dst = some d ∧ d < n) ∧ ∀ (i : Nat) (o' : Oper), i < j → ops[i]? = some o' → o'.dst ≠ o.dst := by
    intro j o ho
    have hlt : j < ops.size := (Array.getElem?_eq_some_iff.1 ho).1
    have hj := h j (List.mem_range.2 hlt)
    rw [ho] at hj
    simp only [Bool.and_eq_true] at hj
    obtain ⟨⟨⟨h1, h2⟩, h3⟩, h4⟩ := hj
    refine ⟨?_, ?_, ?_, ?_⟩
    · rw [Array.all_eq_true_iff_forall_mem] at h1
      intro e he
      simpa using h1 e he
    · intro c hc
      rw [hc] at h2
      simp at h2
    · cases hd : o.dst with
      | none => rw [hd] at h3; simp at h3
      | some d => rw [hd] at h3; exact ⟨d, rfl, by simpa using h3⟩
    · intro i o' hi ho'
      rw [List.all_eq_true] at h4
      have := h4 i (List.mem_range.2 hi)
      rw [ho'] at this
      simpa using this
  refine ⟨fun j o ho => (each j o ho).1, fun j o ho => (each j o ho).2.1, fun j o ho => (each j o ho).2.2.1, fun i j o o' hi hj he => ?_⟩
  rcases Nat.lt_trichotomy i j with h1 | h1 | h1
  · exact absurd he ((each j o' hj).2.2.2 i o h1 hi)
  · exact h1
  · exact absurd he.symm ((each i o hi).2.2.2 j o' h1 hj)

/-- One fact an operation, whatever the order, guards let in. -/
theorem region_eachG {id : Nat} {w0 : World} (F : Nat → Value → World → Prop) (I : World → Prop) (hm : P.follows .mixedOrders = true) (hok : regionGB ops a0.tmps.size = true) (hI : I w0.drew) (hstep : StepG P ops F I a0)
    (hdone : ∀ (vs : Nat → Value) w, I w → (∀ j, j < ops.size → F j (vs j) w) → Q .normal (putAll ops.toList vs 0 a0) w) : (Code.region id ops true).wp P Q a0 w0 :=
  wp_region_any hm (wpAny_invG (regionG hok).1 (regionG hok).2.2.1 (regionG hok).2.2.2 hstep (rinv_done (regionG hok).2.2.1 (regionG hok).2.2.2 hdone) _ _ _ _ (unlisted_le _ _) (rinv_start hI))
/-- The same in a round of a range over a function. -/
theorem region_eachIn {id l n : Nat} {w0 : World} (F : Nat → Value → World → Prop) (I : World → Prop) (hm : P.follows .mixedOrders = true) (hok : regionGB ops a0.tmps.size = true) (hI : I w0.drew) (hstep : StepG P ops F I a0)
    (hdone : ∀ (vs : Nat → Value) w, I w → (∀ j, j < ops.size → F j (vs j) w) → Q .normal (putAll ops.toList vs 0 a0) w) : (Code.region id ops true).wpIn (Fence.wide.inRound l) n P Q a0 w0 :=
  wpIn_region_any hm (wpAnyIn_invG (regionG hok).1 (regionG hok).2.1 (regionG hok).2.2.1 (regionG hok).2.2.2 hstep (rinv_done (regionG hok).2.2.1 (regionG hok).2.2.2 hdone) _ _ _ _ (unlisted_le _ _) (rinv_start hI))
theorem putAll_congr (ops : List Oper) (vs us : Nat → Value) : ∀ (k : Nat) (a : Act), (∀ j, j < ops.length → vs (k + j) = us (k + j)) → putAll ops vs k a = putAll ops us k a := by
  induction ops with
  | nil => intro k a _; rfl
  | cons o rest ih =>
    intro k a h
    have h0 := h 0 (by simp)
    simp only [Nat.add_zero] at h0
    rw [putAll, putAll, h0]
    exact ih (k + 1) _ fun j hj => by
      have := h (j + 1) (by simp; omega)
      rwa [show k + 1 + j = k + (j + 1) by omega]
theorem yielded_of {a : Act} {j : Nat} {o : Oper} {d : Tmp} {b : Bool} (ho : ops[j]? = some o) (hd : o.dst = some d) (h : a.tmps.getD d undef = .bool b) : yielded ops a.tmps j = some b := by
  unfold yielded
  rw [ho]
  simp only [Option.bind_some, hd]
  have e : a.tmps[d]? = some (.bool b) := by
    rw [Array.getD_eq_getD_getElem?] at h
    cases hq : a.tmps[d]? with
    | none => rw [hq] at h; simp [undef] at h
    | some u => rw [hq] at h; simp at h; rw [h]
  rw [e]

theorem wanted_is {o o' : Oper} {a : Act} {j : Nat} {want b : Bool} {d : Tmp} (hg : o.guard = some (j, want)) (ho : ops[j]? = some o') (hd : o'.dst = some d) (h : a.tmps.getD d undef = .bool b) : Region.wanted o (yielded ops a.tmps) = (b == want) := by
  unfold Region.wanted
  rw [hg]
  show (yielded ops a.tmps j == some want) = (b == want)
  rw [yielded_of ho hd h]
  cases b <;> cases want <;> rfl

/-- What is asked of one operation that only reads. -/
def StepQ (P : Program) (ops : Array Oper) (val : Nat → Value) (a0 : Act) (w : World) : Prop :=
  ∀ (i : Nat) (o : Oper), ops[i]? = some o → ∀ (a : Act), (∀ e ∈ o.after, Region.binds .any e = true → ∀ (o' : Oper) (d : Tmp), ops[e.on]? = some o' → o'.dst = some d → a.tmps.getD d undef = val e.on) → (∀ d : Tmp, Apart ops d → a.tmps.getD d undef = a0.tmps.getD d undef) →
    (∀ (j : Nat) (want : Bool), o.guard = some (j, want) → ∀ (o' : Oper) (d : Tmp), ops[j]? = some o' → o'.dst = some d → ∀ b, a.tmps.getD d undef = .bool b → Region.wanted o (yielded ops a.tmps) = (b == want)) →
    (Region.wanted o (yielded ops a.tmps) = true → (execOp a.eval o).run P w = .ok (.value (val i)) w) ∧ (Region.wanted o (yielded ops a.tmps) = false → val i = undef)
theorem StepQ.toG {val : Nat → Value} {w : World} (h : StepQ P ops val a0 w) : StepG P ops (fun j v _ => v = val j) (fun W => W = w) a0 := by
  intro i o ho a W hW hdep hrest
  subst hW
  obtain ⟨h1, h2⟩ := h i o ho a hdep hrest (fun j want hg o' d ho' hd b hb => wanted_is hg ho' hd hb)
  exact ⟨fun hw => ⟨_, _, h1 hw, rfl, rfl, fun _ _ h => h⟩, fun hw => (h2 hw).symm⟩
/-- A region that only reads, in a round of a range over a function. -/
theorem region_quietIn {id l n : Nat} {w0 : World} (val : Nat → Value) (hm : P.follows .mixedOrders = true) (hok : regionGB ops a0.tmps.size = true) (hstep : StepQ P ops val a0 w0.drew)
    (hdone : Q .normal (putAll ops.toList val 0 a0) w0.drew) : (Code.region id ops true).wpIn (Fence.wide.inRound l) n P Q a0 w0 := by
  refine region_eachIn (fun j v _ => v = val j) (fun W => W = w0.drew) hm hok rfl hstep.toG fun vs w hw hF => ?_
  subst hw
  rw [putAll_congr ops.toList vs val 0 a0 (fun j hj => by rw [Nat.zero_add]; exact hF j (by simpa using hj))]
  exact hdone
/-- A region that only reads. -/
theorem region_quiet {id : Nat} {w0 : World} (val : Nat → Value) (hm : P.follows .mixedOrders = true) (hok : regionGB ops a0.tmps.size = true) (hstep : StepQ P ops val a0 w0.drew)
    (hdone : Q .normal (putAll ops.toList val 0 a0) w0.drew) : (Code.region id ops true).wp P Q a0 w0 := by
  refine region_eachG (fun j v _ => v = val j) (fun W => W = w0.drew) hm hok rfl hstep.toG fun vs w hw hF => ?_
  subst hw
  rw [putAll_congr ops.toList vs val 0 a0 (fun j hj => by rw [Nat.zero_add]; exact hF j (by simpa using hj))]
  exact hdone
end
end Go.Proofs.YtklanoppbbaolaaGreat
