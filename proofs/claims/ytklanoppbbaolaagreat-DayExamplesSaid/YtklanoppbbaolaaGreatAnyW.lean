/- A region whose order is drawn, with calls and stores among its operations: one fact an operation, whatever the order. No program is named here. -/
import Derived.Test.YtklanoppbbaolaaGreatAnyG
import Derived.Test.YtklanoppbbaolaaGreatWords
namespace Go.Proofs.YtklanoppbbaolaaGreat
open Go.RowKit
set_option linter.unusedVariables false

section
variable {P : Program} {ops : Array Oper} {Q : Exit → Act → World → Prop} {F : Nat → Value → World → Prop} {I : World → Prop} {a0 : Act}

/-- The fact of an operation that was done. -/
def Did (F : Nat → Value → World → Prop) (a : Act) (w : World) (j : Nat) (o : Oper) : Prop := (∀ d, o.dst = some d → F j (a.tmps.getD d undef) w) ∧ (o.dst = none → ∃ v, F j v w)

structure WInv (ops : Array Oper) (F : Nat → Value → World → Prop) (I : World → Prop) (a0 : Act) (listed : Array Bool) (a : Act) (w : World) : Prop where
  size : listed.size = ops.size
  defers : a.defers = a0.defers
  tmps : a.tmps.size = a0.tmps.size
  world : I w
  did : ∀ (j : Nat) (o : Oper), ops[j]? = some o → listed.getD j false = true → Did F a w j o
  rest : ∀ d : Tmp, Apart ops d → a.tmps.getD d undef = a0.tmps.getD d undef

/-- What is asked of one operation. -/
def StepW (P : Program) (ops : Array Oper) (F : Nat → Value → World → Prop) (I : World → Prop) (a0 : Act) : Prop :=
  ∀ (i : Nat) (o : Oper), ops[i]? = some o → ∀ (a : Act) (w : World), I w → (∀ e ∈ o.after, Region.binds .any e = true → ∀ (o' : Oper), ops[e.on]? = some o' → Did F a w e.on o') → (∀ d : Tmp, Apart ops d → a.tmps.getD d undef = a0.tmps.getD d undef) →
    (Region.wanted o (yielded ops a.tmps) = true → ∀ (K : Act → World → Prop) (Q : Exit → Act → World → Prop), (∀ v w', I w' → F i v w' → (∀ (j : Nat) (u : Value), F j u w → F j u w') → K (a.put o.dst v) w') → o.wp P a w K Q) ∧
    (Region.wanted o (yielded ops a.tmps) = false → F i undef w)

theorem winv_put {listed : Array Bool} {a : Act} {w w' : World} {i : Nat} {o : Oper} {v : Value} (h : WInv ops F I a0 listed a w) (ho : ops[i]? = some o) (hds : ∀ d, o.dst = some d → d < a0.tmps.size)
    (hdj : ∀ (i j : Nat) (o o' : Oper) (d : Tmp), ops[i]? = some o → ops[j]? = some o' → o.dst = some d → o'.dst = some d → i = j) (hI : I w') (hF : F i v w') (hkeep : ∀ (j : Nat) (u : Value), F j u w → F j u w') : WInv ops F I a0 (listed.setIfInBounds i true) (a.put o.dst v) w' := by
  have hlt : i < ops.size := (Array.getElem?_eq_some_iff.1 ho).1
  cases hd : o.dst with
  | none =>
    refine ⟨by simp [h.size], by rw [defers_put]; exact h.defers, by rw [size_put]; exact h.tmps, hI, fun j o' hj hl => ?_, fun d' hap => h.rest d' hap⟩
    rw [listed_set _ _ _ (by rw [h.size]; exact hlt)] at hl
    by_cases hij : i = j
    · subst hij
      rw [ho] at hj
      injection hj with hj
      subst hj
      exact ⟨fun d hd' => (by rw [hd] at hd'; cases hd'), fun _ => ⟨v, hF⟩⟩
    · obtain ⟨h1, h2⟩ := h.did j o' hj (hl.resolve_left hij)
      exact ⟨fun d hd' => hkeep j _ (h1 d hd'), fun hn => (h2 hn).imp fun v hv => hkeep j v hv⟩
  | some d =>
    have hdl := hds d hd
    refine ⟨by simp [h.size], by rw [defers_put]; exact h.defers, by rw [size_put]; exact h.tmps, hI, fun j o' hj hl => ?_, fun d' hap => ?_⟩
    · rw [listed_set _ _ _ (by rw [h.size]; exact hlt)] at hl
      by_cases hij : i = j
      · subst hij
        rw [ho] at hj
        injection hj with hj
        subst hj
        refine ⟨fun d' hd' => ?_, fun hn => ⟨v, hF⟩⟩
        rw [hd] at hd'
        injection hd' with hd'
        subst hd'
        rw [getD_put _ _ _ _ (by rw [h.tmps]; exact hdl), if_pos rfl]
        exact hF
      · obtain ⟨h1, h2⟩ := h.did j o' hj (hl.resolve_left hij)
        refine ⟨fun d' hd' => ?_, fun hn => (h2 hn).imp fun v hv => hkeep j v hv⟩
        rw [getD_put _ _ _ _ (by rw [h.tmps]; exact hdl), if_neg (fun e => hij (hdj i j o o' d ho hj hd (by rw [hd', e])))]
        exact hkeep j _ (h1 d' hd')
    · rw [getD_put _ _ _ _ (by rw [h.tmps]; exact hdl), if_neg (fun e => hap i o ho (by rw [hd, e]))]
      exact h.rest d' hap

theorem ready_nilW {listed : Array Bool} (hs : listed.size = ops.size) (hac : ∀ (j : Nat) (o : Oper), ops[j]? = some o → ∀ e ∈ o.after, Region.binds .any e = true → e.on < j) (h : Region.ready .any ops listed = []) : ∀ j, j < ops.size → listed.getD j true = true := by
  intro j
  induction j using Nat.strongRecOn with
  | ind j ih =>
    intro hj
    by_cases hl : listed.getD j true = true
    · exact hl
    · exfalso
      have hm : j ∈ Region.ready .any ops listed := by
        rw [mem_ready]
        refine ⟨by simpa using hl, ops[j], Array.getElem?_eq_getElem hj, fun e he hb => ?_⟩
        have hlt := hac j _ (Array.getElem?_eq_getElem hj) e he hb
        rw [getD_ft _ _ (by omega)]
        exact ih e.on hlt (by omega)
      rw [h] at hm
      simp at hm

theorem wpAny_invW (hac : ∀ (j : Nat) (o : Oper), ops[j]? = some o → ∀ e ∈ o.after, Region.binds .any e = true → e.on < j)
    (hds : ∀ (j : Nat) (o : Oper), ops[j]? = some o → ∀ d, o.dst = some d → d < a0.tmps.size) (hdj : ∀ (i j : Nat) (o o' : Oper) (d : Tmp), ops[i]? = some o → ops[j]? = some o' → o.dst = some d → o'.dst = some d → i = j)
    (hstep : StepW P ops F I a0) (hdone : ∀ (a : Act) (w : World), WInv ops F I a0 (Array.replicate ops.size true) a w → Q .normal a w) :
    ∀ (fuel : Nat) (listed : Array Bool) (a : Act) (w : World), unlisted ops.size listed ≤ fuel → WInv ops F I a0 listed a w → wpAny P .any ops Q fuel listed a w := by
  have fin : ∀ {listed : Array Bool} {a : Act} {w : World}, WInv ops F I a0 listed a w → (∀ j, j < ops.size → listed.getD j true = true) → Q .normal a w := fun {listed a w} h hall => by
    refine hdone a w ⟨by simp, h.defers, h.tmps, h.world, fun j o hj _ => h.did j o hj ?_, h.rest⟩
    have hlt : j < ops.size := (Array.getElem?_eq_some_iff.1 hj).1
    rw [getD_ft _ _ (by rw [h.size]; exact hlt)]
    exact hall j hlt
  intro fuel
  induction fuel with
  | zero =>
    intro listed a w hu h
    exact ⟨ready_none (all_of_unlisted hu), fin h (all_of_unlisted hu)⟩
  | succ fuel ih =>
    intro listed a w hu h
    refine ⟨fun hr => fin h (ready_nilW h.size hac hr), fun i hi => ?_⟩
    rw [mem_ready] at hi
    obtain ⟨hli, o, ho, hdep⟩ := hi
    have hlt : i < ops.size := (Array.getElem?_eq_some_iff.1 ho).1
    have hs := hstep i o ho a w h.world (fun e he hb o' ho' => h.did e.on o' ho' (hdep e he hb)) h.rest
    have hu' : unlisted ops.size (listed.setIfInBounds i true) ≤ fuel := by have := unlisted_set h.size hlt hli; omega
    unfold wpOp
    rw [ho]
    cases hw : Region.wanted o (yielded ops a.tmps) with
    | true =>
      simp only [hw, if_true]
      left
      exact hs.1 hw _ _ fun v w' hI hF hkeep => ih _ _ _ hu' (winv_put h ho (hds i o ho) hdj hI hF hkeep)
    | false =>
      simp only [hw, Bool.false_eq_true, if_false]
      exact ih _ _ _ hu' (winv_put h ho (hds i o ho) hdj h.world (hs.2 hw) fun _ _ h => h)

theorem putAll_otherW (ops : List Oper) (vs : Nat → Value) (d : Tmp) : ∀ (k : Nat) (a : Act), (∀ o ∈ ops, ∀ e, o.dst = some e → e < a.tmps.size) → (∀ o ∈ ops, o.dst ≠ some d) → (putAll ops vs k a).tmps.getD d undef = a.tmps.getD d undef := by
  induction ops with
  | nil => intro k a _ _; rfl
  | cons o rest ih =>
    intro k a hb h
    rw [putAll, ih _ _ (fun o' ho' => by rw [size_put]; exact hb o' (by simp [ho'])) (fun o' ho' => h o' (by simp [ho']))]
    cases he : o.dst with
    | none => rfl
    | some e => rw [getD_put _ _ _ _ (hb o (by simp) e he), if_neg (fun e' => h o (by simp) (by rw [he, e']))]
theorem putAll_atW (ops : List Oper) (vs : Nat → Value) (d : Tmp) : ∀ (k j : Nat) (a : Act) (o : Oper), (∀ o ∈ ops, ∀ e, o.dst = some e → e < a.tmps.size) → (∀ (i j : Nat) (o o' : Oper) (d : Tmp), ops[i]? = some o → ops[j]? = some o' → o.dst = some d → o'.dst = some d → i = j) → ops[j]? = some o → o.dst = some d → (putAll ops vs k a).tmps.getD d undef = vs (k + j) := by
  induction ops with
  | nil => intro k j a o _ _ h; simp at h
  | cons x rest ih =>
    intro k j a o hb hdj hj hd
    cases j with
    | zero =>
      simp at hj
      subst hj
      rw [putAll, putAll_otherW _ _ _ _ _ (fun o' ho' => by rw [size_put]; exact hb o' (by simp [ho'])), hd, getD_put _ _ _ _ (hb x (by simp) d hd), if_pos rfl]
      · simp
      · intro o' ho' hd'
        obtain ⟨n, hn⟩ := List.mem_iff_getElem?.1 ho'
        have := hdj 0 (n + 1) x o' d (by simp) (by simpa using hn) hd hd'
        omega
    | succ j =>
      rw [putAll, ih (k + 1) j _ o (fun o' ho' => by rw [size_put]; exact hb o' (by simp [ho'])) (fun i j o o' d hi hj h h' => by
        have := hdj (i + 1) (j + 1) o o' d (by simpa using hi) (by simpa using hj) h h'
        omega) (by simpa using hj) hd]
      congr 1
      omega

theorem winv_done (hds : ∀ (j : Nat) (o : Oper), ops[j]? = some o → ∀ d, o.dst = some d → d < a0.tmps.size) (hdj : ∀ (i j : Nat) (o o' : Oper) (d : Tmp), ops[i]? = some o → ops[j]? = some o' → o.dst = some d → o'.dst = some d → i = j)
    (hdone : ∀ (vs : Nat → Value) w, I w → (∀ j, j < ops.size → F j (vs j) w) → Q .normal (putAll ops.toList vs 0 a0) w) (a : Act) (w : World) (h : WInv ops F I a0 (Array.replicate ops.size true) a w) : Q .normal a w := by
  have hb : ∀ o ∈ ops.toList, ∀ e, o.dst = some e → e < a0.tmps.size := fun o ho => by
    obtain ⟨n, hn⟩ := List.mem_iff_getElem?.1 ho
    exact hds n o (by simpa using hn)
  have hdj' : ∀ (i j : Nat) (o o' : Oper) (d : Tmp), ops.toList[i]? = some o → ops.toList[j]? = some o' → o.dst = some d → o'.dst = some d → i = j := fun i j o o' d hi hj he => hdj i j o o' d (by simpa using hi) (by simpa using hj) he
  have hd : ∀ (j : Nat) (o : Oper), ops[j]? = some o → Did F a w j o := fun j o hj => h.did j o hj (by
    have hlt : j < ops.size := (Array.getElem?_eq_some_iff.1 hj).1
    simp [Array.getD, hlt])
  have hex : ∀ j : Nat, ∃ v : Value, (j < ops.size → F j v w) ∧ ∀ o d, ops[j]? = some o → o.dst = some d → v = a.tmps.getD d undef := fun j => by
    by_cases hj : j < ops.size
    · obtain ⟨h1, h2⟩ := hd j ops[j] (Array.getElem?_eq_getElem hj)
      cases hdd : ops[j].dst with
      | none =>
        obtain ⟨v, hv⟩ := h2 hdd
        exact ⟨v, fun _ => hv, fun o d ho hod => by rw [Array.getElem?_eq_getElem hj] at ho; injection ho with ho; subst ho; rw [hdd] at hod; cases hod⟩
      | some d =>
        exact ⟨_, fun _ => h1 d hdd, fun o d' ho hod => by rw [Array.getElem?_eq_getElem hj] at ho; injection ho with ho; subst ho; rw [hdd] at hod; injection hod with hod; rw [hod]⟩
    · exact ⟨undef, fun h => absurd h hj, fun o d ho _ => absurd (Array.getElem?_eq_some_iff.1 ho).1 hj⟩
  have hc := fun j => Classical.choose_spec (hex j)
  have e : a = putAll ops.toList (fun j => Classical.choose (hex j)) 0 a0 := by
    refine act_ext (by rw [putAll_defers]; exact h.defers) (by rw [putAll_size]; exact h.tmps) fun d => ?_
    by_cases hap : Apart ops d
    · rw [putAll_otherW _ _ _ _ _ hb (fun o ho hd => by
        obtain ⟨n, hn⟩ := List.mem_iff_getElem?.1 ho
        exact hap n o (by simpa using hn) hd)]
      exact h.rest d hap
    · unfold Apart at hap
      simp only [Classical.not_forall, Classical.not_not] at hap
      obtain ⟨j, o, hj, hod⟩ := hap
      rw [putAll_atW _ _ d 0 j a0 o hb hdj' (by simpa using hj) hod, Nat.zero_add]
      exact ((hc j).2 o d hj hod).symm
  rw [e]
  exact hdone _ w h.world fun j hj => (hc j).1 hj
theorem winv_start {w : World} (hI : I w) : WInv ops F I a0 (Array.replicate ops.size false) a0 w :=
  ⟨by simp, rfl, rfl, hI, fun j o hj hl => by
    have hlt : j < ops.size := (Array.getElem?_eq_some_iff.1 hj).1
    simp [Array.getD, hlt] at hl, fun _ _ => rfl⟩

/-- What is asked of the operations, as one test: stores let in. -/
def regionWB (ops : Array Oper) (n : Nat) : Bool :=
  (List.range ops.size).all fun j => match ops[j]? with
    | none => true
    | some o => (o.after.all fun e => !Region.binds .any e || decide (e.on < j)) && (match o.dst with | some d => decide (d < n) | none => true) &&
      (List.range j).all fun i => match ops[i]? with
        | none => true
        | some o' => decide (o'.dst = none) || decide (o'.dst ≠ o.dst)
theorem regionW {n : Nat} (h : regionWB ops n = true) : (∀ (j : Nat) (o : Oper), ops[j]? = some o → ∀ e ∈ o.after, Region.binds .any e = true → e.on < j) ∧
    (∀ (j : Nat) (o : Oper), ops[j]? = some o → ∀ d, o.dst = some d → d < n) ∧ (∀ (i j : Nat) (o o' : Oper) (d : Tmp), ops[i]? = some o → ops[j]? = some o' → o.dst = some d → o'.dst = some d → i = j) := by
  unfold regionWB at h
  rw [List.all_eq_true] at h
  have each : ∀ (j : Nat) (o : Oper), ops[j]? = some o → (∀ e ∈ o.after, Region.binds .any e = true → e.on < j) ∧ (∀ d, o.dst = some d → d < n) ∧ ∀ (i : Nat) (o' : Oper), i < j → ops[i]? = some o' → ∀ d, o'.dst = some d → o.dst ≠ some d := by
    intro j o ho
    have hlt : j < ops.size := (Array.getElem?_eq_some_iff.1 ho).1
    have hj := h j (List.mem_range.2 hlt)
    rw [ho] at hj
    simp only [Bool.and_eq_true] at hj
    obtain ⟨⟨h1, h3⟩, h4⟩ := hj
    refine ⟨?_, ?_, ?_⟩
    · rw [Array.all_eq_true_iff_forall_mem] at h1
      intro e he hb
      simpa [hb] using h1 e he
    · intro d hd
      rw [hd] at h3
      simpa using h3
    · intro i o' hi ho' d hd hd'
      rw [List.all_eq_true] at h4
      have := h4 i (List.mem_range.2 hi)
      rw [ho'] at this
      simp [hd, hd'] at this
  refine ⟨fun j o ho => (each j o ho).1, fun j o ho => (each j o ho).2.1, fun i j o o' d hi hj he he' => ?_⟩
  rcases Nat.lt_trichotomy i j with h1 | h1 | h1
  · exact absurd he' ((each j o' hj).2.2 i o h1 hi d he)
  · exact h1
  · exact absurd he ((each i o hi).2.2 j o' h1 hj d he')

theorem region_eachW {id : Nat} {w0 : World} (F : Nat → Value → World → Prop) (I : World → Prop) (hm : P.follows .mixedOrders = true) (hok : regionWB ops a0.tmps.size = true) (hI : I w0.drew) (hstep : StepW P ops F I a0)
    (hdone : ∀ (vs : Nat → Value) w, I w → (∀ j, j < ops.size → F j (vs j) w) → Q .normal (putAll ops.toList vs 0 a0) w) : (Code.region id ops true).wp P Q a0 w0 :=
  wp_region_any hm (wpAny_invW (regionW hok).1 (regionW hok).2.1 (regionW hok).2.2 hstep (winv_done (regionW hok).2.1 (regionW hok).2.2 hdone) _ _ _ _ (unlisted_le _ _) (winv_start hI))

theorem wp_of_value {o : Oper} {a : Act} {w w' : World} {v : Value} {K : Act → World → Prop} (hrun : (execOp a.eval o).run P w = .ok (.value v) w') (h : K (a.put o.dst v) w') : o.wp P a w K Q := by
  unfold Oper.wp; rw [hrun]; exact h
theorem wp_of_skip {o : Oper} {a : Act} {w w' : World} {K : Act → World → Prop} (hrun : (execOp a.eval o).run P w = .ok .skip w') (h : K (a.put o.dst undef) w') : o.wp P a w K Q := by
  unfold Oper.wp; rw [hrun]; exact h
theorem wp_of_enter {o : Oper} {a : Act} {w w' : World} {f : FuncId} {args : Array Value} {K : Act → World → Prop} {R : Value → World → Prop} (hrun : (execOp a.eval o).run P w = .ok (.enter f args) w') (hc : Calls P f args w' fun e w'' => ∃ v, e = .returned v ∧ R v w'') (h : ∀ v w'', R v w'' → K (a.put o.dst v) w'') : o.wp P a w K Q := by
  unfold Oper.wp; rw [hrun]
  exact hc.mono fun e w'' ⟨v, he, hr⟩ => by subst he; exact h v w'' hr

/-- One operation of a region whose operations read, or call what leaves old memory as it was: the values are told. -/
def StepB (P : Program) (ops : Array Oper) (val : Nat → Value) (a0 : Act) (w0 : World) : Prop :=
  ∀ (i : Nat) (o : Oper), ops[i]? = some o → ∀ (a : Act) (w : World), Below w0.heap.size w0 w → (∀ e ∈ o.after, Region.binds .any e = true → ∀ (o' : Oper) (d : Tmp), ops[e.on]? = some o' → o'.dst = some d → a.tmps.getD d undef = val e.on) → (∀ d : Tmp, Apart ops d → a.tmps.getD d undef = a0.tmps.getD d undef) →
    (∀ (j : Nat) (want : Bool), o.guard = some (j, want) → ∀ (o' : Oper) (d : Tmp), ops[j]? = some o' → o'.dst = some d → ∀ b, a.tmps.getD d undef = .bool b → Region.wanted o (yielded ops a.tmps) = (b == want)) →
    (Region.wanted o (yielded ops a.tmps) = true → (execOp a.eval o).run P w = .ok (.value (val i)) w ∨ ∃ f args, (execOp a.eval o).run P w = .ok (.enter f args) w ∧ Calls P f args w fun e w' => e = .returned (val i) ∧ Below w.heap.size w w') ∧ (Region.wanted o (yielded ops a.tmps) = false → val i = undef)
theorem StepB.toW {val : Nat → Value} {w0 : World} (h : StepB P ops val a0 w0) : StepW P ops (fun j v _ => v = val j) (fun W => Below w0.heap.size w0 W) a0 := by
  intro i o ho a w hI hdep hrest
  obtain ⟨h1, h2⟩ := h i o ho a w hI (fun e he hb o' d ho' hd => (hdep e he hb o' ho').1 d hd) hrest (fun j want hg o' d ho' hd b hb => wanted_is hg ho' hd hb)
  refine ⟨fun hw K Q hK => ?_, fun hw => (h2 hw).symm⟩
  rcases h1 hw with hrun | ⟨f, args, hrun, hc⟩
  · exact wp_of_value hrun (hK _ _ hI rfl fun _ _ h => h)
  · refine wp_of_enter (R := fun v w' => v = val i ∧ Below w.heap.size w w') hrun (hc.mono fun e w' ⟨he, hb⟩ => ⟨_, he, rfl, hb⟩) ?_
    rintro v w' ⟨rfl, hb⟩
    exact hK _ _ (hI.trans (hb.mono hI.size)) rfl fun _ _ h => h
/-- A region of reads and such calls. -/
theorem region_calls {id : Nat} {w0 : World} (val : Nat → Value) (hm : P.follows .mixedOrders = true) (hok : regionWB ops a0.tmps.size = true) (hstep : StepB P ops val a0 w0)
    (hdone : ∀ w, Below w0.heap.size w0 w → Q .normal (putAll ops.toList val 0 a0) w) : (Code.region id ops true).wp P Q a0 w0 := by
  refine region_eachW (fun j v _ => v = val j) (fun W => Below w0.heap.size w0 W) hm hok (Below.refl _ _).drew hstep.toW fun vs w hw hF => ?_
  rw [putAll_congr ops.toList vs val 0 a0 (fun j hj => by rw [Nat.zero_add]; exact hF j (by simpa using hj))]
  exact hdone w hw
end
end Go.Proofs.YtklanoppbbaolaaGreat
