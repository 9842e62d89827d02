/- Texts in one: AnyY, AnyK. -/
import Derived.Test.YtmojjfdamdgegaaMg19
/- A region whose order is drawn: a slot that is not yet written has its old value, also where an operation of the region writes it later. No program is named here. -/
namespace Go.Proofs.Ytmojjfdamdgegaa
open Go.RowKit
set_option linter.unusedVariables false

section
variable {P : Program} {ops : Array Oper} {Q : Exit → Act → World → Prop} {F : (Nat → Prop) → Nat → Value → World → Prop} {I : (Nat → Prop) → World → Prop} {a0 : Act}

def NotYet (ops : Array Oper) (done : Nat → Prop) (d : Tmp) : Prop := ∀ (j : Nat) (o : Oper), ops[j]? = some o → done j → o.dst ≠ some d
theorem NotYet.less {done : Nat → Prop} {i : Nat} {d : Tmp} (h : NotYet ops (more done i) d) : NotYet ops done d := fun j o hj hd => h j o hj (.inr hd)
structure YInv (ops : Array Oper) (F : (Nat → Prop) → Nat → Value → World → Prop) (I : (Nat → Prop) → World → Prop) (a0 : Act) (listed : Array Bool) (done : Nat → Prop) (a : Act) (w : World) : Prop where
  size : listed.size = ops.size
  listed : ∀ j, j < ops.size → (done j ↔ listed.getD j false = true)
  closed : Closed ops done
  defers : a.defers = a0.defers
  tmps : a.tmps.size = a0.tmps.size
  world : I done w
  did : ∀ (j : Nat) (o : Oper), ops[j]? = some o → done j → Did (F done) a w j o
  rest : ∀ d : Tmp, NotYet ops done d → a.tmps.getD d undef = a0.tmps.getD d undef

/-- What is asked of one operation. -/
def StepY (P : Program) (ops : Array Oper) (F : (Nat → Prop) → Nat → Value → World → Prop) (I : (Nat → Prop) → World → Prop) (a0 : Act) : Prop :=
  ∀ (i : Nat) (o : Oper), ops[i]? = some o → ∀ (done : Nat → Prop) (a : Act) (w : World), ¬ done i → Closed ops done → I done w → (∀ e ∈ o.after, Region.binds .any e = true → done e.on ∧ ∀ (o' : Oper), ops[e.on]? = some o' → Did (F done) a w e.on o') → (∀ d : Tmp, NotYet ops done d → a.tmps.getD d undef = a0.tmps.getD d undef) →
    (Region.wanted o (yielded ops a.tmps) = true → ∀ (K : Act → World → Prop) (Q : Exit → Act → World → Prop), (∀ v w', I (more done i) w' → F (more done i) i v w' → (∀ (j : Nat) (u : Value), done j → (∀ (o' : Oper) (d : Tmp), ops[j]? = some o' → o'.dst = some d → u = a.tmps.getD d undef) → F done j u w → F (more done i) j u w') → K (a.put o.dst v) w') → o.wp P a w K Q) ∧
    (Region.wanted o (yielded ops a.tmps) = false → I (more done i) w ∧ F (more done i) i undef w ∧ ∀ (j : Nat) (u : Value), done j → F done j u w → F (more done i) j u w)

theorem yinv_put {listed : Array Bool} {done : Nat → Prop} {a : Act} {w w' : World} {i : Nat} {o : Oper} {v : Value} (h : YInv ops F I a0 listed done a w) (ho : ops[i]? = some o) (hni : ¬ done i) (hdep : ∀ e ∈ o.after, Region.binds .any e = true → done e.on)
    (hds : ∀ d, o.dst = some d → d < a0.tmps.size) (hdj : ∀ (i j : Nat) (o o' : Oper) (d : Tmp), ops[i]? = some o → ops[j]? = some o' → o.dst = some d → o'.dst = some d → i = j)
    (hI : I (more done i) w') (hF : F (more done i) i v w') (hkeep : ∀ (j : Nat) (u : Value), done j → (∀ (o' : Oper) (d : Tmp), ops[j]? = some o' → o'.dst = some d → u = a.tmps.getD d undef) → F done j u w → F (more done i) j u w') : YInv ops F I a0 (listed.setIfInBounds i true) (more done i) (a.put o.dst v) w' := by
  have hlt : i < ops.size := (Array.getElem?_eq_some_iff.1 ho).1
  have hlist : ∀ j, j < ops.size → (more done i j ↔ (listed.setIfInBounds i true).getD j false = true) := fun j hj => by
    rw [listed_set _ _ _ (by rw [h.size]; exact hlt), ← h.listed j hj]
    exact ⟨fun e => e.imp (fun e => e.symm) id, fun e => e.imp (fun e => e.symm) id⟩
  have hcl : Closed ops (more done i) := fun j o' hj hd e he hb => by
    rcases hd with rfl | hd
    · rw [ho] at hj
      injection hj with hj
      subst hj
      exact .inr (hdep e he hb)
    · exact .inr (h.closed j o' hj hd e he hb)
  cases hd : o.dst with
  | none =>
    refine ⟨by simp [h.size], hlist, hcl, by rw [defers_put]; exact h.defers, by rw [size_put]; exact h.tmps, hI, fun j o' hj hl => ?_, fun d' hap => h.rest d' (hap.less)⟩
    rcases hl with rfl | hl
    · rw [ho] at hj
      injection hj with hj
      subst hj
      exact ⟨fun d hd' => (by rw [hd] at hd'; cases hd'), fun _ => ⟨v, hF⟩⟩
    · obtain ⟨h1, h2⟩ := h.did j o' hj hl
      exact ⟨fun d hd' => hkeep j _ hl (fun o'' d'' ho'' hd'' => by rw [hj] at ho''; injection ho'' with ho''; subst ho''; rw [hd'] at hd''; injection hd'' with hd''; subst hd''; rfl) (h1 d hd'), fun hn => (h2 hn).imp fun v hv => hkeep j v hl (fun o'' d'' ho'' hd'' => by rw [hj] at ho''; injection ho'' with ho''; subst ho''; rw [hn] at hd''; cases hd'') hv⟩
  | some d =>
    have hdl := hds d hd
    refine ⟨by simp [h.size], hlist, hcl, by rw [defers_put]; exact h.defers, by rw [size_put]; exact h.tmps, hI, fun j o' hj hl => ?_, fun d' hap => ?_⟩
    · rcases hl with rfl | hl
      · rw [ho] at hj
        injection hj with hj
        subst hj
        refine ⟨fun d' hd' => ?_, fun hn => ⟨v, hF⟩⟩
        rw [hd] at hd'
        injection hd' with hd'
        subst hd'
        rw [getD_put _ _ _ _ (by rw [h.tmps]; exact hdl), if_pos rfl]
        exact hF
      · have hij : i ≠ j := fun e => hni (e ▸ hl)
        obtain ⟨h1, h2⟩ := h.did j o' hj hl
        refine ⟨fun d' hd' => ?_, fun hn => (h2 hn).imp fun v hv => hkeep j v hl (fun o'' d'' ho'' hd'' => by rw [hj] at ho''; injection ho'' with ho''; subst ho''; rw [hn] at hd''; cases hd'') hv⟩
        rw [getD_put _ _ _ _ (by rw [h.tmps]; exact hdl), if_neg (fun e => hij (hdj i j o o' d ho hj hd (by rw [hd', e])))]
        exact hkeep j _ hl (fun o'' d'' ho'' hd'' => by rw [hj] at ho''; injection ho'' with ho''; subst ho''; rw [hd'] at hd''; injection hd'' with hd''; subst hd''; rfl) (h1 d' hd')
    · rw [getD_put _ _ _ _ (by rw [h.tmps]; exact hdl), if_neg (fun e => hap i o ho (.inl rfl) (by rw [hd, e]))]
      exact h.rest d' hap.less

theorem wpAny_invY (hac : ∀ (j : Nat) (o : Oper), ops[j]? = some o → ∀ e ∈ o.after, Region.binds .any e = true → e.on < j)
    (hds : ∀ (j : Nat) (o : Oper), ops[j]? = some o → ∀ d, o.dst = some d → d < a0.tmps.size) (hdj : ∀ (i j : Nat) (o o' : Oper) (d : Tmp), ops[i]? = some o → ops[j]? = some o' → o.dst = some d → o'.dst = some d → i = j)
    (hstep : StepY P ops F I a0) (hdone : ∀ (listed : Array Bool) (done : Nat → Prop) (a : Act) (w : World), YInv ops F I a0 listed done a w → (∀ j, j < ops.size → done j) → Q .normal a w) :
    ∀ (fuel : Nat) (listed : Array Bool) (done : Nat → Prop) (a : Act) (w : World), unlisted ops.size listed ≤ fuel → YInv ops F I a0 listed done a w → wpAny P .any ops Q fuel listed a w := by
  have fin : ∀ {listed : Array Bool} {done : Nat → Prop} {a : Act} {w : World}, YInv ops F I a0 listed done a w → (∀ j, j < ops.size → listed.getD j true = true) → Q .normal a w := fun {listed done a w} h hall => by
    refine hdone _ _ a w h fun j hj => (h.listed j hj).2 ?_
    rw [getD_ft _ _ (by rw [h.size]; exact hj)]
    exact hall j hj
  intro fuel
  induction fuel with
  | zero =>
    intro listed done a w hu h
    exact ⟨ready_none (all_of_unlisted hu), fin h (all_of_unlisted hu)⟩
  | succ fuel ih =>
    intro listed done a w hu h
    refine ⟨fun hr => fin h (ready_nilW h.size hac hr), fun i hi => ?_⟩
    rw [mem_ready] at hi
    obtain ⟨hli, o, ho, hdep⟩ := hi
    have hlt : i < ops.size := (Array.getElem?_eq_some_iff.1 ho).1
    have hni : ¬ done i := fun hd => by
      have := (h.listed i hlt).1 hd
      rw [getD_ft _ _ (by rw [h.size]; exact hlt), hli] at this
      cases this
    have hdd : ∀ e ∈ o.after, Region.binds .any e = true → done e.on := fun e he hb => (h.listed e.on (Nat.lt_trans (hac i o ho e he hb) hlt)).2 (hdep e he hb)
    have hs := hstep i o ho done a w hni h.closed h.world (fun e he hb => ⟨hdd e he hb, fun o' ho' => h.did e.on o' ho' (hdd e he hb)⟩) h.rest
    have hu' : unlisted ops.size (listed.setIfInBounds i true) ≤ fuel := by have := unlisted_set h.size hlt hli; omega
    unfold wpOp
    rw [ho]
    cases hw : Region.wanted o (yielded ops a.tmps) with
    | true =>
      simp only [hw, if_true]
      left
      exact hs.1 hw _ _ fun v w' hI hF hkeep => ih _ _ _ _ hu' (yinv_put h ho hni hdd (hds i o ho) hdj hI hF hkeep)
    | false =>
      simp only [hw, Bool.false_eq_true, if_false]
      obtain ⟨h1, h2, h3⟩ := hs.2 hw
      exact ih _ _ _ _ hu' (yinv_put h ho hni hdd (hds i o ho) hdj h1 h2 fun j u hd _ => h3 j u hd)

theorem yinv_done (hds : ∀ (j : Nat) (o : Oper), ops[j]? = some o → ∀ d, o.dst = some d → d < a0.tmps.size) (hdj : ∀ (i j : Nat) (o o' : Oper) (d : Tmp), ops[i]? = some o → ops[j]? = some o' → o.dst = some d → o'.dst = some d → i = j)
    (hdone : ∀ (done : Nat → Prop) (vs : Nat → Value) w, (∀ j, j < ops.size → done j) → I done w → (∀ j, j < ops.size → F done j (vs j) w) → Q .normal (putAll ops.toList vs 0 a0) w) (listed : Array Bool) (done : Nat → Prop) (a : Act) (w : World) (h : YInv ops F I a0 listed done a w) (hall : ∀ j, j < ops.size → done j) : Q .normal a w := by
  refine winv_done (F := F done) (I := I done) hds hdj (fun vs w hI hF => hdone done vs w hall hI hF) a w ⟨by simp, h.defers, h.tmps, h.world, fun j o hj _ => h.did j o hj (hall j (Array.getElem?_eq_some_iff.1 hj).1), fun d hap => h.rest d fun j o hj _ => hap j o hj⟩

theorem region_eachY {id : Nat} {w0 : World} (F : (Nat → Prop) → Nat → Value → World → Prop) (I : (Nat → Prop) → World → Prop) (hm : P.follows .mixedOrders = true) (hok : regionWB ops a0.tmps.size = true) (hI : I (fun _ => False) w0.drew) (hstep : StepY P ops F I a0)
    (hdone : ∀ (done : Nat → Prop) (vs : Nat → Value) w, (∀ j, j < ops.size → done j) → I done w → (∀ j, j < ops.size → F done j (vs j) w) → Q .normal (putAll ops.toList vs 0 a0) w) : (Code.region id ops true).wp P Q a0 w0 :=
  wp_region_any hm (wpAny_invY (regionW hok).1 (regionW hok).2.1 (regionW hok).2.2 hstep (yinv_done (regionW hok).2.1 (regionW hok).2.2 hdone) _ _ (fun _ => False) _ _ (unlisted_le _ _)
    ⟨by simp, fun j hj => ⟨fun h => h.elim, fun h => by simp [Array.getD, hj] at h⟩, fun _ _ _ h => h.elim, rfl, rfl, hI, fun _ _ _ h => h.elim, fun _ _ => rfl⟩)

/-- Whatever writes slot d comes after operation i, as one test. -/
def lateB (ops : Array Oper) (i : Nat) (d : Tmp) : Bool := (List.range ops.size).all fun n => match ops[n]? with
  | none => true
  | some o => decide (o.dst ≠ some d) || decide (n = i) || o.after.any fun e => decide (e.on = i) && Region.binds .any e
theorem late_notYet {done : Nat → Prop} {i : Nat} {d : Tmp} (h : lateB ops i d = true) (hni : ¬ done i) (hcl : Closed ops done) : NotYet ops done d := by
  intro j o hj hd e
  unfold lateB at h
  have h1 := List.all_eq_true.1 h j (List.mem_range.2 (Array.getElem?_eq_some_iff.1 hj).1)
  rw [hj] at h1
  simp only [Bool.or_eq_true, decide_eq_true_eq] at h1
  rcases h1 with (h1 | rfl) | h1
  · exact h1 e
  · exact hni hd
  · rw [Array.any_eq_true] at h1
    obtain ⟨k, hk, h2⟩ := h1
    rw [Bool.and_eq_true] at h2
    have h3 := of_decide_eq_true h2.1
    exact hni (h3 ▸ hcl j o hj hd _ (Array.getElem_mem hk) h2.2)
/-- One operation of a region of reads, and of calls that leave old memory as it was: the values are told. -/
def StepYB (P : Program) (ops : Array Oper) (val : Nat → Value) (a0 : Act) (w0 : World) : Prop :=
  ∀ (i : Nat) (o : Oper), ops[i]? = some o → ∀ (a : Act) (w : World), Below w0.heap.size w0 w → (∀ e ∈ o.after, Region.binds .any e = true → ∀ (o' : Oper) (d : Tmp), ops[e.on]? = some o' → o'.dst = some d → a.tmps.getD d undef = val e.on) → (∀ d : Tmp, lateB ops i d = true → a.tmps.getD d undef = a0.tmps.getD d undef) →
    (∀ (j : Nat) (want : Bool), o.guard = some (j, want) → ∀ (o' : Oper) (d : Tmp), ops[j]? = some o' → o'.dst = some d → ∀ b, a.tmps.getD d undef = .bool b → Region.wanted o (yielded ops a.tmps) = (b == want)) →
    (Region.wanted o (yielded ops a.tmps) = true → (execOp a.eval o).run P w = .ok (.value (val i)) w ∨ ∃ f args, (execOp a.eval o).run P w = .ok (.enter f args) w ∧ Calls P f args w fun e w' => e = .returned (val i) ∧ Below w.heap.size w w') ∧ (Region.wanted o (yielded ops a.tmps) = false → val i = undef)
theorem region_callsY {id : Nat} {w0 : World} (val : Nat → Value) (hm : P.follows .mixedOrders = true) (hok : regionWB ops a0.tmps.size = true) (hstep : StepYB P ops val a0 w0)
    (hdone : ∀ w, Below w0.heap.size w0 w → Q .normal (putAll ops.toList val 0 a0) w) : (Code.region id ops true).wp P Q a0 w0 := by
  refine region_eachY (fun _ j v _ => v = val j) (fun _ W => Below w0.heap.size w0 W) hm hok (Below.refl _ _).drew ?_ fun done vs w _ hw hF => ?_
  · intro i o ho done a w hni hcl hI hdep hrest
    obtain ⟨h1, h2⟩ := hstep i o ho a w hI (fun e he hb o' d ho' hd => ((hdep e he hb).2 o' ho').1 d hd) (fun d hd => hrest d (late_notYet hd hni hcl)) (fun j want hg o' d ho' hd b hb => wanted_is hg ho' hd hb)
    refine ⟨fun hw K Q hK => ?_, fun hw => ⟨hI, (h2 hw).symm, fun _ _ _ h => h⟩⟩
    rcases h1 hw with hrun | ⟨f, args, hrun, hc⟩
    · exact wp_of_value hrun (hK _ _ hI rfl fun _ _ _ _ h => h)
    · refine wp_of_enter (R := fun v w' => v = val i ∧ Below w.heap.size w w') hrun (hc.mono fun e w' ⟨he, hb⟩ => ⟨_, he, rfl, hb⟩) ?_
      rintro v w' ⟨rfl, hb⟩
      exact hK _ _ (hI.trans (hb.mono hI.size)) rfl fun _ _ _ _ h => h
  · rw [putAll_congr ops.toList vs val 0 a0 (fun j hj => by rw [Nat.zero_add]; exact hF j (by simpa using hj))]
    exact hdone w hw
end
end Go.Proofs.Ytmojjfdamdgegaa
/- A region whose order is drawn, with calls whose results are known by what holds of them. No program is named here. -/
namespace Go.Proofs.Ytmojjfdamdgegaa
open Go.RowKit
set_option linter.unusedVariables false

section
variable {P : Program} {ops : Array Oper} {Q : Exit → Act → World → Prop} {a0 : Act}

/-- The value of a slot: told, or made of a result of which R holds. -/
def FK (K : Nat → Value ⊕ (Nat × (Value → Value))) (R : Nat → Value → World → Prop) (j : Nat) (v : Value) (W : World) : Prop :=
  match K j with
  | .inl u => v = u
  | .inr (t, f) => ∃ g, v = f g ∧ R t g W
theorem FK.up {K : Nat → Value ⊕ (Nat × (Value → Value))} {R : Nat → Value → World → Prop} {j : Nat} {v : Value} {W W' : World} (hR : ∀ t g W W', Below W.heap.size W W' → R t g W → R t g W') (hb : Below W.heap.size W W') (h : FK K R j v W) : FK K R j v W' := by
  unfold FK at h ⊢
  split
  · next u e => rw [e] at h; exact h
  · next t f e => rw [e] at h; obtain ⟨g, h1, h2⟩ := h; exact ⟨g, h1, hR _ _ _ _ hb h2⟩
def StepK (P : Program) (ops : Array Oper) (K : Nat → Value ⊕ (Nat × (Value → Value))) (R : Nat → Value → World → Prop) (a0 : Act) (w0 : World) : Prop :=
  ∀ (i : Nat) (o : Oper), ops[i]? = some o → ∀ (a : Act) (w : World), Below w0.heap.size w0 w → (∀ e ∈ o.after, Region.binds .any e = true → ∀ (o' : Oper) (d : Tmp), ops[e.on]? = some o' → o'.dst = some d → FK K R e.on (a.tmps.getD d undef) w) → (∀ d : Tmp, lateB ops i d = true → a.tmps.getD d undef = a0.tmps.getD d undef) →
    (∀ (j : Nat) (want : Bool), o.guard = some (j, want) → ∀ (o' : Oper) (d : Tmp), ops[j]? = some o' → o'.dst = some d → ∀ b, a.tmps.getD d undef = .bool b → Region.wanted o (yielded ops a.tmps) = (b == want)) →
    (Region.wanted o (yielded ops a.tmps) = true → (∃ v, (execOp a.eval o).run P w = .ok (.value v) w ∧ FK K R i v w) ∨ ∃ f args, (execOp a.eval o).run P w = .ok (.enter f args) w ∧ Calls P f args w fun e w' => ∃ v, e = .returned v ∧ FK K R i v w' ∧ Below w.heap.size w w') ∧ (Region.wanted o (yielded ops a.tmps) = false → FK K R i undef w)
theorem region_K {id : Nat} {w0 : World} (K : Nat → Value ⊕ (Nat × (Value → Value))) (R : Nat → Value → World → Prop) (hR : ∀ t g W W', Below W.heap.size W W' → R t g W → R t g W') (hm : P.follows .mixedOrders = true) (hok : regionWB ops a0.tmps.size = true) (hstep : StepK P ops K R a0 w0)
    (hdone : ∀ (vs : Nat → Value) w, Below w0.heap.size w0 w → (∀ j, j < ops.size → FK K R j (vs j) w) → Q .normal (putAll ops.toList vs 0 a0) w) : (Code.region id ops true).wp P Q a0 w0 := by
  refine region_eachY (fun _ => FK K R) (fun _ W => Below w0.heap.size w0 W) hm hok (Below.refl _ _).drew ?_ fun done vs w _ hw hF => hdone vs w hw hF
  intro i o ho done a w hni hcl hI hdep hrest
  obtain ⟨h1, h2⟩ := hstep i o ho a w hI (fun e he hb o' d ho' hd => ((hdep e he hb).2 o' ho').1 d hd) (fun d hd => hrest d (late_notYet hd hni hcl)) (fun j want hg o' d ho' hd b hb => wanted_is hg ho' hd hb)
  refine ⟨fun hw K' Q' hK => ?_, fun hw => ⟨hI, h2 hw, fun _ _ _ h => h⟩⟩
  rcases h1 hw with ⟨v, hrun, hv⟩ | ⟨f, args, hrun, hc⟩
  · exact wp_of_value hrun (hK _ _ hI hv fun _ _ _ _ h => h)
  · refine wp_of_enter (R := fun v w' => FK K R i v w' ∧ Below w.heap.size w w') hrun (hc.mono fun e w' ⟨v, he, hv, hb⟩ => ⟨v, he, hv, hb⟩) ?_
    rintro v w' ⟨hv, hb⟩
    exact hK _ _ (hI.trans (hb.mono hI.size)) hv fun _ _ _ _ h => h.up hR hb
end
end Go.Proofs.Ytmojjfdamdgegaa
