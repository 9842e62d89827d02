/- A region whose order is drawn: the facts of its operations may say what is done and what is not yet. No program is named here. -/
import Derived.Test.YtklfijhlibpmaaaAnyW
namespace Go.Proofs.Ytklfijhlibpmaaa
open Go.RowKit
set_option linter.unusedVariables false

section
variable {P : Program} {ops : Array Oper} {Q : Exit → Act → World → Prop} {F : (Nat → Prop) → Nat → Value → World → Prop} {I : (Nat → Prop) → World → Prop} {a0 : Act}

def Closed (ops : Array Oper) (done : Nat → Prop) : Prop := ∀ (j : Nat) (o : Oper), ops[j]? = some o → done j → ∀ e ∈ o.after, Region.binds .any e = true → done e.on
def more (done : Nat → Prop) (i : Nat) : Nat → Prop := fun j => j = i ∨ done j

structure XInv (ops : Array Oper) (F : (Nat → Prop) → Nat → Value → World → Prop) (I : (Nat → Prop) → World → Prop) (a0 : Act) (listed : Array Bool) (done : Nat → Prop) (a : Act) (w : World) : Prop where
  size : listed.size = ops.size
  listed : ∀ j, j < ops.size → (done j ↔ listed.getD j false = true)
  closed : Closed ops done
  defers : a.defers = a0.defers
  tmps : a.tmps.size = a0.tmps.size
  world : I done w
  did : ∀ (j : Nat) (o : Oper), ops[j]? = some o → done j → Did (F done) a w j o
  rest : ∀ d : Tmp, Apart ops d → a.tmps.getD d undef = a0.tmps.getD d undef

/-- What is asked of one operation. -/
def StepX (P : Program) (ops : Array Oper) (F : (Nat → Prop) → Nat → Value → World → Prop) (I : (Nat → Prop) → World → Prop) (a0 : Act) : Prop :=
  ∀ (i : Nat) (o : Oper), ops[i]? = some o → ∀ (done : Nat → Prop) (a : Act) (w : World), ¬ done i → Closed ops done → I done w → (∀ e ∈ o.after, Region.binds .any e = true → done e.on ∧ ∀ (o' : Oper), ops[e.on]? = some o' → Did (F done) a w e.on o') → (∀ d : Tmp, Apart ops d → a.tmps.getD d undef = a0.tmps.getD d undef) →
    (Region.wanted o (yielded ops a.tmps) = true → ∀ (K : Act → World → Prop) (Q : Exit → Act → World → Prop), (∀ v w', I (more done i) w' → F (more done i) i v w' → (∀ (j : Nat) (u : Value), done j → (∀ (o' : Oper) (d : Tmp), ops[j]? = some o' → o'.dst = some d → u = a.tmps.getD d undef) → F done j u w → F (more done i) j u w') → K (a.put o.dst v) w') → o.wp P a w K Q) ∧
    (Region.wanted o (yielded ops a.tmps) = false → I (more done i) w ∧ F (more done i) i undef w ∧ ∀ (j : Nat) (u : Value), done j → F done j u w → F (more done i) j u w)

theorem xinv_put {listed : Array Bool} {done : Nat → Prop} {a : Act} {w w' : World} {i : Nat} {o : Oper} {v : Value} (h : XInv ops F I a0 listed done a w) (ho : ops[i]? = some o) (hni : ¬ done i) (hdep : ∀ e ∈ o.after, Region.binds .any e = true → done e.on)
    (hds : ∀ d, o.dst = some d → d < a0.tmps.size) (hdj : ∀ (i j : Nat) (o o' : Oper) (d : Tmp), ops[i]? = some o → ops[j]? = some o' → o.dst = some d → o'.dst = some d → i = j)
    (hI : I (more done i) w') (hF : F (more done i) i v w') (hkeep : ∀ (j : Nat) (u : Value), done j → (∀ (o' : Oper) (d : Tmp), ops[j]? = some o' → o'.dst = some d → u = a.tmps.getD d undef) → F done j u w → F (more done i) j u w') : XInv ops F I a0 (listed.setIfInBounds i true) (more done i) (a.put o.dst v) w' := by
  have hlt : i < ops.size := (Array.getElem?_eq_some_iff.1 ho).1
  have hlist : ∀ j, j < ops.size → (more done i j ↔ (listed.setIfInBounds i true).getD j false = true) := fun j hj => by
    rw [listed_set _ _ _ (by rw [h.size]; exact hlt), ← h.listed j hj]
    exact ⟨fun e => e.imp (fun e => e.symm) id, fun e => e.imp (fun e => e.symm) id⟩
  have hcl : Closed ops (more done i) := fun j o' hj hd e he hb => by
    rcases hd with rfl | hd
    · rw [ho] at hj
      injection hj with hj
      subst hj
      exact .inr (hdep e he hb)
    · exact .inr (h.closed j o' hj hd e he hb)
  cases hd : o.dst with
  | none =>
    refine ⟨by simp [h.size], hlist, hcl, by rw [defers_put]; exact h.defers, by rw [size_put]; exact h.tmps, hI, fun j o' hj hl => ?_, fun d' hap => h.rest d' hap⟩
    rcases hl with rfl | hl
    · rw [ho] at hj
      injection hj with hj
      subst hj
      exact ⟨fun d hd' => (by rw [hd] at hd'; cases hd'), fun _ => ⟨v, hF⟩⟩
    · obtain ⟨h1, h2⟩ := h.did j o' hj hl
      exact ⟨fun d hd' => hkeep j _ hl (fun o'' d'' ho'' hd'' => by rw [hj] at ho''; injection ho'' with ho''; subst ho''; rw [hd'] at hd''; injection hd'' with hd''; subst hd''; rfl) (h1 d hd'), fun hn => (h2 hn).imp fun v hv => hkeep j v hl (fun o'' d'' ho'' hd'' => by rw [hj] at ho''; injection ho'' with ho''; subst ho''; rw [hn] at hd''; cases hd'') hv⟩
  | some d =>
    have hdl := hds d hd
    refine ⟨by simp [h.size], hlist, hcl, by rw [defers_put]; exact h.defers, by rw [size_put]; exact h.tmps, hI, fun j o' hj hl => ?_, fun d' hap => ?_⟩
    · rcases hl with rfl | hl
      · rw [ho] at hj
        injection hj with hj
        subst hj
        refine ⟨fun d' hd' => ?_, fun hn => ⟨v, hF⟩⟩
        rw [hd] at hd'
        injection hd' with hd'
        subst hd'
        rw [getD_put _ _ _ _ (by rw [h.tmps]; exact hdl), if_pos rfl]
        exact hF
      · have hij : i ≠ j := fun e => hni (e ▸ hl)
        obtain ⟨h1, h2⟩ := h.did j o' hj hl
        refine ⟨fun d' hd' => ?_, fun hn => (h2 hn).imp fun v hv => hkeep j v hl (fun o'' d'' ho'' hd'' => by rw [hj] at ho''; injection ho'' with ho''; subst ho''; rw [hn] at hd''; cases hd'') hv⟩
        rw [getD_put _ _ _ _ (by rw [h.tmps]; exact hdl), if_neg (fun e => hij (hdj i j o o' d ho hj hd (by rw [hd', e])))]
        exact hkeep j _ hl (fun o'' d'' ho'' hd'' => by rw [hj] at ho''; injection ho'' with ho''; subst ho''; rw [hd'] at hd''; injection hd'' with hd''; subst hd''; rfl) (h1 d' hd')
    · rw [getD_put _ _ _ _ (by rw [h.tmps]; exact hdl), if_neg (fun e => hap i o ho (by rw [hd, e]))]
      exact h.rest d' hap

theorem wpAny_invX (hac : ∀ (j : Nat) (o : Oper), ops[j]? = some o → ∀ e ∈ o.after, Region.binds .any e = true → e.on < j)
    (hds : ∀ (j : Nat) (o : Oper), ops[j]? = some o → ∀ d, o.dst = some d → d < a0.tmps.size) (hdj : ∀ (i j : Nat) (o o' : Oper) (d : Tmp), ops[i]? = some o → ops[j]? = some o' → o.dst = some d → o'.dst = some d → i = j)
    (hstep : StepX P ops F I a0) (hdone : ∀ (listed : Array Bool) (done : Nat → Prop) (a : Act) (w : World), XInv ops F I a0 listed done a w → (∀ j, j < ops.size → done j) → Q .normal a w) :
    ∀ (fuel : Nat) (listed : Array Bool) (done : Nat → Prop) (a : Act) (w : World), unlisted ops.size listed ≤ fuel → XInv ops F I a0 listed done a w → wpAny P .any ops Q fuel listed a w := by
  have fin : ∀ {listed : Array Bool} {done : Nat → Prop} {a : Act} {w : World}, XInv ops F I a0 listed done a w → (∀ j, j < ops.size → listed.getD j true = true) → Q .normal a w := fun {listed done a w} h hall => by
    refine hdone _ _ a w h fun j hj => (h.listed j hj).2 ?_
    rw [getD_ft _ _ (by rw [h.size]; exact hj)]
    exact hall j hj
  intro fuel
  induction fuel with
  | zero =>
    intro listed done a w hu h
    exact ⟨ready_none (all_of_unlisted hu), fin h (all_of_unlisted hu)⟩
  | succ fuel ih =>
    intro listed done a w hu h
    refine ⟨fun hr => fin h (ready_nilW h.size hac hr), fun i hi => ?_⟩
    rw [mem_ready] at hi
    obtain ⟨hli, o, ho, hdep⟩ := hi
    have hlt : i < ops.size := (Array.getElem?_eq_some_iff.1 ho).1
    have hni : ¬ done i := fun hd => by
      have := (h.listed i hlt).1 hd
      rw [getD_ft _ _ (by rw [h.size]; exact hlt), hli] at this
      cases this
    have hdd : ∀ e ∈ o.after, Region.binds .any e = true → done e.on := fun e he hb => (h.listed e.on (Nat.lt_trans (hac i o ho e he hb) hlt)).2 (hdep e he hb)
    have hs := hstep i o ho done a w hni h.closed h.world (fun e he hb => ⟨hdd e he hb, fun o' ho' => h.did e.on o' ho' (hdd e he hb)⟩) h.rest
    have hu' : unlisted ops.size (listed.setIfInBounds i true) ≤ fuel := by have := unlisted_set h.size hlt hli; omega
    unfold wpOp
    rw [ho]
    cases hw : Region.wanted o (yielded ops a.tmps) with
    | true =>
      simp only [hw, if_true]
      left
      exact hs.1 hw _ _ fun v w' hI hF hkeep => ih _ _ _ _ hu' (xinv_put h ho hni hdd (hds i o ho) hdj hI hF hkeep)
    | false =>
      simp only [hw, Bool.false_eq_true, if_false]
      obtain ⟨h1, h2, h3⟩ := hs.2 hw
      exact ih _ _ _ _ hu' (xinv_put h ho hni hdd (hds i o ho) hdj h1 h2 fun j u hd _ => h3 j u hd)

theorem xinv_done (hds : ∀ (j : Nat) (o : Oper), ops[j]? = some o → ∀ d, o.dst = some d → d < a0.tmps.size) (hdj : ∀ (i j : Nat) (o o' : Oper) (d : Tmp), ops[i]? = some o → ops[j]? = some o' → o.dst = some d → o'.dst = some d → i = j)
    (hdone : ∀ (done : Nat → Prop) (vs : Nat → Value) w, (∀ j, j < ops.size → done j) → I done w → (∀ j, j < ops.size → F done j (vs j) w) → Q .normal (putAll ops.toList vs 0 a0) w) (listed : Array Bool) (done : Nat → Prop) (a : Act) (w : World) (h : XInv ops F I a0 listed done a w) (hall : ∀ j, j < ops.size → done j) : Q .normal a w := by
  refine winv_done (F := F done) (I := I done) hds hdj (fun vs w hI hF => hdone done vs w hall hI hF) a w ⟨by simp, h.defers, h.tmps, h.world, fun j o hj _ => h.did j o hj (hall j (Array.getElem?_eq_some_iff.1 hj).1), h.rest⟩

theorem region_eachX {id : Nat} {w0 : World} (F : (Nat → Prop) → Nat → Value → World → Prop) (I : (Nat → Prop) → World → Prop) (hm : P.follows .mixedOrders = true) (hok : regionWB ops a0.tmps.size = true) (hI : I (fun _ => False) w0.drew) (hstep : StepX P ops F I a0)
    (hdone : ∀ (done : Nat → Prop) (vs : Nat → Value) w, (∀ j, j < ops.size → done j) → I done w → (∀ j, j < ops.size → F done j (vs j) w) → Q .normal (putAll ops.toList vs 0 a0) w) : (Code.region id ops true).wp P Q a0 w0 :=
  wp_region_any hm (wpAny_invX (regionW hok).1 (regionW hok).2.1 (regionW hok).2.2 hstep (xinv_done (regionW hok).2.1 (regionW hok).2.2 hdone) _ _ (fun _ => False) _ _ (unlisted_le _ _)
    ⟨by simp, fun j hj => ⟨fun h => h.elim, fun h => by simp [Array.getD, hj] at h⟩, fun _ _ _ h => h.elim, rfl, rfl, hI, fun _ _ _ h => h.elim, fun _ _ => rfl⟩)
end
end Go.Proofs.Ytklfijhlibpmaaa
