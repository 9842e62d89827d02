/- A region whose order is drawn: one fact an operation, and one that ties slots together. No program is named here. -/
import Derived.Test.YtklfijhlibpmaaaAnyX
namespace Go.Proofs.Ytklfijhlibpmaaa
open Go.RowKit
set_option linter.unusedVariables false

section
variable {P : Program} {ops : Array Oper} {Q : Exit → Act → World → Prop} {F : (Nat → Prop) → Nat → Value → World → Prop} {I : (Nat → Prop) → World → Prop} {E : (Nat → Prop) → Act → World → Prop} {a0 : Act}

/-- What is asked of one operation. -/
def StepE (P : Program) (ops : Array Oper) (F : (Nat → Prop) → Nat → Value → World → Prop) (I : (Nat → Prop) → World → Prop) (E : (Nat → Prop) → Act → World → Prop) (a0 : Act) : Prop :=
  ∀ (i : Nat) (o : Oper), ops[i]? = some o → ∀ (done : Nat → Prop) (a : Act) (w : World), ¬ done i → Closed ops done → I done w → E done a w → (∀ e ∈ o.after, Region.binds .any e = true → done e.on ∧ ∀ (o' : Oper), ops[e.on]? = some o' → Did (F done) a w e.on o') → (∀ d : Tmp, Apart ops d → a.tmps.getD d undef = a0.tmps.getD d undef) →
    (Region.wanted o (yielded ops a.tmps) = true → ∀ (K : Act → World → Prop) (Q : Exit → Act → World → Prop), (∀ v w', I (more done i) w' → F (more done i) i v w' → (∀ (j : Nat) (u : Value), done j → (∀ (o' : Oper) (d : Tmp), ops[j]? = some o' → o'.dst = some d → u = a.tmps.getD d undef) → F done j u w → F (more done i) j u w') → E (more done i) (a.put o.dst v) w' → K (a.put o.dst v) w') → o.wp P a w K Q) ∧
    (Region.wanted o (yielded ops a.tmps) = false → I (more done i) w ∧ F (more done i) i undef w ∧ (∀ (j : Nat) (u : Value), done j → F done j u w → F (more done i) j u w) ∧ E (more done i) (a.put o.dst undef) w)

theorem wpAny_invE (hac : ∀ (j : Nat) (o : Oper), ops[j]? = some o → ∀ e ∈ o.after, Region.binds .any e = true → e.on < j)
    (hds : ∀ (j : Nat) (o : Oper), ops[j]? = some o → ∀ d, o.dst = some d → d < a0.tmps.size) (hdj : ∀ (i j : Nat) (o o' : Oper) (d : Tmp), ops[i]? = some o → ops[j]? = some o' → o.dst = some d → o'.dst = some d → i = j)
    (hstep : StepE P ops F I E a0) (hdone : ∀ (listed : Array Bool) (done : Nat → Prop) (a : Act) (w : World), XInv ops F I a0 listed done a w → E done a w → (∀ j, j < ops.size → done j) → Q .normal a w) :
    ∀ (fuel : Nat) (listed : Array Bool) (done : Nat → Prop) (a : Act) (w : World), unlisted ops.size listed ≤ fuel → XInv ops F I a0 listed done a w → E done a w → wpAny P .any ops Q fuel listed a w := by
  have fin : ∀ {listed : Array Bool} {done : Nat → Prop} {a : Act} {w : World}, XInv ops F I a0 listed done a w → E done a w → (∀ j, j < ops.size → listed.getD j true = true) → Q .normal a w := fun {listed done a w} h hE hall => by
    refine hdone _ _ a w h hE fun j hj => (h.listed j hj).2 ?_
    rw [getD_ft _ _ (by rw [h.size]; exact hj)]
    exact hall j hj
  intro fuel
  induction fuel with
  | zero =>
    intro listed done a w hu h hE
    exact ⟨ready_none (all_of_unlisted hu), fin h hE (all_of_unlisted hu)⟩
  | succ fuel ih =>
    intro listed done a w hu h hE
    refine ⟨fun hr => fin h hE (ready_nilW h.size hac hr), fun i hi => ?_⟩
    rw [mem_ready] at hi
    obtain ⟨hli, o, ho, hdep⟩ := hi
    have hlt : i < ops.size := (Array.getElem?_eq_some_iff.1 ho).1
    have hni : ¬ done i := fun hd => by
      have := (h.listed i hlt).1 hd
      rw [getD_ft _ _ (by rw [h.size]; exact hlt), hli] at this
      cases this
    have hdd : ∀ e ∈ o.after, Region.binds .any e = true → done e.on := fun e he hb => (h.listed e.on (Nat.lt_trans (hac i o ho e he hb) hlt)).2 (hdep e he hb)
    have hs := hstep i o ho done a w hni h.closed h.world hE (fun e he hb => ⟨hdd e he hb, fun o' ho' => h.did e.on o' ho' (hdd e he hb)⟩) h.rest
    have hu' : unlisted ops.size (listed.setIfInBounds i true) ≤ fuel := by have := unlisted_set h.size hlt hli; omega
    unfold wpOp
    rw [ho]
    cases hw : Region.wanted o (yielded ops a.tmps) with
    | true =>
      simp only [hw, if_true]
      left
      exact hs.1 hw _ _ fun v w' hI hF hkeep hE' => ih _ _ _ _ hu' (xinv_put h ho hni hdd (hds i o ho) hdj hI hF hkeep) hE'
    | false =>
      simp only [hw, Bool.false_eq_true, if_false]
      obtain ⟨h1, h2, h3, h4⟩ := hs.2 hw
      exact ih _ _ _ _ hu' (xinv_put h ho hni hdd (hds i o ho) hdj h1 h2 fun j u hd _ => h3 j u hd) h4

theorem region_eachE {id : Nat} {w0 : World} (F : (Nat → Prop) → Nat → Value → World → Prop) (I : (Nat → Prop) → World → Prop) (E : (Nat → Prop) → Act → World → Prop) (hm : P.follows .mixedOrders = true) (hok : regionWB ops a0.tmps.size = true) (hI : I (fun _ => False) w0.drew) (hE : E (fun _ => False) a0 w0.drew) (hstep : StepE P ops F I E a0)
    (hdone : ∀ (done : Nat → Prop) (a : Act) (vs : Nat → Value) w, (∀ j, j < ops.size → done j) → I done w → E done a w → a = putAll ops.toList vs 0 a0 → (∀ j, j < ops.size → F done j (vs j) w) → Q .normal a w) : (Code.region id ops true).wp P Q a0 w0 :=
  wp_region_any hm (wpAny_invE (regionW hok).1 (regionW hok).2.1 (regionW hok).2.2 hstep (fun listed done a w h hE hall => by
      have key := xinv_done (Q := fun _ a' w' => a' = a → E done a' w' → Q .normal a' w') (regionW hok).2.1 (regionW hok).2.2 (F := fun d j v W => F done j v W) (I := fun d W => I done W) (fun d vs w' hd hI' hF e hE' => hdone done _ vs w' hall hI' hE' rfl hF) listed done a w ⟨h.size, h.listed, h.closed, h.defers, h.tmps, h.world, fun j o hj hd => h.did j o hj hd, h.rest⟩ hall
      exact key rfl hE) _ _ (fun _ => False) _ _ (unlisted_le _ _)
    ⟨by simp, fun j hj => ⟨fun h => h.elim, fun h => by simp [Array.getD, hj] at h⟩, fun _ _ _ h => h.elim, rfl, rfl, hI, fun _ _ _ h => h.elim, fun _ _ => rfl⟩ hE)
end
end Go.Proofs.Ytklfijhlibpmaaa
