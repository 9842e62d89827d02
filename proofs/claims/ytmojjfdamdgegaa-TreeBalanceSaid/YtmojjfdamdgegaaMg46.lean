/- The text AnyK. -/
import Derived.Test.YtmojjfdamdgegaaMg45
/- A region whose order is drawn, with calls whose results are known by what holds of them. No program is named here. -/
namespace Go.Proofs.Ytmojjfdamdgegaa
open Go.RowKit
set_option linter.unusedVariables false

section
variable {P : Program} {ops : Array Oper} {Q : Exit → Act → World → Prop} {a0 : Act}

/-- The value of a slot: told, or made of a result of which R holds. -/
def FK (K : Nat → Value ⊕ (Nat × (Value → Value))) (R : Nat → Value → World → Prop) (j : Nat) (v : Value) (W : World) : Prop :=
  match K j with
  | .inl u => v = u
  | .inr (t, f) => ∃ g, v = f g ∧ R t g W
theorem FK.up {K : Nat → Value ⊕ (Nat × (Value → Value))} {R : Nat → Value → World → Prop} {j : Nat} {v : Value} {W W' : World} (hR : ∀ t g W W', Below W.heap.size W W' → R t g W → R t g W') (hb : Below W.heap.size W W') (h : FK K R j v W) : FK K R j v W' := by
  unfold FK at h ⊢
  split
  · next u e => rw [e] at h; exact h
  · next t f e => rw [e] at h; obtain ⟨g, h1, h2⟩ := h; exact ⟨g, h1, hR _ _ _ _ hb h2⟩
def StepK (P : Program) (ops : Array Oper) (K : Nat → Value ⊕ (Nat × (Value → Value))) (R : Nat → Value → World → Prop) (a0 : Act) (w0 : World) : Prop :=
  ∀ (i : Nat) (o : Oper), ops[i]? = some o → ∀ (a : Act) (w : World), Below w0.heap.size w0 w → (∀ e ∈ o.after, Region.binds .any e = true → ∀ (o' : Oper) (d : Tmp), ops[e.on]? = some o' → o'.dst = some d → FK K R e.on (a.tmps.getD d undef) w) → (∀ d : Tmp, lateB ops i d = true → a.tmps.getD d undef = a0.tmps.getD d undef) →
    (∀ (j : Nat) (want : Bool), o.guard = some (j, want) → ∀ (o' : Oper) (d : Tmp), ops[j]? = some o' → o'.dst = some d → ∀ b, a.tmps.getD d undef = .bool b → Region.wanted o (yielded ops a.tmps) = (b == want)) →
    (Region.wanted o (yielded ops a.tmps) = true → (∃ v, (execOp a.eval o).run P w = .ok (.value v) w ∧ FK K R i v w) ∨ ∃ f args, (execOp a.eval o).run P w = .ok (.enter f args) w ∧ Calls P f args w fun e w' => ∃ v, e = .returned v ∧ FK K R i v w' ∧ Below w.heap.size w w') ∧ (Region.wanted o (yielded ops a.tmps) = false → FK K R i undef w)
theorem region_K {id : Nat} {w0 : World} (K : Nat → Value ⊕ (Nat × (Value → Value))) (R : Nat → Value → World → Prop) (hR : ∀ t g W W', Below W.heap.size W W' → R t g W → R t g W') (hm : P.follows .mixedOrders = true) (hok : regionWB ops a0.tmps.size = true) (hstep : StepK P ops K R a0 w0)
    (hdone : ∀ (vs : Nat → Value) w, Below w0.heap.size w0 w → (∀ j, j < ops.size → FK K R j (vs j) w) → Q .normal (putAll ops.toList vs 0 a0) w) : (Code.region id ops true).wp P Q a0 w0 := by
  refine region_eachY (fun _ => FK K R) (fun _ W => Below w0.heap.size w0 W) hm hok (Below.refl _ _).drew ?_ fun done vs w _ hw hF => hdone vs w hw hF
  intro i o ho done a w hni hcl hI hdep hrest
  obtain ⟨h1, h2⟩ := hstep i o ho a w hI (fun e he hb o' d ho' hd => ((hdep e he hb).2 o' ho').1 d hd) (fun d hd => hrest d (late_notYet hd hni hcl)) (fun j want hg o' d ho' hd b hb => wanted_is hg ho' hd hb)
  refine ⟨fun hw K' Q' hK => ?_, fun hw => ⟨hI, h2 hw, fun _ _ _ h => h⟩⟩
  rcases h1 hw with ⟨v, hrun, hv⟩ | ⟨f, args, hrun, hc⟩
  · exact wp_of_value hrun (hK _ _ hI hv fun _ _ _ _ h => h)
  · refine wp_of_enter (R := fun v w' => FK K R i v w' ∧ Below w.heap.size w w') hrun (hc.mono fun e w' ⟨v, he, hv, hb⟩ => ⟨v, he, hv, hb⟩) ?_
    rintro v w' ⟨hv, hb⟩
    exact hK _ _ (hI.trans (hb.mono hI.size)) hv fun _ _ _ _ h => h.up hR hb
end
end Go.Proofs.Ytmojjfdamdgegaa
