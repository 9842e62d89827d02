/- A region whose order is drawn, that reads and stores once, last. No program is named here. -/
import Derived.Test.YtklfijhlibpmaaaAnyX
namespace Go.Proofs.Ytklfijhlibpmaaa
open Go.RowKit
set_option linter.unusedVariables false

section
variable {P : Program} {ops : Array Oper} {Q : Exit → Act → World → Prop} {a0 : Act}

/-- What is asked of one operation but the store n. -/
def StepS (P : Program) (ops : Array Oper) (val : Nat → Value) (a0 : Act) (w w1 : World) (n : Nat) : Prop :=
  ∀ (i : Nat) (o : Oper), ops[i]? = some o → ∀ (a : Act), (∀ e ∈ o.after, Region.binds .any e = true → ∀ (o' : Oper) (d : Tmp), ops[e.on]? = some o' → o'.dst = some d → a.tmps.getD d undef = val e.on) → (∀ d : Tmp, Apart ops d → a.tmps.getD d undef = a0.tmps.getD d undef) →
    (∀ (j : Nat) (want : Bool), o.guard = some (j, want) → ∀ (o' : Oper) (d : Tmp), ops[j]? = some o' → o'.dst = some d → ∀ b, a.tmps.getD d undef = .bool b → Region.wanted o (yielded ops a.tmps) = (b == want)) →
    (Region.wanted o (yielded ops a.tmps) = true → (i ≠ n → (execOp a.eval o).run P w = .ok (.value (val i)) w) ∧ (i = n → (execOp a.eval o).run P w = .ok .skip w1)) ∧ (Region.wanted o (yielded ops a.tmps) = false → i ≠ n ∧ val i = undef)
/-- Every other operation is ahead of n, as one test. -/
def lastB (ops : Array Oper) (n : Nat) : Bool := match ops[n]? with
  | none => false
  | some o => (List.range ops.size).all fun j => decide (j = n) || o.after.any fun e => decide (e.on = j) && Region.binds .any e
theorem region_store {id : Nat} {w0 w1 : World} (n : Nat) (val : Nat → Value) (hm : P.follows .mixedOrders = true) (hok : regionWB ops a0.tmps.size = true) (hla : lastB ops n = true) (hstep : StepS P ops val a0 w0.drew w1 n)
    (hvn : val n = undef) (hdone : Q .normal (putAll ops.toList val 0 a0) w1) : (Code.region id ops true).wp P Q a0 w0 := by
  unfold lastB at hla
  cases hn : ops[n]? with
  | none => rw [hn] at hla; cases hla
  | some on =>
    rw [hn] at hla
    have hlt : n < ops.size := (Array.getElem?_eq_some_iff.1 hn).1
    have hall : ∀ j, j < ops.size → j ≠ n → ∃ e ∈ on.after, e.on = j ∧ Region.binds .any e = true := fun j hj hne => by
      have h1 := List.all_eq_true.1 hla j (List.mem_range.2 hj)
      rw [Bool.or_eq_true] at h1
      rcases h1 with h1 | h1
      · exact absurd (of_decide_eq_true h1) hne
      · rw [Array.any_eq_true] at h1
        obtain ⟨k, hk, h2⟩ := h1
        rw [Bool.and_eq_true] at h2
        exact ⟨_, Array.getElem_mem hk, of_decide_eq_true h2.1, h2.2⟩
    have hbe : ∀ (done : Nat → Prop), Closed ops done → ∀ j, j < ops.size → ¬ done j → j ≠ n → ¬ done n := fun done hcl j hj hnd hne hdn => by
      obtain ⟨e, he, rfl, hb⟩ := hall j hj hne
      exact hnd (hcl n on hn hdn e he hb)
    refine region_eachX (fun _ j v _ => v = val j) (fun done W => (¬ done n → W = w0.drew) ∧ (done n → W = w1)) hm hok ⟨fun _ => rfl, fun h => h.elim⟩ ?_ ?_
    · intro i o ho done a w hni hcl hI hdep hrest
      have hi : i < ops.size := (Array.getElem?_eq_some_iff.1 ho).1
      obtain ⟨h1, h2⟩ := hstep i o ho a (fun e he hb o' d ho' hd => ((hdep e he hb).2 o' ho').1 d hd) hrest (fun j want hg o' d ho' hd b hb => wanted_is hg ho' hd hb)
      by_cases e : i = n
      · subst e
        obtain rfl := hI.1 hni
        refine ⟨fun hw K Q hK => wp_of_skip ((h1 hw).2 rfl) (hK _ _ ⟨fun h => absurd (.inl rfl) h, fun _ => rfl⟩ hvn.symm fun _ _ _ _ h => h), fun hw => absurd rfl (h2 hw).1⟩
      · have hdn := hbe done hcl i hi hni e
        have hmn : ¬ more done i n := fun h => h.elim (fun h => e h.symm) hdn
        obtain rfl := hI.1 hdn
        refine ⟨fun hw K Q hK => wp_of_value ((h1 hw).1 e) (hK _ _ ⟨fun _ => rfl, fun h => absurd h hmn⟩ rfl fun _ _ _ _ h => h), fun hw => ⟨⟨fun _ => rfl, fun h => absurd h hmn⟩, (h2 hw).2.symm, fun _ _ _ h => h⟩⟩
    · intro done vs w hd hI hF
      obtain rfl := hI.2 (hd n hlt)
      rw [putAll_congr ops.toList vs val 0 a0 (fun j hj => by rw [Nat.zero_add]; exact hF j (by simpa using hj))]
      exact hdone
end
end Go.Proofs.Ytklfijhlibpmaaa
