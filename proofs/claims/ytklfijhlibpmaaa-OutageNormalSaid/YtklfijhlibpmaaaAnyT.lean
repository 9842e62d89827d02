/- A region whose order is drawn, one store last, where an operation may be ahead of the store through another one. No program is named here. -/
import Derived.Test.YtklfijhlibpmaaaAnyS
namespace Go.Proofs.Ytklfijhlibpmaaa
open Go.RowKit
set_option linter.unusedVariables false

section
variable {P : Program} {ops : Array Oper} {Q : Exit → Act → World → Prop} {a0 : Act}

/-- Is j right ahead of n? -/
def aheadB (ops : Array Oper) (n j : Nat) : Bool := match ops[n]? with
  | none => false
  | some o => o.after.any fun e => decide (e.on = j) && Region.binds .any e
/-- Every other operation is ahead of n, in one step or in two. -/
def lastB2 (ops : Array Oper) (n : Nat) : Bool := decide (n < ops.size) && (List.range ops.size).all fun j => decide (j = n) || aheadB ops n j || (List.range ops.size).any fun k => aheadB ops n k && aheadB ops k j
theorem aheadB_done {done : Nat → Prop} {n j : Nat} (hcl : Closed ops done) (h : aheadB ops n j = true) (hd : done n) : done j := by
  unfold aheadB at h
  cases hn : ops[n]? with
  | none => rw [hn] at h; cases h
  | some o =>
    rw [hn] at h
    simp only at h
    rw [Array.any_eq_true] at h
    obtain ⟨k, hk, h2⟩ := h
    rw [Bool.and_eq_true] at h2
    have e := of_decide_eq_true h2.1
    rw [← e]
    exact hcl n o hn hd _ (Array.getElem_mem hk) h2.2
theorem region_store2 {id : Nat} {w0 w1 : World} (n : Nat) (val : Nat → Value) (hm : P.follows .mixedOrders = true) (hok : regionWB ops a0.tmps.size = true) (hla : lastB2 ops n = true) (hstep : StepS P ops val a0 w0.drew w1 n)
    (hvn : val n = undef) (hdone : Q .normal (putAll ops.toList val 0 a0) w1) : (Code.region id ops true).wp P Q a0 w0 := by
  unfold lastB2 at hla
  rw [Bool.and_eq_true] at hla
  have hlt : n < ops.size := of_decide_eq_true hla.1
  have hbe : ∀ (done : Nat → Prop), Closed ops done → ∀ j, j < ops.size → ¬ done j → j ≠ n → ¬ done n := fun done hcl j hj hnd hne hdn => by
    have h1 := List.all_eq_true.1 hla.2 j (List.mem_range.2 hj)
    rw [Bool.or_eq_true, Bool.or_eq_true] at h1
    rcases h1 with (h1 | h1) | h1
    · exact hne (of_decide_eq_true h1)
    · exact hnd (aheadB_done hcl h1 hdn)
    · rw [List.any_eq_true] at h1
      obtain ⟨k, _, h2⟩ := h1
      rw [Bool.and_eq_true] at h2
      exact hnd (aheadB_done hcl h2.2 (aheadB_done hcl h2.1 hdn))
  refine region_eachX (fun _ j v _ => v = val j) (fun done W => (¬ done n → W = w0.drew) ∧ (done n → W = w1)) hm hok ⟨fun _ => rfl, fun h => h.elim⟩ ?_ ?_
  · intro i o ho done a w hni hcl hI hdep hrest
    have hi : i < ops.size := (Array.getElem?_eq_some_iff.1 ho).1
    obtain ⟨h1, h2⟩ := hstep i o ho a (fun e he hb o' d ho' hd => ((hdep e he hb).2 o' ho').1 d hd) hrest (fun j want hg o' d ho' hd b hb => wanted_is hg ho' hd hb)
    by_cases e : i = n
    · subst e
      obtain rfl := hI.1 hni
      refine ⟨fun hw K Q hK => wp_of_skip ((h1 hw).2 rfl) (hK _ _ ⟨fun h => absurd (.inl rfl) h, fun _ => rfl⟩ hvn.symm fun _ _ _ _ h => h), fun hw => absurd rfl (h2 hw).1⟩
    · have hdn := hbe done hcl i hi hni e
      have hmn : ¬ more done i n := fun h => h.elim (fun h => e h.symm) hdn
      obtain rfl := hI.1 hdn
      refine ⟨fun hw K Q hK => wp_of_value ((h1 hw).1 e) (hK _ _ ⟨fun _ => rfl, fun h => absurd h hmn⟩ rfl fun _ _ _ _ h => h), fun hw => ⟨⟨fun _ => rfl, fun h => absurd h hmn⟩, (h2 hw).2.symm, fun _ _ _ h => h⟩⟩
  · intro done vs w hd hI hF
    obtain rfl := hI.2 (hd n hlt)
    rw [putAll_congr ops.toList vs val 0 a0 (fun j hj => by rw [Nat.zero_add]; exact hF j (by simpa using hj))]
    exact hdone
end
end Go.Proofs.Ytklfijhlibpmaaa
