/- Texts in one: OngP, OngQ. -/
set_option linter.unusedVariables false
set_option linter.unusedSimpArgs false
set_option maxHeartbeats 16000000
namespace Go.Proofs.YtkfhpefmmhljmaaGreatDoor
abbrev Og := Int × Int × Int × Int
def tT (a b : Og) : Prop := a.1 = b.1 ∧ a.2.1 = b.2.1 ∧ (b.2.2.1 ≤ a.2.2.2 ∨ b.2.2.1 - 1 = a.2.2.2)
instance (a b : Og) : Decidable (tT a b) := by unfold tT; infer_instance
def ogLe (a b : Og) : Prop := a.1 < b.1 ∨ a.1 = b.1 ∧ (a.2.1 < b.2.1 ∨ a.2.1 = b.2.1 ∧ a.2.2.1 ≤ b.2.2.1)
theorem ogLe.trans {a b c : Og} (h : ogLe a b) (k : ogLe b c) : ogLe a c := by unfold ogLe at *; omega
def ogCov (o : Og) (k x h : Int) : Prop := o.1 = k ∧ o.2.1 = x ∧ o.2.2.1 ≤ h ∧ h ≤ o.2.2.2
def ogSep (a b : Og) : Prop := a.1 < b.1 ∨ a.1 = b.1 ∧ (a.2.1 < b.2.1 ∨ a.2.1 = b.2.1 ∧ a.2.2.2 + 1 < b.2.2.1)
end Go.Proofs.YtkfhpefmmhljmaaGreatDoor
