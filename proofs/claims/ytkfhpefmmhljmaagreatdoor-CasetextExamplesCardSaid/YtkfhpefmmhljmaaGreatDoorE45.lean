/- Texts in one: LxP, LxQ. -/
import Derived.Test.YtkfhpefmmhljmaaGreatDoorE44
set_option linter.unusedVariables false
set_option linter.unusedSimpArgs false
set_option maxHeartbeats 16000000
namespace Go.Proofs.YtkfhpefmmhljmaaGreatDoor
def Toks (s : Bytes) : Int → List Tk → Int → Prop
 | i, [], j => i = j
 | i, t :: l, j => ∃ k, nextT s i = (0, t, k) ∧ Toks s k l j
theorem fU {s : Bytes} : ∀ {a b : List Tk} {i j : Int}, Toks s i (a ++ b) j ↔ ∃ k, Toks s i a k ∧ Toks s k b j := by
 intro a
 induction a with
 | nil => intro b i j; exact ⟨fun h => ⟨i, rfl, h⟩, fun ⟨k, h1, h2⟩ => by cases h1; exact h2⟩
 | cons t a ih =>
  intro b i j;constructor
  ·rintro ⟨k, h1, h2⟩;obtain ⟨m, h3, h4⟩ := ih.1 h2;exact ⟨m, ⟨k, h1, h3⟩, h4⟩
  ·rintro ⟨m, ⟨k, h1, h3⟩, h4⟩;exact ⟨k, h1, ih.2 ⟨m, h3, h4⟩⟩
def Run (s : Bytes) (l : List Tk) (rd rd' : Rd) : Prop := rd'.e = 0 → rd.e = 0 ∧ Toks s rd.i l rd'.i
theorem Run.refl {s : Bytes} {rd : Rd} : Run s [] rd rd := fun h => ⟨h, rfl⟩
theorem Run.trans {s : Bytes} {l m : List Tk} {a b c : Rd} (h : Run s l a b) (k : Run s m b c) : Run s (l ++ m) a c := fun h0 => by
 obtain ⟨h1, h2⟩ := k h0;obtain ⟨h3, h4⟩ := h h1;exact ⟨h3, fU.2 ⟨_, h4, h2⟩⟩
def OgOk (o : Og) : Prop := (o.1 = 1 ∨ o.1 = 2 ∨ o.1 = 3) ∧ qJ o = true
theorem OgOk.small {o : Og} (h : OgOk o) : small o.2.1 ∧ small o.2.2.1 ∧ small o.2.2.2 := by
 have h1 := h.2;unfold qJ at h1;simp only [κb, κe] at h1;unfold Go.Proofs.YtkfhpefmmhljmaaGreatDoor.small;split at h1 <;> omega
end Go.Proofs.YtkfhpefmmhljmaaGreatDoor
