/- The text Ew5. -/
import Derived.Test.YtklanoppbbaolaaGreatMg30
/- A closed run: the operations that neither read nor turn memory, one by one. No program is named here. -/
namespace Go.Proofs.YtklanoppbbaolaaGreat
open Go Go.RowKit
set_option linter.unusedVariables false
set_option linter.unusedSimpArgs false
section
variable {P : Program} {x : Gh} {L : Nat → Prop} {w : World} {T : Tr AV} {ρ : Operand → Value}
theorem aInt_sound {op : BinOp} {t : TypeId} {k : IntKind} {a b : Int} {r : Value} (h : aInt op k a b = some r) : (binOp op t (.int k a) (.int k b)).run P w = .ok r w := by
  cases op <;> simp only [aInt] at h <;> first
    | (injection h with h; subst h; simp [binOp, Op.intArith, Op.intCmp, Op.intBits]; done)
    | (split at h
       · cases h
       · next hb => injection h with h; subst h; simp [binOp, Op.intDiv, hb])
    | cases h
theorem aShift_sound {op : BinOp} {t : TypeId} {k k' : IntKind} {a b : Int} {r : Value} (h : aShift op k a b = some r) : (binOp op t (.int k a) (.int k' b)).run P w = .ok r w := by
  cases op <;> simp only [aShift] at h <;> first
    | cases h
    | (split at h
       · cases h
       · next hb => injection h with h; subst h; simp [binOp, Op.shift, hb])
theorem aStr_sound {op : BinOp} {t : TypeId} {a b : ByteArray} {r : Value} (h : aStr op a b = some r) : (binOp op t (.string a) (.string b)).run P w = .ok r w := by
  cases op <;> simp only [aStr] at h <;> first
    | (injection h with h; subst h; simp [binOp, Op.stringOp, ByteArray.toList_eq]; done)
    | (split at h
       · next hb =>
         injection h with h
         subst h
         exact run_string_add_sum (P := P) (w := w) a b (by omega)
       · cases h)
    | cases h
theorem aEq_sound (d : Nat) {t : TypeId} {a b : AV} {r : Bool} (h : aEq P t a b = some r) : (Op.equalIn (d + 1) t (conc x a) (conc x b)).run P w = .ok r w := by
  cases hu : P.underlying t with
  | none => simp only [aEq, hu] at h; cases h
  | some u =>
    simp only [aEq, hu] at h
    cases u
    case int k =>
      simp only at h
      split at h
      · next k a k' b =>
        split at h
        · next hk =>
          injection h with h
          subst h hk
          simp [Op.equalIn, run_underlying hu, conc]
        · cases h
      · cases h
    all_goals first
      | (simp only at h; cases h; done)
      | (simp only at h
         split at h <;> cases h <;> simp [Op.equalIn, run_underlying hu, conc])
theorem aBin_sound {op : BinOp} {t : TypeId} {y z : Operand} {a b r : AV} (h : aBin P op t a b = some r) :
    (do eqGuard op t y z (conc x a) (conc x b); binOp op t (conc x a) (conc x b)).run P w = .ok (conc x r) w ∧ ∃ v, r = .v v := by
  have hgI : ∀ (k : IntKind) (n : Int) (v : Value), (eqGuard op t y z (.int k n) v).run P w = .ok () w := fun k n v => by rw [eqGuard_at_int]; rfl
  have hgS : ∀ (s : ByteArray) (v : Value), (eqGuard op t y z (.string s) v).run P w = .ok () w := fun s v => by rw [eqGuard_at_string]; rfl
  unfold aBin at h
  split at h
  · next k a k' b =>
    have key : ∀ q : Value, (binOp op t (.int k a) (.int k' b)).run P w = .ok q w → r = .v q → (do eqGuard op t y z (conc x (.v (.int k a))) (conc x (.v (.int k' b))); binOp op t (conc x (.v (.int k a))) (conc x (.v (.int k' b)))).run P w = .ok (conc x r) w ∧ ∃ v, r = .v v := by
      rintro q hq rfl
      exact ⟨by simp only [conc, Sem.run_bind, hgI, Result.andThen_ok, hq], _, rfl⟩
    have sh : ∀ q, aShift op k a b = some q → r = .v q → _ := fun q hq hr => key q (aShift_sound hq) hr
    split at h
    · cases hr : aShift .shl k a b with
      | none => rw [hr] at h; cases h
      | some q => rw [hr] at h; injection h with h; exact sh q hr h.symm
    · cases hr : aShift .shr k a b with
      | none => rw [hr] at h; cases h
      | some q => rw [hr] at h; injection h with h; exact sh q hr h.symm
    · split at h
      · next hk =>
        subst hk
        cases hr : aInt op k a b with
        | none => rw [hr] at h; cases h
        | some q => rw [hr] at h; injection h with h; exact key q (aInt_sound hr) h.symm
      · cases h
  · next a b =>
    cases hr : aStr op a b with
    | none => rw [hr] at h; cases h
    | some q =>
      rw [hr] at h
      injection h with h
      subst h
      exact ⟨by simp only [conc, Sem.run_bind, hgS, Result.andThen_ok, aStr_sound hr], _, rfl⟩
  · next hn1 hn2 =>
    have hg : ∀ e, aEq P t a b = some e → (eqGuard op t y z (conc x a) (conc x b)).run P w = .ok () w ∧ ∀ (o : BinOp) (s : Sem Value), o = .eql ∨ o = .neq → binOp o t (conc x a) (conc x b) = s → binOp o t (conc x a) (conc x b) = match o with | .eql => (do pure (.bool (← Op.equal t (conc x a) (conc x b)))) | _ => (do pure (.bool (!(← Op.equal t (conc x a) (conc x b))))) := by
      intro e he
      cases hu : P.underlying t with
      | none => simp only [aEq, hu] at he; cases he
      | some u =>
        simp only [aEq, hu] at he
        cases u <;> simp only at he
        all_goals first
          | (cases he; done)
          | (split at he <;> cases he <;> refine ⟨by simp only [conc]; unfold eqGuard; split <;> simp, ?_⟩ <;> rintro o s (rfl | rfl) _ <;> simp [conc, binOp])
    have hb : ∀ e, aEq P t a b = some e → (binOp .eql t (conc x a) (conc x b)).run P w = .ok (.bool e) w ∧ (binOp .neq t (conc x a) (conc x b)).run P w = .ok (.bool (!e)) w := by
      intro e he
      have hq : (Op.equal t (conc x a) (conc x b)).run P w = .ok e w := aEq_sound 9999 he
      refine ⟨?_, ?_⟩
      · rw [(hg e he).2 .eql _ (.inl rfl) rfl]; simp [hq]
      · rw [(hg e he).2 .neq _ (.inr rfl) rfl]; simp [hq]
    split at h
    · cases he : aEq P t a b with
      | none => rw [he] at h; cases h
      | some e =>
        rw [he] at h
        injection h with h
        subst h
        exact ⟨by simp only [Sem.run_bind, (hg e he).1, Result.andThen_ok, (hb e he).1, conc], _, rfl⟩
    · cases he : aEq P t a b with
      | none => rw [he] at h; cases h
      | some e =>
        rw [he] at h
        injection h with h
        subst h
        exact ⟨by simp only [Sem.run_bind, (hg e he).1, Result.andThen_ok, (hb e he).2, conc], _, rfl⟩
    · cases h
end
end Go.Proofs.YtklanoppbbaolaaGreat
