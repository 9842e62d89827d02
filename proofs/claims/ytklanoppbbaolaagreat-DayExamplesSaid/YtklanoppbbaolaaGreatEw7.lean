/- A closed run: the operations that neither read nor turn memory: soundness. No program is named here. -/
import Derived.Test.YtklanoppbbaolaaGreatEw6
namespace Go.Proofs.YtklanoppbbaolaaGreat
open Go Go.RowKit
set_option linter.unusedVariables false
set_option linter.unusedSimpArgs false
section
variable {P : Program} {x : Gh} {L : Nat → Prop} {w : World} {T : Tr AV} {ρ : Operand → Value}
theorem concL_len (x : Gh) (l : List AV) : (concL x l).length = l.length := by rw [concL_map, List.length_map]
theorem part_sound {t : TypeId} {cs : List AV} {off : Nat} {r : AV} (h : (match agT P t, szT P t with
      | some true, some n => match Nat.ble (off + n) (lenL cs) with
        | true => some (.agg (takeN n (dropN off cs)))
        | false => none
      | some false, some _ => nthL cs off
      | _, _ => none) = some r) (hok : okL x L cs) : (part t (concL x cs).toArray off).run P w = .ok (conc x r) w ∧ r.ok x L := by
  split at h
  · next n ha hs =>
    split at h
    · next q =>
      injection h with h
      subst h
      rw [takeN_eq, dropN_eq]
      refine ⟨?_, ?_⟩
      · simp only [part, Sem.run_bind, run_isAggA ha, Result.andThen_ok, if_true, run_sizeOfA hs, Sem.run_pure, conc, concL_map]
        congr 2
        apply Array.ext'
        simp [List.map_take, List.map_drop]
      · rw [AV.ok]
        exact okL_iff.2 fun a ha => okL_iff.1 hok a (List.mem_of_mem_drop (List.mem_of_mem_take ha))
    · cases h
  · next n ha hs =>
    rw [nthL_eq] at h
    refine ⟨?_, okL_iff.1 hok r (List.mem_of_getElem? h)⟩
    have : (concL x cs).toArray[off]? = some (conc x r) := by rw [concL_map]; simp [h]
    simp only [part, Sem.run_bind, run_isAggA ha, Result.andThen_ok, Bool.false_eq_true, if_false, this, Sem.run_pure]
  · cases h
theorem aField_sound {t : TypeId} {a r : AV} {f : Nat} (h : aField P t a f = some r) (ha : a.ok x L) : (Instr.field t (conc x a) f).run P w = .ok (conc x r) w ∧ r.ok x L := by
  unfold aField at h
  split at h
  · next fs cs hu =>
    rw [nthL_eq] at h
    cases hf : fs.toList[f]? with
    | none => rw [hf] at h; cases h
    | some fd =>
      rw [hf] at h
      dsimp only at h
      rw [AV.ok] at ha
      obtain ⟨h1, h2⟩ := part_sound (w := w) h ha
      have hf' : fs[f]? = some fd := by simpa using hf
      refine ⟨?_, h2⟩
      simp only [Instr.field, Sem.run_bind, run_underlying hu, Result.andThen_ok, hf', asAgg, conc, Sem.run_pure, h1]
  · cases h
theorem mem_opr {o : Oper} {y : Operand} {l : List Operand} (hop : OpR x L T ρ o.op.operands.toList) (h : o.op.operands.toList = l) (hy : y ∈ l) {a : AV} (ha : evO T y = some a) : ρ y = conc x a ∧ a.ok x L := hop y (h ▸ hy) a ha
theorem index_place {k : IntKind} {j n : Nat} (h : j < n) : (0 : Int) ≤ Int.ofNat j ∧ Int.ofNat j < (n : Int) := ⟨by simp, by simp; omega⟩
theorem aPure_sound {o : Oper} {r : AV} (h : aPure P T o = some r) (hop : OpR x L T ρ o.op.operands.toList) : (execOp ρ o).run P w = .ok (.value (conc x r)) w ∧ r.ok x L := by
  have mem : ∀ (l : List Operand), o.op.operands.toList = l → ∀ y ∈ l, ∀ a, evO T y = some a → ρ y = conc x a ∧ a.ok x L := fun l h y hy a ha => hop y (h ▸ hy) a ha
  unfold aPure at h
  split at h
  · next y ho =>
    obtain ⟨h1, h2⟩ := mem [y] (by rw [ho]; rfl) y (by simp) r h
    exact ⟨by simp only [execOp, ho, h1, Sem.run_pure], h2⟩
  · next y ho =>
    obtain ⟨h1, h2⟩ := mem [y] (by rw [ho]; rfl) y (by simp) r h
    exact ⟨by simp only [execOp, ho, h1, Sem.run_pure], h2⟩
  · next c a b ho =>
    have hm := mem [c, a, b] (by rw [ho]; rfl)
    split at h
    · next hc =>
      obtain ⟨h1, h2⟩ := hm a (by simp) r h
      exact ⟨by simp [execOp, ho, (hm c (by simp) _ hc).1, conc, asBool, h1], h2⟩
    · next hc =>
      obtain ⟨h1, h2⟩ := hm b (by simp) r h
      exact ⟨by simp [execOp, ho, (hm c (by simp) _ hc).1, conc, asBool, h1], h2⟩
    · cases h
  · next s y f ho =>
    have hm := mem [y] (by rw [ho]; rfl)
    split at h
    · next b i fs hy hu =>
      rw [nthL_eq] at h
      cases hf : fs.toList[f]? with
      | none => rw [hf] at h; cases h
      | some fd =>
        rw [hf] at h
        dsimp only at h
        split at h
        · next n hs =>
          injection h with h
          subst h
          obtain ⟨h1, h2⟩ := hm y (by simp) _ hy
          have hf' : fs[f]? = some fd := by simpa using hf
          refine ⟨?_, by rw [AV.ok] at *; exact h2⟩
          simp only [execOp, ho, h1, conc]
          refine exec_v ?_
          simp only [Instr.fieldAt, Sem.run_bind, run_underlying hu, Result.andThen_ok, hf', Instr.sureAddr, Sem.run_pure, fieldPlace, run_sizeOfA hs, Nat.succ_ne_zero, if_false, addr_add]
        · cases h
    · cases h
  · next t y i ho =>
    have hm := mem [y, i] (by rw [ho]; rfl)
    split at h
    · next b q c n iv e hy hi hu =>
      split at h
      · next j sz hj hs =>
        split at h
        · next hlt =>
          injection h with h
          subst h
          obtain ⟨k, rfl⟩ := toI_sound hj
          have hjn : j < n := by simpa [Nat.blt_eq] using hlt
          obtain ⟨h1, h2⟩ := hm y (by simp) _ hy
          obtain ⟨h3, _⟩ := hm i (by simp) _ hi
          refine ⟨?_, by rw [AV.ok] at *; exact h2.1⟩
          simp only [execOp, ho, h1, h3, conc]
          refine exec_v ?_
          have := index_place (k := k) hjn
          simp [Instr.indexAt, asIntOf, run_underlying hu, run_sizeOfA hs, hjn, addr_add]
        · cases h
      · cases h
    · next b q n c iv e hy hi hu =>
      split at h
      · next j sz hj hs =>
        split at h
        · next hlt =>
          injection h with h
          subst h
          obtain ⟨k, rfl⟩ := toI_sound hj
          have hjn : j < n := by simpa [Nat.blt_eq] using hlt
          obtain ⟨h1, h2⟩ := hm y (by simp) _ hy
          obtain ⟨h3, _⟩ := hm i (by simp) _ hi
          refine ⟨?_, by rw [AV.ok] at *; exact h2⟩
          simp only [execOp, ho, h1, h3, conc]
          refine exec_v ?_
          simp [Instr.indexAt, asIntOf, run_underlying hu, run_sizeOfA hs, hjn, addr_add]
        · cases h
      · cases h
    · next b q iv n e hy hi hu =>
      split at h
      · next j sz hj hs =>
        split at h
        · next hlt =>
          injection h with h
          subst h
          obtain ⟨k, rfl⟩ := toI_sound hj
          have hjn : j < n := by simpa [Nat.blt_eq] using hlt
          obtain ⟨h1, h2⟩ := hm y (by simp) _ hy
          obtain ⟨h3, _⟩ := hm i (by simp) _ hi
          refine ⟨?_, by rw [AV.ok] at *; exact h2⟩
          simp only [execOp, ho, h1, h3, conc]
          refine exec_v ?_
          simp [Instr.indexAt, Instr.sureAddr, asIntOf, run_underlying hu, run_sizeOfA hs, hjn, addr_add]
        · cases h
      · cases h
    · cases h
  · next t ps ho =>
    cases hl : evP T ps.toList with
    | none => rw [hl] at h; cases h
    | some l =>
      rw [hl] at h
      dsimp only at h
      obtain ⟨h1, h2⟩ := evP_sound (x := x) (L := L) (ρ := ρ) ps.toList l (fun y hy a ha => hop y (by rw [ho]; simpa [Op.operands] using hy) a ha) hl
      obtain ⟨h3, h4⟩ := aBuild_sound (w := w) h h2
      refine ⟨?_, h4⟩
      simp only [execOp, ho]
      refine exec_v ?_
      rw [← h3, ← h1]
      congr 2
      apply Array.ext'
      simp
  · next t i ho =>
    split at h
    · next l hl =>
      rw [nthL_eq] at h
      obtain ⟨h1, h2⟩ := mem [t] (by rw [ho]; rfl) t (by simp) _ hl
      rw [AV.ok] at h2
      refine ⟨?_, okL_iff.1 h2 r (List.mem_of_getElem? h)⟩
      have : (concL x l).toArray[i]? = some (conc x r) := by rw [concL_map]; simp [h]
      simp only [execOp, ho, h1, conc]
      refine exec_v ?_
      simp only [Instr.extract, this, Sem.run_pure]
    · cases h
  · next op t y z t2 ho =>
    have hm := mem [y, z] (by rw [ho]; rfl)
    split at h
    · next a b ha hb =>
      obtain ⟨h1, v, rfl⟩ := aBin_sound (x := x) (w := w) (y := y) (z := z) h
      refine ⟨?_, by simp only [AV.ok]⟩
      simp only [execOp, ho, (hm y (by simp) _ ha).1, (hm z (by simp) _ hb).1]
      exact exec_v h1
    · cases h
  · next op t y ho =>
    have hm := mem [y] (by rw [ho]; rfl)
    split at h
    · next a ha =>
      obtain ⟨h1, h2⟩ := aUn_sound (x := x) (w := w) (L := L) (P := P) h
      refine ⟨?_, h2⟩
      simp only [execOp, ho, (hm y (by simp) _ ha).1]
      exact exec_v h1
    · cases h
  · next s d y ho =>
    have hm := mem [y] (by rw [ho]; rfl)
    split at h
    · next a ha =>
      obtain ⟨h1, h2⟩ := aConv_sound (x := x) (w := w) (L := L) (P := P) h
      refine ⟨?_, h2⟩
      simp only [execOp, ho, (hm y (by simp) _ ha).1]
      exact exec_v h1
    · cases h
  · next t y lo hi mx ho =>
    have hm : OpR x L T ρ (y :: (lo.toList ++ hi.toList ++ mx.toList)) := fun z hz a ha => hop z (by rw [ho]; simpa [Op.operands] using hz) a ha
    split at h
    · next a l h' m ha hl hh hmx =>
      have e1 := hm y (by simp) a ha
      have e2 := evOo_sound (x := x) (L := L) (ρ := ρ) (y := lo) (fun z hz => hm z (by simp at hz ⊢; simp [hz])) hl
      have e3 := evOo_sound (x := x) (L := L) (ρ := ρ) (y := hi) (fun z hz => hm z (by simp at hz ⊢; simp [hz])) hh
      have e4 := evOo_sound (x := x) (L := L) (ρ := ρ) (y := mx) (fun z hz => hm z (by simp at hz ⊢; simp [hz])) hmx
      obtain ⟨h1, h2⟩ := aSlice_sound (x := x) (w := w) (P := P) h e1.2
      refine ⟨?_, h2⟩
      simp only [execOp, ho, e1.1, e2, e3, e4]
      exact exec_v h1
    · cases h
  · next y ho =>
    have hm := mem [y] (by rw [ho]; rfl)
    split at h
    · next b q hy =>
      injection h with h
      subst h
      obtain ⟨h1, h2⟩ := hm y (by simp) _ hy
      exact ⟨by simp [execOp, ho, h1, conc], h2⟩
    · next f a b hy =>
      injection h with h
      subst h
      obtain ⟨h1, h2⟩ := hm y (by simp) _ hy
      exact ⟨by simp [execOp, ho, h1, conc], h2⟩
    · next b hy =>
      injection h with h
      subst h
      obtain ⟨h1, h2⟩ := hm y (by simp) _ hy
      exact ⟨by simp [execOp, ho, h1, conc], h2⟩
    · cases h
  · next t y f ho =>
    have hm := mem [y] (by rw [ho]; rfl)
    split at h
    · next a ha =>
      obtain ⟨e1, e2⟩ := hm y (by simp) _ ha
      obtain ⟨h1, h2⟩ := aField_sound (x := x) (w := w) (L := L) (P := P) h e2
      refine ⟨?_, h2⟩
      simp only [execOp, ho, e1]
      exact exec_v h1
    · cases h
  · next t y i ho =>
    have hm := mem [y, i] (by rw [ho]; rfl)
    split at h
    · next s iv hy hi hu =>
      split at h
      · next j hj =>
        rw [nthL_eq] at h
        split at h
        · next b hb =>
          injection h with h
          subst h
          obtain ⟨k, rfl⟩ := toI_sound hj
          refine ⟨?_, by simp only [AV.ok]⟩
          simp only [execOp, ho, (hm y (by simp) _ hy).1, (hm i (by simp) _ hi).1, conc]
          refine exec_v ?_
          obtain ⟨hlt, hv⟩ := List.getElem?_eq_some_iff.1 hb
          have hlt' : j < s.size := by simpa using hlt
          have hs : s[j]? = some b := by
            rw [getElem?_pos s j hlt', ← hv]
            rfl
          simp [Instr.index, asIntOf, run_underlying hu, hs]
        · cases h
      · cases h
    · cases h
  · next f fst caps ho =>
    have hm : OpR x L T ρ (fst.toList ++ caps.toList) := fun z hz a ha => hop z (by rw [ho]; simpa [Op.operands] using hz) a ha
    split at h
    · next a b ha hb =>
      injection h with h
      subst h
      obtain ⟨h1, h2⟩ := evL_sound fst.toList a (fun z hz => hm z (by simp at hz ⊢; simp [hz])) ha
      obtain ⟨h3, h4⟩ := evL_sound caps.toList b (fun z hz => hm z (by simp at hz ⊢; simp [hz])) hb
      refine ⟨?_, by rw [AV.ok]; exact ⟨h2, h4⟩⟩
      simp only [execOp, ho]
      refine exec_v ?_
      simp only [Instr.makeFunc, Sem.run_pure, conc, ← h1, ← h3]
      congr 2 <;> apply Array.ext' <;> simp
    · cases h
  · next t y ho =>
    have hm := mem [y] (by rw [ho]; rfl)
    split at h
    · next a d ha hu =>
      obtain ⟨e1, e2⟩ := hm y (by simp) _ ha
      split at h
      · cases h
      · next hd =>
        injection h with h
        subst h
        refine ⟨?_, by rw [AV.ok]; exact e2⟩
        simp only [execOp, ho, e1]
        refine exec_v ?_
        simp only [Instr.makeInterface, Sem.run_bind, run_underlying hu, Result.andThen_ok, conc]
        rfl
    · cases h
  · next c ho =>
    have hm : OpR x L T ρ c.args.toList := fun z hz a ha => hop z (by rw [ho]; simp [Op.operands, Call.operands]; exact .inr (by simpa using hz)) a ha
    have hmap : ∀ l, evL T c.args.toList = some l → c.args.map ρ = (concL x l).toArray := fun l hl => by
      apply Array.ext'
      rw [Array.toList_map, (evL_sound c.args.toList l hm hl).1]
    split at h
    · next hcl =>
      split at h
      · next a t rest hl hat =>
        have hat' : c.argTypes[0]? = some t := by rw [← Array.getElem?_toList, hat]; rfl
        have key : ∀ n : Nat, (Builtin.len_ c.argTypes o.type (c.args.map ρ)).run P w = .ok (goInt n) w → (execOp ρ o).run P w = .ok (.value (goInt n)) w := fun n hn => by
          simp only [execOp, ho, resolve, hcl, Sem.run_bind, Sem.run_pure, Result.andThen_ok, invoke, builtin, hn]
        have hb : (c.args.map ρ)[0]? = some (conc x a) := by rw [hmap _ hl]; simp [concL]
        split at h
        · next s hu =>
          injection h with h
          subst h
          exact ⟨by rw [conc]; exact key _ (by simp [Builtin.len_, hat', hb, run_underlying hu, conc]), by simp only [AV.ok]⟩
        · next e q n cp hu =>
          injection h with h
          subst h
          exact ⟨by rw [conc]; exact key _ (by simp [Builtin.len_, hat', hb, run_underlying hu, conc]), by simp only [AV.ok]⟩
        · next e b q e' n hu =>
          injection h with h
          subst h
          exact ⟨by rw [conc]; exact key _ (by simp [Builtin.len_, hat', hb, run_underlying hu, conc]), by simp only [AV.ok]⟩
        · next e b q n cp hu =>
          injection h with h
          subst h
          exact ⟨by rw [conc]; exact key _ (by simp [Builtin.len_, hat', hb, run_underlying hu, conc]), by simp only [AV.ok]⟩
        · cases h
      · cases h
    · next hcl =>
      split at h
      · next k n l hl =>
        obtain ⟨h1, h2⟩ := aMin_sound (x := x) (L := L) (P := P) (w := w) l n r h
        refine ⟨?_, h2⟩
        simp only [execOp, ho, resolve, hcl, Sem.run_bind, Sem.run_pure, Result.andThen_ok, invoke, builtin, hmap _ hl, Builtin.min_, concL, conc, h1]
      · cases h
    · next hcl =>
      split at h
      · next k n l hl =>
        obtain ⟨h1, h2⟩ := aMax_sound (x := x) (L := L) (P := P) (w := w) l n r h
        refine ⟨?_, h2⟩
        simp only [execOp, ho, resolve, hcl, Sem.run_bind, Sem.run_pure, Result.andThen_ok, invoke, builtin, hmap _ hl, Builtin.max_, concL, conc, h1]
      · cases h
    · cases h
  · cases h
end
end Go.Proofs.YtklanoppbbaolaaGreat
