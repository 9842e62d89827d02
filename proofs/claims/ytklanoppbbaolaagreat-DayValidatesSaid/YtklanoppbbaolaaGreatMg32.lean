/- Texts in one: Ew6, Ew7. -/
import Derived.Test.YtklanoppbbaolaaGreatMg31
/- A closed run: the operations that neither read nor turn memory, all of them. No program is named here. -/
namespace Go.Proofs.YtklanoppbbaolaaGreat
open Go Go.RowKit
set_option linter.unusedVariables false
set_option linter.unusedSimpArgs false
section
variable {P : Program} {x : Gh} {L : Nat → Prop} {w : World} {T : Tr AV} {ρ : Operand → Value}
theorem run_sizeOfA {t : TypeId} {n : Nat} (h : szT P t = some n) : (sizeOf t).run P w = .ok n w := by
  unfold szT at h
  cases hi : P.info? t with
  | none => rw [hi] at h; cases h
  | some i =>
    rw [hi] at h
    injection h with h
    simp [sizeOf, typeInfo, hi, h]
theorem szT_info {t : TypeId} {n : Nat} (h : szT P t = some n) : ∃ i, P.info? t = some i ∧ i.size = n := by
  unfold szT at h
  cases hi : P.info? t with
  | none => rw [hi] at h; cases h
  | some i => rw [hi] at h; injection h with h; exact ⟨i, rfl, h⟩
theorem zeroT_info {t : TypeId} {z : Value} (h : zeroT P t = some z) : ∃ i, P.info? t = some i ∧ i.zero = some z := by
  unfold zeroT at h
  cases hi : P.info? t with
  | none => rw [hi] at h; cases h
  | some i => rw [hi] at h; exact ⟨i, rfl, h⟩
theorem run_zeroA {t : TypeId} {z : Value} (h : zeroT P t = some z) : (zeroValue t).run P w = .ok z w := by
  obtain ⟨i, hi, hz⟩ := zeroT_info h
  simp [zeroValue, typeInfo, hi, hz]
theorem run_isAggA {t : TypeId} {b : Bool} (h : agT P t = some b) : (isAgg t).run P w = .ok b w := by
  unfold agT at h
  cases hu : P.underlying t with
  | none => rw [hu] at h; cases h
  | some d =>
    rw [hu] at h
    simp only [isAgg, run_underlying hu, Sem.run_bind, Result.andThen]
    cases d <;> injection h with h <;> subst h <;> rfl
theorem beq_ne {a b : Nat} (h : a ≠ b) : Nat.beq a b = false := by
  cases h' : Nat.beq a b with
  | false => rfl
  | true => exact absurd (Nat.eq_of_beq_eq_true h') h
theorem addr_add (g o j : Nat) : (⟨g, o, none⟩ : Addr).add j = ⟨g, o + j, none⟩ := by unfold Addr.add; split <;> simp_all
theorem aUn_sound {op : UnOp} {a r : AV} (h : aUn op a = some r) : (Op.unary op (conc x a)).run P w = .ok (conc x r) w ∧ r.ok x L := by
  unfold aUn at h
  split at h
  · split at h
    · injection h with h; subst h; exact ⟨by simp [conc, Op.unary, Op.intArith], by simp only [AV.ok]⟩
    · cases h
  · split at h
    · injection h with h; subst h; exact ⟨by simp [conc, Op.unary], by simp only [AV.ok]⟩
    · cases h
  · cases h
theorem aConv_sound {src dst : TypeId} {a r : AV} (h : aConv P src dst a = some r) : (convert src dst (conc x a)).run P w = .ok (conc x r) w ∧ r.ok x L := by
  unfold aConv at h
  split at h
  · next k a =>
    split at h
    · next d k' hs hd =>
      injection h with h
      subst h
      exact ⟨by simp [convert, conc, run_underlying hs, run_underlying hd, Conv.intToInt], by simp only [AV.ok]⟩
    · cases h
  · next s =>
    split at h
    · next d hs hd =>
      injection h with h
      subst h
      exact ⟨by cases d <;> simp [convert, conc, run_underlying hs, run_underlying hd], by simp only [AV.ok]⟩
    · cases h
  · cases h
theorem toI_sound {a : AV} {n : Nat} (h : toI a = some n) : ∃ k, a = .v (.int k (Int.ofNat n)) := by
  unfold toI at h
  split at h
  · injection h with h; subst h; exact ⟨_, rfl⟩
  · cases h
theorem bound_sound {k : IntKind} {n y : Nat} {c : BoundsCode} (h : n ≤ y) : (Instr.sliceBound (.int k (Int.ofNat n)) y c).run P w = .ok n w := by
  have : (0 : Int) ≤ Int.ofNat n ∧ Int.ofNat n ≤ (y : Int) := ⟨by simp, by simp; omega⟩
  simp [Instr.sliceBound, asIntOf, this]
  omega
theorem low_sound {lo : Option AV} {l y : Nat} {c : BoundsCode} (h : lowI lo = some l) (hl : l ≤ y) : (match lo.map (conc x) with | some v => Instr.sliceBound v y c | none => pure 0).run P w = .ok l w := by
  cases lo with
  | none => simp only [lowI] at h; injection h with h; subst h; rfl
  | some a =>
    obtain ⟨k, rfl⟩ := toI_sound h
    simp only [Option.map_some, conc]
    exact bound_sound hl
theorem bounds_sound {b : Bool} {len cap : Nat} {lo hi : Option AV} {l h : Nat} (hlo : lowI lo = some l) (hhi : highI len hi = some h) (h1 : l ≤ h) (h2 : h ≤ cap) :
    (Instr.sliceBounds b len cap (lo.map (conc x)) (hi.map (conc x)) none).run P w = .ok (l, h, cap) w := by
  have hl := fun c => low_sound (P := P) (w := w) (x := x) (c := c) hlo h1
  cases hi with
  | none =>
    simp only [highI] at hhi
    injection hhi with hhi
    subst hhi
    cases lo with
    | none =>
      simp only [lowI] at hlo
      injection hlo with hlo
      subst hlo
      simp [Instr.sliceBounds]
    | some a =>
      obtain ⟨k, rfl⟩ := toI_sound hlo
      have := bound_sound (P := P) (w := w) (k := k) (c := .sliceB) h1
      simp only [Instr.sliceBounds, Option.map_some, Option.map_none, conc, Sem.run_bind, Sem.run_pure, Result.andThen_ok, Option.isSome, Bool.false_eq_true, if_false, this]
  | some d =>
    obtain ⟨k, rfl⟩ := toI_sound hhi
    have e2 := fun c => bound_sound (P := P) (w := w) (k := k) (c := c) h2
    cases lo with
    | none =>
      simp only [lowI] at hlo
      injection hlo with hlo
      subst hlo
      simp only [Instr.sliceBounds, Option.map_some, Option.map_none, conc, Sem.run_bind, Sem.run_pure, Result.andThen_ok, e2]
    | some a =>
      obtain ⟨k', rfl⟩ := toI_sound hlo
      have e1 := fun c => bound_sound (P := P) (w := w) (k := k') (c := c) h1
      simp only [Instr.sliceBounds, Option.map_some, Option.map_none, conc, Sem.run_bind, Sem.run_pure, Result.andThen_ok, e2, e1]
theorem aSlice_sound {t : TypeId} {a r : AV} {lo hi mx : Option AV} (h : aSlice P t a lo hi mx = some r) (ha : a.ok x L) : (Instr.sliceAt t (conc x a) (lo.map (conc x)) (hi.map (conc x)) (mx.map (conc x))).run P w = .ok (conc x r) w ∧ r.ok x L := by
  unfold aSlice at h
  cases mx with
  | some m => cases h
  | none =>
    dsimp only at h
    split at h
    · next e b o c n hu =>
      rw [AV.ok] at ha
      split at h
      · next sz l h' hs hlo hhi =>
        split at h
        · next q1 q2 q3 =>
          injection h with h
          subst h
          have e1 := Nat.le_of_ble_eq_true q1
          have e2 := Nat.le_of_ble_eq_true q2
          have hb := bounds_sound (P := P) (w := w) (x := x) (b := true) (cap := (x b).2 - c) hlo hhi e1 (by omega)
          refine ⟨?_, ?_⟩
          · simp only [Instr.sliceAt, Instr.slice, run_underlying hu, Sem.run_bind, Result.andThen_ok, conc, Option.map_none, hb, run_sizeOfA hs, Sem.run_pure]
            congr 2
            · split
              · next hm =>
                have : l = 0 := by
                  rw [Bool.or_eq_true, Nat.blt_eq] at q3
                  rcases q3 with q3 | q3
                  · omega
                  · exact Nat.eq_of_beq_eq_true q3
                subst this
                simp
              · simp [addr_add]
            · omega
          · rw [AV.ok]
            exact ⟨ha.1, by omega⟩
        · cases h
      · cases h
    · next e b o n c hu =>
      split at h
      · next sz l h' hs hlo hhi =>
        split at h
        · next q1 q2 =>
          injection h with h
          subst h
          have e1 := Nat.le_of_ble_eq_true q1
          have e2 := Nat.le_of_ble_eq_true q2
          have hb := bounds_sound (P := P) (w := w) (x := x) (b := true) hlo hhi e1 e2
          refine ⟨?_, by rw [AV.ok] at *; exact ha⟩
          simp only [Instr.sliceAt, Instr.slice, run_underlying hu, Sem.run_bind, Result.andThen_ok, conc, Option.map_none, hb, run_sizeOfA hs, Sem.run_pure]
          congr 2
          by_cases hm : c = l
          · subst hm; simp
          · have : Nat.beq c l = false := beq_ne hm
            simp [addr_add, hm, this]
        · cases h
      · cases h
    · next e hu =>
      split at h
      · next sz hs hlo hhi =>
        injection h with h
        subst h
        have hb := bounds_sound (P := P) (w := w) (x := x) (b := true) (cap := 0) hlo hhi (Nat.le_refl _) (Nat.le_refl _)
        refine ⟨?_, by simp only [AV.ok]⟩
        simp only [Instr.sliceAt, Instr.slice, run_underlying hu, Sem.run_bind, Result.andThen_ok, conc, Option.map_none, hb, run_sizeOfA hs, Sem.run_pure]
        simp
      · cases h
    · next n e b o hu =>
      split at h
      · next sz l h' hs hlo hhi =>
        split at h
        · next q1 q2 =>
          injection h with h
          subst h
          have e1 := Nat.le_of_ble_eq_true q1
          have e2 := Nat.le_of_ble_eq_true q2
          have hb := bounds_sound (P := P) (w := w) (x := x) (b := false) hlo hhi e1 e2
          refine ⟨?_, by rw [AV.ok] at *; exact ha⟩
          simp only [Instr.sliceAt, Instr.sureAddr, run_underlying hu, Sem.run_bind, Result.andThen_ok, conc, Option.map_none, hb, run_sizeOfA hs, Sem.run_pure]
          congr 2
          by_cases hm : n = l
          · subst hm; simp
          · have : Nat.beq n l = false := beq_ne hm
            simp [addr_add, hm, this]
        · cases h
      · cases h
    · cases h
theorem places_sound : ∀ (fs : List Field) (pl : List (Nat × Nat)), placesL P fs = some pl → fs.mapM (fun f => (P.info? f.type).map fun i => (f.offset, i.size)) = some pl
  | [], pl, h => by rw [placesL] at h; injection h with h; subst h; rfl
  | f :: fs, pl, h => by
    rw [placesL] at h
    cases hs : szT P f.type with
    | none => rw [hs] at h; cases h
    | some n =>
      cases hr : placesL P fs with
      | none => rw [hs, hr] at h; cases h
      | some r =>
        rw [hs, hr] at h
        injection h with h
        subst h
        obtain ⟨i, hi, hn⟩ := szT_info hs
        simp [List.mapM_cons, hi, hn, places_sound fs r hr]
theorem rowP_at (sz : Nat) : ∀ (n k i : Nat) (p : Nat × Nat), (rowP sz n k)[i]? = some p → p = ((k + i) * sz, sz)
  | 0, k, i, p, h => by simp [rowP] at h
  | n + 1, k, 0, p, h => by simp [rowP] at h; subst h; rfl
  | n + 1, k, i + 1, p, h => by
    simp only [rowP, List.getElem?_cons_succ] at h
    rw [rowP_at sz n (k + 1) i p h]
    congr 2
    omega
theorem aBuild_sound {t : TypeId} {ps : List (Nat × AV)} {r : AV} (h : aBuild P t ps = some r) (hok : ∀ p ∈ ps, p.2.ok x L) : (Instr.build t (ps.map fun p => (p.1, conc x p.2)).toArray).run P w = .ok (conc x r) w ∧ r.ok x L := by
  unfold aBuild at h
  split at h
  · next z fs hz hu =>
    cases hp : placesL P fs.toList with
    | none => rw [hp] at h; cases h
    | some pl =>
      rw [hp] at h
      dsimp only at h
      cases hs : setF (z.cells.toList.map .v) pl ps with
      | none => rw [hs] at h; cases h
      | some cs =>
        rw [hs] at h
        injection h with h
        subst h
        obtain ⟨it, hit, hzz⟩ := zeroT_info hz
        obtain ⟨cells, f1, f2, f3, _⟩ := fill_sound (x := x) (L := L) (pl.toArray[·]?) pl (fun i p hi => by simpa using hi) ps _ cs z.cells (cells_v _ x).symm (ok_vs _) hok hs
        refine ⟨?_, by rw [AV.ok]; exact f3⟩
        have hb : P.built t (ps.map fun p => (p.1, conc x p.2)).toArray.toList = some cells := by
          unfold Program.built
          simp only [hit, hu, hzz, places_sound _ _ hp]
          exact f1
        rw [run_build w t _ cells hb]
        simp only [conc, concL_map, ← f2]
  · next z n e hz hu =>
    cases hsz : szT P e with
    | none => rw [hsz] at h; cases h
    | some sz =>
      rw [hsz] at h
      dsimp only at h
      cases hs : setF (z.cells.toList.map .v) (rowP sz n 0) ps with
      | none => rw [hs] at h; cases h
      | some cs =>
        rw [hs] at h
        injection h with h
        subst h
        obtain ⟨it, hit, hzz⟩ := zeroT_info hz
        obtain ⟨ie, hie, hsi⟩ := szT_info hsz
        obtain ⟨cells, f1, f2, f3, _⟩ := fill_sound (x := x) (L := L) (fun i => some (i * ie.size, ie.size)) (rowP sz n 0) (fun i p hi => by rw [rowP_at sz n 0 i p hi, hsi, Nat.zero_add]) ps _ cs z.cells (cells_v _ x).symm (ok_vs _) hok hs
        refine ⟨?_, by rw [AV.ok]; exact f3⟩
        have hb : P.built t (ps.map fun p => (p.1, conc x p.2)).toArray.toList = some cells := by
          unfold Program.built
          simp only [hit, hu, hzz, hie]
          exact f1
        rw [run_build w t _ cells hb]
        simp only [conc, concL_map, ← f2]
  · cases h
theorem aMin_sound {k : IntKind} : ∀ (l : List AV) (n : Int) (r : AV), aMin k n l = some r → ((concL x l).foldlM Builtin.min2 (.int k n)).run P w = .ok (conc x r) w ∧ r.ok x L
  | [], n, r, h => by rw [aMin] at h; injection h with h; subst h; exact ⟨by simp [concL, conc], by simp only [AV.ok]⟩
  | a :: l, n, r, h => by
    unfold aMin at h
    split at h
    · next h1 => cases h1
    · next m l' h1 =>
      injection h1 with h1 h2
      subst h1 h2
      simp only [concL, conc, List.foldlM_cons, Builtin.min2, Sem.run_bind, Sem.run_pure, Result.andThen_ok]
      exact aMin_sound l _ r h
    · cases h
theorem aMax_sound {k : IntKind} : ∀ (l : List AV) (n : Int) (r : AV), aMax k n l = some r → ((concL x l).foldlM Builtin.max2 (.int k n)).run P w = .ok (conc x r) w ∧ r.ok x L
  | [], n, r, h => by rw [aMax] at h; injection h with h; subst h; exact ⟨by simp [concL, conc], by simp only [AV.ok]⟩
  | a :: l, n, r, h => by
    unfold aMax at h
    split at h
    · next h1 => cases h1
    · next m l' h1 =>
      injection h1 with h1 h2
      subst h1 h2
      simp only [concL, conc, List.foldlM_cons, Builtin.max2, Sem.run_bind, Sem.run_pure, Result.andThen_ok]
      exact aMax_sound l _ r h
    · cases h
end
end Go.Proofs.YtklanoppbbaolaaGreat
/- A closed run: the operations that neither read nor turn memory: soundness. No program is named here. -/
namespace Go.Proofs.YtklanoppbbaolaaGreat
open Go Go.RowKit
set_option linter.unusedVariables false
set_option linter.unusedSimpArgs false
section
variable {P : Program} {x : Gh} {L : Nat → Prop} {w : World} {T : Tr AV} {ρ : Operand → Value}
theorem concL_len (x : Gh) (l : List AV) : (concL x l).length = l.length := by rw [concL_map, List.length_map]
theorem part_sound {t : TypeId} {cs : List AV} {off : Nat} {r : AV} (h : (match agT P t, szT P t with
      | some true, some n => match Nat.ble (off + n) (lenL cs) with
        | true => some (.agg (takeN n (dropN off cs)))
        | false => none
      | some false, some _ => nthL cs off
      | _, _ => none) = some r) (hok : okL x L cs) : (part t (concL x cs).toArray off).run P w = .ok (conc x r) w ∧ r.ok x L := by
  split at h
  · next n ha hs =>
    split at h
    · next q =>
      injection h with h
      subst h
      rw [takeN_eq, dropN_eq]
      refine ⟨?_, ?_⟩
      · simp only [part, Sem.run_bind, run_isAggA ha, Result.andThen_ok, if_true, run_sizeOfA hs, Sem.run_pure, conc, concL_map]
        congr 2
        apply Array.ext'
        simp [List.map_take, List.map_drop]
      · rw [AV.ok]
        exact okL_iff.2 fun a ha => okL_iff.1 hok a (List.mem_of_mem_drop (List.mem_of_mem_take ha))
    · cases h
  · next n ha hs =>
    rw [nthL_eq] at h
    refine ⟨?_, okL_iff.1 hok r (List.mem_of_getElem? h)⟩
    have : (concL x cs).toArray[off]? = some (conc x r) := by rw [concL_map]; simp [h]
    simp only [part, Sem.run_bind, run_isAggA ha, Result.andThen_ok, Bool.false_eq_true, if_false, this, Sem.run_pure]
  · cases h
theorem aField_sound {t : TypeId} {a r : AV} {f : Nat} (h : aField P t a f = some r) (ha : a.ok x L) : (Instr.field t (conc x a) f).run P w = .ok (conc x r) w ∧ r.ok x L := by
  unfold aField at h
  split at h
  · next fs cs hu =>
    rw [nthL_eq] at h
    cases hf : fs.toList[f]? with
    | none => rw [hf] at h; cases h
    | some fd =>
      rw [hf] at h
      dsimp only at h
      rw [AV.ok] at ha
      obtain ⟨h1, h2⟩ := part_sound (w := w) h ha
      have hf' : fs[f]? = some fd := by simpa using hf
      refine ⟨?_, h2⟩
      simp only [Instr.field, Sem.run_bind, run_underlying hu, Result.andThen_ok, hf', asAgg, conc, Sem.run_pure, h1]
  · cases h
theorem mem_opr {o : Oper} {y : Operand} {l : List Operand} (hop : OpR x L T ρ o.op.operands.toList) (h : o.op.operands.toList = l) (hy : y ∈ l) {a : AV} (ha : evO T y = some a) : ρ y = conc x a ∧ a.ok x L := hop y (h ▸ hy) a ha
theorem index_place {k : IntKind} {j n : Nat} (h : j < n) : (0 : Int) ≤ Int.ofNat j ∧ Int.ofNat j < (n : Int) := ⟨by simp, by simp; omega⟩
theorem aPure_sound {o : Oper} {r : AV} (h : aPure P T o = some r) (hop : OpR x L T ρ o.op.operands.toList) : (execOp ρ o).run P w = .ok (.value (conc x r)) w ∧ r.ok x L := by
  have mem : ∀ (l : List Operand), o.op.operands.toList = l → ∀ y ∈ l, ∀ a, evO T y = some a → ρ y = conc x a ∧ a.ok x L := fun l h y hy a ha => hop y (h ▸ hy) a ha
  unfold aPure at h
  split at h
  · next y ho =>
    obtain ⟨h1, h2⟩ := mem [y] (by rw [ho]; rfl) y (by simp) r h
    exact ⟨by simp only [execOp, ho, h1, Sem.run_pure], h2⟩
  · next y ho =>
    obtain ⟨h1, h2⟩ := mem [y] (by rw [ho]; rfl) y (by simp) r h
    exact ⟨by simp only [execOp, ho, h1, Sem.run_pure], h2⟩
  · next c a b ho =>
    have hm := mem [c, a, b] (by rw [ho]; rfl)
    split at h
    · next hc =>
      obtain ⟨h1, h2⟩ := hm a (by simp) r h
      exact ⟨by simp [execOp, ho, (hm c (by simp) _ hc).1, conc, asBool, h1], h2⟩
    · next hc =>
      obtain ⟨h1, h2⟩ := hm b (by simp) r h
      exact ⟨by simp [execOp, ho, (hm c (by simp) _ hc).1, conc, asBool, h1], h2⟩
    · cases h
  · next s y f ho =>
    have hm := mem [y] (by rw [ho]; rfl)
    split at h
    · next b i fs hy hu =>
      rw [nthL_eq] at h
      cases hf : fs.toList[f]? with
      | none => rw [hf] at h; cases h
      | some fd =>
        rw [hf] at h
        dsimp only at h
        split at h
        · next n hs =>
          injection h with h
          subst h
          obtain ⟨h1, h2⟩ := hm y (by simp) _ hy
          have hf' : fs[f]? = some fd := by simpa using hf
          refine ⟨?_, by rw [AV.ok] at *; exact h2⟩
          simp only [execOp, ho, h1, conc]
          refine exec_v ?_
          simp only [Instr.fieldAt, Sem.run_bind, run_underlying hu, Result.andThen_ok, hf', Instr.sureAddr, Sem.run_pure, fieldPlace, run_sizeOfA hs, Nat.succ_ne_zero, if_false, addr_add]
        · cases h
    · cases h
  · next t y i ho =>
    have hm := mem [y, i] (by rw [ho]; rfl)
    split at h
    · next b q c n iv e hy hi hu =>
      split at h
      · next j sz hj hs =>
        split at h
        · next hlt =>
          injection h with h
          subst h
          obtain ⟨k, rfl⟩ := toI_sound hj
          have hjn : j < n := by simpa [Nat.blt_eq] using hlt
          obtain ⟨h1, h2⟩ := hm y (by simp) _ hy
          obtain ⟨h3, _⟩ := hm i (by simp) _ hi
          refine ⟨?_, by rw [AV.ok] at *; exact h2.1⟩
          simp only [execOp, ho, h1, h3, conc]
          refine exec_v ?_
          have := index_place (k := k) hjn
          simp [Instr.indexAt, asIntOf, run_underlying hu, run_sizeOfA hs, hjn, addr_add]
        · cases h
      · cases h
    · next b q n c iv e hy hi hu =>
      split at h
      · next j sz hj hs =>
        split at h
        · next hlt =>
          injection h with h
          subst h
          obtain ⟨k, rfl⟩ := toI_sound hj
          have hjn : j < n := by simpa [Nat.blt_eq] using hlt
          obtain ⟨h1, h2⟩ := hm y (by simp) _ hy
          obtain ⟨h3, _⟩ := hm i (by simp) _ hi
          refine ⟨?_, by rw [AV.ok] at *; exact h2⟩
          simp only [execOp, ho, h1, h3, conc]
          refine exec_v ?_
          simp [Instr.indexAt, asIntOf, run_underlying hu, run_sizeOfA hs, hjn, addr_add]
        · cases h
      · cases h
    · next b q iv n e hy hi hu =>
      split at h
      · next j sz hj hs =>
        split at h
        · next hlt =>
          injection h with h
          subst h
          obtain ⟨k, rfl⟩ := toI_sound hj
          have hjn : j < n := by simpa [Nat.blt_eq] using hlt
          obtain ⟨h1, h2⟩ := hm y (by simp) _ hy
          obtain ⟨h3, _⟩ := hm i (by simp) _ hi
          refine ⟨?_, by rw [AV.ok] at *; exact h2⟩
          simp only [execOp, ho, h1, h3, conc]
          refine exec_v ?_
          simp [Instr.indexAt, Instr.sureAddr, asIntOf, run_underlying hu, run_sizeOfA hs, hjn, addr_add]
        · cases h
      · cases h
    · cases h
  · next t ps ho =>
    cases hl : evP T ps.toList with
    | none => rw [hl] at h; cases h
    | some l =>
      rw [hl] at h
      dsimp only at h
      obtain ⟨h1, h2⟩ := evP_sound (x := x) (L := L) (ρ := ρ) ps.toList l (fun y hy a ha => hop y (by rw [ho]; simpa [Op.operands] using hy) a ha) hl
      obtain ⟨h3, h4⟩ := aBuild_sound (w := w) h h2
      refine ⟨?_, h4⟩
      simp only [execOp, ho]
      refine exec_v ?_
      rw [← h3, ← h1]
      congr 2
      apply Array.ext'
      simp
  · next t i ho =>
    split at h
    · next l hl =>
      rw [nthL_eq] at h
      obtain ⟨h1, h2⟩ := mem [t] (by rw [ho]; rfl) t (by simp) _ hl
      rw [AV.ok] at h2
      refine ⟨?_, okL_iff.1 h2 r (List.mem_of_getElem? h)⟩
      have : (concL x l).toArray[i]? = some (conc x r) := by rw [concL_map]; simp [h]
      simp only [execOp, ho, h1, conc]
      refine exec_v ?_
      simp only [Instr.extract, this, Sem.run_pure]
    · cases h
  · next op t y z t2 ho =>
    have hm := mem [y, z] (by rw [ho]; rfl)
    split at h
    · next a b ha hb =>
      obtain ⟨h1, v, rfl⟩ := aBin_sound (x := x) (w := w) (y := y) (z := z) h
      refine ⟨?_, by simp only [AV.ok]⟩
      simp only [execOp, ho, (hm y (by simp) _ ha).1, (hm z (by simp) _ hb).1]
      exact exec_v h1
    · cases h
  · next op t y ho =>
    have hm := mem [y] (by rw [ho]; rfl)
    split at h
    · next a ha =>
      obtain ⟨h1, h2⟩ := aUn_sound (x := x) (w := w) (L := L) (P := P) h
      refine ⟨?_, h2⟩
      simp only [execOp, ho, (hm y (by simp) _ ha).1]
      exact exec_v h1
    · cases h
  · next s d y ho =>
    have hm := mem [y] (by rw [ho]; rfl)
    split at h
    · next a ha =>
      obtain ⟨h1, h2⟩ := aConv_sound (x := x) (w := w) (L := L) (P := P) h
      refine ⟨?_, h2⟩
      simp only [execOp, ho, (hm y (by simp) _ ha).1]
      exact exec_v h1
    · cases h
  · next t y lo hi mx ho =>
    have hm : OpR x L T ρ (y :: (lo.toList ++ hi.toList ++ mx.toList)) := fun z hz a ha => hop z (by rw [ho]; simpa [Op.operands] using hz) a ha
    split at h
    · next a l h' m ha hl hh hmx =>
      have e1 := hm y (by simp) a ha
      have e2 := evOo_sound (x := x) (L := L) (ρ := ρ) (y := lo) (fun z hz => hm z (by simp at hz ⊢; simp [hz])) hl
      have e3 := evOo_sound (x := x) (L := L) (ρ := ρ) (y := hi) (fun z hz => hm z (by simp at hz ⊢; simp [hz])) hh
      have e4 := evOo_sound (x := x) (L := L) (ρ := ρ) (y := mx) (fun z hz => hm z (by simp at hz ⊢; simp [hz])) hmx
      obtain ⟨h1, h2⟩ := aSlice_sound (x := x) (w := w) (P := P) h e1.2
      refine ⟨?_, h2⟩
      simp only [execOp, ho, e1.1, e2, e3, e4]
      exact exec_v h1
    · cases h
  · next y ho =>
    have hm := mem [y] (by rw [ho]; rfl)
    split at h
    · next b q hy =>
      injection h with h
      subst h
      obtain ⟨h1, h2⟩ := hm y (by simp) _ hy
      exact ⟨by simp [execOp, ho, h1, conc], h2⟩
    · next f a b hy =>
      injection h with h
      subst h
      obtain ⟨h1, h2⟩ := hm y (by simp) _ hy
      exact ⟨by simp [execOp, ho, h1, conc], h2⟩
    · next b hy =>
      injection h with h
      subst h
      obtain ⟨h1, h2⟩ := hm y (by simp) _ hy
      exact ⟨by simp [execOp, ho, h1, conc], h2⟩
    · cases h
  · next t y f ho =>
    have hm := mem [y] (by rw [ho]; rfl)
    split at h
    · next a ha =>
      obtain ⟨e1, e2⟩ := hm y (by simp) _ ha
      obtain ⟨h1, h2⟩ := aField_sound (x := x) (w := w) (L := L) (P := P) h e2
      refine ⟨?_, h2⟩
      simp only [execOp, ho, e1]
      exact exec_v h1
    · cases h
  · next t y i ho =>
    have hm := mem [y, i] (by rw [ho]; rfl)
    split at h
    · next s iv hy hi hu =>
      split at h
      · next j hj =>
        rw [nthL_eq] at h
        split at h
        · next b hb =>
          injection h with h
          subst h
          obtain ⟨k, rfl⟩ := toI_sound hj
          refine ⟨?_, by simp only [AV.ok]⟩
          simp only [execOp, ho, (hm y (by simp) _ hy).1, (hm i (by simp) _ hi).1, conc]
          refine exec_v ?_
          obtain ⟨hlt, hv⟩ := List.getElem?_eq_some_iff.1 hb
          have hlt' : j < s.size := by simpa using hlt
          have hs : s[j]? = some b := by
            rw [getElem?_pos s j hlt', ← hv]
            rfl
          simp [Instr.index, asIntOf, run_underlying hu, hs]
        · cases h
      · cases h
    · cases h
  · next f fst caps ho =>
    have hm : OpR x L T ρ (fst.toList ++ caps.toList) := fun z hz a ha => hop z (by rw [ho]; simpa [Op.operands] using hz) a ha
    split at h
    · next a b ha hb =>
      injection h with h
      subst h
      obtain ⟨h1, h2⟩ := evL_sound fst.toList a (fun z hz => hm z (by simp at hz ⊢; simp [hz])) ha
      obtain ⟨h3, h4⟩ := evL_sound caps.toList b (fun z hz => hm z (by simp at hz ⊢; simp [hz])) hb
      refine ⟨?_, by rw [AV.ok]; exact ⟨h2, h4⟩⟩
      simp only [execOp, ho]
      refine exec_v ?_
      simp only [Instr.makeFunc, Sem.run_pure, conc, ← h1, ← h3]
      congr 2 <;> apply Array.ext' <;> simp
    · cases h
  · next t y ho =>
    have hm := mem [y] (by rw [ho]; rfl)
    split at h
    · next a d ha hu =>
      obtain ⟨e1, e2⟩ := hm y (by simp) _ ha
      split at h
      · cases h
      · next hd =>
        injection h with h
        subst h
        refine ⟨?_, by rw [AV.ok]; exact e2⟩
        simp only [execOp, ho, e1]
        refine exec_v ?_
        simp only [Instr.makeInterface, Sem.run_bind, run_underlying hu, Result.andThen_ok, conc]
        rfl
    · cases h
  · next c ho =>
    have hm : OpR x L T ρ c.args.toList := fun z hz a ha => hop z (by rw [ho]; simp [Op.operands, Call.operands]; exact .inr (by simpa using hz)) a ha
    have hmap : ∀ l, evL T c.args.toList = some l → c.args.map ρ = (concL x l).toArray := fun l hl => by
      apply Array.ext'
      rw [Array.toList_map, (evL_sound c.args.toList l hm hl).1]
    split at h
    · next hcl =>
      split at h
      · next a t rest hl hat =>
        have hat' : c.argTypes[0]? = some t := by rw [← Array.getElem?_toList, hat]; rfl
        have key : ∀ n : Nat, (Builtin.len_ c.argTypes o.type (c.args.map ρ)).run P w = .ok (goInt n) w → (execOp ρ o).run P w = .ok (.value (goInt n)) w := fun n hn => by
          simp only [execOp, ho, resolve, hcl, Sem.run_bind, Sem.run_pure, Result.andThen_ok, invoke, builtin, hn]
        have hb : (c.args.map ρ)[0]? = some (conc x a) := by rw [hmap _ hl]; simp [concL]
        split at h
        · next s hu =>
          injection h with h
          subst h
          exact ⟨by rw [conc]; exact key _ (by simp [Builtin.len_, hat', hb, run_underlying hu, conc]), by simp only [AV.ok]⟩
        · next e q n cp hu =>
          injection h with h
          subst h
          exact ⟨by rw [conc]; exact key _ (by simp [Builtin.len_, hat', hb, run_underlying hu, conc]), by simp only [AV.ok]⟩
        · next e b q e' n hu =>
          injection h with h
          subst h
          exact ⟨by rw [conc]; exact key _ (by simp [Builtin.len_, hat', hb, run_underlying hu, conc]), by simp only [AV.ok]⟩
        · next e b q n cp hu =>
          injection h with h
          subst h
          exact ⟨by rw [conc]; exact key _ (by simp [Builtin.len_, hat', hb, run_underlying hu, conc]), by simp only [AV.ok]⟩
        · cases h
      · cases h
    · next hcl =>
      split at h
      · next k n l hl =>
        obtain ⟨h1, h2⟩ := aMin_sound (x := x) (L := L) (P := P) (w := w) l n r h
        refine ⟨?_, h2⟩
        simp only [execOp, ho, resolve, hcl, Sem.run_bind, Sem.run_pure, Result.andThen_ok, invoke, builtin, hmap _ hl, Builtin.min_, concL, conc, h1]
      · cases h
    · next hcl =>
      split at h
      · next k n l hl =>
        obtain ⟨h1, h2⟩ := aMax_sound (x := x) (L := L) (P := P) (w := w) l n r h
        refine ⟨?_, h2⟩
        simp only [execOp, ho, resolve, hcl, Sem.run_bind, Sem.run_pure, Result.andThen_ok, invoke, builtin, hmap _ hl, Builtin.max_, concL, conc, h1]
      · cases h
    · cases h
  · cases h
end
end Go.Proofs.YtklanoppbbaolaaGreat
