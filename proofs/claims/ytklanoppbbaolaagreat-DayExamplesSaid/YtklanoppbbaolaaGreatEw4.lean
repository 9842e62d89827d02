/- A closed run: the operations that neither read nor turn memory. No program is named here. -/
import Derived.Test.YtklanoppbbaolaaGreatEw3
import Derived.Laws.Strings
namespace Go.Proofs.YtklanoppbbaolaaGreat
open Go Go.RowKit
set_option linter.unusedVariables false
set_option linter.unusedSimpArgs false
theorem setC_len : ∀ (l : List AV) (o : Nat) (m : List AV), (setC l o m).length = l.length
  | [], o, m => by simp only [setC]
  | y :: l, o + 1, m => by simp only [setC, List.length_cons, setC_len l o m]
  | y :: l, 0, [] => by simp only [setC]
  | y :: l, 0, a :: m => by simp only [setC, List.length_cons, setC_len l 0 m]
theorem setC_at : ∀ (l : List AV) (o : Nat) (m : List AV) (i : Nat), o + m.length ≤ l.length → (setC l o m)[i]? = if o ≤ i ∧ i < o + m.length then m[i - o]? else l[i]?
  | [], o, m, i, hl => by simp at hl; obtain ⟨rfl, rfl⟩ := hl; simp [setC]
  | y :: l, o + 1, m, i, hl => by
    cases i with
    | zero => rw [if_neg (by omega)]; simp only [setC, List.getElem?_cons_zero]
    | succ i =>
      simp only [setC, List.getElem?_cons_succ]
      rw [setC_at l o m i (by simp at hl; omega)]
      by_cases hc : o ≤ i ∧ i < o + m.length
      · rw [if_pos hc, if_pos (by omega), show i + 1 - (o + 1) = i - o by omega]
      · rw [if_neg hc, if_neg (by omega)]
  | y :: l, 0, [], i, _ => by
    rw [if_neg (by simp)]
    simp only [setC]
  | y :: l, 0, b :: m, i, hl => by
    cases i with
    | zero => rw [if_pos (by simp)]; simp only [setC, List.getElem?_cons_zero, Nat.sub_self]
    | succ i =>
      simp only [setC, List.getElem?_cons_succ]
      rw [setC_at l 0 m i (by simp at hl; omega)]
      by_cases hc : i < m.length
      · rw [if_pos (by omega), if_pos (by simp; omega)]; simp
      · rw [if_neg (by omega), if_neg (by simp; omega)]
theorem setC_ok {x : Gh} {L : Nat → Prop} : ∀ (l : List AV) (o : Nat) (m : List AV), okL x L l → okL x L m → okL x L (setC l o m)
  | [], o, m, _, _ => by simp only [setC, okL]
  | y :: l, o + 1, m, h, k => by
    rw [okL] at h
    simp only [setC, okL]
    exact ⟨h.1, setC_ok l o m h.2 k⟩
  | y :: l, 0, [], h, _ => by simpa only [setC] using h
  | y :: l, 0, a :: m, h, k => by
    rw [okL] at h k
    simp only [setC, okL]
    exact ⟨k.1, setC_ok l 0 m h.2 k.2⟩
theorem conc_cells (x : Gh) (a : AV) : (conc x a).cells.toList = a.cells.map (conc x) := by
  cases a with
  | v y =>
    simp only [conc, AV.cells, List.map_map]
    have : (conc x ∘ AV.v) = id := funext fun z => conc_v x z
    rw [this, List.map_id]
  | agg l => simp only [conc, AV.cells, concL_map, Value.cells]
  | ptr b o => simp [conc, AV.cells, Value.cells]
  | sl b o e n => simp [conc, AV.cells, Value.cells]
  | sk b o e n => simp [conc, AV.cells, Value.cells]
  | tup l => simp [conc, AV.cells, Value.cells]
  | fn f a l => simp [conc, AV.cells, Value.cells]
  | yl b => simp [conc, AV.cells, Value.cells]
  | mp b => simp [conc, AV.cells, Value.cells]
  | ifc t a => simp [conc, AV.cells, Value.cells]
theorem cells_v (z : Array Value) (x : Gh) : (z.toList.map AV.v).map (conc x) = z.toList := by
  rw [List.map_map, show (conc x ∘ AV.v) = id from funext fun y => conc_v x y, List.map_id]
theorem ok_vs {x : Gh} {L : Nat → Prop} (z : List Value) : okL x L (z.map AV.v) := okL_iff.2 fun a ha => by obtain ⟨y, _, rfl⟩ := List.mem_map.1 ha; simp only [AV.ok]
theorem cells_len (x : Gh) (a : AV) : (conc x a).cells.size = a.cells.length := by
  have := congrArg List.length (conc_cells x a)
  simpa using this
theorem ok_cells {x : Gh} {L : Nat → Prop} : ∀ {a : AV}, a.ok x L → okL x L a.cells
  | .v y, _ => ok_vs _
  | .agg l, h => by simpa only [AV.ok, AV.cells] using h
  | .ptr b o, h => by simp only [AV.cells, okL]; exact ⟨h, trivial⟩
  | .sl b o e m, h => by simp only [AV.cells, okL]; exact ⟨h, trivial⟩
  | .sk b o e m, h => by simp only [AV.cells, okL]; exact ⟨h, trivial⟩
  | .tup l, h => by simp only [AV.cells, okL]; exact ⟨h, trivial⟩
  | .fn f a l, h => by simp only [AV.cells, okL]; exact ⟨h, trivial⟩
  | .yl b, h => by simp only [AV.cells, okL]; exact ⟨h, trivial⟩
  | .mp b, h => by simp only [AV.cells, okL]; exact ⟨h, trivial⟩
  | .ifc t a, h => by simp only [AV.cells, okL]; exact ⟨h, trivial⟩
theorem fold_set (off : Nat) : ∀ (vs : List Value) (k : Nat) (cs : Array Value), ((vs.zipIdx k).foldl (fun cs (p : Value × Nat) => cs.setIfInBounds (off + p.2) p.1) cs).size = cs.size ∧
    (off + k + vs.length ≤ cs.size → ∀ i, ((vs.zipIdx k).foldl (fun cs (p : Value × Nat) => cs.setIfInBounds (off + p.2) p.1) cs)[i]? = if off + k ≤ i ∧ i < off + k + vs.length then vs[i - (off + k)]? else cs[i]?)
  | [], k, cs => ⟨rfl, fun _ i => by rw [if_neg (by simp)]; rfl⟩
  | v :: vs, k, cs => by
    obtain ⟨h1, h2⟩ := fold_set off vs (k + 1) (cs.setIfInBounds (off + k) v)
    simp only [List.zipIdx_cons, List.foldl_cons]
    refine ⟨by rw [h1]; simp, fun hl i => ?_⟩
    simp only [List.length_cons] at hl
    rw [h2 (by simp; omega) i, List.length_cons]
    by_cases hi : i = off + k
    · subst hi
      rw [if_neg (by omega), if_pos (by omega), Nat.sub_self, List.getElem?_cons_zero, Array.getElem?_setIfInBounds, if_pos rfl, if_pos (by omega)]
    · by_cases hc : off + (k + 1) ≤ i ∧ i < off + (k + 1) + vs.length
      · rw [if_pos hc, if_pos (by omega), show i - (off + k) = (i - (off + (k + 1))) + 1 by omega, List.getElem?_cons_succ]
      · rw [if_neg hc, if_neg (by omega), Array.getElem?_setIfInBounds_ne (by omega)]
section
variable {P : Program} {x : Gh} {L : Nat → Prop} {w : World} {T : Tr AV} {ρ : Operand → Value}
/-- Parts laid into cells. -/
theorem fill_sound (place : Nat → Option (Nat × Nat)) (pl : List (Nat × Nat)) (hp : ∀ i p, pl[i]? = some p → place i = some p) : ∀ (ps : List (Nat × AV)) (zs cs : List AV) (cells : Array Value), cells.toList = zs.map (conc x) → okL x L zs → (∀ p ∈ ps, p.2.ok x L) → setF zs pl ps = some cs →
    ∃ cells', Instr.fill place cells (ps.map fun p => (p.1, conc x p.2)) = some cells' ∧ cells'.toList = cs.map (conc x) ∧ okL x L cs ∧ cs.length = zs.length
  | [], zs, cs, cells, hc, hz, _, h => by
    rw [setF] at h
    injection h with h
    subst h
    exact ⟨cells, rfl, hc, hz, rfl⟩
  | (i, a) :: ps, zs, cs, cells, hc, hz, hok, h => by
    rw [setF, nthL_eq] at h
    cases hpi : pl[i]? with
    | none => rw [hpi] at h; cases h
    | some p =>
      obtain ⟨off, size⟩ := p
      rw [hpi] at h
      dsimp only at h
      rw [lenL_eq, lenL_eq] at h
      cases h1 : Nat.beq a.cells.length size with
      | false => rw [h1] at h; cases h
      | true =>
        cases h2 : Nat.ble (off + size) zs.length with
        | false => rw [h1, h2] at h; cases h
        | true =>
          rw [h1, h2] at h
          dsimp only at h
          have e1 : a.cells.length = size := Nat.eq_of_beq_eq_true h1
          have e2 : off + size ≤ zs.length := Nat.le_of_ble_eq_true h2
          have hcl : cells.size = zs.length := by have := congrArg List.length hc; simpa using this
          have ha : a.ok x L := hok (i, a) (by simp)
          obtain ⟨f1, f2⟩ := fold_set off (conc x a).cells.toList 0 cells
          have hlen : (conc x a).cells.toList.length = size := by rw [conc_cells, List.length_map, e1]
          have hnew : ((((conc x a).cells.toList.zipIdx 0).foldl (fun cs (p : Value × Nat) => cs.setIfInBounds (off + p.2) p.1) cells)).toList = (setC zs off a.cells).map (conc x) := by
            refine List.ext_getElem? fun j => ?_
            rw [Array.getElem?_toList, f2 (by omega) j, List.getElem?_map, setC_at _ _ _ _ (by omega), conc_cells, List.length_map]
            rw [Nat.add_zero]
            by_cases hj : off ≤ j ∧ j < off + a.cells.length
            · rw [if_pos hj, if_pos hj, List.getElem?_map]
            · rw [if_neg hj, if_neg hj, ← List.getElem?_map, ← hc, Array.getElem?_toList]
          obtain ⟨cells', g1, g2, g3, g4⟩ := fill_sound place pl hp ps (setC zs off a.cells) cs _ hnew (setC_ok _ _ _ hz (ok_cells ha)) (fun p hp => hok p (by simp [hp])) h
          refine ⟨cells', ?_, g2, g3, by rw [g4, setC_len]⟩
          rw [List.map_cons, Instr.fill, hp i _ hpi]
          dsimp only
          rw [if_neg]
          · rw [← g1]
            congr 1
            rw [← Array.foldl_toList]
            simp
          · rw [cells_len, e1]
            simp
            omega
theorem evO_fn (f : FuncId) : conc x (.fn f [] []) = .func (.func f) #[] #[] := by simp [conc, concL]
/-- The operands of an operation, as far as they are known. -/
def OpR (x : Gh) (L : Nat → Prop) (T : Tr AV) (ρ : Operand → Value) (l : List Operand) : Prop := ∀ y ∈ l, ∀ a, evO T y = some a → ρ y = conc x a ∧ a.ok x L
theorem evL_sound : ∀ (l : List Operand) (r : List AV), OpR x L T ρ l → evL T l = some r → l.map ρ = concL x r ∧ okL x L r
  | [], r, _, h => by rw [evL] at h; injection h with h; subst h; exact ⟨by simp [concL], by simp [okL]⟩
  | y :: l, r, hop, h => by
    rw [evL] at h
    cases hy : evO T y with
    | none => rw [hy] at h; cases h
    | some a =>
      cases hl : evL T l with
      | none => rw [hy, hl] at h; cases h
      | some q =>
        rw [hy, hl] at h
        injection h with h
        subst h
        obtain ⟨h1, h2⟩ := evL_sound l q (fun z hz => hop z (by simp [hz])) hl
        obtain ⟨h3, h4⟩ := hop y (by simp) a hy
        exact ⟨by simp only [List.map_cons, concL, h1, h3], by simp only [okL]; exact ⟨h4, h2⟩⟩
theorem evP_sound : ∀ (l : List (Nat × Operand)) (r : List (Nat × AV)), OpR x L T ρ (l.map (·.2)) → evP T l = some r → (l.map fun p => (p.1, ρ p.2)) = r.map (fun p => (p.1, conc x p.2)) ∧ ∀ p ∈ r, p.2.ok x L
  | [], r, _, h => by rw [evP] at h; injection h with h; subst h; exact ⟨rfl, fun p hp => by simp at hp⟩
  | (i, y) :: l, r, hop, h => by
    rw [evP] at h
    cases hy : evO T y with
    | none => rw [hy] at h; cases h
    | some a =>
      cases hl : evP T l with
      | none => rw [hy, hl] at h; cases h
      | some q =>
        rw [hy, hl] at h
        injection h with h
        subst h
        obtain ⟨h1, h2⟩ := evP_sound l q (fun z hz => hop z (by simp at hz ⊢; exact .inr hz)) hl
        obtain ⟨h3, h4⟩ := hop y (by simp) a hy
        exact ⟨by simp only [List.map_cons, h1, h3], fun p hp => by
          rcases List.mem_cons.1 hp with rfl | hp
          · exact h4
          · exact h2 p hp⟩
theorem evOo_sound {y : Option Operand} {r : Option AV} (hop : OpR x L T ρ y.toList) (h : evOo T y = some r) : y.map ρ = r.map (conc x) := by
  cases y with
  | none => rw [evOo] at h; injection h with h; subst h; rfl
  | some y =>
    rw [evOo] at h
    cases hy : evO T y with
    | none => rw [hy] at h; cases h
    | some a =>
      rw [hy] at h
      injection h with h
      subst h
      rw [Option.map_some, Option.map_some, (hop y (by simp) a hy).1]
theorem exec_v {s : Sem Value} {r : Value} {w' : World} (h : s.run P w = .ok r w') : ((do pure (Next.value (← s))) : Sem Next).run P w = .ok (.value r) w' := by simp [h]
end
end Go.Proofs.YtklanoppbbaolaaGreat
