/- Texts in one: Ew8, Ew9. -/
import Derived.Laws.MakeOwn
import Derived.Great.BuildSlice
import Derived.Laws.CopyOwn
import Derived.Test.YtklanoppbbaolaaGreatMg32
/- A closed run: the operations that read memory, or lay a block. No program is named here. -/
namespace Go.Proofs.YtklanoppbbaolaaGreat
open Go Go.RowKit
set_option linter.unusedVariables false
set_option linter.unusedSimpArgs false
section
variable {P : Program} {base : Nat} {x : Gh} {L : Nat → Prop} {w : World} {H : Hp} {T : Tr AV} {ρ : Operand → Value}
theorem ldC_sound (h : HR base x L w H) {b o n : Nat} (hL : L b) {l : List AV} (hl : ldC H b o n = some l) :
    l.length = n ∧ okL x L l ∧ ∀ j v, (l.map (conc x))[j]? = some v → w.cell? ((⟨(x b).1, o, none⟩ : Addr).add j) = some v := by
  unfold ldC at hl
  split at hl
  · next cs t sz ex hk =>
    split at hl
    · next hle =>
      injection hl with hl
      subst hl
      rw [takeN_eq, dropN_eq]
      have hle' : o + n ≤ cs.length := by rw [lenL_eq] at hle; exact Nat.le_of_ble_eq_true hle
      obtain ⟨cur, h1, h2, h3, h4, h5, h6⟩ := h.at_ b _ hk hL
      refine ⟨by rw [List.length_take, List.length_drop]; omega, okL_iff.2 fun a ha => okL_iff.1 h6 a (List.mem_of_mem_drop (List.mem_of_mem_take ha)), fun j v hv => ?_⟩
      rw [List.getElem?_map] at hv
      cases hc : ((cs.drop o).take n)[j]? with
      | none => rw [hc] at hv; cases hv
      | some a =>
        rw [hc] at hv
        injection hv with hv
        have hj : cs[o + j]? = some a := by
          rw [List.getElem?_take] at hc
          split at hc
          · rwa [List.getElem?_drop] at hc
          · cases hc
        rw [addr_add, ← hv]
        simp [World.cell?, h1, h2 _ _ hj]
    · cases hl
  · cases hl
theorem load_sound (h : HR base x L w H) {t : TypeId} {b o : Nat} (hL : L b) {a : AV} (hl : aLoad P t H b o = some a) :
    (loadVar t ⟨(x b).1, o, none⟩).run P w = .ok (conc x a) w ∧ a.ok x L := by
  unfold aLoad at hl
  split at hl
  · next hg =>
    cases hs : szT P t with
    | none => rw [hs] at hl; cases hl
    | some n =>
      rw [hs] at hl
      dsimp only at hl
      cases hc : ldC H b o n with
      | none => rw [hc] at hl; cases hl
      | some l =>
        rw [hc] at hl
        injection hl with hl
        subst hl
        obtain ⟨h1, h2, h3⟩ := ldC_sound h hL hc
        have hr := run_loadCells_list (P := P) w ⟨(x b).1, o, none⟩ (l.map (conc x)) h3
        rw [List.length_map, h1] at hr
        refine ⟨?_, by simpa only [AV.ok] using h2⟩
        simp only [loadVar, Sem.run_bind, run_isAggA hg, Result.andThen, if_true, run_sizeOfA hs, hr, Sem.run_pure, conc, concL_map]
  · next hg =>
    cases hc : ldC H b o 1 with
    | none => rw [hc] at hl; cases hl
    | some l =>
      obtain ⟨h1, h2, h3⟩ := ldC_sound h hL hc
      rw [hc] at hl
      match l, h1, hl with
      | [c], _, hl =>
        injection hl with hl
        subst hl
        have h4 := h3 0 (conc x c) rfl
        rw [addr_add, Nat.add_zero] at h4
        refine ⟨?_, h2.1⟩
        simp only [loadVar, Sem.run_bind, run_isAggA hg, Result.andThen, Bool.false_eq_true, if_false, run_load, h4]
  · cases hl
theorem ent_sound (P : Program) {e : TypeId} {sz : Nat} {z : Value} (h : elT P e = some (sz, z)) : ∃ i, P.info? e = some i ∧ i.size = sz ∧ i.zero = some z ∧ z.cells.size = sz ∧ 0 < sz ∧ i.bytes ≤ 100000 ∧ sz ≤ 100 := by
  unfold elT at h
  split at h
  · next i hi =>
    split at h
    · next z' hz =>
      split at h
      · next h1 h2 h3 =>
        injection h with h
        injection h with ha hb
        subst ha hb
        rw [Bool.and_eq_true] at h3
        exact ⟨i, hi, rfl, hz, Nat.eq_of_beq_eq_true h1, by simpa [Nat.blt_eq] using h2, Nat.le_of_ble_eq_true h3.1, Nat.le_of_ble_eq_true h3.2⟩
      · cases h
    · cases h
  · cases h
theorem reps_at (z : List AV) (hz : 0 < z.length) : ∀ (n i : Nat), i < n * z.length → (reps z n)[i]? = z[i % z.length]?
  | 0, i, h => by omega
  | n + 1, i, h => by
    rw [reps, List.getElem?_append]
    by_cases hi : i < z.length
    · rw [if_pos hi, Nat.mod_eq_of_lt hi]
    · rw [if_neg hi, reps_at z hz n (i - z.length) (by rw [Nat.succ_mul] at h; omega), ← Nat.mod_eq_sub_mod (by omega)]
theorem reps_len (z : List AV) : ∀ n, (reps z n).length = n * z.length
  | 0 => by simp [reps]
  | n + 1 => by rw [reps, List.length_append, reps_len z n, Nat.succ_mul, Nat.add_comm]
theorem reps_ok {z : List AV} (hz : okL x L z) : ∀ n, okL x L (reps z n)
  | 0 => by simp [reps, okL]
  | n + 1 => by
    rw [reps]
    exact okL_iff.2 fun a ha => by
      rcases List.mem_append.1 ha with h | h
      · exact okL_iff.1 hz a h
      · exact okL_iff.1 (reps_ok hz n) a h
theorem made_sound (z : Value) (n : Nat) (hz : 0 < z.cells.size) : (madeCells z.cells (n * z.cells.size)).toList = (reps (z.cells.toList.map .v) n).map (conc x) := by
  refine List.ext_getElem? fun i => ?_
  rw [List.getElem?_map]
  have hlen : (z.cells.toList.map AV.v).length = z.cells.size := by simp
  by_cases hi : i < n * z.cells.size
  · rw [reps_at _ (by rw [hlen]; exact hz) n i (by rw [hlen]; exact hi), hlen, List.getElem?_map]
    have hm : i % z.cells.size < z.cells.size := Nat.mod_lt _ hz
    simp only [madeCells, Array.toList_map, Array.toList_range, List.getElem?_map]
    rw [List.getElem?_range hi]
    simp [hm, conc]
  · rw [List.getElem?_eq_none (by simp [madeCells]; omega), List.getElem?_eq_none (by rw [reps_len, hlen]; omega)]
    rfl
theorem setF_len (pl : List (Nat × Nat)) : ∀ (ps : List (Nat × AV)) (zs cs : List AV), setF zs pl ps = some cs → cs.length = zs.length
  | [], zs, cs, h => by rw [setF] at h; injection h with h; rw [h]
  | (i, a) :: ps, zs, cs, h => by
    rw [setF] at h
    split at h
    · split at h
      · rw [setF_len pl ps _ cs h, setC_len]
      · cases h
    · cases h
/-- A block of known cells, new. -/
theorem obR_new (b0 : Nat) (hb : ¬ L b0) (cs : List AV) (hok : okL x L cs) (cells : Array Value) (hc : cells.toList = cs.map (conc x)) (t : TypeId) (cap : Nat) :
    ObR (Gh.up x b0 (w.heap.size, cap)) (Lup L b0) (w.alloc (.cells cells t)) w.heap.size cap (.c cs t 1 true) := by
  have hx : Ext L x (Gh.up x b0 (w.heap.size, cap)) := Gh.up_ext x _ hb
  have hl : cells.size = cs.length := by have := congrArg List.length hc; simpa using this
  refine ⟨cells, heap_alloc_new w _, fun i a ha => ?_, by omega, fun h => absurd h (by decide), fun _ => hl, okL_mono hx (Lup.sub _ _) _ hok⟩
  rw [conc_ext hx a (okL_iff.1 hok a (List.mem_of_getElem? ha)), ← Array.getElem?_toList, hc, List.getElem?_map, ha]
  rfl
theorem alloc_sound {o : Oper} {ob : Ob} {mk : Nat → AV} (h : aAlloc P T o = some (ob, mk)) (hop : OpR x L T ρ o.op.operands.toList) (b0 : Nat) (hb : ¬ L b0) (w : World) :
    ∃ cap obj, (execOp ρ o).run P w = .ok (.value (conc (Gh.up x b0 (w.heap.size, cap)) (mk b0))) (w.alloc obj) ∧ ObR (Gh.up x b0 (w.heap.size, cap)) (Lup L b0) (w.alloc obj) w.heap.size cap ob ∧ (mk b0).ok (Gh.up x b0 (w.heap.size, cap)) (Lup L b0) := by
  have hup : ∀ cap, (Gh.up x b0 (w.heap.size, cap) b0).1 = w.heap.size := fun cap => by rw [Gh.up_at]
  unfold aAlloc at h
  split at h
  · next e ho =>
    split at h
    · next z hz =>
      injection h with h
      injection h with h1 h2
      subst h1 h2
      refine ⟨1, .cells z.cells e, ?_, obR_new b0 hb _ (ok_vs _) _ (cells_v _ x).symm e 1, by rw [AV.ok]; exact .inr rfl⟩
      simp only [execOp, ho]
      refine exec_v ?_
      simp [Instr.alloc, run_zeroA hz, newVar, newRow, conc, hup]
    · cases h
  · next e y ho =>
    split at h
    · next a hy =>
      injection h with h
      injection h with h1 h2
      subst h1 h2
      obtain ⟨e1, e2⟩ := hop y (by rw [ho]; simp [Op.operands]) a hy
      refine ⟨1, .cells (conc x a).cells e, ?_, obR_new b0 hb _ (ok_cells e2) _ (conc_cells x a) e 1, by rw [AV.ok]; exact .inr rfl⟩
      simp only [execOp, ho, e1]
      refine exec_v ?_
      simp [Instr.box, newVar, newRow, conc, hup]
    · cases h
  · next t n ps ho =>
    split at h
    · next l e hl hu =>
      have hps : OpR x L T ρ (ps.toList.map (·.2)) := fun y hy a ha => hop y (by rw [ho]; simpa [Op.operands] using hy) a ha
      obtain ⟨p1, p2⟩ := evP_sound ps.toList l hps hl
      have hparts : (ps.map fun p => (p.1, ρ p.2)).toList = l.map fun p => (p.1, conc x p.2) := by rw [Array.toList_map, p1]
      split at h
      · next sz z hel hc =>
        obtain ⟨ie, hie, hsz, hzz, hzc, hpos, _, _⟩ := ent_sound P hel
        split at h
        · next hn hl0 =>
          injection h with h
          injection h with h1 h2
          subst h1 h2
          refine ⟨1, .cells #[] e, ?_, obR_new b0 hb [] (by simp [okL]) _ rfl e 1, by rw [AV.ok]; exact .inr rfl⟩
          have hps0 : ps.map (fun p => (p.1, ρ p.2)) = #[] := by
            apply Array.ext'
            rw [hparts]
            rfl
          simp only [execOp, ho]
          refine exec_v ?_
          have hps1 : (Array.map (fun x : Nat × Operand => match x with | (i, x) => (i, ρ x)) ps) = #[] := hps0
          rw [hps1]
          simp [Instr.buildSlice, run_underlying hu, sizeOf, typeInfo, hie, newRow, Instr.fill, conc, hup, Array.range_zero']
        · cases h
      · next sz z hel hc =>
        obtain ⟨ie, hie, hsz, hzz, hzc, hpos, _, hszs⟩ := ent_sound P hel
        rw [Bool.and_eq_true] at hc
        have hn1 : n ≤ 100000 := Nat.le_of_ble_eq_true hc.1
        have hn0 : 0 < n := by simpa [Nat.blt_eq] using hc.2
        split at h
        · next cs hs =>
          injection h with h
          injection h with h1 h2
          subst h1 h2
          have hmade : ((Array.range (n * ie.size)).map (z.cells[· % z.cells.size]!)).toList = (reps (z.cells.toList.map .v) n).map (conc x) := by
            have := made_sound (x := x) z n (by omega)
            rw [hsz, ← hzc]
            exact this
          obtain ⟨cells, f1, f2, f3, f4⟩ := fill_sound (x := x) (L := L) (fun i => some (i * ie.size, ie.size)) (rowP sz n 0) (fun i p hi => by rw [rowP_at sz n 0 i p hi, hsz, Nat.zero_add]) l _ cs _ hmade (reps_ok (ok_vs _) n) p2 hs
          refine ⟨1, .cells cells e, ?_, obR_new b0 hb _ f3 _ f2 e 1, by rw [AV.ok]; exact .inr rfl⟩
          simp only [execOp, ho]
          refine exec_v ?_
          have := run_buildSlice (P := P) w t e n (ps.map fun p => (p.1, ρ p.2)) cells ie z hu hie hzz (by have : n * ie.size ≤ 100000 * 100 := Nat.mul_le_mul hn1 (by omega); omega) (by have := Nat.mul_pos hn0 hpos; rw [hsz]; omega) (by rw [hparts]; exact f1)
          simp only [conc, hup]
          exact this
        · cases h
      · cases h
    · cases h
  · next t l c ho =>
    split at h
    · next lv cv e hl hc hu =>
      split at h
      · next n cp sz z hn hcp hel =>
        obtain ⟨ie, hie, hsz, hzz, hzc, hpos, hby, hszs⟩ := ent_sound P hel
        split at h
        · next q1 q2 =>
          injection h with h
          injection h with h1 h2
          subst h1 h2
          obtain ⟨k1, rfl⟩ := toI_sound hn
          obtain ⟨k2, rfl⟩ := toI_sound hcp
          have e1 := Nat.le_of_ble_eq_true q1
          have e2 := Nat.le_of_ble_eq_true q2
          have hm := made_sound (x := x) z cp (by omega)
          refine ⟨1, .cells (madeCells z.cells (cp * ie.size)) e, ?_, obR_new b0 hb _ (reps_ok (ok_vs _) cp) _ (by rw [hsz, ← hzc]; exact hm) e 1, by rw [AV.ok]; exact .inr rfl⟩
          have o1 := (hop l (by rw [ho]; simp [Op.operands]) _ hl).1
          have o2 := (hop c (by rw [ho]; simp [Op.operands]) _ hc).1
          simp only [execOp, ho, o1, o2, conc]
          refine exec_v ?_
          have hb1 : ie.bytes * cp ≤ 100000 * 100000 := Nat.mul_le_mul hby e2
          have hb2 : (ie.bytes : Int) * (cp : Int) ≤ 281474976710656 := by
            rw [← Int.natCast_mul]
            omega
          have hb3 : cp * ie.size ≤ 100000 * 100 := Nat.mul_le_mul e2 (by omega)
          have := run_makeSlice (P := P) w t e ie z hu hie hzz k1 k2 (Int.ofNat n) (Int.ofNat cp) (by simp) (by simp; omega) (by simp; omega) (by simpa using hb2) (by simp; omega)
          simpa [hup] using this
        · cases h
      · cases h
    · cases h
  · next t ho =>
    injection h with h
    injection h with h1 h2
    subst h1 h2
    refine ⟨1, .map #[] 0, ?_, ⟨#[], 0, heap_alloc_new w _, rfl, fun p hp => by simp at hp⟩, by rw [AV.ok]; exact .inr rfl⟩
    simp only [execOp, ho]
    refine exec_v ?_
    simp [Instr.makeMap, conc, hup]
  · cases h
end
end Go.Proofs.YtklanoppbbaolaaGreat
/- A closed run: the operations that turn memory. No program is named here. -/
namespace Go.Proofs.YtklanoppbbaolaaGreat
open Go Go.RowKit
set_option linter.unusedVariables false
set_option linter.unusedSimpArgs false
theorem heap_setCell (w : World) (g o : Nat) (v : Value) (cur : Array Value) (t : TypeId) (h : w.heap[g]? = some (.cells cur t)) : (w.setCell ⟨g, o, none⟩ v).heap[g]? = some (.cells (cur.setIfInBounds o v) t) := by
  simp [World.setCell, Array.getElem?_modify, h]
theorem heap_setCells (g : Nat) (t : TypeId) : ∀ (vs : List Value) (o : Nat) (w : World) (cur : Array Value), w.heap[g]? = some (.cells cur t) → o + vs.length ≤ cur.size →
    ∃ cur' : Array Value, (w.setCells g o vs).heap[g]? = some (.cells cur' t) ∧ cur'.size = cur.size ∧ ∀ i, cur'[i]? = if o ≤ i ∧ i < o + vs.length then vs[i - o]? else cur[i]? := by
  intro vs
  induction vs with
  | nil =>
    intro o w cur h _
    exact ⟨cur, h, rfl, fun i => by rw [if_neg (by simp)]⟩
  | cons v vs ih =>
    intro o w cur h hl
    rw [List.length_cons] at hl
    obtain ⟨cur', h1, h2, h3⟩ := ih (o + 1) (w.setCell ⟨g, o, none⟩ v) (cur.setIfInBounds o v) (heap_setCell w g o v cur t h) (by simp; omega)
    refine ⟨cur', h1, by simpa using h2, fun i => ?_⟩
    rw [h3 i, List.length_cons]
    by_cases hi : i = o
    · subst hi
      rw [if_neg (by omega), if_pos (by omega), Nat.sub_self, List.getElem?_cons_zero, Array.getElem?_setIfInBounds, if_pos rfl, if_pos (by omega)]
    · by_cases hc : o + 1 ≤ i ∧ i < o + 1 + vs.length
      · rw [if_pos hc, if_pos (by omega), show i - o = (i - (o + 1)) + 1 by omega, List.getElem?_cons_succ]
      · rw [if_neg hc, if_neg (by omega), Array.getElem?_setIfInBounds_ne (by omega)]
theorem heap_sets_other (g : Nat) : ∀ (vs : List Value) (o : Nat) (w : World) (j : Nat), j ≠ g → (w.setCells g o vs).heap[j]? = w.heap[j]? := by
  intro vs
  induction vs with
  | nil => intro o w j _; rfl
  | cons v vs ih =>
    intro o w j h
    have h1 := ih (o + 1) (w.setCell ⟨g, o, none⟩ v) j h
    have h2 : (w.setCell ⟨g, o, none⟩ v).heap[j]? = w.heap[j]? := by
      simp only [World.setCell, Array.getElem?_modify]
      rw [if_neg (fun e => h e.symm)]
    exact h1.trans h2
theorem one_conc (x : Gh) {a : AV} (h : a.one = true) : (conc x a).oneCell' = true := by
  cases a with
  | v y => cases y <;> first | rfl | cases h
  | agg l => cases h
  | tup l => cases h
  | ptr b o => simp only [conc, Value.oneCell']
  | sl b o e n => simp only [conc, Value.oneCell']
  | sk b o e n => simp only [conc, Value.oneCell']
  | fn f a l => simp only [conc, Value.oneCell']
  | yl b => simp only [conc, Value.oneCell']
  | mp b => simp only [conc, Value.oneCell']
  | ifc t a => simp only [conc, Value.oneCell']
theorem allOne_iff {l : List AV} : allOne l = true ↔ ∀ a ∈ l, a.one = true := by
  induction l with
  | nil => simp [allOne]
  | cons a l ih =>
    rw [allOne]
    cases ha : a.one with
    | true => simp [ih, ha]
    | false => simp [ha]
section
variable {P : Program} {base : Nat} {x : Gh} {L : Nat → Prop} {w : World} {H : Hp} {T : Tr AV} {ρ : Operand → Value}
theorem putC_sound (h : HR base x L w H) {b o : Nat} (hL : L b) {l : List AV} {H' : Hp} (hok : okL x L l) (hp : putC H b o l = some H') :
    (storeCells ⟨(x b).1, o, none⟩ (l.map (conc x))).run P w = .ok () (w.setCells (x b).1 o (l.map (conc x))) ∧ Nx base x L w H x L (w.setCells (x b).1 o (l.map (conc x))) H' := by
  unfold putC at hp
  split at hp
  · next cs t sz ex hk =>
    split at hp
    · next q1 q2 =>
      obtain ⟨hr, rfl⟩ := putO_eq hp
      rw [lenL_eq, lenL_eq] at q1
      have hle : o + l.length ≤ cs.length := Nat.le_of_ble_eq_true q1
      obtain ⟨cur, e1, e2, e3, e4, e5, e6⟩ := h.at_ b _ hk hL
      have hcell : ∀ j, j < (l.map (conc x)).length → ∃ u, w.cell? ⟨(x b).1, o + 0 + j, none⟩ = some u ∧ w.frozen? ⟨(x b).1, o + 0 + j, none⟩ = false := fun j hj => by
        rw [List.length_map] at hj
        obtain ⟨a, ha⟩ : ∃ a, cs[o + 0 + j]? = some a := ⟨_, List.getElem?_eq_getElem (by omega)⟩
        have ha' : cs[o + j]? = some a := by simpa using ha
        exact ⟨conc x a, by simp [World.cell?, e1, e2 _ _ ha'], by simp [World.frozen?, e1]⟩
      refine ⟨?_, ?_⟩
      · have := run_storeCells_cells (P := P) (x b).1 o (l.map (conc x)) 0 w (fun j hj => by obtain ⟨u, hu, _⟩ := hcell j hj; rw [hu]; rfl) (fun j hj => by obtain ⟨u, _, hu⟩ := hcell j hj; exact hu) (fun v hv => by
          obtain ⟨a, ha, rfl⟩ := List.mem_map.1 hv
          exact one_conc x (allOne_iff.1 q2 a ha))
        rwa [Nat.add_zero] at this
      · obtain ⟨cur', d1, d2, d3⟩ := heap_setCells (x b).1 t (l.map (conc x)) o w cur e1 (by rw [List.length_map]; omega)
        refine h.put hk hL hr (size_sets _ _ _ _) (fun j hj => heap_sets_other _ _ _ _ _ hj) ⟨cur', d1, fun i a ha => ?_, by rw [setC_len, d2]; exact e3, fun he => by rw [d2]; exact e4 he, fun he => by rw [d2, setC_len]; exact e5 he, setC_ok _ _ _ e6 hok⟩ (below_sets (Below.refl base w) (h.rw_ b _ hk hL hr) _ _)
        rw [setC_at _ _ _ _ hle] at ha
        rw [d3 i, List.length_map]
        by_cases hi : o ≤ i ∧ i < o + l.length
        · rw [if_pos hi] at ha ⊢
          rw [List.getElem?_map, ha]
          rfl
        · rw [if_neg hi] at ha ⊢
          exact e2 i a ha
    · cases hp
  · cases hp
theorem store_sound (h : HR base x L w H) {t : TypeId} {b o : Nat} (hL : L b) {a : AV} {H' : Hp} (hok : a.ok x L) (hs : aStore P t H b o a = some H') :
    ∃ w', (storeVar t ⟨(x b).1, o, none⟩ (conc x a)).run P w = .ok () w' ∧ Nx base x L w H x L w' H' := by
  unfold aStore at hs
  split at hs
  · next n hz =>
    split at hs
    · next hb =>
      rw [lenL_eq] at hb
      have hn : n = a.cells.length := Nat.eq_of_beq_eq_true hb
      obtain ⟨h1, h2⟩ := putC_sound (P := P) h hL (ok_cells hok) hs
      refine ⟨_, ?_, h2⟩
      have hsz : (conc x a).cells.size = n := by rw [cells_len, hn]
      simp only [storeVar, Sem.run_bind, run_sizeOfA hz, Result.andThen, hsz, ne_eq, not_true_eq_false, if_false, conc_cells, h1, Sem.run_pure]
    · cases hs
  · cases hs
/-- Elements of a slice, their cells. -/
theorem cells_sound (h : HR base x L w H) {sz : Nat} {y : AV} {m : Nat} {l : List AV} (hy : y.ok x L) (hc : aCells H sz y = some (m, l)) :
    l.length = m * sz ∧ okL x L l ∧ ((∃ A c, conc x y = .slice (some A) m c ∧ ∀ j v, (l.map (conc x))[j]? = some v → w.cell? (A.add j) = some v) ∨ (y = .v (.slice none 0 0) ∧ m = 0)) := by
  unfold aCells at hc
  split at hc
  · next b o e n =>
    split at hc
    · next l' hl =>
      injection hc with hc
      injection hc with h1 h2
      subst h1 h2
      rw [AV.ok] at hy
      obtain ⟨g1, g2, g3⟩ := ldC_sound h hy.1 hl
      exact ⟨g1, g2, .inl ⟨_, _, by rw [conc], g3⟩⟩
    · cases hc
  · next b o n c =>
    split at hc
    · next l' hl =>
      injection hc with hc
      injection hc with h1 h2
      subst h1 h2
      rw [AV.ok] at hy
      obtain ⟨g1, g2, g3⟩ := ldC_sound h hy hl
      exact ⟨g1, g2, .inl ⟨_, _, by rw [conc], g3⟩⟩
    · cases hc
  · injection hc with hc
    injection hc with h1 h2
    subst h1 h2
    exact ⟨by simp, by simp [okL], .inr ⟨rfl, rfl⟩⟩
  · cases hc
/-- A block grown: its cells, and more behind. -/
theorem obR_grown {cs : List AV} (hok : okL x L cs) {b0 : Nat} (hb : ¬ L b0) {w1 : World} {g cap sz : Nat} {t : TypeId} {rest : Array Value} (hg : w1.heap[g]? = some (.cells ((cs.map (conc x)).toArray ++ rest) t)) (hs : cs.length + rest.size = cap * sz) (hm : cap ≤ maxLen) : ObR (Gh.up x b0 (g, cap)) (Lup L b0) w1 g cap (.c cs t sz false) := by
  have hx : Ext L x (Gh.up x b0 (g, cap)) := Gh.up_ext x _ hb
  refine ⟨_, hg, fun i a ha => ?_, by simp, fun _ => ⟨by simpa using hs, hm⟩, fun h => absurd h (by decide), okL_mono hx (Lup.sub _ _) _ hok⟩
  have hi := (List.getElem?_eq_some_iff.1 ha).1
  rw [conc_ext hx a (okL_iff.1 hok a (List.mem_of_getElem? ha)), Array.getElem?_append_left (by simpa using hi)]
  simp [ha]
theorem append_ok {l m : List AV} (h : okL x L l) (k : okL x L m) : okL x L (l ++ m) := okL_iff.2 fun a ha => by
  rcases List.mem_append.1 ha with q | q
  · exact okL_iff.1 h a q
  · exact okL_iff.1 k a q
theorem run_append_in (w w' : World) (t ty e : TypeId) (i : TypeInfo) (ht : P.underlying t = some (.slice e)) (hi : P.info? e = some i)
    (A : Addr) (n c : Nat) (a : Addr) (m c' : Nat) (news : List Value) (hl : news.length = m * i.size) (hnews : ∀ j u, news[j]? = some u → w.cell? (a.add j) = some u)
    (hroom : n + m ≤ c) (hst : (storeCells (A.add (n * i.size)) news).run P w = .ok () w') :
    (Builtin.append_ #[t, t] ty #[.slice (some A) n c, .slice (some a) m c']).run P w = .ok (.slice (some A) (n + m) c) w' := by
  have hf := run_firstCells_some (P := P) w i.size m a m c' news hl hnews
  simp [Builtin.append_, run_underlying ht, sizeOf, typeInfo, hi, Builtin.lenOf, hroom, hf, hst]
theorem append_sound (h : HR base x L w H) (hn1 : H.n + 1 < 1000000) {t ty e : TypeId} (ht : P.underlying t = some (.slice e)) {s y : AV} {m sz : Nat} {l : List AV} {r : AV} {H' : Hp} (hs : s.ok x L) (hy : y.ok x L) (hsz : szT P e = some sz) (hc : aCells H sz y = some (m, l)) (h0 : 0 < m) (ha : aAppend P e H s m l = some (r, H')) :
    ∃ x' L' w', (Builtin.append_ #[t, t] ty #[conc x s, conc x y]).run P w = .ok (conc x' r) w' ∧ r.ok x' L' ∧ Nx base x L w H x' L' w' H' := by
  obtain ⟨hl1, hl2, hl3⟩ := cells_sound h hy hc
  obtain ⟨A, c', hA, hcell⟩ : ∃ A c, conc x y = .slice (some A) m c ∧ ∀ j v, (l.map (conc x))[j]? = some v → w.cell? (A.add j) = some v := by
    rcases hl3 with h | ⟨_, hm⟩
    · exact h
    · omega
  obtain ⟨ie, hie, hsi⟩ := szT_info hsz
  rw [hA]
  unfold aAppend at ha
  split at ha
  · next sz' z hel =>
    obtain ⟨ie', hie', hsi', hzz, hzc, hpos, hby, hszs⟩ := ent_sound P hel
    rw [hie] at hie'
    injection hie' with hie'
    subst hie'
    rw [hsi] at hsi'
    subst hsi'
    have hlm : (l.map (conc x)).length = m * ie.size := by rw [List.length_map, hl1, hsi]
    have hLn : ¬ L H.n := fun q => Nat.lt_irrefl _ (h.lt _ q)
    have hbytes : ∀ k, k ≤ 1000000 → k * ie.bytes ≤ 140737488355328 := fun k hk => by
      have : k * ie.bytes ≤ 1000000 * 100000 := Nat.mul_le_mul hk hby
      omega
    split at ha
    · split at ha
      · next q1 q2 q3 =>
        injection ha with ha
        injection ha with h1 h2
        subst h1 h2
        have e2 := Nat.le_of_ble_eq_true q2
        have hr := run_append_nil (P := P) w t ty e ie z ht hie hzz A m c' (l.map (conc x)) hlm hcell h0 (by omega) (by have := hbytes m e2; omega)
        have hge := grownCap_ge w m 0 e
        have hcm : grownCap w m 0 e ≤ maxLen := grownCap_le_maxLen w m 0 e (by simp only [maxLen]; omega)
        refine ⟨Gh.up x H.n (w.heap.size, grownCap w m 0 e), Lup L H.n, _, ?_, ?_, h.new hn1 (w' := w.drew.alloc (.cells ((l.map (conc x)).toArray ++ Builtin.zeroCells z.cells (grownCap w m 0 e - m)) e)) (by simp) (fun k hk => (by first | exact heap_alloc_old w.drew _ hk | exact heap_alloc_old w.drew _ _ hk)) (Nat.le_refl _) (obR_grown hl2 hLn (heap_alloc_new w.drew _) ?_ hcm) ((Below.refl base w).drew.alloc h.size _)⟩
        · rw [show conc x (.v (.slice none 0 0)) = .slice none 0 0 by rw [conc], hr]
          simp [conc, Gh.up_at]
        · rw [AV.ok]
          exact ⟨.inr rfl, by rw [Gh.up_at]; simp; omega⟩
        · rw [size_zeroCells, hzc, hl1, ← Nat.add_mul]
          congr 1
          omega
      · cases ha
    · next b o n c =>
      rw [AV.ok] at hs
      split at ha
      · next q =>
        split at ha
        · next H1 hp =>
          injection ha with ha
          injection ha with h1 h2
          subst h1 h2
          obtain ⟨g1, g2⟩ := putC_sound (P := P) h hs hl2 hp
          refine ⟨x, L, _, ?_, by rw [AV.ok]; exact hs, g2⟩
          simp only [conc]
          refine run_append_in w _ t ty e ie ht hie _ n c A m c' _ hlm hcell (Nat.le_of_ble_eq_true q) ?_
          rw [addr_add, hsi]
          exact g1
        · cases ha
      · next q =>
        split at ha
        · next cs hcs q2 q3 =>
          injection ha with ha
          injection ha with h1 h2
          subst h1 h2
          have e2 := Nat.le_of_ble_eq_true q2
          have hlt : c < n + m := by
            refine Nat.lt_of_not_le fun hle => ?_
            rw [Nat.ble_eq_true_of_le hle] at q
            cases q
          obtain ⟨k1, k2, k3⟩ := ldC_sound h hs hcs
          have hr := run_append_grow (P := P) w t ty e ie z ht hie hzz ⟨(x b).1, o, none⟩ n c (cs.map (conc x)) (by rw [List.length_map, k1, hsi]) k3 A m c' (l.map (conc x)) hlm hcell hlt (by omega) (growslice_fits hlt (hbytes _ e2))
          have hge := grownCap_ge w (n + m) c e
          have hcm : grownCap w (n + m) c e ≤ maxLen := grownCap_le_maxLen w (n + m) c e (by simp only [maxLen]; omega)
          have hcat : (cs.map (conc x)).toArray ++ (l.map (conc x)).toArray = ((cs ++ l).map (conc x)).toArray := by simp
          refine ⟨Gh.up x H.n (w.heap.size, grownCap w (n + m) c e), Lup L H.n, _, ?_, ?_, h.new hn1 (w' := w.drew.alloc (.cells (((cs ++ l).map (conc x)).toArray ++ Builtin.zeroCells z.cells (grownCap w (n + m) c e - (n + m))) e)) (by simp) (fun k hk => (by first | exact heap_alloc_old w.drew _ hk | exact heap_alloc_old w.drew _ _ hk)) (Nat.le_refl _) (obR_grown (append_ok k2 hl2) hLn (heap_alloc_new w.drew _) ?_ hcm) ((Below.refl base w).drew.alloc h.size _)⟩
          · rw [show conc x (.sk b o n c) = .slice (some ⟨(x b).1, o, none⟩) n c by rw [conc], hr, hcat]
            simp [conc, Gh.up_at]
          · rw [AV.ok]
            exact ⟨.inr rfl, by rw [Gh.up_at]; simp; omega⟩
          · rw [size_zeroCells, hzc, List.length_append, hl1, k1, ← Nat.add_mul, ← Nat.add_mul]
            congr 1
            omega
        · cases ha
    · next b o c n =>
      rw [AV.ok] at hs
      split at ha
      · next cs t' y' hk =>
        split at ha
        · next q1 q2 q3 q4 q5 =>
          injection ha with ha
          injection ha with h1 h2
          subst h1 h2
          rw [Bool.and_eq_true, Bool.and_eq_true] at q4
          rw [Bool.and_eq_true] at q5
          have e2 := Nat.le_of_ble_eq_true q5.1
          have hone := allOne_iff.1 q5.2
          have o0 : o = 0 := Nat.eq_of_beq_eq_true q1
          have c0 : c = 0 := Nat.eq_of_beq_eq_true q2
          have hlen : n * sz = cs.length := by rw [← lenL_eq]; exact Nat.eq_of_beq_eq_true q3
          have hbr := Nat.le_of_ble_eq_true q4.1
          have hys : sz = y' := (Nat.eq_of_beq_eq_true q4.2.1).symm
          have hte : e = t' := (Nat.eq_of_beq_eq_true q4.2.2).symm
          subst o0 c0 hys hte
          obtain ⟨cur, d1, d2, d3, d4, d5, d6⟩ := h.at_ b _ hk hs.1
          obtain ⟨d4, d4'⟩ := d4 rfl
          have hbase := h.rw_ b _ hk hs.1 hbr
          have hbn := h.lt b hs.1
          have hcs : okL x L (cs ++ l) := append_ok d6 hl2
          have hdrop := (h.drop hs.1).hr
          obtain ⟨hlay, hnL, hget⟩ := hdrop.lay (k := .c (cs ++ l) e sz false) hn1
          have hother : ∀ c k, ((H.drop b).new (.c (cs ++ l) e sz false)).get c = some k → L c → c ≠ b ∧ H.get c = some k := fun c k hk hc => by
            rw [Hp.new_get _ _ hdrop.fin] at hk
            by_cases hcn : c = H.n
            · exact absurd (h.lt c hc) (by omega)
            · rw [if_neg (show ¬ c = (H.drop b).n from hcn), Hp.drop_get _ (by have := h.fin; omega)] at hk
              by_cases hcb : c = b
              · rw [if_pos hcb] at hk; cases hk
              · rw [if_neg hcb] at hk; exact ⟨hcb, hk⟩
          have hne : ∀ c k, ((H.drop b).new (.c (cs ++ l) e sz false)).get c = some k → L c → (x c).1 ≠ (x b).1 := fun c k hk' hc he => by
            obtain ⟨hcb, hk''⟩ := hother c k hk' hc
            rcases Nat.lt_or_ge c H.r with hcr | hcr
            · have := h.ro c k hk'' hc hcr
              omega
            · exact hcb (h.inj c b k _ hk'' hk hc hs.1 hcr hbr he)
          have hstay : ∀ c, c < H.n → ¬ L c → ¬ Lup L H.n c ∧ ((H.drop b).new (.c (cs ++ l) e sz false)).get c = H.get c := fun c hc hcL => by
            refine ⟨fun q => q.elim hcL (fun q => by omega), ?_⟩
            rw [Hp.new_get _ _ hdrop.fin, if_neg (show ¬ c = (H.drop b).n from by show ¬ c = H.n; omega), Hp.drop_get _ (by have := h.fin; omega), if_neg (show ¬ c = b from fun e => hcL (e ▸ hs.1))]
          have hcl : (cs.map (conc x)).length = n * ie.size := by rw [List.length_map, ← hlen, hsi]
          have hcc : ∀ j v, (cs.map (conc x))[j]? = some v → w.cell? ((⟨(x b).1, 0, none⟩ : Addr).add j) = some v := fun j v hv => by
            rw [List.getElem?_map] at hv
            cases hc : cs[j]? with
            | none => rw [hc] at hv; cases hv
            | some a =>
              rw [hc] at hv
              injection hv with hv
              rw [addr_add, ← hv]
              simp [World.cell?, d1, d2 _ _ hc]
          have hconc : conc x (.sl b 0 0 n) = .slice (some ⟨(x b).1, 0, none⟩) n (x b).2 := by rw [conc, Nat.sub_zero]
          by_cases hroom : n + m ≤ (x b).2
          · have hfit : n * ie.size + (l.map (conc x)).length ≤ cur.size := by
              rw [hlm, d4, hsi, ← Nat.add_mul]
              exact Nat.mul_le_mul_right _ hroom
            have hr := run_append_room (P := P) w t ty e ie ht hie (x b).1 n (x b).2 cur d1 A m c' (l.map (conc x)) hlm hcell (fun u hu => by
              obtain ⟨a, ha, rfl⟩ := List.mem_map.1 hu
              exact one_conc x (hone a ha)) hroom hfit
            have hrow : cur.toList.take (n * ie.size) = cs.map (conc x) := by
              refine List.ext_getElem? fun j => ?_
              rw [List.getElem?_take, List.getElem?_map]
              by_cases hj : j < n * ie.size
              · rw [if_pos hj]
                have hj' : j < cs.length := by rw [← hlen, ← hsi]; exact hj
                rw [Array.getElem?_toList, d2 j _ (List.getElem?_eq_getElem hj'), List.getElem?_eq_getElem hj']
                rfl
              · rw [if_neg hj, List.getElem?_eq_none (by rw [← hlen, ← hsi]; omega)]
                rfl
            have hw' := setRow_heap w (x b).1 cur (cur.toList.take (n * ie.size) ++ l.map (conc x) ++ cur.toList.drop (n * ie.size + (l.map (conc x)).length)).toArray e _ d1
            have hsh : (cur.toList.take (n * ie.size) ++ l.map (conc x) ++ cur.toList.drop (n * ie.size + (l.map (conc x)).length)).toArray = ((cs ++ l).map (conc x)).toArray ++ (cur.toList.drop (n * ie.size + (l.map (conc x)).length)).toArray := by
              rw [hrow]
              simp
            refine ⟨Gh.up x H.n ((x b).1, (x b).2), Lup L H.n, w.setRow (x b).1 (cur.toList.take (n * ie.size) ++ l.map (conc x) ++ cur.toList.drop (n * ie.size + (l.map (conc x)).length)).toArray, (by rw [hconc, hr]; simp [conc, Gh.up_at]), ?_, ⟨hlay.live' hnL hget (by show H.r ≤ H.n; exact h.rn) (by rw [setRow_size]; exact h.size) (fun c k hk' hc => setRow_other w _ _ _ (hne c k hk' hc)) hbase (fun c k hk' hc _ => hne c k hk' hc) (obR_grown hcs hLn (by rw [← hsh]; exact hw') ?_ d4'), Gh.up_ext x _ hLn, Lup.sub _ _, hstay, Nat.le_succ _, rfl, ?_⟩⟩
            · rw [AV.ok]
              exact ⟨.inr rfl, by rw [Gh.up_at]; simp; omega⟩
            · simp only [List.size_toArray, List.length_drop, List.length_append, Array.length_toList, hlm, hl1]
              rw [← hlen, d4, hsi]
              have : (n + m) * sz ≤ (x b).2 * sz := Nat.mul_le_mul_right _ hroom
              rw [Nat.add_mul] at this
              omega
            · exact (below_setRow (Below.refl base w) hbase _)
          · have hlt : (x b).2 < n + m := by omega
            have hr := run_append_grow (P := P) w t ty e ie z ht hie hzz ⟨(x b).1, 0, none⟩ n (x b).2 (cs.map (conc x)) hcl hcc A m c' (l.map (conc x)) hlm hcell hlt (by omega) (growslice_fits hlt (hbytes _ e2))
            have hge := grownCap_ge w (n + m) (x b).2 e
            have hcm : grownCap w (n + m) (x b).2 e ≤ maxLen := grownCap_le_maxLen w (n + m) (x b).2 e (by simp only [maxLen]; omega)
            have hcat : (cs.map (conc x)).toArray ++ (l.map (conc x)).toArray = ((cs ++ l).map (conc x)).toArray := by simp
            refine ⟨Gh.up x H.n (w.heap.size, grownCap w (n + m) (x b).2 e), Lup L H.n, _, (by rw [hconc, hr, hcat]; simp [conc, Gh.up_at]), ?_, ⟨hlay.live hnL hget (by show H.r ≤ H.n; exact h.rn) (w' := w.drew.alloc (.cells (((cs ++ l).map (conc x)).toArray ++ Builtin.zeroCells z.cells (grownCap w (n + m) (x b).2 e - (n + m))) e)) (by simp) (fun k hk => (by first | exact heap_alloc_old w.drew _ hk | exact heap_alloc_old w.drew _ _ hk)) (Nat.le_refl _) (obR_grown hcs hLn (heap_alloc_new w.drew _) ?_ hcm), Gh.up_ext x _ hLn, Lup.sub _ _, hstay, Nat.le_succ _, rfl, (Below.refl base w).drew.alloc h.size _⟩⟩
            · rw [AV.ok]
              exact ⟨.inr rfl, by rw [Gh.up_at]; simp; omega⟩
            · rw [size_zeroCells, hzc, List.length_append, hl1, ← hlen, ← Nat.add_mul, ← Nat.add_mul]
              congr 1
              omega
        · cases ha
      · cases ha
    · cases ha
  · cases ha
end
end Go.Proofs.YtklanoppbbaolaaGreat
