/- A closed run: the operations that read memory, or lay a block. No program is named here. -/
import Derived.Test.YtklanoppbbaolaaGreatEw7
import Derived.Laws.MakeOwn
import Derived.Great.BuildSlice
namespace Go.Proofs.YtklanoppbbaolaaGreat
open Go Go.RowKit
set_option linter.unusedVariables false
set_option linter.unusedSimpArgs false
section
variable {P : Program} {base : Nat} {x : Gh} {L : Nat → Prop} {w : World} {H : Hp} {T : Tr AV} {ρ : Operand → Value}
theorem ldC_sound (h : HR base x L w H) {b o n : Nat} (hL : L b) {l : List AV} (hl : ldC H b o n = some l) :
    l.length = n ∧ okL x L l ∧ ∀ j v, (l.map (conc x))[j]? = some v → w.cell? ((⟨(x b).1, o, none⟩ : Addr).add j) = some v := by
  unfold ldC at hl
  split at hl
  · next cs t sz ex hk =>
    split at hl
    · next hle =>
      injection hl with hl
      subst hl
      rw [takeN_eq, dropN_eq]
      have hle' : o + n ≤ cs.length := by rw [lenL_eq] at hle; exact Nat.le_of_ble_eq_true hle
      obtain ⟨cur, h1, h2, h3, h4, h5, h6⟩ := h.at_ b _ hk hL
      refine ⟨by rw [List.length_take, List.length_drop]; omega, okL_iff.2 fun a ha => okL_iff.1 h6 a (List.mem_of_mem_drop (List.mem_of_mem_take ha)), fun j v hv => ?_⟩
      rw [List.getElem?_map] at hv
      cases hc : ((cs.drop o).take n)[j]? with
      | none => rw [hc] at hv; cases hv
      | some a =>
        rw [hc] at hv
        injection hv with hv
        have hj : cs[o + j]? = some a := by
          rw [List.getElem?_take] at hc
          split at hc
          · rwa [List.getElem?_drop] at hc
          · cases hc
        rw [addr_add, ← hv]
        simp [World.cell?, h1, h2 _ _ hj]
    · cases hl
  · cases hl
theorem load_sound (h : HR base x L w H) {t : TypeId} {b o : Nat} (hL : L b) {a : AV} (hl : aLoad P t H b o = some a) :
    (loadVar t ⟨(x b).1, o, none⟩).run P w = .ok (conc x a) w ∧ a.ok x L := by
  unfold aLoad at hl
  split at hl
  · next hg =>
    cases hs : szT P t with
    | none => rw [hs] at hl; cases hl
    | some n =>
      rw [hs] at hl
      dsimp only at hl
      cases hc : ldC H b o n with
      | none => rw [hc] at hl; cases hl
      | some l =>
        rw [hc] at hl
        injection hl with hl
        subst hl
        obtain ⟨h1, h2, h3⟩ := ldC_sound h hL hc
        have hr := run_loadCells_list (P := P) w ⟨(x b).1, o, none⟩ (l.map (conc x)) h3
        rw [List.length_map, h1] at hr
        refine ⟨?_, by simpa only [AV.ok] using h2⟩
        simp only [loadVar, Sem.run_bind, run_isAggA hg, Result.andThen, if_true, run_sizeOfA hs, hr, Sem.run_pure, conc, concL_map]
  · next hg =>
    cases hc : ldC H b o 1 with
    | none => rw [hc] at hl; cases hl
    | some l =>
      obtain ⟨h1, h2, h3⟩ := ldC_sound h hL hc
      rw [hc] at hl
      match l, h1, hl with
      | [c], _, hl =>
        injection hl with hl
        subst hl
        have h4 := h3 0 (conc x c) rfl
        rw [addr_add, Nat.add_zero] at h4
        refine ⟨?_, h2.1⟩
        simp only [loadVar, Sem.run_bind, run_isAggA hg, Result.andThen, Bool.false_eq_true, if_false, run_load, h4]
  · cases hl
theorem ent_sound (P : Program) {e : TypeId} {sz : Nat} {z : Value} (h : elT P e = some (sz, z)) : ∃ i, P.info? e = some i ∧ i.size = sz ∧ i.zero = some z ∧ z.cells.size = sz ∧ 0 < sz ∧ i.bytes ≤ 100000 ∧ sz ≤ 100 := by
  unfold elT at h
  split at h
  · next i hi =>
    split at h
    · next z' hz =>
      split at h
      · next h1 h2 h3 =>
        injection h with h
        injection h with ha hb
        subst ha hb
        rw [Bool.and_eq_true] at h3
        exact ⟨i, hi, rfl, hz, Nat.eq_of_beq_eq_true h1, by simpa [Nat.blt_eq] using h2, Nat.le_of_ble_eq_true h3.1, Nat.le_of_ble_eq_true h3.2⟩
      · cases h
    · cases h
  · cases h
theorem reps_at (z : List AV) (hz : 0 < z.length) : ∀ (n i : Nat), i < n * z.length → (reps z n)[i]? = z[i % z.length]?
  | 0, i, h => by omega
  | n + 1, i, h => by
    rw [reps, List.getElem?_append]
    by_cases hi : i < z.length
    · rw [if_pos hi, Nat.mod_eq_of_lt hi]
    · rw [if_neg hi, reps_at z hz n (i - z.length) (by rw [Nat.succ_mul] at h; omega), ← Nat.mod_eq_sub_mod (by omega)]
theorem reps_len (z : List AV) : ∀ n, (reps z n).length = n * z.length
  | 0 => by simp [reps]
  | n + 1 => by rw [reps, List.length_append, reps_len z n, Nat.succ_mul, Nat.add_comm]
theorem reps_ok {z : List AV} (hz : okL x L z) : ∀ n, okL x L (reps z n)
  | 0 => by simp [reps, okL]
  | n + 1 => by
    rw [reps]
    exact okL_iff.2 fun a ha => by
      rcases List.mem_append.1 ha with h | h
      · exact okL_iff.1 hz a h
      · exact okL_iff.1 (reps_ok hz n) a h
theorem made_sound (z : Value) (n : Nat) (hz : 0 < z.cells.size) : (madeCells z.cells (n * z.cells.size)).toList = (reps (z.cells.toList.map .v) n).map (conc x) := by
  refine List.ext_getElem? fun i => ?_
  rw [List.getElem?_map]
  have hlen : (z.cells.toList.map AV.v).length = z.cells.size := by simp
  by_cases hi : i < n * z.cells.size
  · rw [reps_at _ (by rw [hlen]; exact hz) n i (by rw [hlen]; exact hi), hlen, List.getElem?_map]
    have hm : i % z.cells.size < z.cells.size := Nat.mod_lt _ hz
    simp only [madeCells, Array.toList_map, Array.toList_range, List.getElem?_map]
    rw [List.getElem?_range hi]
    simp [hm, conc]
  · rw [List.getElem?_eq_none (by simp [madeCells]; omega), List.getElem?_eq_none (by rw [reps_len, hlen]; omega)]
    rfl
theorem setF_len (pl : List (Nat × Nat)) : ∀ (ps : List (Nat × AV)) (zs cs : List AV), setF zs pl ps = some cs → cs.length = zs.length
  | [], zs, cs, h => by rw [setF] at h; injection h with h; rw [h]
  | (i, a) :: ps, zs, cs, h => by
    rw [setF] at h
    split at h
    · split at h
      · rw [setF_len pl ps _ cs h, setC_len]
      · cases h
    · cases h
/-- A block of known cells, new. -/
theorem obR_new (b0 : Nat) (hb : ¬ L b0) (cs : List AV) (hok : okL x L cs) (cells : Array Value) (hc : cells.toList = cs.map (conc x)) (t : TypeId) (cap : Nat) :
    ObR (Gh.up x b0 (w.heap.size, cap)) (Lup L b0) (w.alloc (.cells cells t)) w.heap.size cap (.c cs t 1 true) := by
  have hx : Ext L x (Gh.up x b0 (w.heap.size, cap)) := Gh.up_ext x _ hb
  have hl : cells.size = cs.length := by have := congrArg List.length hc; simpa using this
  refine ⟨cells, heap_alloc_new w _, fun i a ha => ?_, by omega, fun h => absurd h (by decide), fun _ => hl, okL_mono hx (Lup.sub _ _) _ hok⟩
  rw [conc_ext hx a (okL_iff.1 hok a (List.mem_of_getElem? ha)), ← Array.getElem?_toList, hc, List.getElem?_map, ha]
  rfl
theorem alloc_sound {o : Oper} {ob : Ob} {mk : Nat → AV} (h : aAlloc P T o = some (ob, mk)) (hop : OpR x L T ρ o.op.operands.toList) (b0 : Nat) (hb : ¬ L b0) (w : World) :
    ∃ cap obj, (execOp ρ o).run P w = .ok (.value (conc (Gh.up x b0 (w.heap.size, cap)) (mk b0))) (w.alloc obj) ∧ ObR (Gh.up x b0 (w.heap.size, cap)) (Lup L b0) (w.alloc obj) w.heap.size cap ob ∧ (mk b0).ok (Gh.up x b0 (w.heap.size, cap)) (Lup L b0) := by
  have hup : ∀ cap, (Gh.up x b0 (w.heap.size, cap) b0).1 = w.heap.size := fun cap => by rw [Gh.up_at]
  unfold aAlloc at h
  split at h
  · next e ho =>
    split at h
    · next z hz =>
      injection h with h
      injection h with h1 h2
      subst h1 h2
      refine ⟨1, .cells z.cells e, ?_, obR_new b0 hb _ (ok_vs _) _ (cells_v _ x).symm e 1, by rw [AV.ok]; exact .inr rfl⟩
      simp only [execOp, ho]
      refine exec_v ?_
      simp [Instr.alloc, run_zeroA hz, newVar, newRow, conc, hup]
    · cases h
  · next e y ho =>
    split at h
    · next a hy =>
      injection h with h
      injection h with h1 h2
      subst h1 h2
      obtain ⟨e1, e2⟩ := hop y (by rw [ho]; simp [Op.operands]) a hy
      refine ⟨1, .cells (conc x a).cells e, ?_, obR_new b0 hb _ (ok_cells e2) _ (conc_cells x a) e 1, by rw [AV.ok]; exact .inr rfl⟩
      simp only [execOp, ho, e1]
      refine exec_v ?_
      simp [Instr.box, newVar, newRow, conc, hup]
    · cases h
  · next t n ps ho =>
    split at h
    · next l e hl hu =>
      have hps : OpR x L T ρ (ps.toList.map (·.2)) := fun y hy a ha => hop y (by rw [ho]; simpa [Op.operands] using hy) a ha
      obtain ⟨p1, p2⟩ := evP_sound ps.toList l hps hl
      have hparts : (ps.map fun p => (p.1, ρ p.2)).toList = l.map fun p => (p.1, conc x p.2) := by rw [Array.toList_map, p1]
      split at h
      · next sz z hel hc =>
        obtain ⟨ie, hie, hsz, hzz, hzc, hpos, _, _⟩ := ent_sound P hel
        split at h
        · next hn hl0 =>
          injection h with h
          injection h with h1 h2
          subst h1 h2
          refine ⟨1, .cells #[] e, ?_, obR_new b0 hb [] (by simp [okL]) _ rfl e 1, by rw [AV.ok]; exact .inr rfl⟩
          have hps0 : ps.map (fun p => (p.1, ρ p.2)) = #[] := by
            apply Array.ext'
            rw [hparts]
            rfl
          simp only [execOp, ho]
          refine exec_v ?_
          have hps1 : (Array.map (fun x : Nat × Operand => match x with | (i, x) => (i, ρ x)) ps) = #[] := hps0
          rw [hps1]
          simp [Instr.buildSlice, run_underlying hu, sizeOf, typeInfo, hie, newRow, Instr.fill, conc, hup, Array.range_zero']
        · cases h
      · next sz z hel hc =>
        obtain ⟨ie, hie, hsz, hzz, hzc, hpos, _, hszs⟩ := ent_sound P hel
        rw [Bool.and_eq_true] at hc
        have hn1 : n ≤ 100000 := Nat.le_of_ble_eq_true hc.1
        have hn0 : 0 < n := by simpa [Nat.blt_eq] using hc.2
        split at h
        · next cs hs =>
          injection h with h
          injection h with h1 h2
          subst h1 h2
          have hmade : ((Array.range (n * ie.size)).map (z.cells[· % z.cells.size]!)).toList = (reps (z.cells.toList.map .v) n).map (conc x) := by
            have := made_sound (x := x) z n (by omega)
            rw [hsz, ← hzc]
            exact this
          obtain ⟨cells, f1, f2, f3, f4⟩ := fill_sound (x := x) (L := L) (fun i => some (i * ie.size, ie.size)) (rowP sz n 0) (fun i p hi => by rw [rowP_at sz n 0 i p hi, hsz, Nat.zero_add]) l _ cs _ hmade (reps_ok (ok_vs _) n) p2 hs
          refine ⟨1, .cells cells e, ?_, obR_new b0 hb _ f3 _ f2 e 1, by rw [AV.ok]; exact .inr rfl⟩
          simp only [execOp, ho]
          refine exec_v ?_
          have := run_buildSlice (P := P) w t e n (ps.map fun p => (p.1, ρ p.2)) cells ie z hu hie hzz (by have : n * ie.size ≤ 100000 * 100 := Nat.mul_le_mul hn1 (by omega); omega) (by have := Nat.mul_pos hn0 hpos; rw [hsz]; omega) (by rw [hparts]; exact f1)
          simp only [conc, hup]
          exact this
        · cases h
      · cases h
    · cases h
  · next t l c ho =>
    split at h
    · next lv cv e hl hc hu =>
      split at h
      · next n cp sz z hn hcp hel =>
        obtain ⟨ie, hie, hsz, hzz, hzc, hpos, hby, hszs⟩ := ent_sound P hel
        split at h
        · next q1 q2 =>
          injection h with h
          injection h with h1 h2
          subst h1 h2
          obtain ⟨k1, rfl⟩ := toI_sound hn
          obtain ⟨k2, rfl⟩ := toI_sound hcp
          have e1 := Nat.le_of_ble_eq_true q1
          have e2 := Nat.le_of_ble_eq_true q2
          have hm := made_sound (x := x) z cp (by omega)
          refine ⟨1, .cells (madeCells z.cells (cp * ie.size)) e, ?_, obR_new b0 hb _ (reps_ok (ok_vs _) cp) _ (by rw [hsz, ← hzc]; exact hm) e 1, by rw [AV.ok]; exact .inr rfl⟩
          have o1 := (hop l (by rw [ho]; simp [Op.operands]) _ hl).1
          have o2 := (hop c (by rw [ho]; simp [Op.operands]) _ hc).1
          simp only [execOp, ho, o1, o2, conc]
          refine exec_v ?_
          have hb1 : ie.bytes * cp ≤ 100000 * 100000 := Nat.mul_le_mul hby e2
          have hb2 : (ie.bytes : Int) * (cp : Int) ≤ 281474976710656 := by
            rw [← Int.natCast_mul]
            omega
          have hb3 : cp * ie.size ≤ 100000 * 100 := Nat.mul_le_mul e2 (by omega)
          have := run_makeSlice (P := P) w t e ie z hu hie hzz k1 k2 (Int.ofNat n) (Int.ofNat cp) (by simp) (by simp; omega) (by simp; omega) (by simpa using hb2) (by simp; omega)
          simpa [hup] using this
        · cases h
      · cases h
    · cases h
  · next t ho =>
    injection h with h
    injection h with h1 h2
    subst h1 h2
    refine ⟨1, .map #[] 0, ?_, ⟨#[], 0, heap_alloc_new w _, rfl, fun p hp => by simp at hp⟩, by rw [AV.ok]; exact .inr rfl⟩
    simp only [execOp, ho]
    refine exec_v ?_
    simp [Instr.makeMap, conc, hup]
  · cases h
end
end Go.Proofs.YtklanoppbbaolaaGreat
