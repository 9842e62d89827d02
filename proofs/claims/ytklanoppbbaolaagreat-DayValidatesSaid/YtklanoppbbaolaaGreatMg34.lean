/- The text Ew10. -/
import Derived.MapKept
import Derived.Test.YtklanoppbbaolaaGreatMg33
/- A closed run: copies, maps, and all operations that read or turn memory. No program is named here. -/
namespace Go.Proofs.YtklanoppbbaolaaGreat
open Go Go.RowKit
set_option linter.unusedVariables false
set_option linter.unusedSimpArgs false
section
variable {P : Program} {base : Nat} {x : Gh} {L : Nat → Prop} {w : World} {H : Hp} {T : Tr AV} {ρ : Operand → Value}
theorem rawL_sound : ∀ (l : List AV) (vs : List Value), rawL l = some vs → concL x l = vs
  | [], vs, h => by simp only [rawL, Option.some.injEq] at h; subst h; simp [concL]
  | a :: l, vs, h => by
    unfold rawL at h
    split at h
    · next h0 => cases h0
    · next h0 =>
      injection h0 with h1 h2
      subst h1 h2
      split at h
      · next r hr =>
        injection h with h
        subst h
        rw [concL, rawL_sound _ r hr, conc_v]
      · cases h
    · cases h
/-- A key is a number, or wide. -/
def Wide (P : Program) (kt : TypeId) : Prop := (match P.underlying kt with | some (.array _ _) | some (.struct _) => true | _ => false) = true ∧ P.keyTypeAt 30 kt = true ∧ P.tiled 30 kt = true
theorem keyT_sound {kt : TypeId} (h : keyT P kt = true) : (∃ q, P.underlying kt = some (.int q)) ∨ Wide P kt := by
  unfold keyT at h
  unfold Wide
  split at h
  · next q hq => exact .inl ⟨q, hq⟩
  · next n e hu =>
    split at h
    · next h2 h3 => exact .inr ⟨by rw [hu], h2, h3⟩
    · cases h
  · next fs hu =>
    split at h
    · next h2 h3 => exact .inr ⟨by rw [hu], h2, h3⟩
    · cases h
  · cases h
theorem key_int {kt : TypeId} {q : IntKind} (hq : P.underlying kt = some (.int q)) {a : AV} (h : keyV P kt a = true) : ∃ n, a = .v (.int q n) := by
  unfold keyV at h
  split at h
  · next k n => rw [hq] at h; exact ⟨n, by rw [of_decide_eq_true h]⟩
  · split at h
    · rw [hq] at h; cases h
    · cases h
  · cases h
theorem key_sound {kt : TypeId} (hw : Wide P kt) {a : AV} (h : keyV P kt a = true) : ∃ l, keyOf P kt (conc x a) = some l := by
  unfold keyV at h
  split at h
  · next k n =>
    split at h
    · next q hq => have := hw.1; rw [hq] at this; cases this
    · cases h
  · next l =>
    split at h
    · next vs hv =>
      rw [conc, rawL_sound l vs hv]
      split at h
      · cases h
      · exact Option.isSome_iff_exists.1 h
    · cases h
  · cases h
theorem sameK_sound {a b : AV} {r : Bool} (h : sameK a b = some r) : (r = true ↔ conc x a = conc x b) := by
  unfold sameK at h
  split at h
  · next k n k' n' =>
    split at h
    · next hk =>
      injection h with h
      subst h hk
      simp only [conc, beq_iff_eq, Value.int.injEq, true_and]
    · cases h
  · cases h
theorem sameKs_sound : ∀ (l m : List AV) (r : Bool), sameKs l m = some r → (r = true ↔ concL x l = concL x m)
  | [], [], r, h => by rw [sameKs] at h; injection h with h; subst h; simp
  | [], _ :: _, r, h => by rw [sameKs] at h <;> first | cases h | simp
  | _ :: _, [], r, h => by rw [sameKs] at h <;> first | cases h | simp
  | a :: l, b :: m, r, h => by
    rw [sameKs] at h
    split at h
    · next h1 =>
      have := (sameK_sound (x := x) h1).1 rfl
      rw [sameKs_sound l m r h, concL, concL, this]
      simp
    · next h1 =>
      injection h with h
      subst h
      have := sameK_sound (x := x) h1
      simp only [concL, List.cons.injEq]
      constructor
      · intro q; cases q
      · intro q; exact this.2 q.1
    · cases h
theorem sameI_sound {a b : AV} {r : Bool} (h : sameI a b = some r) : (r = true ↔ conc x a = conc x b) := by
  unfold sameI at h
  split at h
  · next l m =>
    rw [sameKs_sound l m r h]
    simp only [conc, Value.agg.injEq]
    constructor
    · intro q; rw [q]
    · intro q; simpa using q
  · exact sameK_sound h
theorem equal_key {kt : TypeId} (hT : keyT P kt = true) {k j : AV} (hk : keyV P kt k = true) (hj : keyV P kt j = true) {r : Bool} (h : sameI k j = some r) (w : World) : (Op.equal kt (conc x k) (conc x j)).run P w = .ok r w := by
  rcases keyT_sound hT with ⟨q, hq⟩ | hwd
  · obtain ⟨n, rfl⟩ := key_int hq hk
    obtain ⟨m, rfl⟩ := key_int hq hj
    simp only [sameI, sameK, if_true, Option.some.injEq] at h
    subst h
    rw [conc_v, conc_v]
    exact run_equalIn_int w 9999 kt q q n m hq
  obtain ⟨h1, h2, h3⟩ := hwd
  obtain ⟨lk, hlk⟩ := key_sound (x := x) ⟨h1, h2, h3⟩ hk
  obtain ⟨lj, hlj⟩ := key_sound (x := x) ⟨h1, h2, h3⟩ hj
  obtain ⟨q, hq, hiff⟩ := run_equal_deep w (m := 30) (by omega) h2 h1 hlk hlj
  rw [hq]
  have hs := sameI_sound (x := x) h
  have : q = r := by
    cases q <;> cases r
    · rfl
    · have e := hs.1 rfl
      rw [e, hlj] at hlk
      exact absurd (hiff.2 (Option.some.inj hlk).symm) (by decide)
    · have e := hiff.1 rfl
      rw [e] at hlk
      exact absurd (hs.2 (keyOf_inj_deep h3 h1 hlk hlj)) (by decide)
    · rfl
  rw [this]
theorem find_sound {kt : TypeId} (hT : keyT P kt = true) {k : AV} (hk : keyV P kt k = true) (w : World) : ∀ (es : List (AV × AV)) (ms : List MapEntry) (i : Nat), ms.map (fun e => (e.key, e.val)) = es.map (fun p => (conc x p.1, conc x p.2)) → allK P kt es = true → ∀ r, findM k es = some r →
    match r with
    | none => (Instr.findAsking kt (conc x k) ms i).run P w = .ok none w
    | some a => ∃ j, (Instr.findAsking kt (conc x k) ms i).run P w = .ok (some (i + j, conc x a)) w ∧ ∃ p, p ∈ es ∧ p.2 = a
  | [], ms, i, hm, ha, r, h => by
    rw [findM] at h
    injection h with h
    subst h
    cases ms with
    | nil => simp [Instr.findAsking]
    | cons e ms => cases hm
  | (j, c) :: es, ms, i, hm, ha, r, h => by
    cases ms with
    | nil => cases hm
    | cons e ms =>
      rw [List.map_cons, List.map_cons] at hm
      injection hm with hm1 hm2
      injection hm1 with hm1 hm3
      unfold allK at ha
      split at ha
      · next hj =>
        rw [findM] at h
        split at h
        · next hs =>
          injection h with h
          subst h
          refine ⟨0, ?_, ⟨(j, c), by simp, rfl⟩⟩
          have := equal_key hT hk hj hs (x := x) w
          dsimp only at hm1 hm3
          simp [Instr.findAsking, hm1, this, hm3]
        · next hs =>
          have := equal_key hT hk hj hs (x := x) w
          dsimp only at hm1 hm3
          have ih := find_sound hT hk w es ms (i + 1) hm2 ha r h
          have hstep : (Instr.findAsking kt (conc x k) (e :: ms) i).run P w = (Instr.findAsking kt (conc x k) ms (i + 1)).run P w := by simp [Instr.findAsking, hm1, this]
          rw [hstep]
          cases r with
          | none => exact ih
          | some a =>
            obtain ⟨q, h1, p, hp, h2⟩ := ih
            exact ⟨q + 1, by rw [h1, show i + 1 + q = i + (q + 1) by omega], p, List.mem_cons_of_mem _ hp, h2⟩
        · cases h
      · cases ha
theorem put_sound {kt : TypeId} (hT : keyT P kt = true) {k a : AV} (hk : keyV P kt k = true) (hok : k.ok x L ∧ a.ok x L) (w : World) : ∀ (es : List (AV × AV)) (ms : List MapEntry) (i : Nat), ms.map (fun e => (e.key, e.val)) = es.map (fun p => (conc x p.1, conc x p.2)) → allK P kt es = true → (∀ p ∈ es, p.1.ok x L ∧ p.2.ok x L) → ∀ es', putM k a es = some es' →
    (∀ p ∈ es', p.1.ok x L ∧ p.2.ok x L) ∧
    (((Instr.findAsking kt (conc x k) ms i).run P w = .ok none w ∧ es' = es ++ [(k, a)]) ∨
    ∃ j e, (Instr.findAsking kt (conc x k) ms i).run P w = .ok (some (i + j, e.val)) w ∧ ms[j]? = some e ∧ e.key = conc x k ∧ (ms.set j { e with key := conc x k, val := conc x a }).map (fun e => (e.key, e.val)) = es'.map (fun p => (conc x p.1, conc x p.2)))
  | [], ms, i, hm, ha, ho, es', h => by
    rw [putM] at h
    injection h with h
    subst h
    refine ⟨fun p hp => by simp at hp; subst hp; exact hok, .inl ?_⟩
    cases ms with
    | nil => simp [Instr.findAsking]
    | cons e ms => cases hm
  | (j, c) :: es, ms, i, hm, ha, ho, es', h => by
    cases ms with
    | nil => cases hm
    | cons e ms =>
      rw [List.map_cons, List.map_cons] at hm
      injection hm with hm1 hm2
      injection hm1 with hm1 hm3
      dsimp only at hm1 hm3
      unfold allK at ha
      split at ha
      · next hj =>
        rw [putM] at h
        split at h
        · next hs =>
          injection h with h
          subst h
          have he := (sameI_sound (x := x) hs).1 rfl
          refine ⟨fun p hp => ?_, .inr ⟨0, e, ?_, rfl, by rw [hm1, he], ?_⟩⟩
          · rcases List.mem_cons.1 hp with rfl | hp
            · exact ⟨(ho (j, c) (by simp)).1, hok.2⟩
            · exact ho p (by simp [hp])
          · have := equal_key hT hk hj hs (x := x) w
            simp [Instr.findAsking, hm1, this]
          · simp [hm2, he]
        · next hs =>
          split at h
          · next r hr =>
            injection h with h
            subst h
            have := equal_key hT hk hj hs (x := x) w
            have hstep : (Instr.findAsking kt (conc x k) (e :: ms) i).run P w = (Instr.findAsking kt (conc x k) ms (i + 1)).run P w := by simp [Instr.findAsking, hm1, this]
            rw [hstep]
            obtain ⟨h1, h2⟩ := put_sound hT hk hok w es ms (i + 1) hm2 ha (fun p hp => ho p (by simp [hp])) r hr
            refine ⟨fun p hp => ?_, ?_⟩
            · rcases List.mem_cons.1 hp with rfl | hp
              · exact ho _ (by simp)
              · exact h1 p hp
            · rcases h2 with ⟨h2, rfl⟩ | ⟨q, e', h2, h3, h4, h5⟩
              · exact .inl ⟨h2, rfl⟩
              · exact .inr ⟨q + 1, e', by rw [h2, show i + 1 + q = i + (q + 1) by omega], h3, h4, by simp only [List.set_cons_succ, List.map_cons, h5, hm1, hm3]⟩
          · cases h
        · cases h
      · cases ha
theorem mapOk_sound {kt : TypeId} {k : AV} {es : List (AV × AV)} (h : mapOk P kt k es = true) : keyT P kt = true ∧ keyV P kt k = true ∧ allK P kt es = true := by
  unfold mapOk at h
  split at h
  · next h1 h2 => exact ⟨h1, h2, h⟩
  · cases h
theorem check_key {kt : TypeId} (hT : keyT P kt = true) {k : AV} (hk : keyV P kt k = true) (em : Bool) (w : World) : (Instr.checkKey em 10000 kt (conc x k)).run P w = .ok () w := by
  rcases keyT_sound hT with ⟨q, hq⟩ | ⟨h1, h2, h3⟩
  · obtain ⟨n, rfl⟩ := key_int hq hk
    rw [conc_v]
    exact MapKept.run_checkKey hq (show MapKept.IsKey (.int q) (.int q n) from rfl) em 9999
  · obtain ⟨l, hl⟩ := key_sound (x := x) ⟨h1, h2, h3⟩ hk
    exact (deep_law (m := 30) (by omega) h2 h3 h1).check w em hl
theorem stays_key {kt : TypeId} (hT : keyT P kt = true) {k : AV} (hk : keyV P kt k = true) (w : World) : (Instr.keyThatStays (conc x k) (conc x k)).run P w = .ok (conc x k) w := by
  rcases keyT_sound hT with ⟨q, hq⟩ | ⟨h1, h2, h3⟩
  · obtain ⟨n, rfl⟩ := key_int hq hk
    rw [conc_v]
    have : Instr.sameBits 10000 (.int q n) (.int q n) = true := by
      show Instr.sameBits (9999 + 1) (.int q n) (.int q n) = true
      simp [Instr.sameBits]
    simp [Instr.keyThatStays, this]
  · obtain ⟨l, hl⟩ := key_sound (x := x) ⟨h1, h2, h3⟩ hk
    exact (deep_law (m := 30) (by omega) h2 h3 h1).stays w hl
theorem find_now {kt : TypeId} {q : IntKind} (hq : P.underlying kt = some (.int q)) (n : Int) (w : World) : ∀ (es : List (AV × AV)) (ms : List MapEntry) (i : Nat), ms.map (fun e => (e.key, e.val)) = es.map (fun p => (conc x p.1, conc x p.2)) → allK P kt es = true →
    ∃ r, Instr.findNow (.int q) (.int q n) ms i = some r ∧ (Instr.findAsking kt (.int q n) ms i).run P w = .ok r w
  | [], ms, i, hm, _ => by
    cases ms with
    | nil => exact ⟨none, by simp [Instr.findNow], by simp [Instr.findAsking]⟩
    | cons e ms => cases hm
  | (j, c) :: es, ms, i, hm, ha => by
    cases ms with
    | nil => cases hm
    | cons e ms =>
      rw [List.map_cons, List.map_cons] at hm
      injection hm with hm1 hm2
      injection hm1 with hm1 hm3
      dsimp only at hm1 hm3
      unfold allK at ha
      split at ha
      · next hj =>
        obtain ⟨m, rfl⟩ := key_int hq hj
        rw [conc_v] at hm1
        have heq : (Op.equal kt (.int q n) e.key).run P w = .ok (n == m) w := by rw [hm1]; exact run_equalIn_int w 9999 kt q q n m hq
        cases hb : n == m with
        | true => exact ⟨some (i, e.val), by simp [Instr.findNow, hm1, Instr.sameNow, hb], by simp [Instr.findAsking, heq, hb]⟩
        | false =>
          obtain ⟨r, h1, h2⟩ := find_now hq n w es ms (i + 1) hm2 ha
          exact ⟨r, by simp [Instr.findNow, hm1, Instr.sameNow, hb, h1], by simp [Instr.findAsking, heq, hb, h2]⟩
      · cases ha
theorem find_eq {kt : TypeId} (hT : keyT P kt = true) {k : AV} (hk : keyV P kt k = true) {es : List (AV × AV)} {ms : List MapEntry} (hm : ms.map (fun e => (e.key, e.val)) = es.map (fun p => (conc x p.1, conc x p.2))) (ha : allK P kt es = true) (w : World) : (Instr.findKey kt (conc x k) ms).run P w = (Instr.findAsking kt (conc x k) ms).run P w := by
  rcases keyT_sound hT with ⟨q, hq⟩ | ⟨h1, h2, h3⟩
  · obtain ⟨n, rfl⟩ := key_int hq hk
    rw [conc_v]
    obtain ⟨r, e1, e2⟩ := find_now hq n w es ms 0 hm ha
    rw [e2]
    simp [Instr.findKey, run_underlying hq, e1]
  · exact run_findKey_eq w h1 _ ms
theorem up_sound (h : HR base x L w H) {t : TypeId} {m k v r : AV} {H' : Hp} (hm : m.ok x L) (hk : k.ok x L) (hv : v.ok x L) (ha : aUp P H t m k v = some (r, H')) :
    ∃ w', (Instr.mapUpdate t (conc x m) (conc x k) (conc x v)).run P w = .ok () w' ∧ r = .v (.tuple #[]) ∧ Nx base x L w H x L w' H' := by
  unfold aUp at ha
  split at ha
  · next b kt et ht =>
    split at ha
    · next es hes =>
      split at ha
      · next es' h1 h2 =>
        split at ha
        · next H2 hp =>
          injection ha with ha
          injection ha with e1 e2
          subst e1 e2
          obtain ⟨hr, rfl⟩ := putO_eq hp
          rw [AV.ok] at hm
          obtain ⟨hT, hkv, hall⟩ := mapOk_sound h1
          obtain ⟨ms, ck, g1, g2, g3⟩ := h.at_ b _ hes hm
          obtain ⟨o1, o2⟩ := put_sound hT hkv ⟨hk, hv⟩ w es ms.toList 0 g2 hall g3 es' h2
          have hbase := h.rw_ b _ hes hm hr
          have hlt := h.glt hes hm
          have nx : ∀ ms' ck', ms'.toList.map (fun e => (e.key, e.val)) = es'.map (fun p => (conc x p.1, conc x p.2)) → Nx base x L w H x L { w with heap := w.heap.setIfInBounds (x b).1 (.map ms' ck') } (H.put b (.mp es')) := fun ms' ck' he =>
            h.put hes hm hr (by simp) (fun j hj => by simp only [Array.getElem?_setIfInBounds]; rw [if_neg (fun e => hj e.symm)]) ⟨ms', ck', by simp [hlt], he, o1⟩ ⟨rfl, rfl, rfl, by simp, fun j hj => by simp only [Array.getElem?_setIfInBounds]; rw [if_neg (by omega)]⟩
          rcases o2 with ⟨q1, q2⟩ | ⟨j, e, q1, q2, q3, q4⟩
          · refine ⟨_, ?_, rfl, nx (ms.push ⟨conc x k, conc x v, ck⟩) (ck + 1) ?_⟩
            · simp [conc, Instr.mapUpdate, run_underlying ht, MapKept.run_getObj_map g1, check_key hT hkv, find_eq hT hkv g2 hall, q1, MapKept.run_setObj_map _ g1]
            · rw [q2]
              simp [g2]
          · refine ⟨_, ?_, rfl, nx (ms.modify j fun e => { e with key := conc x k, val := conc x v }) ck ?_⟩
            · have hj : ms[j]? = some e := by simpa using q2
              have hs := stays_key (x := x) hT hkv w
              simp [conc, Instr.mapUpdate, run_underlying ht, MapKept.run_getObj_map g1, check_key hT hkv, find_eq hT hkv g2 hall, q1, hj, q3, hs, MapKept.run_setObj_map _ g1]
            · rw [← q4, Array.toList_modify]
              congr 1
              refine List.ext_getElem? fun i => ?_
              rw [List.getElem?_modify, List.getElem?_set]
              by_cases hi : j = i
              · subst hi
                rw [if_pos rfl, if_pos (List.getElem?_eq_some_iff.1 q2).1, q2]
                simp
              · rw [if_neg hi]
                cases ms.toList[i]? with
                | none => rfl
                | some e' => simp [hi]
        · cases ha
      · cases ha
    · cases ha
  · cases ha
theorem copy_sound (h : HR base x L w H) {dt ty : TypeId} (ats : Array TypeId) (hat : ats[0]? = some dt) {d y r : AV} {H' : Hp} (hd : d.ok x L) (hy : y.ok x L) (ha : aCopy P H dt d y = some (r, H')) :
    ∃ w', (Builtin.copy_ ats ty #[conc x d, conc x y]).run P w = .ok (conc x r) w' ∧ r.ok x L ∧ Nx base x L w H x L w' H' := by
  unfold aCopy at ha
  split at ha
  · next e ht =>
    split at ha
    · next sz hsz =>
      split at ha
      · next m l hc =>
        obtain ⟨hl1, hl2, hl3⟩ := cells_sound h hy hc
        have hlen : ∀ w : World, (Builtin.lenOf (conc x y)).run P w = .ok m w := fun w => by
          rcases hl3 with ⟨A, c, hA, _⟩ | ⟨rfl, rfl⟩
          · rw [hA]; simp [Builtin.lenOf]
          · simp [conc, Builtin.lenOf]
        have hfirst : ∀ k, k ≤ m → (Builtin.firstCells sz k (conc x y)).run P w = .ok ((l.take (k * sz)).map (conc x)).toArray w := fun k hk => by
          rcases hl3 with ⟨A, c, hA, hcell⟩ | ⟨rfl, rfl⟩
          · rw [hA]
            refine run_firstCells_some w sz k A m c _ ?_ fun j v hv => ?_
            · rw [List.length_map, List.length_take, hl1]
              exact Nat.min_eq_left (Nat.mul_le_mul_right _ hk)
            · rw [List.getElem?_map] at hv
              refine hcell j v ?_
              rw [List.getElem?_map]
              rw [List.getElem?_take] at hv
              split at hv
              · exact hv
              · cases hv
          · have : l = [] := List.length_eq_zero_iff.1 (by rw [hl1]; simp)
            subst this
            simp [conc, Builtin.firstCells]
        have core : ∀ (b o n c : Nat), L b → conc x d = .slice (some ⟨(x b).1, o, none⟩) n c → aPut H b o sz n m l = some (r, H') → ∃ w', (Builtin.copy_ ats ty #[conc x d, conc x y]).run P w = .ok (conc x r) w' ∧ r.ok x L ∧ Nx base x L w H x L w' H' := fun b o n c hLb hcd hput => by
          unfold aPut at hput
          split at hput
          · next H2 hp =>
            injection hput with hput
            injection hput with e1 e2
            subst e1 e2
            rw [takeN_eq] at hp
            obtain ⟨g1, g2⟩ := putC_sound (P := P) h hLb (okL_iff.2 fun a ha => okL_iff.1 hl2 a (List.mem_of_mem_take ha)) hp
            refine ⟨_, ?_, by simp only [AV.ok], g2⟩
            have hf := hfirst (Nat.min m n) (Nat.min_le_left _ _)
            rw [List.map_take] at hf g1
            simp only [Builtin.copy_, hat, hcd]
            simp [run_underlying ht, hlen, run_sizeOfA hsz, hf, g1, conc, goInt, List.map_take]
          · cases hput
        split at ha
        · next b o c n => exact core b o n _ (by rw [AV.ok] at hd; exact hd.1) (by rw [conc]) ha
        · next b o n c => exact core b o n _ (by rw [AV.ok] at hd; exact hd) (by rw [conc]) ha
        · injection ha with ha
          injection ha with e1 e2
          subst e1 e2
          refine ⟨w, ?_, by simp only [AV.ok], Nx.refl h⟩
          have hf := hfirst (Nat.min m 0) (Nat.min_le_left _ _)
          simp only [Builtin.copy_, hat, conc]
          simp [run_underlying ht, hlen, run_sizeOfA hsz, hf, conc, goInt] at hf ⊢
          simp [hf]
        · cases ha
      · cases ha
    · cases ha
  · cases ha
theorem app_sound (h : HR base x L w H) (hn1 : H.n + 1 < 1000000) {st xt ty : TypeId} {s y r : AV} {H' : Hp} (hs : s.ok x L) (hy : y.ok x L) (ha : aApp P H st xt s y = some (r, H')) :
    ∃ x' L' w', (Builtin.append_ #[st, xt] ty #[conc x s, conc x y]).run P w = .ok (conc x' r) w' ∧ r.ok x' L' ∧ Nx base x L w H x' L' w' H' := by
  unfold aApp at ha
  split at ha
  · next e hb ht =>
    have hxt : st = xt := Nat.eq_of_beq_eq_true hb
    subst hxt
    split at ha
    · next sz hsz =>
      split at ha
      · next l hc =>
        obtain ⟨hl1, hl2, hl3⟩ := cells_sound h hy hc
        have hlen : ∀ w : World, (Builtin.lenOf (conc x y)).run P w = .ok 0 w := fun w => by
          rcases hl3 with ⟨A, c, hA, _⟩ | ⟨rfl, _⟩
          · rw [hA]; simp [Builtin.lenOf]
          · simp [conc, Builtin.lenOf]
        have hfirst : (Builtin.firstCells sz 0 (conc x y)).run P w = .ok #[] w := by
          rcases hl3 with ⟨A, c, hA, hcell⟩ | ⟨rfl, _⟩
          · rw [hA]
            exact run_firstCells_some w sz 0 A 0 c [] (by simp) (fun j v hv => by simp at hv)
          · simp [conc, Builtin.firstCells]
        have core : ∀ (b o n c : Nat), conc x s = .slice (some ⟨(x b).1, o, none⟩) n c → n ≤ c → (Builtin.append_ #[st, st] ty #[conc x s, conc x y]).run P w = .ok (conc x s) w := fun b o n c hcs hnc => by
          rw [hcs]
          simp [Builtin.append_, run_underlying ht, run_sizeOfA hsz, hlen, hfirst, hnc, storeCells]
        split at ha
        · injection ha with ha
          injection ha with e1 e2
          subst e1 e2
          refine ⟨x, L, w, ?_, hs, Nx.refl h⟩
          rw [conc_v]
          simp [Builtin.append_, run_underlying ht, run_sizeOfA hsz, hlen, hfirst, storeCells]
        · next b o c n =>
          injection ha with ha
          injection ha with e1 e2
          subst e1 e2
          refine ⟨x, L, w, core b o n _ (by rw [conc]) ?_, hs, Nx.refl h⟩
          rw [AV.ok] at hs
          omega
        · next b o n c =>
          split at ha
          · next hnc =>
            injection ha with ha
            injection ha with e1 e2
            subst e1 e2
            exact ⟨x, L, w, core b o n _ (by rw [conc]) (Nat.le_of_ble_eq_true hnc), hs, Nx.refl h⟩
          · cases ha
        · cases ha
      · next m l hc => exact append_sound h hn1 ht hs hy hsz hc (Nat.succ_pos _) ha
      · cases ha
    · cases ha
  · cases ha
/-- An operation that reads memory. -/
theorem aRead_sound (h : HR base x L w H) {o : Oper} {r : AV} (ha : aRead P T H o = some r) (hop : OpR x L T ρ o.op.operands.toList) : (execOp ρ o).run P w = .ok (.value (conc x r)) w ∧ r.ok x L := by
  unfold aRead at ha
  split at ha
  · next t a ho =>
    split at ha
    · next b i hb =>
      obtain ⟨h1, h2⟩ := mem_opr (l := [a]) hop (by rw [ho]; rfl) (by simp) hb
      rw [AV.ok] at h2
      obtain ⟨g1, g2⟩ := load_sound (P := P) h h2 ha
      refine ⟨?_, g2⟩
      simp only [execOp, ho]
      exact exec_v (by rw [h1, conc]; simpa [Instr.loadAt, Instr.sureAddr] using g1)
    · cases ha
  · next t y i ok ho =>
    split at ha
    · next b k kt et hy hi ht =>
      obtain ⟨h1, h2⟩ := mem_opr (l := [y, i]) hop (by rw [ho]; rfl) (by simp) hy
      obtain ⟨h3, h4⟩ := mem_opr (l := [y, i]) hop (by rw [ho]; rfl) (by simp) hi
      rw [AV.ok] at h2
      split at ha
      · next es z hes hz =>
        obtain ⟨ms, ck, g1, g2, g3⟩ := h.at_ b _ hes h2
        have key : ∀ (q : Option AV), mapOk P kt k es = true → findM k es = some q → (Instr.lookup t (conc x (.mp b)) (conc x k) ok).run P w = .ok (if ok = true then .tuple #[(q.map (conc x)).getD z, .bool q.isSome] else (q.map (conc x)).getD z) w ∧ ∀ a, q = some a → a.ok x L := fun q hmo hf => by
          obtain ⟨hT, hkv, hall⟩ := mapOk_sound hmo
          have hfs := find_sound hT hkv w es ms.toList 0 g2 hall q hf
          cases q with
          | none =>
            refine ⟨?_, fun a ha => by cases ha⟩
            simp [conc, Instr.lookup, run_underlying ht, MapKept.run_getObj_map g1, check_key hT hkv, find_eq hT hkv g2 hall, hfs, run_zeroA hz]
          | some a =>
            obtain ⟨j, e1, p, hp, rfl⟩ := hfs
            refine ⟨?_, fun a ha => by injection ha with ha; subst ha; exact (g3 p hp).2⟩
            simp [conc, Instr.lookup, run_underlying ht, MapKept.run_getObj_map g1, check_key hT hkv, find_eq hT hkv g2 hall, e1]
        split at ha
        · next a hmo hf =>
          injection ha with ha
          subst ha
          obtain ⟨e1, e2⟩ := key _ hmo hf
          refine ⟨?_, by simp only [AV.ok, okL]; exact ⟨e2 _ rfl, trivial, trivial⟩⟩
          simp only [execOp, ho]
          exact exec_v (by rw [h1, h3, e1]; simp [conc, concL])
        · next a hmo hf =>
          injection ha with ha
          subst ha
          obtain ⟨e1, e2⟩ := key _ hmo hf
          refine ⟨?_, e2 _ rfl⟩
          simp only [execOp, ho]
          exact exec_v (by rw [h1, h3, e1]; simp [conc, concL])
        · next hmo hf =>
          injection ha with ha
          subst ha
          obtain ⟨e1, e2⟩ := key _ hmo hf
          refine ⟨?_, by simp only [AV.ok, okL]; exact ⟨trivial, trivial, trivial⟩⟩
          simp only [execOp, ho]
          exact exec_v (by rw [h1, h3, e1]; simp [conc, concL])
        · next hmo hf =>
          injection ha with ha
          subst ha
          obtain ⟨e1, e2⟩ := key _ hmo hf
          refine ⟨?_, by simp only [AV.ok]⟩
          simp only [execOp, ho]
          exact exec_v (by rw [h1, h3, e1]; simp [conc, concL])
        · cases ha
      · cases ha
    · cases ha
  · cases ha
/-- An operation that turns memory: a value, or nothing in its place. -/
theorem aWrite_sound (h : HR base x L w H) (hn1 : H.n + 1 < 1000000) {o : Oper} {r : AV} {H' : Hp} (ha : aWrite P T H o = some (r, H')) (hop : OpR x L T ρ o.op.operands.toList) :
    ∃ x' L' w', ((execOp ρ o).run P w = .ok (.value (conc x' r)) w' ∨ ((execOp ρ o).run P w = .ok .skip w' ∧ r = .v (.tuple #[]))) ∧ r.ok x' L' ∧ Nx base x L w H x' L' w' H' := by
  have up : ∀ (t : TypeId) (m k v : Operand), o.op.operands.toList = [m, k, v] → (execOp ρ o) = (do Instr.mapUpdate t (ρ m) (ρ k) (ρ v); pure .skip) → (match evO T m, evO T k, evO T v with | some mv, some kv, some v => aUp P H t mv kv v | _, _, _ => none) = some (r, H') →
      ∃ x' L' w', ((execOp ρ o).run P w = .ok (.value (conc x' r)) w' ∨ ((execOp ρ o).run P w = .ok .skip w' ∧ r = .v (.tuple #[]))) ∧ r.ok x' L' ∧ Nx base x L w H x' L' w' H' := fun t m k v hops hex ha => by
    split at ha
    · next mv kv vv hm hk hv =>
      obtain ⟨h1, h2⟩ := mem_opr hop hops (by simp) hm
      obtain ⟨h3, h4⟩ := mem_opr hop hops (by simp) hk
      obtain ⟨h5, h6⟩ := mem_opr hop hops (by simp) hv
      obtain ⟨w', g1, g2, g3⟩ := up_sound (P := P) h h2 h4 h6 ha
      refine ⟨x, L, w', .inr ⟨?_, g2⟩, by rw [g2]; simp only [AV.ok], g3⟩
      rw [hex, h1, h3, h5]
      simp [g1]
    · cases ha
  unfold aWrite at ha
  split at ha
  · next t a y ho =>
    split at ha
    · next b i v hb hv =>
      obtain ⟨h1, h2⟩ := mem_opr (l := [a, y]) hop (by rw [ho]; rfl) (by simp) hb
      obtain ⟨h3, h4⟩ := mem_opr (l := [a, y]) hop (by rw [ho]; rfl) (by simp) hv
      rw [AV.ok] at h2
      split at ha
      · next H2 hs =>
        injection ha with ha
        injection ha with e1 e2
        subst e1 e2
        obtain ⟨w', g1, g2⟩ := store_sound (P := P) h h2 h4 hs
        refine ⟨x, L, w', .inr ⟨?_, rfl⟩, by simp only [AV.ok], g2⟩
        simp only [execOp, ho, h1, h3]
        have g1' : (Instr.storeAt t (conc x (.ptr b i)) (conc x v)).run P w = .ok () w' := by rw [conc]; simpa [Instr.storeAt, Instr.sureAddr] using g1
        simp [g1']
      · cases ha
    · cases ha
  · next c ho =>
    have hargs : ∀ y ∈ c.args.toList, y ∈ o.op.operands.toList := fun y hy => by
      rw [ho]
      simp only [Op.operands, Call.operands, Array.toList_append, List.mem_append]
      exact .inr hy
    split at ha
    · next hcal =>
      split at ha
      · next s y st xt hev hat =>
        obtain ⟨h1, h2⟩ := evL_sound _ _ (fun y hy => hop y (hargs y hy)) hev
        simp only [okL] at h2
        obtain ⟨x', L', w', g1, g2, g3⟩ := app_sound (P := P) (ty := o.type) h hn1 h2.1 h2.2.1 ha
        refine ⟨x', L', w', .inl ?_, g2, g3⟩
        have ea : c.argTypes = #[st, xt] := by rw [← Array.toArray_toList (xs := c.argTypes), hat]
        have eb : c.args.map ρ = #[conc x s, conc x y] := by rw [← Array.toArray_toList (xs := c.args.map ρ), Array.toList_map, h1]; simp [concL]
        simp only [execOp, ho, resolve, hcal]
        simp [invoke, builtin, ea, eb, g1]
      · cases ha
    · next hcal =>
      split at ha
      · next d y dt rest hev hat =>
        obtain ⟨h1, h2⟩ := evL_sound _ _ (fun y hy => hop y (hargs y hy)) hev
        simp only [okL] at h2
        have ea : c.argTypes[0]? = some dt := by rw [← Array.getElem?_toList, hat]; rfl
        obtain ⟨w', g1, g2, g3⟩ := copy_sound (P := P) (ty := o.type) h c.argTypes ea h2.1 h2.2.1 ha
        refine ⟨x, L, w', .inl ?_, g2, g3⟩
        have eb : c.args.map ρ = #[conc x d, conc x y] := by rw [← Array.toArray_toList (xs := c.args.map ρ), Array.toList_map, h1]; simp [concL]
        simp only [execOp, ho, resolve, hcal]
        simp [invoke, builtin, eb, g1]
      · cases ha
    · cases ha
  · next t m k v ho => exact up t m k v (by rw [ho]; rfl) (by simp only [execOp, ho]) ha
  · next t m k v ho => exact up t m k v (by rw [ho]; rfl) (by simp only [execOp, ho]) ha
  · cases ha
end
end Go.Proofs.YtklanoppbbaolaaGreat
