/- Texts in one: Ew11, Ew12. -/
import Derived.Test.YtklanoppbbaolaaGreatMg34
import Derived.Test.YtklanoppbbaolaaGreatMg12
/- A closed run: what the plan of a region says, and the orders that are drawn. No program is named here. -/
namespace Go.Proofs.YtklanoppbbaolaaGreat
open Go Go.RowKit
set_option linter.unusedVariables false
set_option linter.unusedSimpArgs false
theorem edgB_at {i : Nat} : ∀ (l : List Edge), edgB i l = true → ∀ e ∈ l, Region.binds .any e = true → e.on < i
  | [], _, e, he, _ => by simp at he
  | a :: l, h, e, he, hb => by
    unfold edgB at h
    split at h
    · cases h
    · next hne =>
      rcases List.mem_cons.1 he with rfl | he
      · cases hl : Nat.blt e.on i with
        | true => exact Nat.le_of_ble_eq_true hl
        | false => exact absurd hl (fun hl => hne hb hl)
      · exact edgB_at l h e he hb
theorem maskE_at {M : Tr Nat} {j : Nat} : ∀ (l : List Edge), (maskE M l).testBit j = true → ∃ e ∈ l, Region.binds .any e = true ∧ (j = e.on ∨ bitA M e.on j = true)
  | [], h => by simp [maskE] at h
  | a :: l, h => by
    unfold maskE at h
    split at h
    · next hb =>
      split at h
      · next m hm =>
        simp only [Nat.testBit_or, Bool.or_eq_true] at h
        rcases h with h | h | h
        · obtain ⟨e, he, h1, h2⟩ := maskE_at l h
          exact ⟨e, by simp [he], h1, h2⟩
        · exact ⟨a, by simp, hb, .inr (by simp [bitA, hm, h])⟩
        · refine ⟨a, by simp, hb, .inl ?_⟩
          rw [Nat.one_shiftLeft, Nat.testBit_two_pow, decide_eq_true_eq] at h
          exact h.symm
      · obtain ⟨e, he, h1, h2⟩ := maskE_at l h
        exact ⟨e, by simp [he], h1, h2⟩
    · obtain ⟨e, he, h1, h2⟩ := maskE_at l h
      exact ⟨e, by simp [he], h1, h2⟩
theorem okM_at {M : Tr Nat} : ∀ (l : List Oper) (k : Nat), okM M l k = true → ∀ (i : Nat) (o : Oper), l[i]? = some o →
    (∀ j, bitA M (k + i) j = true → j < k + i) ∧ (∀ e ∈ o.after.toList, Region.binds .any e = true → e.on < k + i) ∧
    ∀ j, bitA M (k + i) j = true → ∃ e ∈ o.after.toList, Region.binds .any e = true ∧ (j = e.on ∨ bitA M e.on j = true)
  | [], _, _, i, o, ho => by simp at ho
  | a :: l, k, h, i, o, ho => by
    unfold okM at h
    split at h
    · next m hm =>
      split at h
      · next h1 h2 h3 =>
        cases i with
        | zero =>
          simp only [List.getElem?_cons_zero, Option.some.injEq] at ho
          subst ho
          have e1 := Nat.eq_of_beq_eq_true h1
          have hbit : ∀ j, bitA M (k + 0) j = m.testBit j := fun j => by simp [bitA, hm]
          refine ⟨fun j hj => ?_, edgB_at _ h3, fun j hj => ?_⟩
          · rw [hbit] at hj
            refine Nat.lt_of_not_le fun hle => ?_
            have hlt : m < 2 ^ k := by simpa [Nat.blt_eq] using h2
            have := Nat.testBit_lt_two_pow (Nat.lt_of_lt_of_le hlt (Nat.pow_le_pow_right (by decide) (show k ≤ j by omega)))
            rw [this] at hj
            cases hj
          · rw [hbit, ← e1] at hj
            exact maskE_at _ hj
        | succ i =>
          simp only [List.getElem?_cons_succ] at ho
          have := okM_at l (k + 1) h i o ho
          rwa [show k + 1 + i = k + (i + 1) by omega] at this
      · cases h
    · cases h
theorem okW_at {W : Tr Nat} : ∀ (l : List Oper) (k : Nat), okW W l k = true → ∀ (i : Nat) (o : Oper) (d : Tmp), l[i]? = some o → o.dst = some d → W.get d = some (k + i)
  | [], _, _, i, o, d, ho, _ => by simp at ho
  | a :: l, k, h, i, o, d, ho, hd => by
    unfold okW at h
    cases i with
    | zero =>
      simp only [List.getElem?_cons_zero, Option.some.injEq] at ho
      subst ho
      rw [hd] at h
      dsimp only at h
      split at h
      · next j hj =>
        split at h
        · next hb => rw [hj, Nat.eq_of_beq_eq_true hb]; rfl
        · cases h
      · cases h
    | succ i =>
      simp only [List.getElem?_cons_succ] at ho
      have hl : okW W l (k + 1) = true := by
        split at h
        · exact h
        · split at h
          · split at h
            · exact h
            · cases h
          · cases h
      have := okW_at l (k + 1) hl i o d ho hd
      rwa [show k + 1 + i = k + (i + 1) by omega] at this
/-- What is left of an order that was drawn. -/
def SchOk (M : Tr Nat) (n : Nat) : List Nat → List Nat → Prop
  | pre, [] => ∀ i, i < n → i ∈ pre
  | pre, i :: rest => i < n ∧ i ∉ pre ∧ (∀ j, bitA M i j = true → j ∈ pre) ∧ SchOk M n (i :: pre) rest
def Shut (M : Tr Nat) (pre : List Nat) : Prop := ∀ i ∈ pre, ∀ j, bitA M i j = true → j ∈ pre
theorem Shut.nil (M : Tr Nat) : Shut M [] := fun i hi => by simp at hi
theorem Shut.cons {M : Tr Nat} {pre : List Nat} {i : Nat} (h : Shut M pre) (hi : ∀ j, bitA M i j = true → j ∈ pre) : Shut M (i :: pre) := fun k hk j hj => by
  rcases List.mem_cons.1 hk with rfl | hk
  · exact List.mem_cons_of_mem _ (hi j hj)
  · exact List.mem_cons_of_mem _ (h k hk j hj)
section
variable {ops : Array Oper} {M : Tr Nat}
theorem ops_at {i : Nat} {o : Oper} : ops.toList[i]? = some o ↔ ops[i]? = some o := by rw [Array.getElem?_toList]
theorem go_sch (hM : okM M ops.toList 0 = true) : ∀ (fuel t : Nat) (listed : Array Bool) (pre : List Nat), listed.size = ops.size → unlisted ops.size listed ≤ fuel → (∀ i, i < ops.size → (listed.getD i true = true ↔ i ∈ pre)) → Shut M pre →
    SchOk M ops.size pre (Region.linearise.go .any ops fuel t listed []) := by
  have hac : ∀ (j : Nat) (o : Oper), ops[j]? = some o → ∀ e ∈ o.after, Region.binds .any e = true → e.on < j := fun j o ho e he hb => by
    have := (okM_at _ _ hM j o (ops_at.2 ho)).2.1 e (Array.mem_toList_iff.2 he) hb
    omega
  intro fuel
  induction fuel with
  | zero =>
    intro t listed pre hs hu hp _
    simp only [Region.linearise.go, List.reverse_nil, SchOk]
    intro i hi
    refine (hp i hi).1 ?_
    have hz : unlisted ops.size listed = 0 := by omega
    unfold unlisted at hz
    rw [List.length_eq_zero_iff, List.filter_eq_nil_iff] at hz
    simpa using hz i (List.mem_range.2 hi)
  | succ fuel ih =>
    intro t listed pre hs hu hp hsh
    simp only [Region.linearise.go]
    change SchOk M ops.size pre (match (Region.ready .any ops listed)[t % (Region.ready .any ops listed).length]? with
      | some i => Region.linearise.go .any ops fuel (t / (Region.ready .any ops listed).length) (listed.setIfInBounds i true) [i]
      | none => [].reverse)
    cases hi : (Region.ready .any ops listed)[t % (Region.ready .any ops listed).length]? with
    | none =>
      have hnil : Region.ready .any ops listed = [] := by
        cases hr : Region.ready .any ops listed with
        | nil => rfl
        | cons x xs =>
          rw [hr] at hi
          have hlt : t % (x :: xs).length < (x :: xs).length := Nat.mod_lt _ (by simp)
          simp at hi
          simp at hlt
          omega
      simp only [List.reverse_nil, SchOk]
      exact fun i hi => (hp i hi).1 (ready_nilW hs hac hnil i hi)
    | some i =>
      simp only []
      rw [linearise_go_acc, List.reverse_singleton, List.singleton_append]
      have hm := List.mem_of_getElem? hi
      rw [mem_ready] at hm
      obtain ⟨hli, o, ho, hdep⟩ := hm
      have hlt : i < ops.size := (Array.getElem?_eq_some_iff.1 ho).1
      have hpre : ∀ j, bitA M i j = true → j ∈ pre := fun j hj => by
        obtain ⟨h1, h2, h3⟩ := okM_at _ _ hM i o (ops_at.2 ho)
        rw [Nat.zero_add] at h1 h2 h3
        obtain ⟨e, he, hb, hje⟩ := h3 j hj
        have hon := h2 e he hb
        have hin : e.on ∈ pre := by
          refine (hp e.on (by omega)).1 ?_
          rw [← getD_ft _ _ (by omega)]
          exact hdep e (Array.mem_toList_iff.1 he) hb
        rcases hje with rfl | hje
        · exact hin
        · exact hsh _ hin j hje
      refine ⟨hlt, fun h => ?_, hpre, ih _ _ _ (by simp [hs]) (by have := unlisted_set hs hlt hli; omega) (fun k hk => ?_) (hsh.cons hpre)⟩
      · have := (hp i hlt).2 h
        rw [hli] at this
        cases this
      · rw [listed_set' _ _ _ (by omega), List.mem_cons, hp k hk]
        constructor
        · rintro (h | h)
          · exact .inl h.symm
          · exact .inr h
        · rintro (h | h)
          · exact .inl h.symm
          · exact .inr h
theorem sch_ok {P : Program} (hm : P.follows .mixedOrders = true) (hM : okM M ops.toList 0 = true) (t : Nat) : SchOk M ops.size [] (Region.schedule (P.follows .mixedOrders) ops t) := by
  simp only [Region.schedule, hm, Bool.true_or, if_true]
  refine go_sch hM ops.size t _ [] (by simp) ?_ (fun i hi => ?_) (Shut.nil M)
  · unfold unlisted
    exact Nat.le_trans (List.length_filter_le _ _) (by simp)
  · simp [hi]
end
section
variable {P : Program} {M W : Tr Nat} {ops : List Oper}
theorem rdB_at {Ev i : Nat} {s : Bool} : ∀ (l : List Operand), rdB M W Ev i s l = true → ∀ d, Operand.tmp d ∈ l → ∀ j, W.get d = some j →
    (bitA M i j = true ∧ Ev.testBit j = true) ∨ (s = false ∧ bitA M i j = false ∧ Ev.testBit j = false ∧ bitA M j i = true)
  | [], _, d, hd, _, _ => by simp at hd
  | a :: l, h, d, hd, j, hj => by
    rcases List.mem_cons.1 hd with rfl | hd
    · unfold rdB at h
      rw [hj] at h
      dsimp only at h
      split at h
      · next h1 h2 => exact .inl ⟨h1, h2⟩
      · next h1 h2 h3 => exact .inr ⟨rfl, h1, h2, h3⟩
      · cases h
    · refine rdB_at l ?_ d hd j hj
      unfold rdB at h
      split at h
      · next h0 => cases h0
      · next h0 =>
        injection h0 with h1 h2
        subst h1 h2
        split at h
        · exact h
        · split at h
          · exact h
          · exact h
          · cases h
      · next h0 =>
        injection h0 with h1 h2
        subst h1 h2
        exact h
theorem grdB_at {Ev i : Nat} {o : Oper} (h : grdB M ops Ev i o = true) {j : Nat} {q : Bool} (hg : o.guard = some (j, q)) : bitA M i j = true ∧ Ev.testBit j = true := by
  unfold grdB at h
  rw [hg] at h
  dsimp only at h
  split at h
  · next h1 h2 => exact ⟨h1, h2⟩
  · cases h
theorem memN_iff {i : Nat} : ∀ {l : List Nat}, memN i l = true ↔ i ∈ l
  | [] => by simp [memN]
  | j :: l => by
    unfold memN
    split
    · next h => simp [Nat.eq_of_beq_eq_true h]
    · next h =>
      rw [memN_iff, List.mem_cons]
      constructor
      · exact .inr
      · rintro (rfl | h')
        · simp at h
        · exact h'
theorem ckN_at {Ev0 Ev : Nat} {prev next : Option Nat} {ags : List Nat} : ∀ (l : List Oper) (k : Nat), ckN P M Ev0 Ev prev next ags l k = true → ∀ (i : Nat) (o : Oper), l[i]? = some o →
    (Ev.testBit (k + i) = true ∨ ∃ c, next = some c ∧ (k + i = c ∨ bitA M (k + i) c = true)) ∧ (isRd P o = true → Ev0.testBit (k + i) = true → (k + i) ∈ ags ∨ ∃ c, prev = some c ∧ bitA M c (k + i) = true)
  | [], _, _, i, o, ho => by simp at ho
  | a :: l, k, h, i, o, ho => by
    unfold ckN at h
    split at h
    · next h1 h2 =>
      cases i with
      | zero =>
        simp only [List.getElem?_cons_zero, Option.some.injEq] at ho
        subst ho
        rw [Nat.add_zero]
        refine ⟨?_, fun hr he => ?_⟩
        · rw [Bool.or_eq_true] at h1
          rcases h1 with h1 | h1
          · exact .inl h1
          · split at h1
            · next c =>
              rw [Bool.or_eq_true] at h1
              exact .inr ⟨c, rfl, h1.imp Nat.eq_of_beq_eq_true id⟩
            · cases h1
        · rw [hr, he] at h2
          dsimp only at h2
          rw [Bool.or_eq_true] at h2
          rcases h2 with h2 | h2
          · exact .inl (memN_iff.1 h2)
          · split at h2
            · next c => exact .inr ⟨c, rfl, h2⟩
            · cases h2
      | succ i =>
        simp only [List.getElem?_cons_succ] at ho
        have := ckN_at l (k + 1) h i o ho
        rwa [show k + 1 + i = k + (i + 1) by omega] at this
    · cases h
theorem bit_or (Ev i j : Nat) : (Ev ||| (1 <<< i)).testBit j = true ↔ Ev.testBit j = true ∨ j = i := by
  rw [Nat.testBit_or, Bool.or_eq_true, Nat.one_shiftLeft, Nat.testBit_two_pow, decide_eq_true_eq]
  exact or_congr Iff.rfl eq_comm
theorem plan_at {P : Program} {ops : Array Oper} {cs : List Nat} {st : List (List Nat × List Nat)} (h : plan P ops = some (cs, st)) : ∃ M W, okM M ops.toList 0 = true ∧ okW W ops.toList 0 = true ∧ ckP P M W ops.toList none 0 cs st = true := by
  unfold plan planC planM at h
  split at h
  · next W hW =>
    split at h
    · next h1 h2 h3 =>
      injection h with h
      injection h with e1 e2
      subst e1 e2
      exact ⟨_, W, h1, h2, h3⟩
    · cases h
  · cases h
end
end Go.Proofs.YtklanoppbbaolaaGreat
/- A closed run: one operation of a region on the machine, and what holds in the middle of a region whose order is drawn. No program is named here. -/
namespace Go.Proofs.YtklanoppbbaolaaGreat
open Go Go.RowKit
set_option linter.unusedVariables false
set_option linter.unusedSimpArgs false
section moves
variable {P : Program} {b : Frame} {a : Act} {k : List Item} {cs : List Frame} {w w' : World} {ops : Array Oper} {i : Nat} {rest : List Nat} {o : Oper}
theorem finish_at (ho : ops[i]? = some o) (v : Value) : (b.atR a (.inRegion ops (i :: rest) :: k)).finish v = b.atR (a.put o.dst v) (.inRegion ops rest :: k) := by
  rw [Frame.finish_atR, ho]; rfl
theorem stepR_value (ho : ops[i]? = some o) (hw : Region.wanted o (yielded ops a.tmps) = true) (hn : ∀ c, o.op ≠ .defer c) {v : Value} (hr : (execOp a.eval o).run P w = .ok (.value v) w') :
    step P (lone (b.atR a (.inRegion ops (i :: rest) :: k)) cs w) = .next (lone (b.atR (a.put o.dst v) (.inRegion ops rest :: k)) cs w') := by
  have hg := stepGR_op (P := P) (b := b) (k := k) (cs := cs) (w := w) (rest := rest) ho hw
  rw [Oper.semAt_eq _ _ _ hn] at hg
  refine step_lone_go ?_
  rw [hg, ← finish_at ho]
  simp [stepG.apply, hr]
theorem stepR_skipped (ho : ops[i]? = some o) (hw : Region.wanted o (yielded ops a.tmps) = true) (hn : ∀ c, o.op ≠ .defer c) (hr : (execOp a.eval o).run P w = .ok .skip w') :
    step P (lone (b.atR a (.inRegion ops (i :: rest) :: k)) cs w) = .next (lone (b.atR (a.put o.dst undef) (.inRegion ops rest :: k)) cs w') := by
  have hg := stepGR_op (P := P) (b := b) (k := k) (cs := cs) (w := w) (rest := rest) ho hw
  rw [Oper.semAt_eq _ _ _ hn] at hg
  refine step_lone_go ?_
  rw [hg, ← finish_at ho]
  simp [stepG.apply, hr]
theorem stepR_enter (ho : ops[i]? = some o) (hw : Region.wanted o (yielded ops a.tmps) = true) (hn : ∀ c, o.op ≠ .defer c) {f : FuncId} {args : Array Value} (hr : (execOp a.eval o).run P w = .ok (.enter f args) w') :
    step P (lone (b.atR a (.inRegion ops (i :: rest) :: k)) cs w) = .next (lone (Frame.enter P f args .normal) (b.atR a (.inRegion ops (i :: rest) :: k) :: cs) w') := by
  have hg := stepGR_op (P := P) (b := b) (k := k) (cs := cs) (w := w) (rest := rest) ho hw
  rw [Oper.semAt_eq _ _ _ hn] at hg
  refine step_lone_go ?_
  rw [hg]
  simp [stepG.apply, hr, Frame.atR]
theorem stepR_round (ho : ops[i]? = some o) (hw : Region.wanted o (yielded ops a.tmps) = true) (hn : ∀ c, o.op ≠ .defer c) {l : Nat} {f : FuncId} {tmps : Array Value} {asg bd : Code} (hr : (execOp a.eval o).run P w = .ok (.round l f tmps asg bd) w') :
    step P (lone (b.atR a (.inRegion ops (i :: rest) :: k)) cs w) = .next (lone (Frame.round l f tmps asg bd .normal) (b.atR a (.inRegion ops (i :: rest) :: k) :: cs) w') := by
  have hg := stepGR_op (P := P) (b := b) (k := k) (cs := cs) (w := w) (rest := rest) ho hw
  rw [Oper.semAt_eq _ _ _ hn] at hg
  refine step_lone_go ?_
  rw [hg]
  simp [stepG.apply, hr, Frame.atR]
theorem stepR_unwanted (ho : ops[i]? = some o) (hw : Region.wanted o (yielded ops a.tmps) = false) :
    step P (lone (b.atR a (.inRegion ops (i :: rest) :: k)) cs w) = .next (lone (b.atR (a.put o.dst undef) (.inRegion ops rest :: k)) cs w) := by
  have := stepR_op_skip (P := P) (b := b) (a := a) (k := k) (cs := cs) (w := w) (ops := ops) (i := i) (rest := rest) (by simp [ho, hw])
  rwa [ho] at this
end moves
/-- What a step keeps; the blocks below lo that are not alive stay as they are. -/
structure Nl (lo base : Nat) (x : Gh) (L : Nat → Prop) (w : World) (H : Hp) (x' : Gh) (L' : Nat → Prop) (w' : World) (H' : Hp) : Prop where
  hr : HR base x' L' w' H'
  ext : Ext L x x'
  sub : Sub L L'
  stay : ∀ b, b < lo → ¬ L b → ¬ L' b ∧ H'.get b = H.get b
  le : H.n ≤ H'.n
  r : H'.r = H.r
  below : Below base w w'
section
variable {lo base : Nat} {x x' x'' : Gh} {L L' L'' : Nat → Prop} {w w' w'' : World} {H H' H'' : Hp}
theorem Nl.refl (h : HR base x L w H) : Nl lo base x L w H x L w H := ⟨h, Ext.refl _ _, fun _ h => h, fun _ _ h => ⟨h, rfl⟩, Nat.le_refl _, rfl, Below.refl _ _⟩
theorem Nl.trans (h : Nl lo base x L w H x' L' w' H') (k : Nl lo base x' L' w' H' x'' L'' w'' H'') : Nl lo base x L w H x'' L'' w'' H'' :=
  ⟨k.hr, h.ext.trans k.ext h.sub, fun b hb => k.sub b (h.sub b hb), fun b hb hn => by
    obtain ⟨h1, h2⟩ := h.stay b hb hn
    obtain ⟨h3, h4⟩ := k.stay b hb h1
    exact ⟨h3, h4.trans h2⟩, Nat.le_trans h.le k.le, k.r.trans h.r, h.below.trans k.below⟩
theorem Nl.mono {lo' : Nat} (h : Nl lo base x L w H x' L' w' H') (hl : lo' ≤ lo) : Nl lo' base x L w H x' L' w' H' :=
  ⟨h.hr, h.ext, h.sub, fun b hb => h.stay b (Nat.lt_of_lt_of_le hb hl), h.le, h.r, h.below⟩
theorem Nx.toNl (h : Nx base x L w H x' L' w' H') (hl : lo ≤ H.n) : Nl lo base x L w H x' L' w' H' :=
  ⟨h.hr, h.ext, h.sub, fun b hb => h.stay b (Nat.lt_of_lt_of_le hb hl), h.le, h.r, h.below⟩
end
def slotR (x : Gh) (L : Nat → Prop) (T : Tr AV) (tm : Array Value) (d : Tmp) : Prop := ∀ a, T.get d = some a → tm.getD d undef = conc x a ∧ a.ok x L
def Wr (o : Array Oper) (i : Nat) (d : Tmp) : Prop := ∃ op, o[i]? = some op ∧ op.dst = some d
section
variable {P : Program} {o : Array Oper} {x : Gh} {L : Nat → Prop} {T : Tr AV} {tm : Array Value}
theorem conc_UV (x : Gh) : conc x UV = undef := by rw [UV, conc]; rfl
theorem want_sound {op : Oper} {r : Bool} (hs : ∀ j q d, op.guard = some (j, q) → Wr o j d → slotR x L T tm d) (h : wantA o T op = some r) : Region.wanted op (yielded o tm) = r := by
  unfold wantA at h
  unfold Region.wanted
  cases hg : op.guard with
  | none => rw [hg] at h; exact Option.some.inj h
  | some p =>
    obtain ⟨j, want⟩ := p
    rw [hg] at h
    dsimp only at h ⊢
    split at h
    · next o' ho' =>
      rw [nthL_eq, ops_at] at ho'
      split at h
      · next d hd =>
        have hsl := hs j want d hg ⟨o', ho', hd⟩
        have hy : yielded o tm j = match tm[d]? with | some (.bool b) => some b | _ => none := by
          unfold yielded
          rw [ho']
          simp only [Option.bind_some, hd]
          cases tm[d]? with
          | none => rfl
          | some v => cases v <;> rfl
        split at h
        · next b hT =>
          injection h with h
          obtain ⟨h1, _⟩ := hsl _ hT
          rw [conc] at h1
          have : tm[d]? = some (.bool b) := by
            rw [Array.getD_eq_getD_getElem?] at h1
            cases ht : tm[d]? with
            | none => rw [ht] at h1; cases h1
            | some v => rw [ht] at h1; simpa using h1
          rw [hy, this, ← h]
          cases b <;> cases want <;> rfl
        · next y hT =>
          injection h with h
          obtain ⟨h1, _⟩ := hsl _ hT
          rw [conc] at h1
          have : yielded o tm j = none := by
            rw [hy]
            rw [Array.getD_eq_getD_getElem?] at h1
            cases ht : tm[d]? with
            | none => rfl
            | some v =>
              rw [ht] at h1
              simp only [Option.getD_some] at h1
              subst h1
              rfl
          rw [this, ← h]
          rfl
        · cases h
      · cases h
    · cases h
theorem slot_put {d e : Tmp} {v : Value} (h : d < tm.size) : (tm.setIfInBounds d v).getD e undef = if d = e then v else tm.getD e undef := by
  simp only [Array.getD_eq_getD_getElem?, Array.getElem?_setIfInBounds]
  by_cases hd : d = e
  · subst hd; simp [h]
  · simp [hd]
end
/-- What an evaluated operation read. -/
def Ag (M W : Tr Nat) (T0 T : Tr AV) (Ev i : Nat) (op : Oper) (Ti : Tr AV) : Prop := ∀ d, Operand.tmp d ∈ op.op.operands.toList →
  (W.get d = none ∧ Ti.get d = T0.get d) ∨ (∃ j, W.get d = some j ∧ bitA M i j = true ∧ Ev.testBit j = true ∧ Ti.get d = T.get d) ∨ (∃ j, W.get d = some j ∧ bitA M j i = true ∧ Ti.get d = T0.get d)
/-- An operation that was evaluated and not yet done. -/
structure Gd (P : Program) (o : Array Oper) (M W : Tr Nat) (T0 T : Tr AV) (Ev : Nat) (L : Nat → Prop) (H : Hp) (sz : Nat) (pd : List (Nat × Nat)) (i : Nat) (op : Oper) : Prop where
  guard : ∀ j q, op.guard = some (j, q) → bitA M i j = true ∧ Ev.testBit j = true
  val : ∃ d, op.dst = some d ∧ d < sz ∧ ((wantA o T op = some false ∧ T.get d = some UV) ∨ (wantA o T op = some true ∧
    ((∃ Ti a, Ag M W T0 T Ev i op Ti ∧ aPure P Ti op = some a ∧ T.get d = some a) ∨ isRd P op = true ∨
      (∃ Ti ob mk b, Ag M W T0 T Ev i op Ti ∧ aAlloc P Ti op = some (ob, mk) ∧ T.get d = some (mk b) ∧ (i, b) ∈ pd ∧ ¬ L b ∧ ∀ k, H.get b = some k → k = ob))))
/-- In the middle of a region. -/
structure Rg (P : Program) (o : Array Oper) (M W : Tr Nat) (T0 T : Tr AV) (Ev : Nat) (x : Gh) (L : Nat → Prop) (H : Hp) (lo sz : Nat) (pd : List (Nat × Nat)) (tm : Array Value) (pre rest : List Nat) : Prop where
  sch : SchOk M o.size pre rest
  shut : Shut M pre
  sub : ∀ i ∈ pre, Ev.testBit i = true
  size : tm.size = sz
  done : ∀ d i, i ∈ pre → Wr o i d → slotR x L T tm d
  old : ∀ d, (∀ i ∈ pre, ¬ Wr o i d) → slotR x L T0 tm d
  same : ∀ d, (∀ i, Ev.testBit i = true → ¬ Wr o i d) → T.get d = T0.get d
  good : ∀ i op, o[i]? = some op → Ev.testBit i = true → i ∉ pre → Gd P o M W T0 T Ev L H sz pd i op
  pdin : ∀ p ∈ pd, lo ≤ p.2 ∧ p.2 < H.n ∧ H.r ≤ p.2 ∧ Ev.testBit p.1 = true
  pdone : ∀ p ∈ pd, ∀ q ∈ pd, p.2 = q.2 → p.1 = q.1
section
variable {P : Program} {o : Array Oper} {M W : Tr Nat} {T0 T T' : Tr AV} {Ev Ev' : Nat} {x x' : Gh} {L L' : Nat → Prop} {H H' : Hp} {lo sz : Nat} {pd pd' : List (Nat × Nat)} {tm : Array Value} {pre rest : List Nat} {i : Nat} {op : Oper}
theorem slotR.mono {d : Tmp} (h : slotR x L T tm d) (hx : Ext L x x') (hL : Sub L L') : slotR x' L' T tm d := fun a ha => by
  obtain ⟨h1, h2⟩ := h a ha
  exact ⟨by rw [conc_ext hx a h2]; exact h1, ok_mono hx hL a h2⟩
theorem Gd.mono (h : Gd P o M W T0 T Ev L H sz pd i op) (hst : ∀ b, (i, b) ∈ pd → ¬ L b → ¬ L' b ∧ ∀ k, H'.get b = some k → H.get b = some k) : Gd P o M W T0 T Ev L' H' sz pd i op := by
  obtain ⟨hg, d, hd, hl, h⟩ := h
  refine ⟨hg, d, hd, hl, h.imp id (And.imp id (Or.imp id (Or.imp id ?_)))⟩
  rintro ⟨Ti, ob, mk, b, h1, h2, h3, h4, h5, h6⟩
  obtain ⟨e1, e2⟩ := hst b h4 h5
  exact ⟨Ti, ob, mk, b, h1, h2, h3, h4, e1, fun k hk => h6 k (e2 k hk)⟩
theorem Rg.mono (h : Rg P o M W T0 T Ev x L H lo sz pd tm pre rest) (hx : Ext L x x') (hL : Sub L L') (hst : ∀ b, lo ≤ b → b < H.n → ¬ L b → ¬ L' b ∧ ∀ k, H'.get b = some k → H.get b = some k) (hn : H.n ≤ H'.n) (hr : H'.r = H.r) : Rg P o M W T0 T Ev x' L' H' lo sz pd tm pre rest :=
  ⟨h.sch, h.shut, h.sub, h.size, fun d i hi hw => (h.done d i hi hw).mono hx hL, fun d hd => (h.old d hd).mono hx hL, h.same, fun i op ho he hi => (h.good i op ho he hi).mono fun b hb hnL => by
    obtain ⟨h1, h2, _⟩ := h.pdin _ hb
    exact hst b h1 h2 hnL, fun p hp => by
    obtain ⟨h1, h2, h3, h4⟩ := h.pdin p hp
    exact ⟨h1, Nat.lt_of_lt_of_le h2 hn, by rw [hr]; exact h3, h4⟩, h.pdone⟩
theorem wr_one (hW : okW W o.toList 0 = true) {i : Nat} {d : Tmp} (h : Wr o i d) : W.get d = some i := by
  obtain ⟨op, h1, h2⟩ := h
  have := okW_at _ _ hW i op d (ops_at.2 h1) h2
  rwa [Nat.zero_add] at this
theorem wr_inj (hW : okW W o.toList 0 = true) {i j : Nat} {d : Tmp} (h : Wr o i d) (k : Wr o j d) : i = j := by
  have h1 := wr_one hW h
  rw [wr_one hW k] at h1
  injection h1 with h1
  exact h1.symm
/-- The operands of the operation at hand. -/
theorem Rg.opr (hW : okW W o.toList 0 = true) (h : Rg P o M W T0 T Ev x L H lo sz pd tm pre (i :: rest)) {Ti : Tr AV} (hag : Ag M W T0 T Ev i op Ti) {df : List Deferred} : OpR x L Ti (Act.eval ⟨tm, df⟩) op.op.operands.toList := by
  obtain ⟨hlt, hin, hpre, _⟩ := h.sch
  intro y hy a ha
  cases y with
  | tmp d =>
    have h0 : ∀ (T1 : Tr AV), T1.get d = Ti.get d → slotR x L T1 tm d → Act.eval ⟨tm, df⟩ (.tmp d) = conc x a ∧ a.ok x L := fun T1 he hs => hs a (by rw [he]; exact ha)
    rcases hag d hy with ⟨h1, h2⟩ | ⟨j, h1, h2, h3, h4⟩ | ⟨j, h1, h2, h3⟩
    · exact h0 T0 h2.symm (h.old d fun i' _ hw => by rw [wr_one hW hw] at h1; cases h1)
    · have hj := hpre j h2
      by_cases hw : Wr o j d
      · exact h0 T h4.symm (h.done d j hj hw)
      · have hno : ∀ i', ¬ Wr o i' d := fun i' hw' => by
          have e := wr_one hW hw'
          rw [h1] at e
          injection e with e
          subst e
          exact hw hw'
        exact h0 T0 (by rw [h4]; exact (h.same d fun i' _ => hno i').symm) (h.old d fun i' _ => hno i')
    · refine h0 T0 h3.symm (h.old d fun i' hi' hw => ?_)
      have e := wr_one hW hw
      rw [h1] at e
      injection e with e
      subst e
      exact hin (h.shut _ hi' _ h2)
  | const v =>
    rw [evO] at ha
    injection ha with ha
    subst ha
    exact ⟨by rw [conc]; rfl, by simp only [AV.ok]⟩
  | func f =>
    rw [evO] at ha
    injection ha with ha
    subst ha
    exact ⟨by rw [evO_fn]; rfl, by simp [AV.ok, okL]⟩
  | global g => rw [evO] at ha; cases ha
theorem Rg.want (h : Rg P o M W T0 T Ev x L H lo sz pd tm pre (i :: rest)) (hg : ∀ j q, op.guard = some (j, q) → bitA M i j = true ∧ Ev.testBit j = true) {r : Bool} (hw : wantA o T op = some r) : Region.wanted op (yielded o tm) = r :=
  want_sound (fun j q d hgq hwr => h.done d j (h.sch.2.2.1 j (hg j q hgq).1) hwr) hw
/-- The operation at hand is done. -/
theorem Rg.put (hW : okW W o.toList 0 = true) (h : Rg P o M W T0 T Ev x L H lo sz pd tm pre (i :: rest)) (ho : o[i]? = some op) (hev : Ev.testBit i = true) (hx : Ext L x x') (hL : Sub L L') (hst : ∀ j b, (j, b) ∈ pd → j ≠ i → ¬ L b → ¬ L' b ∧ ∀ k, H'.get b = some k → H.get b = some k) (hn : H.n ≤ H'.n) (hr : H'.r = H.r)
    {v : Value} (hv : ∀ d, op.dst = some d → d < sz ∧ ∀ a, T.get d = some a → v = conc x' a ∧ a.ok x' L') {df : List Deferred} : Rg P o M W T0 T Ev x' L' H' lo sz pd (Act.put ⟨tm, df⟩ op.dst v).tmps (i :: pre) rest := by
  obtain ⟨hlt, hin, hpre, hsch⟩ := h.sch
  have hget : ∀ d, ¬ Wr o i d → (Act.put ⟨tm, df⟩ op.dst v).tmps.getD d undef = tm.getD d undef := fun d hd => by
    unfold Act.put
    split
    · next e he =>
      have hne : e ≠ d := fun q => hd ⟨op, ho, by rw [he, q]⟩
      show (tm.setIfInBounds e v).getD d undef = _
      rw [slot_put (by rw [h.size]; exact (hv e he).1), if_neg hne]
    · rfl
  have hkeep : ∀ d T1, ¬ Wr o i d → slotR x L T1 tm d → slotR x' L' T1 (Act.put ⟨tm, df⟩ op.dst v).tmps d := fun d T1 hd hs a ha => by
    rw [hget d hd]
    exact hs.mono hx hL a ha
  refine ⟨hsch, h.shut.cons hpre, fun j hj => ?_, ?_, fun d j hj hw => ?_, fun d hd => ?_, h.same, fun j opj hoj hej hj => ?_, fun p hp => ?_, h.pdone⟩
  · rcases List.mem_cons.1 hj with rfl | hj
    · exact hev
    · exact h.sub j hj
  · unfold Act.put
    split
    · simp [h.size]
    · exact h.size
  · by_cases hwi : Wr o i d
    · obtain ⟨op', ho', hd'⟩ := hwi
      rw [ho] at ho'
      injection ho' with ho'
      subst ho'
      intro a ha
      obtain ⟨h1, h2⟩ := hv d hd'
      obtain ⟨h3, h4⟩ := h2 a ha
      refine ⟨?_, h4⟩
      rw [hd', ← h3]
      show (tm.setIfInBounds d v).getD d undef = v
      rw [slot_put (by rw [h.size]; exact h1), if_pos rfl]
    · rcases List.mem_cons.1 hj with rfl | hj
      · exact absurd hw hwi
      · exact hkeep d T hwi (h.done d j hj hw)
  · exact hkeep d T0 (hd i (by simp)) (h.old d fun j hj => hd j (by simp [hj]))
  · have hji : j ≠ i := fun e => hj (by simp [e])
    exact (h.good j opj hoj hej fun e => hj (by simp [e])).mono fun b hb hnL => hst j b hb hji hnL
  · obtain ⟨h1, h2, h3, h4⟩ := h.pdin p hp
    exact ⟨h1, Nat.lt_of_lt_of_le h2 hn, by rw [hr]; exact h3, h4⟩
/-- What the data tell of an operation's wish does not turn while others are evaluated. -/
theorem wantA_ext (hT : ∀ j q d, op.guard = some (j, q) → Wr o j d → T'.get d = T.get d) : wantA o T' op = wantA o T op := by
  unfold wantA
  cases hg : op.guard with
  | none => rfl
  | some p =>
    obtain ⟨j, q⟩ := p
    dsimp only
    rw [nthL_eq, Array.getElem?_toList]
    cases ho : o[j]? with
    | none => rfl
    | some o' =>
      dsimp only
      cases hd : o'.dst with
      | none => rfl
      | some d =>
        dsimp only
        rw [hT j q d hg ⟨o', ho, hd⟩]
/-- One more operation is evaluated. -/
theorem Rg.ev (hW : okW W o.toList 0 = true) (h : Rg P o M W T0 T Ev x L H lo sz pd tm pre rest) {i0 : Nat} {op0 : Oper} (ho0 : o[i0]? = some op0) (he0 : Ev.testBit i0 = false) (hT : ∀ d, ¬ Wr o i0 d → T'.get d = T.get d) (hst : ∀ b, b < H.n → H'.get b = H.get b) (hn : H.n ≤ H'.n) (hr : H'.r = H.r)
    (hsub : ∀ p ∈ pd, p ∈ pd') (hpd : ∀ p ∈ pd', p ∈ pd ∨ (p.1 = i0 ∧ H.n ≤ p.2 ∧ lo ≤ p.2 ∧ p.2 < H'.n ∧ H'.r ≤ p.2)) (hnew : Gd P o M W T0 T' (Ev ||| (1 <<< i0)) L H' sz pd' i0 op0) : Rg P o M W T0 T' (Ev ||| (1 <<< i0)) x L H' lo sz pd' tm pre rest := by
  have hw0 : ∀ j d, Ev.testBit j = true → Wr o j d → T'.get d = T.get d := fun j d hj hw => hT d fun hw' => by
    have := wr_inj hW hw hw'
    subst this
    rw [he0] at hj
    cases hj
  refine ⟨h.sch, h.shut, fun j hj => (bit_or _ _ _).2 (.inl (h.sub j hj)), h.size, fun d j hj hw a ha => ?_, h.old, fun d hd => ?_, fun j opj hoj hej hj => ?_, fun p hp => ?_, fun p hp q hq he => ?_⟩
  · rw [hw0 j d (h.sub j hj) hw] at ha
    exact h.done d j hj hw a ha
  · rw [hT d (hd i0 ((bit_or _ _ _).2 (.inr rfl)))]
    exact h.same d fun j hj => hd j ((bit_or _ _ _).2 (.inl hj))
  · rcases (bit_or _ _ _).1 hej with hej | rfl
    · obtain ⟨hg, d, hd, hl, hval⟩ := h.good j opj hoj hej hj
      have hdT : T'.get d = T.get d := hw0 j d hej ⟨opj, hoj, hd⟩
      have hwant : wantA o T' opj = wantA o T opj := wantA_ext fun k q e hgk hw => hw0 k e (hg k q hgk).2 hw
      have hag : ∀ Ti, Ag M W T0 T Ev j opj Ti → Ag M W T0 T' (Ev ||| (1 <<< i0)) j opj Ti := fun Ti ha e he => by
        rcases ha e he with h1 | ⟨k, h1, h2, h3, h4⟩ | h1
        · exact .inl h1
        · refine .inr (.inl ⟨k, h1, h2, (bit_or _ _ _).2 (.inl h3), ?_⟩)
          rw [h4, hT e fun hw => ?_]
          have e1 := wr_one hW hw
          rw [h1] at e1
          injection e1 with e1
          subst e1
          rw [he0] at h3
          cases h3
        · exact .inr (.inr h1)
      refine ⟨fun k q hgk => ⟨(hg k q hgk).1, (bit_or _ _ _).2 (.inl (hg k q hgk).2)⟩, d, hd, hl, ?_⟩
      rw [hwant, hdT]
      refine hval.imp id (And.imp id ?_)
      rintro (⟨Ti, a, h1, h2, h3⟩ | h1 | ⟨Ti, ob, mk, b, h1, h2, h3, h4, h5, h6⟩)
      · exact .inl ⟨Ti, a, hag Ti h1, h2, h3⟩
      · exact .inr (.inl h1)
      · exact .inr (.inr ⟨Ti, ob, mk, b, hag Ti h1, h2, h3, hsub _ h4, h5, fun k hk => h6 k (by rw [← hst b (h.pdin _ h4).2.1]; exact hk)⟩)
    · rw [ho0] at hoj
      injection hoj with hoj
      subst hoj
      exact hnew
  · rcases hpd p hp with hp | ⟨h1, h2, h3, h4, h5⟩
    · obtain ⟨h1, h2, h3, h4⟩ := h.pdin p hp
      exact ⟨h1, Nat.lt_of_lt_of_le h2 hn, by rw [hr]; exact h3, (bit_or _ _ _).2 (.inl h4)⟩
    · exact ⟨h3, h4, h5, (bit_or _ _ _).2 (.inr h1)⟩
  · rcases hpd p hp with hp | ⟨h1, h2, _⟩ <;> rcases hpd q hq with hq | ⟨h3, h4, _⟩
    · exact h.pdone p hp q hq he
    · have := (h.pdin p hp).2.1
      omega
    · have := (h.pdin q hq).2.1
      omega
    · rw [h1, h3]
end
end Go.Proofs.YtklanoppbbaolaaGreat
