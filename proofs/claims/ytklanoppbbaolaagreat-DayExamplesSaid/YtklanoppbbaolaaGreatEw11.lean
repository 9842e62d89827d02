/- A closed run: what the plan of a region says, and the orders that are drawn. No program is named here. -/
import Derived.Test.YtklanoppbbaolaaGreatEw10
import Derived.Test.YtklanoppbbaolaaGreatAnyW
namespace Go.Proofs.YtklanoppbbaolaaGreat
open Go Go.RowKit
set_option linter.unusedVariables false
set_option linter.unusedSimpArgs false
theorem edgB_at {i : Nat} : ∀ (l : List Edge), edgB i l = true → ∀ e ∈ l, Region.binds .any e = true → e.on < i
  | [], _, e, he, _ => by simp at he
  | a :: l, h, e, he, hb => by
    unfold edgB at h
    split at h
    · cases h
    · next hne =>
      rcases List.mem_cons.1 he with rfl | he
      · cases hl : Nat.blt e.on i with
        | true => exact Nat.le_of_ble_eq_true hl
        | false => exact absurd hl (fun hl => hne hb hl)
      · exact edgB_at l h e he hb
theorem maskE_at {M : Tr Nat} {j : Nat} : ∀ (l : List Edge), (maskE M l).testBit j = true → ∃ e ∈ l, Region.binds .any e = true ∧ (j = e.on ∨ bitA M e.on j = true)
  | [], h => by simp [maskE] at h
  | a :: l, h => by
    unfold maskE at h
    split at h
    · next hb =>
      split at h
      · next m hm =>
        simp only [Nat.testBit_or, Bool.or_eq_true] at h
        rcases h with h | h | h
        · obtain ⟨e, he, h1, h2⟩ := maskE_at l h
          exact ⟨e, by simp [he], h1, h2⟩
        · exact ⟨a, by simp, hb, .inr (by simp [bitA, hm, h])⟩
        · refine ⟨a, by simp, hb, .inl ?_⟩
          rw [Nat.one_shiftLeft, Nat.testBit_two_pow, decide_eq_true_eq] at h
          exact h.symm
      · obtain ⟨e, he, h1, h2⟩ := maskE_at l h
        exact ⟨e, by simp [he], h1, h2⟩
    · obtain ⟨e, he, h1, h2⟩ := maskE_at l h
      exact ⟨e, by simp [he], h1, h2⟩
theorem okM_at {M : Tr Nat} : ∀ (l : List Oper) (k : Nat), okM M l k = true → ∀ (i : Nat) (o : Oper), l[i]? = some o →
    (∀ j, bitA M (k + i) j = true → j < k + i) ∧ (∀ e ∈ o.after.toList, Region.binds .any e = true → e.on < k + i) ∧
    ∀ j, bitA M (k + i) j = true → ∃ e ∈ o.after.toList, Region.binds .any e = true ∧ (j = e.on ∨ bitA M e.on j = true)
  | [], _, _, i, o, ho => by simp at ho
  | a :: l, k, h, i, o, ho => by
    unfold okM at h
    split at h
    · next m hm =>
      split at h
      · next h1 h2 h3 =>
        cases i with
        | zero =>
          simp only [List.getElem?_cons_zero, Option.some.injEq] at ho
          subst ho
          have e1 := Nat.eq_of_beq_eq_true h1
          have hbit : ∀ j, bitA M (k + 0) j = m.testBit j := fun j => by simp [bitA, hm]
          refine ⟨fun j hj => ?_, edgB_at _ h3, fun j hj => ?_⟩
          · rw [hbit] at hj
            refine Nat.lt_of_not_le fun hle => ?_
            have hlt : m < 2 ^ k := by simpa [Nat.blt_eq] using h2
            have := Nat.testBit_lt_two_pow (Nat.lt_of_lt_of_le hlt (Nat.pow_le_pow_right (by decide) (show k ≤ j by omega)))
            rw [this] at hj
            cases hj
          · rw [hbit, ← e1] at hj
            exact maskE_at _ hj
        | succ i =>
          simp only [List.getElem?_cons_succ] at ho
          have := okM_at l (k + 1) h i o ho
          rwa [show k + 1 + i = k + (i + 1) by omega] at this
      · cases h
    · cases h
theorem okW_at {W : Tr Nat} : ∀ (l : List Oper) (k : Nat), okW W l k = true → ∀ (i : Nat) (o : Oper) (d : Tmp), l[i]? = some o → o.dst = some d → W.get d = some (k + i)
  | [], _, _, i, o, d, ho, _ => by simp at ho
  | a :: l, k, h, i, o, d, ho, hd => by
    unfold okW at h
    cases i with
    | zero =>
      simp only [List.getElem?_cons_zero, Option.some.injEq] at ho
      subst ho
      rw [hd] at h
      dsimp only at h
      split at h
      · next j hj =>
        split at h
        · next hb => rw [hj, Nat.eq_of_beq_eq_true hb]; rfl
        · cases h
      · cases h
    | succ i =>
      simp only [List.getElem?_cons_succ] at ho
      have hl : okW W l (k + 1) = true := by
        split at h
        · exact h
        · split at h
          · split at h
            · exact h
            · cases h
          · cases h
      have := okW_at l (k + 1) hl i o d ho hd
      rwa [show k + 1 + i = k + (i + 1) by omega] at this
/-- What is left of an order that was drawn. -/
def SchOk (M : Tr Nat) (n : Nat) : List Nat → List Nat → Prop
  | pre, [] => ∀ i, i < n → i ∈ pre
  | pre, i :: rest => i < n ∧ i ∉ pre ∧ (∀ j, bitA M i j = true → j ∈ pre) ∧ SchOk M n (i :: pre) rest
def Shut (M : Tr Nat) (pre : List Nat) : Prop := ∀ i ∈ pre, ∀ j, bitA M i j = true → j ∈ pre
theorem Shut.nil (M : Tr Nat) : Shut M [] := fun i hi => by simp at hi
theorem Shut.cons {M : Tr Nat} {pre : List Nat} {i : Nat} (h : Shut M pre) (hi : ∀ j, bitA M i j = true → j ∈ pre) : Shut M (i :: pre) := fun k hk j hj => by
  rcases List.mem_cons.1 hk with rfl | hk
  · exact List.mem_cons_of_mem _ (hi j hj)
  · exact List.mem_cons_of_mem _ (h k hk j hj)
section
variable {ops : Array Oper} {M : Tr Nat}
theorem ops_at {i : Nat} {o : Oper} : ops.toList[i]? = some o ↔ ops[i]? = some o := by rw [Array.getElem?_toList]
theorem go_sch (hM : okM M ops.toList 0 = true) : ∀ (fuel t : Nat) (listed : Array Bool) (pre : List Nat), listed.size = ops.size → unlisted ops.size listed ≤ fuel → (∀ i, i < ops.size → (listed.getD i true = true ↔ i ∈ pre)) → Shut M pre →
    SchOk M ops.size pre (Region.linearise.go .any ops fuel t listed []) := by
  have hac : ∀ (j : Nat) (o : Oper), ops[j]? = some o → ∀ e ∈ o.after, Region.binds .any e = true → e.on < j := fun j o ho e he hb => by
    have := (okM_at _ _ hM j o (ops_at.2 ho)).2.1 e (Array.mem_toList_iff.2 he) hb
    omega
  intro fuel
  induction fuel with
  | zero =>
    intro t listed pre hs hu hp _
    simp only [Region.linearise.go, List.reverse_nil, SchOk]
    intro i hi
    refine (hp i hi).1 ?_
    have hz : unlisted ops.size listed = 0 := by omega
    unfold unlisted at hz
    rw [List.length_eq_zero_iff, List.filter_eq_nil_iff] at hz
    simpa using hz i (List.mem_range.2 hi)
  | succ fuel ih =>
    intro t listed pre hs hu hp hsh
    simp only [Region.linearise.go]
    change SchOk M ops.size pre (match (Region.ready .any ops listed)[t % (Region.ready .any ops listed).length]? with
      | some i => Region.linearise.go .any ops fuel (t / (Region.ready .any ops listed).length) (listed.setIfInBounds i true) [i]
      | none => [].reverse)
    cases hi : (Region.ready .any ops listed)[t % (Region.ready .any ops listed).length]? with
    | none =>
      have hnil : Region.ready .any ops listed = [] := by
        cases hr : Region.ready .any ops listed with
        | nil => rfl
        | cons x xs =>
          rw [hr] at hi
          have hlt : t % (x :: xs).length < (x :: xs).length := Nat.mod_lt _ (by simp)
          simp at hi
          simp at hlt
          omega
      simp only [List.reverse_nil, SchOk]
      exact fun i hi => (hp i hi).1 (ready_nilW hs hac hnil i hi)
    | some i =>
      simp only []
      rw [linearise_go_acc, List.reverse_singleton, List.singleton_append]
      have hm := List.mem_of_getElem? hi
      rw [mem_ready] at hm
      obtain ⟨hli, o, ho, hdep⟩ := hm
      have hlt : i < ops.size := (Array.getElem?_eq_some_iff.1 ho).1
      have hpre : ∀ j, bitA M i j = true → j ∈ pre := fun j hj => by
        obtain ⟨h1, h2, h3⟩ := okM_at _ _ hM i o (ops_at.2 ho)
        rw [Nat.zero_add] at h1 h2 h3
        obtain ⟨e, he, hb, hje⟩ := h3 j hj
        have hon := h2 e he hb
        have hin : e.on ∈ pre := by
          refine (hp e.on (by omega)).1 ?_
          rw [← getD_ft _ _ (by omega)]
          exact hdep e (Array.mem_toList_iff.1 he) hb
        rcases hje with rfl | hje
        · exact hin
        · exact hsh _ hin j hje
      refine ⟨hlt, fun h => ?_, hpre, ih _ _ _ (by simp [hs]) (by have := unlisted_set hs hlt hli; omega) (fun k hk => ?_) (hsh.cons hpre)⟩
      · have := (hp i hlt).2 h
        rw [hli] at this
        cases this
      · rw [listed_set' _ _ _ (by omega), List.mem_cons, hp k hk]
        constructor
        · rintro (h | h)
          · exact .inl h.symm
          · exact .inr h
        · rintro (h | h)
          · exact .inl h.symm
          · exact .inr h
theorem sch_ok {P : Program} (hm : P.follows .mixedOrders = true) (hM : okM M ops.toList 0 = true) (t : Nat) : SchOk M ops.size [] (Region.schedule (P.follows .mixedOrders) ops t) := by
  simp only [Region.schedule, hm, Bool.true_or, if_true]
  refine go_sch hM ops.size t _ [] (by simp) ?_ (fun i hi => ?_) (Shut.nil M)
  · unfold unlisted
    exact Nat.le_trans (List.length_filter_le _ _) (by simp)
  · simp [hi]
end
section
variable {P : Program} {M W : Tr Nat} {ops : List Oper}
theorem rdB_at {Ev i : Nat} {s : Bool} : ∀ (l : List Operand), rdB M W Ev i s l = true → ∀ d, Operand.tmp d ∈ l → ∀ j, W.get d = some j →
    (bitA M i j = true ∧ Ev.testBit j = true) ∨ (s = false ∧ bitA M i j = false ∧ Ev.testBit j = false ∧ bitA M j i = true)
  | [], _, d, hd, _, _ => by simp at hd
  | a :: l, h, d, hd, j, hj => by
    rcases List.mem_cons.1 hd with rfl | hd
    · unfold rdB at h
      rw [hj] at h
      dsimp only at h
      split at h
      · next h1 h2 => exact .inl ⟨h1, h2⟩
      · next h1 h2 h3 => exact .inr ⟨rfl, h1, h2, h3⟩
      · cases h
    · refine rdB_at l ?_ d hd j hj
      unfold rdB at h
      split at h
      · next h0 => cases h0
      · next h0 =>
        injection h0 with h1 h2
        subst h1 h2
        split at h
        · exact h
        · split at h
          · exact h
          · exact h
          · cases h
      · next h0 =>
        injection h0 with h1 h2
        subst h1 h2
        exact h
theorem grdB_at {Ev i : Nat} {o : Oper} (h : grdB M ops Ev i o = true) {j : Nat} {q : Bool} (hg : o.guard = some (j, q)) : bitA M i j = true ∧ Ev.testBit j = true := by
  unfold grdB at h
  rw [hg] at h
  dsimp only at h
  split at h
  · next h1 h2 => exact ⟨h1, h2⟩
  · cases h
theorem memN_iff {i : Nat} : ∀ {l : List Nat}, memN i l = true ↔ i ∈ l
  | [] => by simp [memN]
  | j :: l => by
    unfold memN
    split
    · next h => simp [Nat.eq_of_beq_eq_true h]
    · next h =>
      rw [memN_iff, List.mem_cons]
      constructor
      · exact .inr
      · rintro (rfl | h')
        · simp at h
        · exact h'
theorem ckN_at {Ev0 Ev : Nat} {prev next : Option Nat} {ags : List Nat} : ∀ (l : List Oper) (k : Nat), ckN P M Ev0 Ev prev next ags l k = true → ∀ (i : Nat) (o : Oper), l[i]? = some o →
    (Ev.testBit (k + i) = true ∨ ∃ c, next = some c ∧ (k + i = c ∨ bitA M (k + i) c = true)) ∧ (isRd P o = true → Ev0.testBit (k + i) = true → (k + i) ∈ ags ∨ ∃ c, prev = some c ∧ bitA M c (k + i) = true)
  | [], _, _, i, o, ho => by simp at ho
  | a :: l, k, h, i, o, ho => by
    unfold ckN at h
    split at h
    · next h1 h2 =>
      cases i with
      | zero =>
        simp only [List.getElem?_cons_zero, Option.some.injEq] at ho
        subst ho
        rw [Nat.add_zero]
        refine ⟨?_, fun hr he => ?_⟩
        · rw [Bool.or_eq_true] at h1
          rcases h1 with h1 | h1
          · exact .inl h1
          · split at h1
            · next c =>
              rw [Bool.or_eq_true] at h1
              exact .inr ⟨c, rfl, h1.imp Nat.eq_of_beq_eq_true id⟩
            · cases h1
        · rw [hr, he] at h2
          dsimp only at h2
          rw [Bool.or_eq_true] at h2
          rcases h2 with h2 | h2
          · exact .inl (memN_iff.1 h2)
          · split at h2
            · next c => exact .inr ⟨c, rfl, h2⟩
            · cases h2
      | succ i =>
        simp only [List.getElem?_cons_succ] at ho
        have := ckN_at l (k + 1) h i o ho
        rwa [show k + 1 + i = k + (i + 1) by omega] at this
    · cases h
theorem bit_or (Ev i j : Nat) : (Ev ||| (1 <<< i)).testBit j = true ↔ Ev.testBit j = true ∨ j = i := by
  rw [Nat.testBit_or, Bool.or_eq_true, Nat.one_shiftLeft, Nat.testBit_two_pow, decide_eq_true_eq]
  exact or_congr Iff.rfl eq_comm
theorem plan_at {P : Program} {ops : Array Oper} {cs : List Nat} {st : List (List Nat × List Nat)} (h : plan P ops = some (cs, st)) : ∃ M W, okM M ops.toList 0 = true ∧ okW W ops.toList 0 = true ∧ ckP P M W ops.toList none 0 cs st = true := by
  unfold plan planC planM at h
  split at h
  · next W hW =>
    split at h
    · next h1 h2 h3 =>
      injection h with h
      injection h with e1 e2
      subst e1 e2
      exact ⟨_, W, h1, h2, h3⟩
    · cases h
  · cases h
end
end Go.Proofs.YtklanoppbbaolaaGreat
