/- The text RefC. -/
import Derived.Test.YtmojjfdamdgegaaMg13
/- Contracts of the reference functions Outs, Has, In of layer 14, and that In is the program's. -/
namespace Go.Proofs.Ytmojjfdamdgegaa
open Go.RowKit
set_option linter.unusedVariables false

set_option maxHeartbeats 1000000 in
theorem refouts_any (nb : Int) (A A' : Option Addr) (c c' : Nat) (ls : List Ln) (out : List Int) (w : World) (hl : LinesR w w.heap.size A ls) (ho : IntsR w w.heap.size A' out)
    (hm : ls.length ≤ 1000000) (hn : out.length ≤ 1000000) :
    Calls Try.prog 34 #[.agg #[.int .i64 nb, .slice A ls.length c], .slice A' out.length c'] w fun e w' => e = .returned (.int .i64 (outsE nb ls out)) ∧ Below w.heap.size w w' := by
  by_cases he : checkE nb ls = 0
  · rw [outsE, if_pos he]
    exact refouts_main nb A A' c c' ls out w hl ho he hm hn
  · rw [outsE, if_neg he]
    have hcall := fun W hl => refcheck_any nb A c ls W hl
    have he' : (checkE nb ls != 0) = true := by rw [bne_iff_ne]; exact he
    generalize checkE nb ls = e at *
    have HCALL := Lib.hid hcall
    have HL := Lib.hid hl
    clear hl ho hcall he
    go_enter Try.func34, Try.ntmps34
    go_wp2_with (go_at_call 50; refine (HCALL.out _ (by exact (HL.out.alloc (Nat.le_refl _) _).more (by simp))).mono ?_; rintro e w1 ⟨rfl, hb1⟩)
    go_ret
    exact ⟨rfl, ((Below.refl _ _).alloc (Nat.le_refl _) _).trans (hb1.mono (by simp))⟩

def hasB (l : List Int) (x : Int) : Bool := decide (x ∈ l)
theorem hasB_true {l : List Int} {x : Int} {k : Nat} (hk : k < l.length) (h : l.getD k 0 = x) : hasB l x = true := by
  unfold hasB; rw [decide_eq_true_eq, ← h, getD_eq _ _ _ hk]; exact List.getElem_mem hk
theorem hasB_false {l : List Int} {x : Int} (h : ∀ i, i < l.length → l.getD i 0 ≠ x) : hasB l x = false := by
  unfold hasB; rw [decide_eq_false_iff_not]
  intro hx
  obtain ⟨i, hi, e⟩ := List.getElem_of_mem hx
  exact h i hi (by rw [getD_eq _ _ _ hi]; exact e)

set_option maxHeartbeats 1000000 in
theorem has_any (A : Option Addr) (c : Nat) (l : List Int) (x : Int) (w : World) (B : Nat) (hl : IntsR w B A l) (hn : l.length ≤ 1000000) :
    Calls Try.prog 38 #[.slice A l.length c, .int .i64 x] w fun e w' => e = .returned (.bool (hasB l x)) ∧ w = w' := by
  have HL := Lib.hid hl
  clear hl
  go_enter Try.func38, Try.ntmps38
  go_wp2_with fail
  go_loopg [4, 5] l.length (fun g e i w' => ∃ k : Nat, k + g = l.length ∧ i = .int .i64 k ∧ (∀ i, i < k → l.getD i 0 ≠ x) ∧ w = w')
  case atStart => exact ⟨0, by omega, rfl, fun i hi => absurd hi (by omega), rfl⟩
  case round =>
    obtain ⟨k, hkg, rfl, hall, rfl⟩ := hrel
    have HA := Lib.hid hall
    clear hall
    cases gk with
    | zero =>
      obtain rfl : k = l.length := by omega
      clear hkg
      go_wp2_with fail
      go_ret
      exact ⟨ret_bool (hasB_false HA.out).symm, rfl⟩
    | succ g =>
      have hk : k < l.length := by omega
      have HG := Lib.hid hkg
      clear hkg
      obtain ⟨b, off, rfl, hbl, hc⟩ := HL.out (by omega)
      have f0 := hc k hk
      clear hc
      obtain ⟨y, hy⟩ : ∃ y, l.getD k 0 = y := ⟨_, rfl⟩
      rw [hy] at f0
      have HY := Lib.hid hy
      clear hy
      by_cases heq : y = x
      · have hb : (y == x) = true := by rw [beq_iff_eq]; exact heq
        have HE := Lib.hid heq
        clear heq
        go_wp2_with fail
        go_ret
        exact ⟨ret_bool (hasB_true hk (HY.out.trans HE.out)).symm, rfl⟩
      · have hb : (y == x) = false := by rw [beq_eq_false_iff_ne]; exact heq
        have HE := Lib.hid heq
        clear heq
        go_wp2_with fail
        go_roundg g
        case measure => omega
        case rel =>
          refine ⟨k + 1, by have := HG.out; omega, by go_num, fun i hi => ?_, rfl⟩
          rcases Nat.lt_or_ge i k with h | h
          · exact HA.out i h
          · obtain rfl : i = k := by omega
            rw [HY.out]; exact HE.out

/-- The lines not in the list, among the first k. -/
def notIn (out : List Int) : Nat → List Int
  | 0 => []
  | k + 1 => if hasB out (k : Int) = true then notIn out k else notIn out k ++ [(k : Int)]
theorem notIn_le (out : List Int) (k : Nat) : (notIn out k).length ≤ k := by
  induction k with
  | zero => exact Nat.le_refl _
  | succ k ih =>
    unfold notIn
    split
    · omega
    · simp; omega

theorem outs_mono {m : Nat} {out : List Int} (h : ∀ i, i < out.length → outOk m out i) : ∀ i j, i < j → j < out.length → out.getD i 0 < out.getD j 0 := by
  intro i j hij hj
  induction j with
  | zero => omega
  | succ j ih =>
    have hs := (h (j + 1) hj).2.2 (by omega)
    simp only [Nat.add_sub_cancel] at hs
    by_cases e : i = j
    · subst e; exact hs
    · have := ih (by omega) (by omega); omega
theorem svc_inv {m : Nat} {out : List Int} (h : ∀ i, i < out.length → outOk m out i) (k : Nat) :
    (∀ i, i < svcN out k → i < out.length → out.getD i 0 < k) ∧ (∀ i, svcN out k ≤ i → i < out.length → (k : Int) ≤ out.getD i 0) ∧ svcL out k = notIn out k := by
  induction k with
  | zero =>
    refine ⟨fun i hi => by simp [svcN, svc] at hi, fun i _ hi => ?_, rfl⟩
    have := (h i hi).1
    omega
  | succ k ih =>
    obtain ⟨h1, h2, h3⟩ := ih
    by_cases hc : svcN out k < out.length ∧ out.getD (svcN out k) 0 = (k : Int)
    · obtain ⟨e1, e2⟩ := svc_hit hc.1 hc.2
      rw [e1, e2]
      refine ⟨fun i hi hl => ?_, fun i hi hl => ?_, ?_⟩
      · rcases Nat.lt_or_ge i (svcN out k) with h' | h'
        · have := h1 i h' hl; omega
        · obtain rfl : i = svcN out k := by omega
          rw [hc.2]; omega
      · have := outs_mono h (svcN out k) i (by omega) hl
        rw [hc.2] at this; omega
      · rw [notIn, if_pos (hasB_true hc.1 hc.2)]; exact h3
    · obtain ⟨e1, e2⟩ := svc_miss hc
      rw [e1, e2]
      have hne : ∀ i, i < out.length → out.getD i 0 ≠ (k : Int) := by
        intro i hi he
        rcases Nat.lt_or_ge i (svcN out k) with h' | h'
        · have := h1 i h' hi; omega
        · have hs : svcN out k < out.length := by omega
          have hk := h2 _ (Nat.le_refl _) hs
          by_cases e : i = svcN out k
          · exact hc ⟨hs, by rw [← e]; exact he⟩
          · have := outs_mono h (svcN out k) i (by omega) hi
            exact hc ⟨hs, by omega⟩
      refine ⟨fun i hi hl => ?_, fun i hi hl => ?_, ?_⟩
      · have := h1 i hi hl; omega
      · have := h2 i hi hl
        have := hne i hl
        omega
      · rw [notIn, if_neg (by rw [hasB_false hne]; simp), h3]
theorem svcL_eq {m : Nat} {out : List Int} (h : outsB m out = true) (k : Nat) : svcL out k = notIn out k := (svc_inv (of_decide_eq_true h) k).2.2

/-- A slice of the call's own comes back; nothing that lay has turned. -/
def IntsV (w : World) (xs : List Int) (e : Ending) (w' : World) : Prop :=
  ∃ v, e = .returned v ∧ w'.ownsRow w.heap.size 3 1 v xs.length (xs.map (Value.int .i64)) ∧ Below w.heap.size w w'

set_option maxRecDepth 100000 in
set_option maxHeartbeats 2000000 in
theorem refin_any (nb : Value) (A A' : Option Addr) (c c' m : Nat) (out : List Int) (w : World) (ho : IntsR w w.heap.size A' out) (hm : m ≤ 1000000) (hn : out.length ≤ 1000000) :
    Calls Try.prog 35 #[.agg #[nb, .slice A m c], .slice A' out.length c'] w (IntsV w (notIn out m)) := by
  obtain ⟨i0, hi, hz0, hz1, hz2⟩ := info_parts info_int
  have HO := Lib.hid ho
  clear ho
  go_enter Try.func35, Try.ntmps35
  go_wp2_with fail
  go_loopg [5, 6] m (fun g s i wr => ∃ k : Nat, k + g = m ∧ i = .int .i64 k ∧ wr.ownsRow (w.heap.size + 1) 3 1 s (notIn out k).length ((notIn out k).map (Value.int .i64)) ∧ Below (w.heap.size + 1) (w.alloc (.cells #[nb, .slice A m c] 24)) wr)
  case atStart => exact ⟨0, by omega, rfl, World.ownsRow_nil _ _ _ _, Below.refl _ _⟩
  case round =>
    obtain ⟨k, hkg, rfl, hrow, hbw⟩ := hrel
    have c1 : wr.cell? ⟨w.heap.size, 1, none⟩ = some (.slice A m c) := (hbw.cell (by show w.heap.size < _; omega)).trans (by simp)
    have hzz : w.heap.size + 1 ≤ wr.heap.size := by have := hbw.size; simpa using this
    have HBW := Lib.hid hbw
    clear hbw
    cases gk with
    | zero =>
      obtain rfl : k = m := by omega
      clear hkg
      have HROW := Lib.hid hrow
      clear hrow
      go_wp2_with fail
      go_ret
      exact ⟨_, rfl, ownsRow_base HROW.out (by omega), ((Below.refl _ _).alloc (Nat.le_refl _) _).trans (HBW.out.mono (by omega))⟩
    | succ g =>
      have hk : k < m := by omega
      have HG := Lib.hid hkg
      clear hkg
      have hle := notIn_le out k
      have hcall := has_any A' c' out (k : Int) wr w.heap.size (HO.out.keep fun p hp => (HBW.out.cell (by omega)).trans (World.cell?_alloc_lt _ _ _ hp)) hn
      cases hh : hasB out (k : Int) with
      | true =>
        have HS : Hid (notIn out (k + 1) = notIn out k) := by show _ = _; rw [notIn, if_pos hh]
        rw [hh] at hcall
        have HC := Lib.hid hcall
        have HROW := Lib.hid hrow
        clear hcall hh hrow
        go_wp2_with fail
        refine HC.out.mono ?_
        rintro e w' ⟨rfl, rfl⟩
        go_wp2_with fail
        go_roundg g
        case measure => omega
        case rel => exact ⟨k + 1, by have := HG.out; omega, by go_num, by rw [HS.out]; exact HROW.out, HBW.out⟩
      | false =>
        have HS : Hid (notIn out (k + 1) = notIn out k ++ [(k : Int)]) := by show _ = _; rw [notIn, if_neg (by rw [hh]; simp)]
        rw [hh] at hcall
        have HC := Lib.hid hcall
        clear hcall hh
        generalize notIn out k = r at *
        go_wp2_with fail
        refine HC.out.mono ?_
        rintro e w' ⟨rfl, rfl⟩
        go_wp2_with (at_builtin; refine wpList_append_own _ rfl _ _ 25 rfl (w.heap.size + 1) 3 i0 (.int .i64 0) 1 8 Try.underlying25 hi hz0 hz1 hz2 rfl (by decide) _ _ _ rfl (hrow.alloc _) ⟨wr.heap.size, 0, none⟩ 1 1 [.int .i64 (k : Int)] rfl rfl (cell_one_new _ _ _) (by simp [Value.oneCell']) (by unfold maxLen; omega) (by omega) (by simp; omega) ?_; intro v' w2 hown' hgrow _)
        have hb2 := below_append hrow hzz hgrow
        have HOWN := Lib.hid hown'
        clear hgrow hrow hown' c1
        go_wp2_with fail
        go_roundg g
        case measure => omega
        case rel => exact ⟨k + 1, by have := HG.out; omega, by go_num, by rw [HS.out]; simpa using HOWN.out, HBW.out.trans hb2⟩
end Go.Proofs.Ytmojjfdamdgegaa
