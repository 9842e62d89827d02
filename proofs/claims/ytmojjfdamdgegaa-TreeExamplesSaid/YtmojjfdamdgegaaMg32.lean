/- The text TreC. -/
import Derived.Test.YtmojjfdamdgegaaMg31
/- Contracts of pylonlaw16.has, pylonlaw16.rest, slices.Contains and tree.cross. -/
namespace Go.Proofs.Ytmojjfdamdgegaa
open Go.RowKit
set_option linter.unusedVariables false

set_option maxHeartbeats 1000000 in
theorem has16_any (A : Option Addr) (c : Nat) (l : List Int) (x : Int) (w : World) (B : Nat) (hl : IntsR w B A l) (hm : l.length ≤ 1000000) :
    Calls Try.prog 29 #[.slice A l.length c, .int .i64 x] w fun e w' => e = .returned (.bool (hasB l x)) ∧ w = w' := by
  have k := has_any A c l x w B hl hm
  have K := Lib.hid k
  clear k hl
  go_enter Try.func29, Try.ntmps29
  go_wp2_with fail
  refine K.out.mono ?_
  rintro e w' ⟨rfl, rfl⟩
  go_wp2_with fail
  go_ret
  exact ⟨rfl, rfl⟩

set_option maxRecDepth 100000 in
set_option maxHeartbeats 2000000 in
theorem rest_any (nb : Value) (A A' : Option Addr) (c c' m : Nat) (out : List Int) (w : World) (ho : IntsR w w.heap.size A' out) (hm : m ≤ 1000000) (hn : out.length ≤ 1000000) :
    Calls Try.prog 27 #[.agg #[nb, .slice A m c], .slice A' out.length c'] w (IntsV w (notIn out m)) := by
  obtain ⟨i0, hi, hz0, hz1, hz2⟩ := info_parts info_int
  have HO := Lib.hid ho
  clear ho
  go_enter Try.func27, Try.ntmps27
  go_wp2_with fail
  go_loopg [5, 6] m (fun g s i wr => ∃ k : Nat, k + g = m ∧ i = .int .i64 k ∧ wr.ownsRow (w.heap.size + 1) 3 1 s (notIn out k).length ((notIn out k).map (Value.int .i64)) ∧ Below (w.heap.size + 1) (w.alloc (.cells #[nb, .slice A m c] 24)) wr)
  case atStart => exact ⟨0, by omega, rfl, World.ownsRow_nil _ _ _ _, Below.refl _ _⟩
  case round =>
    obtain ⟨k, hkg, rfl, hrow, hbw⟩ := hrel
    have c1 : wr.cell? ⟨w.heap.size, 1, none⟩ = some (.slice A m c) := (hbw.cell (by show w.heap.size < _; omega)).trans (by simp)
    have hzz : w.heap.size + 1 ≤ wr.heap.size := by have := hbw.size; simpa using this
    have HBW := Lib.hid hbw
    clear hbw
    cases gk with
    | zero =>
      obtain rfl : k = m := by omega
      clear hkg
      have HROW := Lib.hid hrow
      clear hrow
      go_wp2_with fail
      go_ret
      exact ⟨_, rfl, ownsRow_base HROW.out (by omega), ((Below.refl _ _).alloc (Nat.le_refl _) _).trans (HBW.out.mono (by omega))⟩
    | succ g =>
      have hk : k < m := by omega
      have HG := Lib.hid hkg
      clear hkg
      have hle := notIn_le out k
      have hcall := has16_any A' c' out (k : Int) wr w.heap.size (HO.out.keep fun p hp => (HBW.out.cell (by omega)).trans (World.cell?_alloc_lt _ _ _ hp)) hn
      cases hh : hasB out (k : Int) with
      | true =>
        have HS : Hid (notIn out (k + 1) = notIn out k) := by show _ = _; rw [notIn, if_pos hh]
        rw [hh] at hcall
        have HC := Lib.hid hcall
        have HROW := Lib.hid hrow
        clear hcall hh hrow
        go_wp2_with fail
        refine HC.out.mono ?_
        rintro e w' ⟨rfl, rfl⟩
        go_wp2_with fail
        go_roundg g
        case measure => omega
        case rel => exact ⟨k + 1, by have := HG.out; omega, by go_num, by rw [HS.out]; exact HROW.out, HBW.out⟩
      | false =>
        have HS : Hid (notIn out (k + 1) = notIn out k ++ [(k : Int)]) := by show _ = _; rw [notIn, if_neg (by rw [hh]; simp)]
        rw [hh] at hcall
        have HC := Lib.hid hcall
        clear hcall hh
        go_wp2_with fail
        refine HC.out.mono ?_
        rintro e w' ⟨rfl, rfl⟩
        go_wp2_with (at_builtin; refine wpList_append_own _ rfl _ _ 25 rfl (w.heap.size + 1) 3 i0 (.int .i64 0) 1 8 Try.underlying25 hi hz0 hz1 hz2 rfl (by decide) _ _ _ rfl (hrow.alloc _) ⟨wr.heap.size, 0, none⟩ 1 1 [.int .i64 (k : Int)] rfl rfl (cell_one_new _ _ _) (by simp [Value.oneCell']) (by unfold maxLen; omega) (by omega) (by simp; omega) ?_; intro v' w2 hown' hgrow _)
        have hb2 := below_append hrow hzz hgrow
        have HOWN := Lib.hid hown'
        clear hgrow hrow hown'
        go_wp2_with fail
        go_roundg g
        case measure => omega
        case rel => exact ⟨k + 1, by have := HG.out; omega, by go_num, by rw [HS.out]; simpa using HOWN.out, HBW.out.trans hb2⟩

set_option maxHeartbeats 1000000 in
theorem index_any (A : Option Addr) (c : Nat) (l : List Int) (x : Int) (w : World) (B : Nat) (hl : IntsR w B A l) (hm : l.length ≤ 1000000) :
    Calls Try.prog 52 #[.slice A l.length c, .int .i64 x] w fun e w' => ∃ v : Int, e = .returned (.int .i64 v) ∧ decide (0 ≤ v) = hasB l x ∧ w = w' := by
  have HL := Lib.hid hl
  clear hl
  go_enter Try.func52, Try.ntmps52
  go_wp2_with fail
  go_loopg [4, 5, 8] l.length (fun g s4 s5 i w' => ∃ k : Nat, k + g = l.length ∧ i = .int .i64 k ∧ (∀ i, i < k → l.getD i 0 ≠ x) ∧ w = w')
  case atStart => exact ⟨0, by omega, rfl, fun i hi => absurd hi (by omega), rfl⟩
  case round =>
    obtain ⟨k, hkg, rfl, hall, rfl⟩ := hrel
    have HA := Lib.hid hall
    clear hall
    cases gk with
    | zero =>
      obtain rfl : k = l.length := by omega
      clear hkg
      go_wp2_with fail
      go_ret
      exact ⟨-1, rfl, by rw [hasB_false HA.out]; rfl, rfl⟩
    | succ g =>
      have hk : k < l.length := by omega
      have HG := Lib.hid hkg
      clear hkg
      obtain ⟨b, off, rfl, hbl, hc⟩ := HL.out (by omega)
      have f0 := hc k hk
      clear hc
      obtain ⟨y, hy⟩ : ∃ y, l.getD k 0 = y := ⟨_, rfl⟩
      rw [hy] at f0
      have HY := Lib.hid hy
      clear hy
      by_cases heq : x = y
      · have hb : (x == y) = true := by rw [beq_iff_eq]; exact heq
        have HE := Lib.hid heq
        clear heq
        go_wp2_with fail
        go_ret
        exact ⟨k, rfl, by rw [hasB_true hk (HY.out.trans HE.out.symm)]; exact decide_eq_true (by omega), rfl⟩
      · have hb : (x == y) = false := by rw [beq_eq_false_iff_ne]; exact heq
        have HE := Lib.hid heq
        clear heq
        go_wp2_with fail
        go_roundg g
        case measure => omega
        case rel =>
          refine ⟨k + 1, by have := HG.out; omega, by go_num, fun i hi => ?_, rfl⟩
          rcases Nat.lt_or_ge i k with h | h
          · exact HA.out i h
          · obtain rfl : i = k := by omega
            rw [HY.out]; exact fun e => HE.out e.symm
set_option maxHeartbeats 1000000 in
theorem contains_any (A : Option Addr) (c : Nat) (l : List Int) (x : Int) (w : World) (B : Nat) (hl : IntsR w B A l) (hm : l.length ≤ 1000000) :
    Calls Try.prog 40 #[.slice A l.length c, .int .i64 x] w fun e w' => e = .returned (.bool (hasB l x)) ∧ w = w' := by
  have K := Lib.hid (index_any A c l x w B hl hm)
  clear hl
  go_enter Try.func40, Try.ntmps40
  go_wp2_with fail
  refine K.out.mono ?_
  rintro e w' ⟨v, rfl, hv, rfl⟩
  have HV := Lib.hid hv
  clear hv
  go_wp2_with fail
  go_ret
  exact ⟨ret_bool HV.out, rfl⟩

/-- The other end, and the sign. -/
def crossF (l : Ln) (bus : Int) : Int × Int := if bus = l.1 then (l.2.1, 1) else if bus = l.2.1 then (l.1, -1) else (0, 0)
set_option maxHeartbeats 1000000 in
theorem cross_any (lf lt lx lc bus : Int) (w : World) :
    Calls Try.prog 56 #[.agg #[.int .i64 lf, .int .i64 lt, .int .i64 lx, .int .i64 lc], .int .i64 bus] w fun e w' => e = .returned (.tuple #[.int .i64 (crossF (lf, lt, lx, lc) bus).1, .int .i64 (crossF (lf, lt, lx, lc) bus).2]) ∧ Below w.heap.size w w' := by
  by_cases h1 : bus = lf
  · have b1 : (bus == lf) = true := by rw [beq_iff_eq]; exact h1
    have HE := Lib.hid (show crossF (lf, lt, lx, lc) bus = (lt, 1) by unfold crossF; rw [if_pos h1])
    clear h1
    go_enter Try.func56, Try.ntmps56
    go_wp2_with fail
    go_ret2
    exact ⟨by rw [HE.out]; rfl, (Below.refl _ _).alloc (Nat.le_refl _) _⟩
  have b1 : (bus == lf) = false := by rw [beq_eq_false_iff_ne]; exact h1
  by_cases h2 : bus = lt
  · have b2 : (bus == lt) = true := by rw [beq_iff_eq]; exact h2
    have HE := Lib.hid (show crossF (lf, lt, lx, lc) bus = (lf, -1) by unfold crossF; rw [if_neg h1, if_pos h2])
    clear h1 h2
    go_enter Try.func56, Try.ntmps56
    go_wp2_with fail
    go_ret2
    exact ⟨by rw [HE.out]; rfl, (Below.refl _ _).alloc (Nat.le_refl _) _⟩
  have b2 : (bus == lt) = false := by rw [beq_eq_false_iff_ne]; exact h2
  have HE := Lib.hid (show crossF (lf, lt, lx, lc) bus = (0, 0) by unfold crossF; rw [if_neg h1, if_neg h2])
  clear h1 h2
  go_enter Try.func56, Try.ntmps56
  go_wp2_with fail
  go_ret2
  exact ⟨by rw [HE.out]; rfl, (Below.refl _ _).alloc (Nat.le_refl _) _⟩
end Go.Proofs.Ytmojjfdamdgegaa
