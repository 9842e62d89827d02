/- pylonref14.Has, pylonlaw21.has, rises, set, three, awake. -/
import Derived.Test.YtklfijhlibpmaaaOngT
import Derived.Test.YtklfijhlibpmaaaOgC
import Derived.Test.YtklfijhlibpmaaaOgJ
namespace Go.Proofs.Ytklfijhlibpmaaa
open Go.RowKit
set_option linter.unusedVariables false

def hasB (l : List Int) (x : Int) : Bool := decide (x ∈ l)
theorem hasB_true {l : List Int} {x : Int} {k : Nat} (hk : k < l.length) (h : l.getD k 0 = x) : hasB l x = true := by
  unfold hasB; rw [decide_eq_true_eq, ← h, getD_eq _ _ _ hk]; exact List.getElem_mem hk
theorem hasB_false {l : List Int} {x : Int} (h : ∀ i, i < l.length → l.getD i 0 ≠ x) : hasB l x = false := by
  unfold hasB; rw [decide_eq_false_iff_not]
  intro hx
  obtain ⟨i, hi, e⟩ := List.getElem_of_mem hx
  exact h i hi (by rw [getD_eq _ _ _ hi]; exact e)

set_option maxHeartbeats 1000000 in
theorem has_any (A : Option Addr) (c : Nat) (l : List Int) (x : Int) (w : World) (B : Nat) (hl : IntsR w B A l) (hn : l.length ≤ 1000000) :
    Calls Try.prog 31 #[.slice A l.length c, .int .i64 x] w fun e w' => e = .returned (.bool (hasB l x)) ∧ w = w' := by
  have HL := Lib.hid hl
  clear hl
  go_enter Try.func31, Try.ntmps31
  go_wp2_with fail
  go_loopg [4, 5] l.length (fun g e i w' => ∃ k : Nat, k + g = l.length ∧ i = .int .i64 k ∧ (∀ i, i < k → l.getD i 0 ≠ x) ∧ w = w')
  case atStart => exact ⟨0, by omega, rfl, fun i hi => absurd hi (by omega), rfl⟩
  case round =>
    obtain ⟨k, hkg, rfl, hall, rfl⟩ := hrel
    have HA := Lib.hid hall
    clear hall
    cases gk with
    | zero =>
      obtain rfl : k = l.length := by omega
      clear hkg
      go_wp2_with fail
      go_ret
      exact ⟨ret_bool (hasB_false HA.out).symm, rfl⟩
    | succ g =>
      have hk : k < l.length := by omega
      have HG := Lib.hid hkg
      clear hkg
      obtain ⟨b, off, rfl, hbl, hc⟩ := HL.out (by omega)
      have f0 := hc k hk
      clear hc
      obtain ⟨y, hy⟩ : ∃ y, l.getD k 0 = y := ⟨_, rfl⟩
      rw [hy] at f0
      have HY := Lib.hid hy
      clear hy
      by_cases heq : y = x
      · have hb : (y == x) = true := by rw [beq_iff_eq]; exact heq
        have HE := Lib.hid heq
        clear heq
        go_wp2_with fail
        go_ret
        exact ⟨ret_bool (hasB_true hk (HY.out.trans HE.out)).symm, rfl⟩
      · have hb : (y == x) = false := by rw [beq_eq_false_iff_ne]; exact heq
        have HE := Lib.hid heq
        clear heq
        go_wp2_with fail
        go_roundg g
        case measure => omega
        case rel =>
          refine ⟨k + 1, by have := HG.out; omega, by go_num, fun i hi => ?_, rfl⟩
          rcases Nat.lt_or_ge i k with h | h
          · exact HA.out i h
          · obtain rfl : i = k := by omega
            rw [HY.out]; exact HE.out

theorem hasB_iff (l : List Int) (x : Int) : hasB l x = true ↔ x ∈ l := by unfold hasB; simp
set_option maxHeartbeats 1000000 in
theorem lawhas_any (A : Option Addr) (c : Nat) (l : List Int) (x : Int) (w : World) (hl : IntsR w w.heap.size A l) (hn : l.length ≤ 1000000) :
    Calls Try.prog 15 #[.slice A l.length c, .int .i64 x] w fun e w' => e = .returned (.bool (hasB l x)) ∧ Below w.heap.size w w' := by
  have K := Lib.hid (has_any A c l x w w.heap.size hl hn)
  clear hl
  go_enter Try.func15, Try.ntmps15
  go_wp2_with (go_at_call 31; refine K.out.mono ?_; rintro e w' ⟨rfl, rfl⟩)
  go_ret
  exact ⟨rfl, Below.refl _ _⟩
set_option maxHeartbeats 2000000 in
theorem rises_ok (A : Option Addr) (c : Nat) (l : List Int) (w : World) (hl : IntsR w w.heap.size A l) (hm : l.length ≤ 1000000) (hs : l.Pairwise (· < ·)) :
    Calls Try.prog 16 #[.slice A l.length c] w fun e w' => e = .returned (.bool true) ∧ Below w.heap.size w w' := by
  have HO := Lib.hid hl
  have HS := Lib.hid hs
  clear hl hs
  go_enter Try.func16, Try.ntmps16
  go_wp2_with fail
  go_loopg [2, 3] l.length (fun g s2 i w' => ∃ k q : Nat, 1 ≤ k ∧ (k + g = l.length + 1 ∨ l.length ≤ k) ∧ i = .int .i64 k ∧ w' = w.drewN q)
  case atStart => exact ⟨1, 0, by omega, by omega, rfl, rfl⟩
  case round =>
    obtain ⟨k, q, hk1, hkg, rfl, rfl⟩ := hrel
    by_cases hk : k < l.length
    · obtain ⟨b, off, rfl, hbl, hc⟩ := HO.out (by omega)
      obtain ⟨j, rfl⟩ : ∃ j, k = j + 1 := ⟨k - 1, by omega⟩
      have f0 := hc (j + 1) hk
      have f1 := hc j (by omega)
      have hlt := sorted_at HS.out hk
      clear hc
      generalize l.getD (j + 1) 0 = x at *
      generalize l.getD j 0 = y at *
      have hle : decide (x ≤ y) = false := decide_eq_false (by omega)
      have e1 : ((j + 1 : Nat) : Int) - 1 = (j : Int) := by omega
      have hG : gk ≠ 0 := by omega
      obtain ⟨g, rfl⟩ : ∃ g, gk = g + 1 := ⟨gk - 1, by omega⟩
      generalize hJ : j + 1 = J at *
      have hjl : j < l.length := by omega
      have HG := Lib.hid hkg
      clear hkg hlt
      go_wp2_with fail
      go_quiet (fail)
      go_wp2_with fail
      go_roundg g
      case measure => omega
      case rel => exact ⟨J + 1, _, by omega, by have := HG.out; omega, by go_num, rfl⟩
    · have hd : decide ((k : Int) < l.length) = false := by simp; omega
      clear hkg
      go_wp2_with fail
      go_ret
      exact ⟨rfl, below_drewN (Below.refl _ _) _⟩
/-- The kinds of set k. -/
def kindsOf (k : Int) : List Int := if k = 0 then [1] else if k = 1 then [1, 2] else [3]
set_option maxHeartbeats 2000000 in
theorem set_any (k : Int) (A : Option Addr) (c : Nat) (ls : List Og) (h : Int) (w : World) (hl : OgsR w w.heap.size A ls) (hm : ls.length ≤ 1000000) :
    Calls Try.prog 17 #[.int .i64 k, .slice A ls.length c, .int .i64 h] w (RowE w (affL (kindsOf k) ls h)) := by
  have K1 := Lib.hid (ahead_any A c ls h w hl hm)
  have K2 := Lib.hid (now_any A c ls h w hl hm)
  have K3 := Lib.hid (trips_any A c ls h w hl hm)
  clear hl
  by_cases h0 : k = 0
  · have h0' : (k == 0) = true := by rw [beq_iff_eq]; exact h0
    rw [kindsOf, if_pos h0]
    clear h0
    go_enter Try.func17, Try.ntmps17
    go_wp2_with (go_at_call 13; refine K1.out.mono ?_; rintro e w' ⟨v, rfl, hown, hb⟩; have HO := Lib.hid (And.intro hown hb); clear hown hb)
    go_ret
    exact ⟨v, rfl, HO.out.1, HO.out.2⟩
  have h0' : (k == 0) = false := by rw [beq_eq_false_iff_ne]; exact h0
  by_cases h1 : k = 1
  · have h1' : (k == 1) = true := by rw [beq_iff_eq]; exact h1
    rw [kindsOf, if_neg h0, if_pos h1]
    clear h0 h1
    go_enter Try.func17, Try.ntmps17
    go_wp2_with (go_at_call 14; refine K2.out.mono ?_; rintro e w' ⟨v, rfl, hown, hb⟩; have HO := Lib.hid (And.intro hown hb); clear hown hb)
    go_ret
    exact ⟨v, rfl, HO.out.1, HO.out.2⟩
  · have h1' : (k == 1) = false := by rw [beq_eq_false_iff_ne]; exact h1
    rw [kindsOf, if_neg h0, if_neg h1]
    clear h0 h1
    go_enter Try.func17, Try.ntmps17
    go_wp2_with (go_at_call 19; refine K3.out.mono ?_; rintro e w' ⟨v, rfl, hown, hb⟩; have HO := Lib.hid (And.intro hown hb); clear hown hb)
    go_ret
    exact ⟨v, rfl, HO.out.1, HO.out.2⟩
theorem three_any (w : World) : Calls Try.prog 21 #[] w fun e w' => ∃ A, e = .returned (.slice A 3 3) ∧ OgsR w' w'.heap.size A threeOg ∧ Below w.heap.size w w' := by
  go_enter Try.func21, Try.ntmps21
  go_wp2
  go_ret
  exact ⟨_, rfl, OgsR.lit w 27 threeOg _ rfl, (Below.refl _ _).alloc (Nat.le_refl _) _⟩
end Go.Proofs.Ytklfijhlibpmaaa
