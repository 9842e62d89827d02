/- Contracts of the reference functions Refs, Members and Rows of layer 15. -/
import Derived.Test.YtkncmhcobbjoiaaMembQ
import Derived.Test.YtkncmhcobbjoiaaRefE
namespace Go.Proofs.Ytkncmhcobbjoiaa
open Go.RowKit
set_option linter.unusedVariables false

set_option maxRecDepth 100000 in
set_option maxHeartbeats 2000000 in
theorem refrefs_any (nb : Int) (A A' : Option Addr) (c c' : Nat) (ls : List Ln) (out : List Int) (w : World) (hl : LinesR w w.heap.size A ls) (ho : IntsR w w.heap.size A' out)
    (hm : ls.length ≤ 1000000) (hn : out.length ≤ 1000000) :
    Calls Try.prog 18 #[.agg #[.int .i64 nb, .slice A ls.length c], .slice A' out.length c'] w (IntsE w (refsL nb ls out) (outsE nb ls out)) := by
  have hcall := fun W hl ho => refof_any nb A A' c c' ls out W hl ho hm hn
  have hol := ofL_length_le nb ls out
  unfold refsL
  generalize ofL nb ls out = l at *
  generalize outsE nb ls out = er at *
  have HCALL := Lib.hid hcall
  have HL := Lib.hid hl
  have HO := Lib.hid ho
  clear hl ho hcall
  obtain ⟨i0, hi, hz0, hz1, hz2⟩ := info_parts info_int
  go_enter Try.func18, Try.ntmps18
  go_wp2_with (go_at_call 17; refine (HCALL.out _ (by exact (HL.out.alloc (Nat.le_refl _) _).more (by simp)) (by exact (HO.out.alloc (Nat.le_refl _) _).more (by simp))).mono ?_; rintro e w1 ⟨v, rfl, hown, hb1⟩; obtain ⟨A1, c1, rfl, hI⟩ := ownsRow_ints hown; have HI := Lib.hid hI; have hBw : Below w.heap.size w w1 := ((Below.refl _ _).alloc (Nat.le_refl _) _).trans (hb1.mono (by simp)); have HBw := Lib.hid hBw; clear hown hI hb1 hBw)
  go_loopg [8, 9] l.length (fun g s i wr => ∃ k : Nat, k + g = l.length ∧ i = .int .i64 k ∧ wr.ownsRow w1.heap.size 3 1 s (refsTo l k).length ((refsTo l k).map (Value.int .i64)) ∧ Below w1.heap.size w1 wr)
  case atStart => exact ⟨0, by omega, rfl, World.ownsRow_nil _ _ _ _, Below.refl _ _⟩
  case round =>
    obtain ⟨k, hkg, rfl, hrow, hbw⟩ := hrel
    have HBW := Lib.hid hbw
    have hzz := hbw.size
    clear hbw
    cases gk with
    | zero =>
      obtain rfl : k = l.length := by omega
      clear hkg
      have HROW := Lib.hid hrow
      clear hrow
      go_wp2_with fail
      go_ret2
      exact ⟨_, rfl, ownsRow_base HROW.out HBw.out.size, HBw.out.trans (HBW.out.mono HBw.out.size)⟩
    | succ g =>
      have hk : k < l.length := by omega
      have HG := Lib.hid hkg
      clear hkg
      obtain ⟨b, off, rfl, hb, hc⟩ := HI.out (by omega)
      have q0 := (HBW.out.cell (p := ⟨b, off + k, none⟩) hb).trans (hc k hk)
      have hrl := refsTo_le l k
      clear hc
      obtain ⟨A2, c2, rfl, _⟩ := ownsRow_ints hrow
      by_cases hroot : l.getD k 0 = ((refsTo l k).length : Int)
      · have HS : Hid (refsTo l (k + 1) = refsTo l k ++ [(k : Int)]) := by show _ = _; rw [refsTo, if_pos hroot]
        rw [hroot] at q0
        clear hroot
        generalize refsTo l k = r at *
        go_wp2_with (at_builtin; refine wpList_append_own _ rfl _ _ 25 rfl w1.heap.size 3 i0 (.int .i64 0) 1 8 Try.underlying25 hi hz0 hz1 hz2 rfl (by decide) _ _ _ rfl (hrow.alloc _) ⟨wr.heap.size, 0, none⟩ 1 1 [.int .i64 (k : Int)] rfl rfl (cell_one_new _ _ _) (by simp [Value.oneCell']) (by unfold maxLen; omega) (by omega) (by simp; omega) ?_; intro v' w2 hown' hgrow _)
        have hb2 := below_append hrow hzz hgrow
        clear hgrow hrow q0
        have HOWN := Lib.hid hown'
        clear hown'
        go_wp2_with fail
        go_roundg g
        case measure => omega
        case rel => exact ⟨k + 1, by have := HG.out; omega, by go_num, by rw [HS.out]; simpa using HOWN.out, HBW.out.trans hb2⟩
      · have HS : Hid (refsTo l (k + 1) = refsTo l k) := by show _ = _; rw [refsTo, if_neg hroot]
        have hne : (l.getD k 0 == ((refsTo l k).length : Int)) = false := by rw [beq_eq_false_iff_ne]; exact hroot
        clear hroot
        generalize l.getD k 0 = x at *
        generalize refsTo l k = r at *
        have HROW := Lib.hid hrow
        clear hrow
        go_wp2_with fail
        go_roundg g
        case measure => omega
        case rel => exact ⟨k + 1, by have := HG.out; omega, by go_num, by rw [HS.out]; exact HROW.out, HBW.out⟩

/-- The buses among the first k whose number is i. -/
def selTo (l : List Int) (i : Int) : Nat → List Int
  | 0 => []
  | k + 1 => if l.getD k 0 = i then selTo l i k ++ [(k : Int)] else selTo l i k
theorem selTo_le (l : List Int) (i : Int) (k : Nat) : (selTo l i k).length ≤ k := by
  induction k with
  | zero => exact Nat.le_refl _
  | succ k ih =>
    unfold selTo
    split
    · simp; omega
    · omega
/-- The rows of the reference: one by one. -/
def selRows (l : List Int) : Nat → List (List Int)
  | 0 => []
  | i + 1 => selRows l i ++ [selTo l (i : Int) l.length]
theorem selRows_length (l : List Int) (i : Nat) : (selRows l i).length = i := by
  induction i with
  | zero => rfl
  | succ i ih => simp [selRows, ih]
theorem selRows_at (l : List Int) (n i : Nat) (h : i < n) : (selRows l n).getD i [] = selTo l (i : Int) l.length := by
  induction n with
  | zero => omega
  | succ n ih =>
    rw [selRows]
    by_cases e : i < n
    · rw [getD_append_left _ _ _ _ (by rw [selRows_length]; exact e)]; exact ih e
    · rw [getD_append_at _ _ _ _ (by rw [selRows_length]; omega)]
      have : i = n := by omega
      rw [this]
theorem sel_nil {l : List Int} (hn : Numb l) (k i : Nat) (hk : k ≤ l.length) (hi : (refsTo l k).length ≤ i) : selTo l (i : Int) k = [] := by
  induction k with
  | zero => rfl
  | succ k ih =>
    have h1 := (hn k (by omega)).2
    unfold refsTo at hi
    by_cases e : l.getD k 0 = ((refsTo l k).length : Int)
    · rw [if_pos e] at hi
      simp at hi
      rw [selTo, if_neg (by omega)]
      exact ih (by omega) (by omega)
    · rw [if_neg e] at hi
      rw [selTo, if_neg (by omega)]
      exact ih (by omega) hi
theorem memTo_sel {l : List Int} (hn : Numb l) (k : Nat) (hk : k ≤ l.length) : ∀ i, i < (memTo l k).length → (memTo l k).getD i [] = selTo l (i : Int) k := by
  induction k with
  | zero => intro i hi; simp [memTo] at hi
  | succ k ih =>
    have ih' := ih (by omega)
    obtain ⟨n0, n1⟩ := hn k (by omega)
    have hml := memTo_length l k
    by_cases hnew : l.getD k 0 = ((memTo l k).length : Int)
    · rw [memTo_new hnew]
      intro i hi
      simp at hi
      by_cases e : i < (memTo l k).length
      · rw [getD_append_left _ _ _ _ e, ih' i e, selTo, if_neg (by omega)]
      · have hii : i = (memTo l k).length := by omega
        rw [getD_append_at _ _ _ _ hii, selTo, if_pos (by rw [hnew, hii]), sel_nil hn k i (by omega) (by omega)]
        rfl
    · obtain ⟨x, hx⟩ := Int.eq_ofNat_of_zero_le n0
      have hxl : x < (memTo l k).length := by omega
      rw [memTo_old hx hxl]
      intro i hi
      simp at hi
      rw [getD_setL _ _ _ _ _ hxl, selTo, hx]
      by_cases e : x = i
      · rw [if_pos e, if_pos (by rw [e]), ← e, ih' x hxl]
      · rw [if_neg e, if_neg (by omega), ih' i hi]
theorem selRows_eq {l : List Int} (hn : Numb l) : selRows l (refsTo l l.length).length = memTo l l.length := by
  have hml := memTo_length l l.length
  apply List.ext_getElem
  · rw [selRows_length, hml]
  · intro i h1 h2
    have e1 := selRows_at l (refsTo l l.length).length i (by rw [selRows_length] at h1; exact h1)
    have e2 := memTo_sel hn l.length (Nat.le_refl _) i h2
    rw [getD_eq _ _ _ h1] at e1
    rw [getD_eq _ _ _ h2] at e2
    rw [e1, e2]
end Go.Proofs.Ytkncmhcobbjoiaa
