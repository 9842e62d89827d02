/- The text IslC. -/
import Derived.OwnWalk
import Derived.Maps.AppendAt
import Derived.Test.YtmojjfdamdgegaaMg10
/- The contracts of island.Of, Refs, Count, Connected. -/
namespace Go.Proofs.Ytmojjfdamdgegaa
open Go.RowKit
set_option linter.unusedVariables false

/-- What Of answers where it answers. -/
def ofN (nb : Int) (ls : List Ln) (out : List Int) : List Nat := (numTo (uniAll nb.toNat (ends ls (svcL out ls.length))) nb.toNat).1
def ofL (nb : Int) (ls : List Ln) (out : List Int) : List Int := if outsE nb ls out = 0 then (ofN nb ls out).map fun x : Nat => (x : Int) else []

set_option maxHeartbeats 1000000 in
theorem of_any (nb : Int) (A A' : Option Addr) (c c' : Nat) (ls : List Ln) (out : List Int) (w : World) (hl : LinesR w w.heap.size A ls) (ho : IntsR w w.heap.size A' out)
    (hm : ls.length ≤ 1000000) (hn : out.length ≤ 1000000) :
    Calls Try.prog 26 #[.agg #[.int .i64 nb, .slice A ls.length c], .slice A' out.length c'] w (IntsE w (ofL nb ls out) (outsE nb ls out)) := by
  by_cases he : outsE nb ls out = 0
  · have hv := valid_of_check (check_of_outs he).1
    rw [ofL, if_pos he, he]
    obtain ⟨n, rfl⟩ := Int.eq_ofNat_of_zero_le (show 0 ≤ nb by have := hv.lo; omega)
    exact of_ok n A A' c c' ls out w hl ho hm hn he
  · rw [ofL, if_neg he]
    have hcall := fun W hl ho => in_any nb A A' c c' ls out W hl ho hm hn
    rw [inL, if_neg he] at hcall
    have he' : (outsE nb ls out != 0) = true := by rw [bne_iff_ne]; exact he
    generalize outsE nb ls out = e at *
    have HCALL := Lib.hid hcall
    have HL := Lib.hid hl
    have HO := Lib.hid ho
    clear hl ho hcall he
    go_enter Try.func26, Try.ntmps26
    go_wp2_with (go_at_call 30; refine (HCALL.out _ (by exact (HL.out.alloc (Nat.le_refl _) _).more (by simp)) (by exact (HO.out.alloc (Nat.le_refl _) _).more (by simp))).mono ?_; rintro e w1 ⟨v, rfl, _, hb1⟩)
    go_ret2
    exact ⟨_, rfl, World.ownsRow_nil _ _ _ _, ((Below.refl _ _).alloc (Nat.le_refl _) _).trans (hb1.mono (by simp))⟩

theorem below_append {W w2 : World} {base : Nat} {e : TypeId} {size : Nat} {v : Value} {k : Nat} {xs : List Value} {tmp : Obj} (hrow : W.ownsRow base e size v k xs) (hb : base ≤ W.heap.size) (hgrow : (W.alloc tmp).grownBy w2 v.ownBlock) : Below base W w2 := by
  refine ((Below.refl base W).alloc hb tmp).grown hgrow (by simp; omega) fun j ej => ?_
  rcases hrow.2 with ⟨rfl, _⟩ | ⟨g, cap, cur, rfl, hb, _, _⟩
  · simp [Value.ownBlock] at ej
  · obtain rfl : g = j := by simpa [Value.ownBlock] using ej
    exact hb

/-- The first buses of the islands, read off the numbers. -/
def refsTo (l : List Int) : Nat → List Int
  | 0 => []
  | k + 1 => if l.getD k 0 = ((refsTo l k).length : Int) then refsTo l k ++ [(k : Int)] else refsTo l k
theorem refsTo_le (l : List Int) (k : Nat) : (refsTo l k).length ≤ k := by
  induction k with
  | zero => exact Nat.le_refl _
  | succ k ih =>
    unfold refsTo
    split
    · simp; omega
    · omega
def refsL (nb : Int) (ls : List Ln) (out : List Int) : List Int := refsTo (ofL nb ls out) (ofL nb ls out).length
theorem ofL_length_le (nb : Int) (ls : List Ln) (out : List Int) : (ofL nb ls out).length ≤ 6 := by
  unfold ofL
  by_cases he : outsE nb ls out = 0
  · have hv := valid_of_check (check_of_outs he).1
    rw [if_pos he, List.length_map, ofN, numTo_length]; have := hv.hi; omega
  · rw [if_neg he]; simp
theorem ofL_nil {nb : Int} {ls : List Ln} {out : List Int} (h : outsE nb ls out ≠ 0) : ofL nb ls out = [] := by rw [ofL, if_neg h]

set_option maxRecDepth 100000 in
set_option maxHeartbeats 2000000 in
theorem refs_any (nb : Int) (A A' : Option Addr) (c c' : Nat) (ls : List Ln) (out : List Int) (w : World) (hl : LinesR w w.heap.size A ls) (ho : IntsR w w.heap.size A' out)
    (hm : ls.length ≤ 1000000) (hn : out.length ≤ 1000000) :
    Calls Try.prog 45 #[.agg #[.int .i64 nb, .slice A ls.length c], .slice A' out.length c'] w (IntsE w (refsL nb ls out) (outsE nb ls out)) := by
  have hcall := fun W hl ho => of_any nb A A' c c' ls out W hl ho hm hn
  have hol := ofL_length_le nb ls out
  have honil := fun h => ofL_nil (nb := nb) (ls := ls) (out := out) h
  unfold refsL
  generalize ofL nb ls out = l at *
  generalize outsE nb ls out = e at *
  have HCALL := Lib.hid hcall
  have HL := Lib.hid hl
  have HO := Lib.hid ho
  have HN := Lib.hid honil
  clear hl ho hcall honil
  by_cases he : e = 0
  · subst he
    obtain ⟨i0, hi, hz0, hz1, hz2⟩ := info_parts info_int
    go_enter Try.func45, Try.ntmps45
    go_wp2_with (go_at_call 26; refine (HCALL.out _ (by exact (HL.out.alloc (Nat.le_refl _) _).more (by simp)) (by exact (HO.out.alloc (Nat.le_refl _) _).more (by simp))).mono ?_; rintro e w1 ⟨v, rfl, hown, hb1⟩; obtain ⟨A1, c1, rfl, hI⟩ := ownsRow_ints hown; have HI := Lib.hid hI; have hBw : Below w.heap.size w w1 := ((Below.refl _ _).alloc (Nat.le_refl _) _).trans (hb1.mono (by simp)); have HBw := Lib.hid hBw; clear hown hI hb1 hBw)
    go_loopg [8, 22] l.length (fun g s i wr => ∃ k : Nat, k + g = l.length ∧ i = .int .i64 k ∧ wr.ownsRow w1.heap.size 3 1 s (refsTo l k).length ((refsTo l k).map (Value.int .i64)) ∧ Below w1.heap.size w1 wr)
    case atStart => exact ⟨0, by omega, rfl, World.ownsRow_nil _ _ _ _, Below.refl _ _⟩
    case round =>
      obtain ⟨k, hkg, rfl, hrow, hbw⟩ := hrel
      have HBW := Lib.hid hbw
      have hzz := hbw.size
      clear hbw
      cases gk with
      | zero =>
        obtain rfl : k = l.length := by omega
        clear hkg
        have HROW := Lib.hid hrow
        clear hrow
        go_wp2
        go_ret2
        exact ⟨_, rfl, ownsRow_base HROW.out HBw.out.size, HBw.out.trans (HBW.out.mono HBw.out.size)⟩
      | succ g =>
        have hk : k < l.length := by omega
        have HG := Lib.hid hkg
        clear hkg
        obtain ⟨b, off, rfl, hb, hc⟩ := HI.out (by omega)
        have q0 := (HBW.out.cell (p := ⟨b, off + k, none⟩) hb).trans (hc k hk)
        have hrl := refsTo_le l k
        clear hc
        obtain ⟨A2, c2, rfl, _⟩ := ownsRow_ints hrow
        by_cases hroot : l.getD k 0 = ((refsTo l k).length : Int)
        · have HS : Hid (refsTo l (k + 1) = refsTo l k ++ [(k : Int)]) := by show _ = _; rw [refsTo, if_pos hroot]
          rw [hroot] at q0
          clear hroot
          generalize refsTo l k = r at *
          go_wp2_with (at_builtin; refine wpList_append_own _ rfl _ _ 25 rfl w1.heap.size 3 i0 (.int .i64 0) 1 8 Try.underlying25 hi hz0 hz1 hz2 rfl (by decide) _ _ _ rfl (hrow.alloc _) ⟨wr.heap.size, 0, none⟩ 1 1 [.int .i64 (k : Int)] rfl rfl (cell_one_new _ _ _) (by simp [Value.oneCell']) (by unfold maxLen; omega) (by omega) (by simp; omega) ?_; intro v' w2 hown' hgrow _)
          have hb2 := below_append hrow hzz hgrow
          clear hgrow hrow q0
          have HOWN := Lib.hid hown'
          clear hown'
          go_wp2
          go_roundg g
          case measure => omega
          case rel => exact ⟨k + 1, by have := HG.out; omega, by go_num, by rw [HS.out]; simpa using HOWN.out, HBW.out.trans hb2⟩
        · have HS : Hid (refsTo l (k + 1) = refsTo l k) := by show _ = _; rw [refsTo, if_neg hroot]
          have hne : (l.getD k 0 == ((refsTo l k).length : Int)) = false := by rw [beq_eq_false_iff_ne]; exact hroot
          clear hroot
          generalize l.getD k 0 = x at *
          generalize refsTo l k = r at *
          have HROW := Lib.hid hrow
          clear hrow
          go_wp2
          go_roundg g
          case measure => omega
          case rel => exact ⟨k + 1, by have := HG.out; omega, by go_num, by rw [HS.out]; exact HROW.out, HBW.out⟩
  · have he' : (e != 0) = true := by rw [bne_iff_ne]; exact he
    have hl0 := HN.out he
    subst hl0
    clear he HN
    go_enter Try.func45, Try.ntmps45
    go_wp2_with (go_at_call 26; refine (HCALL.out _ (by exact (HL.out.alloc (Nat.le_refl _) _).more (by simp)) (by exact (HO.out.alloc (Nat.le_refl _) _).more (by simp))).mono ?_; rintro e w1 ⟨v, rfl, _, hb1⟩)
    go_ret2
    exact ⟨_, rfl, World.ownsRow_nil _ _ _ _, ((Below.refl _ _).alloc (Nat.le_refl _) _).trans (hb1.mono (by simp))⟩
end Go.Proofs.Ytmojjfdamdgegaa
