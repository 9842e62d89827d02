/- The text TreF. -/
import Derived.Test.YtmojjfdamdgegaaMg34
/- tree.Path. -/
namespace Go.Proofs.Ytmojjfdamdgegaa
open Go.RowKit
set_option linter.unusedVariables false

theorem tree_in {nb : Int} {ls : List Ln} {out : List Int} (he : outsE nb ls out = 0) : (treeL nb ls out).length ≤ ls.length ∧ ∀ k, k < (treeL nb ls out).length → ∃ j : Nat, (treeL nb ls out).getD k 0 = (j : Int) ∧ j < ls.length := by
  rw [treeL, if_pos he]
  have hs := (treeTo_sub nb ls (svcL out ls.length) (svcL out ls.length).length).trans (List.take_sublist _ _)
  have h1 := svcL_le out ls.length
  refine ⟨Nat.le_trans hs.length_le h1, fun k hk => ?_⟩
  have hm := (svc_mem (check_of_outs he).2 _).1 (hs.subset (List.getElem_mem hk))
  rw [← getD_eq _ _ 0 hk] at hm
  exact ⟨_, (Int.toNat_of_nonneg hm.1).symm, by omega⟩
set_option maxRecDepth 100000 in
set_option maxHeartbeats 4000000 in
theorem path_err (nb : Int) (A A' : Option Addr) (c c' : Nat) (ls : List Ln) (out : List Int) (a b : Int) (w : World) (hl : LinesR w w.heap.size A ls) (ho : IntsR w w.heap.size A' out) (hm : ls.length ≤ 1000000) (hn : out.length ≤ 1000000) (he : connE nb ls out a b ≠ 0) :
    Calls Try.prog 23 #[.agg #[.int .i64 nb, .slice A ls.length c], .slice A' out.length c', .int .i64 a, .int .i64 b] w (IntsE w [] (connE nb ls out a b)) := by
  have kc := fun W hl ho => conn_any nb A A' c c' ls out a b W hl ho hm hn
  have b1 : (connE nb ls out a b != 0) = true := by rw [bne_iff_ne]; exact he
  generalize connE nb ls out a b = er at *
  generalize connB nb ls out a b = bb at *
  have KC := Lib.hid kc
  have HL := Lib.hid hl
  have HO := Lib.hid ho
  clear kc hl ho he
  have HB0 := Lib.hid (Below.refl w.heap.size w)
  go_enter Try.func23, Try.ntmps23
  go_wp2_with fail
  have hb : Below w.heap.size w (w.alloc (.cells #[.int .i64 nb, .slice A ls.length c] 24)) := (Below.refl _ _).alloc (Nat.le_refl _) _
  have q0 : (w.alloc (.cells #[.int .i64 nb, .slice A ls.length c] 24)).cell? ⟨w.heap.size, 0, none⟩ = some (.int .i64 nb) := by simp
  have q1 : (w.alloc (.cells #[.int .i64 nb, .slice A ls.length c] 24)).cell? ⟨w.heap.size, 1, none⟩ = some (.slice A ls.length c) := by simp
  have hz : w.heap.size < (w.alloc (.cells #[.int .i64 nb, .slice A ls.length c] 24)).heap.size := by simp
  have HB1 := Lib.hid (HB0.out.trans (hb.mono HB0.out.size))
  clear HB0
  replace HL := Lib.hid (HL.out.upto hb)
  replace HO := Lib.hid (HO.out.upto hb)
  clear hb
  refine (KC.out _ HL.out HO.out).mono ?_
  rintro e w2 ⟨rfl, hb⟩
  have HB2 := Lib.hid (HB1.out.trans (hb.mono HB1.out.size))
  clear HB1
  replace HL := Lib.hid (HL.out.upto hb)
  replace HO := Lib.hid (HO.out.upto hb)
  replace q0 := (hb.cell (p := ⟨w.heap.size, 0, none⟩) hz).trans q0
  replace q1 := (hb.cell (p := ⟨w.heap.size, 1, none⟩) hz).trans q1
  replace hz : w.heap.size < w2.heap.size := Nat.lt_of_lt_of_le hz hb.size
  clear hb
  go_wp2_with fail
  go_ret2
  exact ⟨_, rfl, World.ownsRow_nil _ _ _ _, HB2.out⟩

set_option maxRecDepth 100000 in
set_option maxHeartbeats 4000000 in
theorem path_none (nb : Int) (A A' : Option Addr) (c c' : Nat) (ls : List Ln) (out : List Int) (a b : Int) (w : World) (hl : LinesR w w.heap.size A ls) (ho : IntsR w w.heap.size A' out) (hm : ls.length ≤ 1000000) (hn : out.length ≤ 1000000) (he : connE nb ls out a b = 0) (hb : connB nb ls out a b = false) :
    Calls Try.prog 23 #[.agg #[.int .i64 nb, .slice A ls.length c], .slice A' out.length c', .int .i64 a, .int .i64 b] w (IntsE w [] 8) := by
  have kc := fun W hl ho => conn_any nb A A' c c' ls out a b W hl ho hm hn
  rw [he, hb] at kc
  have KC := Lib.hid kc
  have HL := Lib.hid hl
  have HO := Lib.hid ho
  clear kc hl ho he hb
  have HB0 := Lib.hid (Below.refl w.heap.size w)
  go_enter Try.func23, Try.ntmps23
  go_wp2_with fail
  have hb : Below w.heap.size w (w.alloc (.cells #[.int .i64 nb, .slice A ls.length c] 24)) := (Below.refl _ _).alloc (Nat.le_refl _) _
  have q0 : (w.alloc (.cells #[.int .i64 nb, .slice A ls.length c] 24)).cell? ⟨w.heap.size, 0, none⟩ = some (.int .i64 nb) := by simp
  have q1 : (w.alloc (.cells #[.int .i64 nb, .slice A ls.length c] 24)).cell? ⟨w.heap.size, 1, none⟩ = some (.slice A ls.length c) := by simp
  have hz : w.heap.size < (w.alloc (.cells #[.int .i64 nb, .slice A ls.length c] 24)).heap.size := by simp
  have HB1 := Lib.hid (HB0.out.trans (hb.mono HB0.out.size))
  clear HB0
  replace HL := Lib.hid (HL.out.upto hb)
  replace HO := Lib.hid (HO.out.upto hb)
  clear hb
  refine (KC.out _ HL.out HO.out).mono ?_
  rintro e w2 ⟨rfl, hb⟩
  have HB2 := Lib.hid (HB1.out.trans (hb.mono HB1.out.size))
  clear HB1
  replace HL := Lib.hid (HL.out.upto hb)
  replace HO := Lib.hid (HO.out.upto hb)
  replace q0 := (hb.cell (p := ⟨w.heap.size, 0, none⟩) hz).trans q0
  replace q1 := (hb.cell (p := ⟨w.heap.size, 1, none⟩) hz).trans q1
  replace hz : w.heap.size < w2.heap.size := Nat.lt_of_lt_of_le hz hb.size
  clear hb
  go_wp2_with fail
  go_ret2
  exact ⟨_, rfl, World.ownsRow_nil _ _ _ _, HB2.out⟩

set_option maxRecDepth 100000 in
set_option maxHeartbeats 4000000 in
theorem path_ok (nb : Int) (A A' : Option Addr) (c c' : Nat) (ls : List Ln) (out : List Int) (a b : Int) (f : Nat) (r : Bool) (t' : List Int) (w : World) (hl : LinesR w w.heap.size A ls) (ho : IntsR w w.heap.size A' out) (hm : ls.length ≤ 1000000) (hn : out.length ≤ 1000000) (he : connE nb ls out a b = 0) (hb : connB nb ls out a b = true)
    (hd : dfsF ls (treeL nb ls out) b f a (-1) (List.replicate ls.length 0) = some (r, t')) :
    Calls Try.prog 23 #[.agg #[.int .i64 nb, .slice A ls.length c], .slice A' out.length c', .int .i64 a, .int .i64 b] w (IntsE w t' 0) := by
  have kc := fun W hl ho => conn_any nb A A' c c' ls out a b W hl ho hm hn
  rw [he, hb] at kc
  have heo : outsE nb ls out = 0 := by
    unfold connE at he
    by_cases h : outsE nb ls out = 0
    · exact h
    · rw [if_neg h] at he; exact absurd he h
  have kt := fun W hl ho => tree_any nb A A' c c' ls out W hl ho hm hn
  rw [heo] at kt
  obtain ⟨hin1, hin2⟩ := tree_in heo
  clear heo
  generalize treeL nb ls out = tl at *
  have ks := fun X cx W hl hi => search_any nb A c ls X cx tl a b f r t' W hl hi hin2 hm (by omega) hd
  have KC := Lib.hid kc
  have KT := Lib.hid kt
  have KS := Lib.hid ks
  have HL := Lib.hid hl
  have HO := Lib.hid ho
  clear kc kt ks hl ho he hb hd hin2
  have HB0 := Lib.hid (Below.refl w.heap.size w)
  go_enter Try.func23, Try.ntmps23
  go_wp2_with fail
  have hb : Below w.heap.size w (w.alloc (.cells #[.int .i64 nb, .slice A ls.length c] 24)) := (Below.refl _ _).alloc (Nat.le_refl _) _
  have q0 : (w.alloc (.cells #[.int .i64 nb, .slice A ls.length c] 24)).cell? ⟨w.heap.size, 0, none⟩ = some (.int .i64 nb) := by simp
  have q1 : (w.alloc (.cells #[.int .i64 nb, .slice A ls.length c] 24)).cell? ⟨w.heap.size, 1, none⟩ = some (.slice A ls.length c) := by simp
  have hz : w.heap.size < (w.alloc (.cells #[.int .i64 nb, .slice A ls.length c] 24)).heap.size := by simp
  have HB1 := Lib.hid (HB0.out.trans (hb.mono HB0.out.size))
  clear HB0
  replace HL := Lib.hid (HL.out.upto hb)
  replace HO := Lib.hid (HO.out.upto hb)
  clear hb
  refine (KC.out _ HL.out HO.out).mono ?_
  rintro e w2 ⟨rfl, hb⟩
  have HB2 := Lib.hid (HB1.out.trans (hb.mono HB1.out.size))
  clear HB1
  replace HL := Lib.hid (HL.out.upto hb)
  replace HO := Lib.hid (HO.out.upto hb)
  replace q0 := (hb.cell (p := ⟨w.heap.size, 0, none⟩) hz).trans q0
  replace q1 := (hb.cell (p := ⟨w.heap.size, 1, none⟩) hz).trans q1
  replace hz : w.heap.size < w2.heap.size := Nat.lt_of_lt_of_le hz hb.size
  clear hb
  go_wp2_with fail
  refine (KT.out _ HL.out HO.out).mono ?_
  rintro e w3 ⟨v, rfl, hown, hb⟩
  obtain ⟨At, ct, rfl, hI⟩ := ownsRow_ints hown
  have HIt := Lib.hid hI
  clear hown hI
  have HB3 := Lib.hid (HB2.out.trans (hb.mono HB2.out.size))
  clear HB2
  replace HL := Lib.hid (HL.out.upto hb)
  replace HO := Lib.hid (HO.out.upto hb)
  replace q0 := (hb.cell (p := ⟨w.heap.size, 0, none⟩) hz).trans q0
  replace q1 := (hb.cell (p := ⟨w.heap.size, 1, none⟩) hz).trans q1
  replace hz : w.heap.size < w3.heap.size := Nat.lt_of_lt_of_le hz hb.size
  clear hb
  go_wp2_with fail
  refine (KS.out _ _ _ HL.out HIt.out).mono ?_
  rintro e w4 ⟨v, rfl, hown, hb⟩
  have HOW := Lib.hid (ownsRow_base hown HB3.out.size)
  clear hown
  have HB4 := Lib.hid (HB3.out.trans (hb.mono HB3.out.size))
  clear HB3
  replace HL := Lib.hid (HL.out.upto hb)
  replace HO := Lib.hid (HO.out.upto hb)
  replace HIt := Lib.hid (HIt.out.upto hb)
  replace q0 := (hb.cell (p := ⟨w.heap.size, 0, none⟩) hz).trans q0
  replace q1 := (hb.cell (p := ⟨w.heap.size, 1, none⟩) hz).trans q1
  replace hz : w.heap.size < w4.heap.size := Nat.lt_of_lt_of_le hz hb.size
  clear hb
  go_wp2_with fail
  go_ret2
  exact ⟨_, rfl, HOW.out, HB4.out⟩
end Go.Proofs.Ytmojjfdamdgegaa
