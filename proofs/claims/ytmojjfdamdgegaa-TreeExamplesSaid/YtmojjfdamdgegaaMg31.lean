/- The text TreB. -/
import Derived.Test.YtmojjfdamdgegaaMg29
import Derived.Test.YtmojjfdamdgegaaMg30
/- tree.Tree with its errors; tree.Bridges. -/
namespace Go.Proofs.Ytmojjfdamdgegaa
open Go.RowKit
set_option linter.unusedVariables false

set_option maxRecDepth 100000 in
set_option maxHeartbeats 2000000 in
theorem tree_any (nb : Int) (A A' : Option Addr) (c c' : Nat) (ls : List Ln) (out : List Int) (w : World) (hl : LinesR w w.heap.size A ls) (ho : IntsR w w.heap.size A' out) (hm : ls.length ≤ 1000000) (hn : out.length ≤ 1000000) :
    Calls Try.prog 17 #[.agg #[.int .i64 nb, .slice A ls.length c], .slice A' out.length c'] w (IntsE w (treeL nb ls out) (outsE nb ls out)) := by
  by_cases he : outsE nb ls out = 0
  · rw [treeL, if_pos he, he]
    exact tree_ok nb A A' c c' ls out w hl ho hm hn he
  · rw [treeL, if_neg he]
    have ki := fun W hl ho => in_any nb A A' c c' ls out W hl ho hm hn
    rw [inL, if_neg he] at ki
    have b1 : (outsE nb ls out != 0) = true := by rw [bne_iff_ne]; exact he
    clear he
    generalize outsE nb ls out = er at *
    have KI := Lib.hid ki
    have HL := Lib.hid hl
    have HO := Lib.hid ho
    clear ki hl ho
    go_enter Try.func17, Try.ntmps17
    go_wp2_with fail
    have hb0 : Below w.heap.size w (w.alloc (.cells #[.int .i64 nb, .slice A ls.length c] 24)) := (Below.refl _ _).alloc (Nat.le_refl _) _
    refine (KI.out _ (HL.out.upto hb0) (HO.out.upto hb0)).mono ?_
    rintro e w1 ⟨v, rfl, hown, hb⟩
    have HB := Lib.hid (hb0.trans (hb.mono hb0.size))
    clear hown hb hb0
    go_wp2_with fail
    go_ret2
    exact ⟨_, rfl, World.ownsRow_nil _ _ _ _, HB.out⟩

/-- The bridges among the first k lines in service. -/
def brgTo (nb : Int) (ls : List Ln) (out sv : List Int) (k : Nat) : List Int := (sv.take k).filter fun x => decide (cntL nb ls out < cntL nb ls (unionL out [x]))
def brgL (nb : Int) (ls : List Ln) (out : List Int) : List Int := if outsE nb ls out = 0 then brgTo nb ls out (svcL out ls.length) (svcL out ls.length).length else []
theorem brgTo_succ (nb : Int) (ls : List Ln) (out sv : List Int) (k : Nat) (h : k < sv.length) : brgTo nb ls out sv (k + 1) = if cntL nb ls out < cntL nb ls (unionL out [sv.getD k 0]) then brgTo nb ls out sv k ++ [sv.getD k 0] else brgTo nb ls out sv k := by
  unfold brgTo
  rw [List.take_succ_eq_append_getElem h, List.filter_append, getD_eq _ _ _ h, List.filter_cons]
  by_cases hd : cntL nb ls out < cntL nb ls (unionL out [sv[k]])
  · rw [if_pos hd, if_pos (decide_eq_true hd)]; rfl
  · rw [if_neg hd, if_neg (by simpa using hd)]; simp
theorem cntL_le (nb : Int) (ls : List Ln) (out : List Int) : 0 ≤ cntL nb ls out ∧ cntL nb ls out ≤ 6 := by
  have h1 := refsTo_le (ofL nb ls out) (ofL nb ls out).length
  have h2 := ofL_length_le nb ls out
  unfold cntL refsL
  omega

set_option maxRecDepth 100000 in
set_option maxHeartbeats 8000000 in
theorem bridges_ok (nb : Int) (A A' : Option Addr) (c c' : Nat) (ls : List Ln) (out : List Int) (w : World) (hl : LinesR w w.heap.size A ls) (ho : IntsR w w.heap.size A' out) (hm : ls.length ≤ 1000000) (hn : out.length ≤ 1000000) (he : outsE nb ls out = 0) :
    Calls Try.prog 16 #[.agg #[.int .i64 nb, .slice A ls.length c], .slice A' out.length c'] w (IntsE w (brgTo nb ls out (svcL out ls.length) (svcL out ls.length).length) 0) := by
  obtain ⟨i0, hi0, hz0, hz1, hz2⟩ := info_parts info_int
  have ki := fun W hl ho => in_any nb A A' c c' ls out W hl ho hm hn
  rw [inL, if_pos he, he] at ki
  have kn := fun W hl ho => count_any nb A A' c c' ls out W hl ho hm hn
  rw [he] at kn
  have hsl := svcL_le out ls.length
  have hsv : ∀ k, k < (svcL out ls.length).length → ∃ j : Nat, (svcL out ls.length).getD k 0 = (j : Int) ∧ j < ls.length := fun k hk => by
    have hmm := (svc_mem (check_of_outs he).2 ((svcL out ls.length).getD k 0)).1 (by rw [getD_eq _ _ _ hk]; exact List.getElem_mem hk)
    exact ⟨((svcL out ls.length).getD k 0).toNat, by omega, by omega⟩
  have hone : ∀ j : Nat, j < ls.length → outsE nb ls (unionL out [(j : Int)]) = 0 ∧ ascB out = true ∧ ascB [(j : Int)] = true ∧ (unionL out [(j : Int)]).length ≤ ls.length := fun j hj =>
    ⟨one_outsE he hj, outs_asc (check_of_outs he).2, one_asc he hj, by have := svc_length (one_outs he hj); omega⟩
  clear he
  generalize svcL out ls.length = sv at *
  have KI := Lib.hid ki
  have KN := Lib.hid kn
  have HSV := Lib.hid hsv
  have HONE := Lib.hid hone
  have HL := Lib.hid hl
  have HO := Lib.hid ho
  clear ki kn hsv hone hl ho
  go_enter Try.func16, Try.ntmps16
  go_wp2_with fail
  have hb0 : Below w.heap.size w (w.alloc (.cells #[.int .i64 nb, .slice A ls.length c] 24)) := (Below.refl _ _).alloc (Nat.le_refl _) _
  refine (KI.out _ (HL.out.upto hb0) (HO.out.upto hb0)).mono ?_
  rintro e w1 ⟨v, rfl, hown, hb⟩
  obtain ⟨Ai, ci, rfl, hI⟩ := ownsRow_ints hown
  have q0 : w1.cell? ⟨w.heap.size, 0, none⟩ = some (.int .i64 nb) := (hb.cell (by simp)).trans (by simp)
  have q1 : w1.cell? ⟨w.heap.size, 1, none⟩ = some (.slice A ls.length c) := (hb.cell (by simp)).trans (by simp)
  have hz : w.heap.size < w1.heap.size := by have := hb.size; simp at this; omega
  have hbt := hb0.trans (hb.mono hb0.size)
  have HIi := Lib.hid hI
  have HL1 := Lib.hid (HL.out.upto hbt)
  have HO1 := Lib.hid (HO.out.upto hbt)
  have HB1 := Lib.hid hbt
  clear hown hI hb hb0 hbt HL HO KI
  go_wp2_with fail
  refine (KN.out _ HL1.out HO1.out).mono ?_
  rintro e w2 ⟨rfl, hb⟩
  replace q0 := (hb.cell (p := ⟨w.heap.size, 0, none⟩) hz).trans q0
  replace q1 := (hb.cell (p := ⟨w.heap.size, 1, none⟩) hz).trans q1
  have HIj := Lib.hid (HIi.out.upto hb)
  have HL2 := Lib.hid (HL1.out.upto hb)
  have HO2 := Lib.hid (HO1.out.upto hb)
  have HB2 := Lib.hid (HB1.out.trans (hb.mono HB1.out.size))
  have hz2' : w.heap.size < w2.heap.size := Nat.lt_of_lt_of_le hz hb.size
  have HQ := Lib.hid (And.intro q0 q1)
  clear hb HIi HL1 HO1 HB1 q0 q1 hz KN
  go_wp2_with fail
  go_loopg [9, 11, 12, 13, 14, 35] sv.length (fun g s9 s11 s12 s13 s14 i wr => ∃ k : Nat, k + g = sv.length ∧ i = .int .i64 k ∧ wr.ownsRow w2.heap.size 3 1 s9 (brgTo nb ls out sv k).length ((brgTo nb ls out sv k).map (Value.int .i64)) ∧ Below w2.heap.size w2 wr)
  case atStart => exact ⟨0, by omega, rfl, World.ownsRow_nil _ _ _ _, Below.refl _ _⟩
  case round =>
    obtain ⟨k, hkg, rfl, hrow, hbel⟩ := hrel
    have HBW := Lib.hid hbel
    clear hbel
    cases gk with
    | zero =>
      obtain rfl : k = sv.length := by omega
      clear hkg
      have HROW := Lib.hid hrow
      clear hrow
      go_wp2_with fail
      go_ret2
      exact ⟨_, rfl, ownsRow_base HROW.out (by omega), HB2.out.trans (HBW.out.mono (by omega))⟩
    | succ g =>
      have hk : k < sv.length := by omega
      have HG := Lib.hid hkg
      clear hkg
      obtain ⟨bi, offi, rfl, hbi, hci⟩ := HIj.out (by omega)
      obtain ⟨j, hj1, hj⟩ := HSV.out k hk
      have ei := (HBW.out.cell (p := ⟨bi, offi + k, none⟩) hbi).trans (hci k hk)
      rw [hj1] at ei
      have HSTEP := Lib.hid ((brgTo_succ nb ls out sv k hk).trans (by rw [hj1]))
      obtain ⟨o1, o2, o3, o4⟩ := HONE.out j hj
      have ku := fun X W ha hb => union_any A' X c' 1 out [(j : Int)] W ha hb (by omega) (by simp)
      rw [uniL, uniE, if_pos ⟨o2, o3⟩, if_pos ⟨o2, o3⟩, List.length_singleton] at ku
      have kn := fun X cx W hl ho => count_any nb A X c cx ls (unionL out [(j : Int)]) W hl ho hm (by omega)
      rw [o1] at kn
      have hpl : (brgTo nb ls out sv k).length ≤ 1000000 := by
        have h := List.length_filter_le (fun x => decide (cntL nb ls out < cntL nb ls (unionL out [x]))) (sv.take k)
        have h' : (brgTo nb ls out sv k).length ≤ (sv.take k).length := h
        rw [List.length_take] at h'
        omega
      generalize brgTo nb ls out sv k = pre at *
      generalize cntL nb ls (unionL out [(j : Int)]) = cm at *
      generalize cntL nb ls out = cn at *
      generalize unionL out [(j : Int)] = un at *
      have KU := Lib.hid ku
      have KN := Lib.hid kn
      have q0 := (HBW.out.cell (p := ⟨w.heap.size, 0, none⟩) hz2').trans HQ.out.1
      have q1 := (HBW.out.cell (p := ⟨w.heap.size, 1, none⟩) hz2').trans HQ.out.2
      have HLW := Lib.hid (HL2.out.upto HBW.out)
      have HOW := Lib.hid (HO2.out.upto HBW.out)
      have HROW := Lib.hid hrow
      have hzw : w.heap.size < wr.heap.size := Nat.lt_of_lt_of_le hz2' HBW.out.size
      clear ku kn hci hj1 o1 o2 o3 hrow
      go_wp2_with fail
      have hI := IntsR.litU wr 3 [(j : Int)] #[.int .i64 (j : Int)] rfl
      have hb := (Below.refl wr.heap.size wr).alloc (Nat.le_refl _) (.cells #[.int .i64 (j : Int)] 3)
      refine (KU.out _ _ (HOW.out.upto hb) hI).mono ?_
      rintro e w3 ⟨v, rfl, hown, hb3⟩
      obtain ⟨Au, cu, rfl, hIu⟩ := ownsRow_ints hown
      have hbt := hb.trans (hb3.mono hb.size)
      replace q0 := (hbt.cell (p := ⟨w.heap.size, 0, none⟩) hzw).trans q0
      replace q1 := (hbt.cell (p := ⟨w.heap.size, 1, none⟩) hzw).trans q1
      have HIu := Lib.hid hIu
      have HL3 := Lib.hid (HLW.out.upto hbt)
      have HROW3 := Lib.hid (ownsRow_below HROW.out hbt)
      have HB3 := Lib.hid (HBW.out.trans (hbt.mono HBW.out.size))
      have hzw3 : w.heap.size < w3.heap.size := Nat.lt_of_lt_of_le hzw hbt.size
      clear hI hb hown hb3 hIu hbt HROW HLW HOW hzw HBW ei KU
      go_wp2_with fail
      refine (KN.out _ _ _ HL3.out HIu.out).mono ?_
      rintro e w4 ⟨rfl, hb⟩
      have HB4 := Lib.hid (HB3.out.trans (hb.mono HB3.out.size))
      have hrow := ownsRow_below HROW3.out hb
      have hsz := HB4.out.size
      clear hb HROW3 HB3 HL3 HIu q0 q1 hzw3 KN
      by_cases hlt : cn < cm
      · have t1 : decide (cn < cm) = true := decide_eq_true hlt
        have HST' := Lib.hid (HSTEP.out.trans (by rw [if_pos hlt]))
        clear hlt HSTEP
        go_wp2_with (at_builtin; refine wpList_append_own _ rfl _ _ 25 rfl w2.heap.size 3 i0 (.int .i64 0) 1 8 Try.underlying25 hi0 hz0 hz1 hz2 rfl (by decide) _ _ _ rfl (hrow.alloc _) ⟨w4.heap.size, 0, none⟩ 1 1 [.int .i64 (j : Int)] rfl rfl (cell_one_new _ _ _) (by simp [Value.oneCell']) (by unfold maxLen; omega) (by omega) (by simp; omega) ?_; intro v' w5 hown' hgrow _)
        have hb2 := below_append hrow hsz hgrow
        have HOWN := Lib.hid hown'
        clear hgrow hrow hown'
        go_wp2_with fail
        go_roundg g
        case measure => omega
        case rel => exact ⟨k + 1, by have := HG.out; omega, by go_num, by rw [HST'.out]; simpa using HOWN.out, HB4.out.trans hb2⟩
      · have t1 : decide (cn < cm) = false := decide_eq_false hlt
        have HST' := Lib.hid (HSTEP.out.trans (by rw [if_neg hlt]))
        have HROW := Lib.hid hrow
        clear hlt HSTEP hrow
        go_wp2_with fail
        go_roundg g
        case measure => omega
        case rel => exact ⟨k + 1, by have := HG.out; omega, by go_num, by rw [HST'.out]; exact HROW.out, HB4.out⟩

set_option maxRecDepth 100000 in
set_option maxHeartbeats 2000000 in
theorem bridges_any (nb : Int) (A A' : Option Addr) (c c' : Nat) (ls : List Ln) (out : List Int) (w : World) (hl : LinesR w w.heap.size A ls) (ho : IntsR w w.heap.size A' out) (hm : ls.length ≤ 1000000) (hn : out.length ≤ 1000000) :
    Calls Try.prog 16 #[.agg #[.int .i64 nb, .slice A ls.length c], .slice A' out.length c'] w (IntsE w (brgL nb ls out) (outsE nb ls out)) := by
  by_cases he : outsE nb ls out = 0
  · rw [brgL, if_pos he, he]
    exact bridges_ok nb A A' c c' ls out w hl ho hm hn he
  · rw [brgL, if_neg he]
    have ki := fun W hl ho => in_any nb A A' c c' ls out W hl ho hm hn
    rw [inL, if_neg he] at ki
    have b1 : (outsE nb ls out != 0) = true := by rw [bne_iff_ne]; exact he
    clear he
    generalize outsE nb ls out = er at *
    have KI := Lib.hid ki
    have HL := Lib.hid hl
    have HO := Lib.hid ho
    clear ki hl ho
    go_enter Try.func16, Try.ntmps16
    go_wp2_with fail
    have hb0 : Below w.heap.size w (w.alloc (.cells #[.int .i64 nb, .slice A ls.length c] 24)) := (Below.refl _ _).alloc (Nat.le_refl _) _
    refine (KI.out _ (HL.out.upto hb0) (HO.out.upto hb0)).mono ?_
    rintro e w1 ⟨v, rfl, hown, hb⟩
    have HB := Lib.hid (hb0.trans (hb.mono hb0.size))
    clear hown hb hb0
    go_wp2_with fail
    go_ret2
    exact ⟨_, rfl, World.ownsRow_nil _ _ _ _, HB.out⟩
end Go.Proofs.Ytmojjfdamdgegaa
