/- The text RfC. -/
import Derived.Deep.DeepCutAuto
import Derived.Test.YtmojjfdamdgegaaMg45
import Derived.Test.YtmojjfdamdgegaaMg46
import Derived.Test.YtmojjfdamdgegaaMg29
/- Contracts of the reference functions Way and Circles of layer 16: they answer what the program answers. -/
namespace Go.Proofs.Ytmojjfdamdgegaa
open Go.RowKit
set_option linter.unusedVariables false

set_option maxRecDepth 100000 in
set_option maxHeartbeats 4000000 in
theorem refWay_any (nb : Int) (A O : Option Addr) (c co : Nat) (ls : List Ln) (out : List Int) (a b : Int) (w : World) (hl : LinesR w w.heap.size A ls) (ho : IntsR w w.heap.size O out) (hm : ls.length ≤ 1000000) (hn : out.length ≤ 1000000) :
    Calls Try.prog 22 #[.agg #[.int .i64 nb, .slice A ls.length c], .slice O out.length co, .int .i64 a, .int .i64 b] w (IntsE w (pathL nb ls out a b) (pathE nb ls out a b)) := by
  have kt := fun W hl ho => reftree_any nb A O c co ls out W hl ho hm hn
  have kj := fun W hl ho => joined_any nb A O c co ls out a b W hl ho hm hn
  have hb := (Below.refl w.heap.size w).alloc (Nat.le_refl _) (.cells #[.int .i64 nb, .slice A ls.length c] 24)
  have q0 : (w.alloc (.cells #[.int .i64 nb, .slice A ls.length c] 24)).cell? ⟨w.heap.size, 0, none⟩ = some (.int .i64 nb) := by simp
  have q1 : (w.alloc (.cells #[.int .i64 nb, .slice A ls.length c] 24)).cell? ⟨w.heap.size, 1, none⟩ = some (.slice A ls.length c) := by simp
  have hz : w.heap.size < (w.alloc (.cells #[.int .i64 nb, .slice A ls.length c] 24)).heap.size := by simp
  have HL := Lib.hid (hl.upto hb)
  have HO := Lib.hid (ho.upto hb)
  have HB0 := Lib.hid hb
  clear hl ho hb
  by_cases he : outsE nb ls out = 0
  · rw [he] at kt
    by_cases hc : connE nb ls out a b = 0
    · cases hb : connB nb ls out a b with
      | true =>
        obtain ⟨_, ha', hb'⟩ := conn_in hc
        have hin := tree_in he
        have hwr := way_ref he ha' hb' ((conn_cn hc).1 hb)
        have ky := fun X cx W hl ht => refway_any nb A X c cx ls (treeL nb ls out) a b W hl ht hm (by omega) hin.2
        have hwl := (way_spec he ((conn_cn hc).1 hb)).2.len
        rw [pathL, pathE, if_pos ⟨hc, hb⟩, if_pos hc, if_pos hb]
        rw [hwr] at ky
        rw [hc, hb] at kj
        clear hc hb ha' hb' he hin hwr
        generalize treeL nb ls out = tl at *
        generalize wayT nb ls out a b = wl at *
        have KT := Lib.hid kt
        have KJ := Lib.hid kj
        have KY := Lib.hid ky
        clear kt kj ky
        go_enter Try.func22, Try.ntmps22
        go_wp2_with fail
        refine (KT.out _ HL.out HO.out).mono ?_
        rintro e w1 ⟨v, rfl, hown, hb⟩
        obtain ⟨At, ct, rfl, hI⟩ := ownsRow_ints hown
        have HT := Lib.hid hI
        replace HL := Lib.hid (HL.out.upto hb)
        replace HO := Lib.hid (HO.out.upto hb)
        replace q0 := (hb.cell (p := ⟨w.heap.size, 0, none⟩) hz).trans q0
        replace q1 := (hb.cell (p := ⟨w.heap.size, 1, none⟩) hz).trans q1
        replace hz : w.heap.size < w1.heap.size := Nat.lt_of_lt_of_le hz hb.size
        have HB1 := Lib.hid (HB0.out.trans (hb.mono HB0.out.size))
        clear hb HB0 hown hI
        go_wp2_with fail
        refine (KJ.out _ HL.out HO.out).mono ?_
        rintro e w2 ⟨rfl, hb⟩
        replace HL := Lib.hid (HL.out.upto hb)
        replace HT := Lib.hid (HT.out.upto hb)
        replace q0 := (hb.cell (p := ⟨w.heap.size, 0, none⟩) hz).trans q0
        replace q1 := (hb.cell (p := ⟨w.heap.size, 1, none⟩) hz).trans q1
        replace hz : w.heap.size < w2.heap.size := Nat.lt_of_lt_of_le hz hb.size
        have HB2 := Lib.hid (HB1.out.trans (hb.mono HB1.out.size))
        clear hb HB1
        go_wp2_with fail
        refine (KY.out _ _ _ HL.out HT.out).mono ?_
        rintro e w3 ⟨g, rfl, hg, hr, hb⟩
        have HB3 := Lib.hid (HB2.out.trans (hb.mono HB2.out.size))
        have hown := hr.owns (base := w.heap.size) (Nat.le_trans HB2.out.size hg) (by omega)
        rw [hwl] at hown
        have HW := Lib.hid (show w3.ownsRow w.heap.size 3 1 (.slice (some ⟨g, 0, none⟩) ls.length ls.length) wl.length (wl.map (Value.int .i64)) from by rw [hwl]; exact hown)
        clear hr hb HB2 hown hwl
        go_wp2_with fail
        go_ret2
        exact ⟨_, rfl, HW.out, HB3.out⟩
      | false =>
        rw [pathL, pathE, if_neg (by rw [hb]; simp), if_pos hc, if_neg (by rw [hb]; simp)]
        rw [hc, hb] at kj
        clear hc hb he
        generalize treeL nb ls out = tl at *
        have KT := Lib.hid kt
        have KJ := Lib.hid kj
        clear kt kj
        go_enter Try.func22, Try.ntmps22
        go_wp2_with fail
        refine (KT.out _ HL.out HO.out).mono ?_
        rintro e w1 ⟨v, rfl, hown, hb⟩
        obtain ⟨At, ct, rfl, hI⟩ := ownsRow_ints hown
        have HT := Lib.hid hI
        replace HL := Lib.hid (HL.out.upto hb)
        replace HO := Lib.hid (HO.out.upto hb)
        replace q0 := (hb.cell (p := ⟨w.heap.size, 0, none⟩) hz).trans q0
        replace q1 := (hb.cell (p := ⟨w.heap.size, 1, none⟩) hz).trans q1
        replace hz : w.heap.size < w1.heap.size := Nat.lt_of_lt_of_le hz hb.size
        have HB1 := Lib.hid (HB0.out.trans (hb.mono HB0.out.size))
        clear hb HB0 hown hI
        go_wp2_with fail
        refine (KJ.out _ HL.out HO.out).mono ?_
        rintro e w2 ⟨rfl, hb⟩
        replace HL := Lib.hid (HL.out.upto hb)
        replace HT := Lib.hid (HT.out.upto hb)
        replace q0 := (hb.cell (p := ⟨w.heap.size, 0, none⟩) hz).trans q0
        replace q1 := (hb.cell (p := ⟨w.heap.size, 1, none⟩) hz).trans q1
        replace hz : w.heap.size < w2.heap.size := Nat.lt_of_lt_of_le hz hb.size
        have HB2 := Lib.hid (HB1.out.trans (hb.mono HB1.out.size))
        clear hb HB1
        go_wp2_with fail
        go_ret2
        exact ⟨_, rfl, World.ownsRow_nil _ _ _ _, HB2.out⟩
    · rw [pathL, pathE, if_neg (fun h' => hc h'.1), if_neg hc]
      have b1 : (connE nb ls out a b != 0) = true := by simpa using hc
      clear hc he
      generalize treeL nb ls out = tl at *
      generalize connE nb ls out a b = er at *
      generalize connB nb ls out a b = jb at *
      have KT := Lib.hid kt
      have KJ := Lib.hid kj
      clear kt kj
      go_enter Try.func22, Try.ntmps22
      go_wp2_with fail
      refine (KT.out _ HL.out HO.out).mono ?_
      rintro e w1 ⟨v, rfl, hown, hb⟩
      obtain ⟨At, ct, rfl, hI⟩ := ownsRow_ints hown
      have HT := Lib.hid hI
      replace HL := Lib.hid (HL.out.upto hb)
      replace HO := Lib.hid (HO.out.upto hb)
      replace q0 := (hb.cell (p := ⟨w.heap.size, 0, none⟩) hz).trans q0
      replace q1 := (hb.cell (p := ⟨w.heap.size, 1, none⟩) hz).trans q1
      replace hz : w.heap.size < w1.heap.size := Nat.lt_of_lt_of_le hz hb.size
      have HB1 := Lib.hid (HB0.out.trans (hb.mono HB0.out.size))
      clear hb HB0 hown hI
      go_wp2_with fail
      refine (KJ.out _ HL.out HO.out).mono ?_
      rintro e w2 ⟨rfl, hb⟩
      replace HL := Lib.hid (HL.out.upto hb)
      replace HT := Lib.hid (HT.out.upto hb)
      replace q0 := (hb.cell (p := ⟨w.heap.size, 0, none⟩) hz).trans q0
      replace q1 := (hb.cell (p := ⟨w.heap.size, 1, none⟩) hz).trans q1
      replace hz : w.heap.size < w2.heap.size := Nat.lt_of_lt_of_le hz hb.size
      have HB2 := Lib.hid (HB1.out.trans (hb.mono HB1.out.size))
      clear hb HB1
      go_wp2_with fail
      go_ret2
      exact ⟨_, rfl, World.ownsRow_nil _ _ _ _, HB2.out⟩
  · have hce : connE nb ls out a b = outsE nb ls out := by rw [connE, if_neg he]
    rw [pathL, pathE, if_neg (by rw [hce]; exact fun h => he h.1), if_neg (by rw [hce]; exact he), hce]
    have b1 : (outsE nb ls out != 0) = true := by simpa using he
    clear he hce kj
    generalize treeL nb ls out = tl at *
    generalize outsE nb ls out = er at *
    have KT := Lib.hid kt
    clear kt
    go_enter Try.func22, Try.ntmps22
    go_wp2_with fail
    refine (KT.out _ HL.out HO.out).mono ?_
    rintro e w1 ⟨v, rfl, hown, hb⟩
    obtain ⟨At, ct, rfl, hI⟩ := ownsRow_ints hown
    have HT := Lib.hid hI
    replace HL := Lib.hid (HL.out.upto hb)
    replace HO := Lib.hid (HO.out.upto hb)
    replace q0 := (hb.cell (p := ⟨w.heap.size, 0, none⟩) hz).trans q0
    replace q1 := (hb.cell (p := ⟨w.heap.size, 1, none⟩) hz).trans q1
    replace hz : w.heap.size < w1.heap.size := Nat.lt_of_lt_of_le hz hb.size
    have HB1 := Lib.hid (HB0.out.trans (hb.mono HB0.out.size))
    clear hb HB0 hown hI
    go_wp2_with fail
    go_ret2
    exact ⟨_, rfl, World.ownsRow_nil _ _ _ _, HB1.out⟩

/-- The reference's circles of the first k lines in service. -/
def cirTo (nb : Int) (ls : List Ln) (tl sv : List Int) (k : Nat) : List (List Int) := ((sv.take k).filter fun x => !hasB tl x).map fun x => (wayTo nb ls tl (ls.getD x.toNat (0, 0, 0, 0)).2.1 (ls.getD x.toNat (0, 0, 0, 0)).1 tl.length).set x.toNat 1
theorem cirTo_succ (nb : Int) (ls : List Ln) (tl sv : List Int) (k : Nat) (h : k < sv.length) : cirTo nb ls tl sv (k + 1) = if hasB tl (sv.getD k 0) = true then cirTo nb ls tl sv k else cirTo nb ls tl sv k ++ [(wayTo nb ls tl (ls.getD (sv.getD k 0).toNat (0, 0, 0, 0)).2.1 (ls.getD (sv.getD k 0).toNat (0, 0, 0, 0)).1 tl.length).set (sv.getD k 0).toNat 1] := by
  unfold cirTo
  rw [List.take_succ_eq_append_getElem h, List.filter_append, List.map_append, getD_eq _ _ _ h, List.filter_cons]
  cases hasB tl sv[k] <;> simp
theorem cir_cyc {nb : Int} {ls : List Ln} {out : List Int} (he : outsE nb ls out = 0) : cirTo nb ls (treeL nb ls out) (svcL out ls.length) (svcL out ls.length).length = cycL nb ls out := by
  rw [cyc_own he]
  unfold cirTo
  rw [List.take_length]
  refine List.map_congr_left fun x hx => ?_
  have hx' := (own_mem he).1 (show x ∈ ownL nb ls out from hx)
  have e := ends_in (check_of_outs he).1 (svc_in he hx'.1)
  rw [← way_ref he e.2 e.1 (tree_cn_svc he hx'.1).symm]
  rfl
def rowGR (B n : Nat) (l : List Int) (g : Value) (W : World) : Prop := ∃ b, g = .slice (some ⟨b, 0, none⟩) n n ∧ B ≤ b ∧ RowI 3 W b l
theorem rowGR_up {B n : Nat} {l : List Int} : ∀ g W W', Below W.heap.size W W' → rowGR B n l g W → rowGR B n l g W' := by
  rintro g W W' hb ⟨b, h1, h2, h3⟩
  exact ⟨b, h1, h2, h3.grow hb⟩
set_option maxRecDepth 100000 in
set_option maxHeartbeats 8000000 in
theorem refcirc_any (nb : Int) (A O : Option Addr) (c co : Nat) (ls : List Ln) (out : List Int) (w : World) (hl : LinesR w w.heap.size A ls) (ho : IntsR w w.heap.size O out) (hm : ls.length ≤ 1000000) (hn : out.length ≤ 1000000) :
    Calls Try.prog 15 #[.agg #[.int .i64 nb, .slice A ls.length c], .slice O out.length co] w (CycE w (if outsE nb ls out = 0 then cycL nb ls out else []) (outsE nb ls out)) := by
  obtain ⟨j0, hj0, hy0, hy1, hy2⟩ := info_parts info_ints
  have kt := fun W hl ho => reftree_any nb A O c co ls out W hl ho hm hn
  have hb := (Below.refl w.heap.size w).alloc (Nat.le_refl _) (.cells #[.int .i64 nb, .slice A ls.length c] 24)
  have q0 : (w.alloc (.cells #[.int .i64 nb, .slice A ls.length c] 24)).cell? ⟨w.heap.size, 0, none⟩ = some (.int .i64 nb) := by simp
  have q1 : (w.alloc (.cells #[.int .i64 nb, .slice A ls.length c] 24)).cell? ⟨w.heap.size, 1, none⟩ = some (.slice A ls.length c) := by simp
  have hz : w.heap.size < (w.alloc (.cells #[.int .i64 nb, .slice A ls.length c] 24)).heap.size := by simp
  have HL := Lib.hid (hl.upto hb)
  have HO := Lib.hid (ho.upto hb)
  have HB0 := Lib.hid hb
  clear hl ho hb
  by_cases he : outsE nb ls out = 0
  · have ki := fun W ho => refin_any (.int .i64 nb) A O c co ls.length out W ho hm hn
    rw [← svcL_eq (check_of_outs he).2] at ki
    have hsl := svcL_le out ls.length
    have hin := tree_in he
    rw [if_pos he, ← cir_cyc he, he]
    rw [he] at kt
    have hsv : ∀ k, k < (svcL out ls.length).length → ∃ j : Nat, (svcL out ls.length).getD k 0 = (j : Int) ∧ j < ls.length := fun k hk => by
      have hx := svc_in he (show (svcL out ls.length).getD k 0 ∈ svcL out ls.length by rw [getD_eq _ _ _ hk]; exact List.getElem_mem hk)
      exact ⟨((svcL out ls.length).getD k 0).toNat, by omega, by omega⟩
    clear he
    generalize treeL nb ls out = tl at *
    generalize svcL out ls.length = sv at *
    have KT := Lib.hid kt
    have KI := Lib.hid ki
    have HSV := Lib.hid hsv
    have HIN := Lib.hid hin.2
    have htl := hin.1
    clear kt ki hsv hin
    go_enter Try.func15, Try.ntmps15
    go_wp2_with fail
    refine (KT.out _ HL.out HO.out).mono ?_
    rintro e w1 ⟨v, rfl, hown, hb⟩
    obtain ⟨At, ct, rfl, hI⟩ := ownsRow_ints hown
    have HT := Lib.hid hI
    replace HL := Lib.hid (HL.out.upto hb)
    replace HO := Lib.hid (HO.out.upto hb)
    replace q0 := (hb.cell (p := ⟨w.heap.size, 0, none⟩) hz).trans q0
    replace q1 := (hb.cell (p := ⟨w.heap.size, 1, none⟩) hz).trans q1
    replace hz : w.heap.size < w1.heap.size := Nat.lt_of_lt_of_le hz hb.size
    have HB1 := Lib.hid (HB0.out.trans (hb.mono HB0.out.size))
    clear hb HB0 hown hI
    go_wp2_with fail
    refine (KI.out _ HO.out).mono ?_
    rintro e w2 ⟨v, rfl, hown, hb⟩
    obtain ⟨Ai, ci, rfl, hI⟩ := ownsRow_ints hown
    have HIj := Lib.hid hI
    replace HL := Lib.hid (HL.out.upto hb)
    replace HT := Lib.hid (HT.out.upto hb)
    replace q0 := (hb.cell (p := ⟨w.heap.size, 0, none⟩) hz).trans q0
    replace q1 := (hb.cell (p := ⟨w.heap.size, 1, none⟩) hz).trans q1
    replace hz : w.heap.size < w2.heap.size := Nat.lt_of_lt_of_le hz hb.size
    have HB2 := Lib.hid (HB1.out.trans (hb.mono HB1.out.size))
    clear hb HB1 hown hI HO
    go_wp2_with fail
    go_loopg [8, 10, 11] sv.length (fun g s i s11 wr => ∃ k : Nat, k + g = sv.length ∧ i = .int .i64 k ∧ RowsOwn wr w2.heap.size s (cirTo nb ls tl sv k) ∧ Below w2.heap.size w2 wr)
    case atStart => exact ⟨0, by omega, rfl, RowsOwn.nil_ _ _, Below.refl _ _⟩
    case round =>
      obtain ⟨k, hkg, rfl, hrow, hbw⟩ := hrel
      have HBW := Lib.hid hbw
      have hsw := hbw.size
      clear hbw
      cases gk with
      | zero =>
        obtain rfl : k = sv.length := by omega
        clear hkg
        have HROW := Lib.hid hrow
        obtain ⟨vs, _, h2, _, _⟩ := hrow
        obtain ⟨A3, c3, rfl⟩ := own_slc h2
        clear h2
        go_wp2_with fail
        go_ret2
        exact ⟨_, rfl, HROW.out.base_ HB2.out.size, HB2.out.trans (HBW.out.mono HB2.out.size)⟩
      | succ g =>
        have hk : k < sv.length := by omega
        have HG := Lib.hid hkg
        clear hkg
        obtain ⟨bi, offi, hAi, hbi, hci⟩ := HIj.out (by omega)
        subst hAi
        obtain ⟨j, hj1, hj⟩ := HSV.out k hk
        have ei := (HBW.out.cell (p := ⟨bi, offi + k, none⟩) hbi).trans (hci k hk)
        rw [hj1] at ei
        have hst := cirTo_succ nb ls tl sv k hk
        rw [hj1, Int.toNat_natCast] at hst
        replace hbi : bi < wr.heap.size := Nat.lt_of_lt_of_le hbi hsw
        replace q0 := (HBW.out.cell (p := ⟨w.heap.size, 0, none⟩) hz).trans q0
        replace q1 := (HBW.out.cell (p := ⟨w.heap.size, 1, none⟩) hz).trans q1
        replace hz : w.heap.size < wr.heap.size := Nat.lt_of_lt_of_le hz hsw
        have HLW := Lib.hid (HL.out.upto HBW.out)
        have HTW := Lib.hid (HT.out.upto HBW.out)
        have kc := has_any At ct tl (j : Int) wr wr.heap.size HTW.out (by omega)
        have hpl : (cirTo nb ls tl sv k).length ≤ 1000000 := by
          unfold cirTo
          rw [List.length_map]
          have h := List.length_filter_le (fun x => !hasB tl x) (sv.take k)
          rw [List.length_take] at h
          omega
        clear hci hj1
        cases hh : hasB tl (j : Int) with
        | true =>
          rw [hh] at kc
          have HST' := Lib.hid (hst.trans (by rw [if_pos hh]))
          have KC := Lib.hid kc
          have HROW := Lib.hid hrow
          clear kc hh hst hrow
          go_wp2_with fail
          refine KC.out.mono ?_
          rintro e w' ⟨rfl, rfl⟩
          go_wp2_with fail
          go_roundg g
          case measure => omega
          case rel => exact ⟨k + 1, by have := HG.out; omega, by go_num, by rw [HST'.out]; exact HROW.out, HBW.out⟩
        | false =>
          rw [hh] at kc
          have HST' := Lib.hid (hst.trans (by rw [if_neg (by rw [hh]; simp)]))
          have kwy := fun W hl ht => refway_any nb A At c ct ls tl (ls.getD j (0, 0, 0, 0)).2.1 (ls.getD j (0, 0, 0, 0)).1 W hl ht hm (by omega) HIN.out
          have htt := wayTo_len nb ls tl (ls.getD j (0, 0, 0, 0)).2.1 (ls.getD j (0, 0, 0, 0)).1 tl.length
          generalize wayTo nb ls tl (ls.getD j (0, 0, 0, 0)).2.1 (ls.getD j (0, 0, 0, 0)).1 tl.length = tt at *
          obtain ⟨bl, offl, hAl, hbl0, hcl⟩ := HLW.out (by omega)
          subst hAl
          obtain ⟨f0, f1, _, _⟩ := hcl j hj
          generalize (ls.getD j (0, 0, 0, 0)).1 = lf at *
          generalize (ls.getD j (0, 0, 0, 0)).2.1 = lt at *
          generalize cirTo nb ls tl sv k = pre at *
          have hbl : bl < wr.heap.size := hbl0
          have KWY := Lib.hid kwy
          have KC := Lib.hid kc
          have HTT := Lib.hid htt
          clear kc hh kwy hcl hbl0 hst htt
          go_wp2_with fail
          refine KC.out.mono ?_
          rintro e w' ⟨rfl, rfl⟩
          clear KC
          go_wp2_with fail
          refine region_K (w0 := wr) (fun jq => match jq with | 0 => .inl (.agg #[.int .i64 nb, .slice (some ⟨bl, offl, none⟩) ls.length c]) | 1 => .inl (.slice At tl.length ct) | 2 => .inl (.pointer (some ⟨w.heap.size, 1, none⟩)) | 3 => .inl (.slice (some ⟨bl, offl, none⟩) ls.length c) | 4 => .inl (.slice (some ⟨bi, offi, none⟩) sv.length ci) | 5 => .inl (.int .i64 (k : Int)) | 6 => .inl (.pointer (some ⟨bi, offi + k, none⟩)) | 7 => .inl (.int .i64 (j : Int)) | 8 => .inl (.pointer (some ⟨bl, offl + j * 4, none⟩)) | 9 => .inl (.pointer (some ⟨bl, offl + j * 4 + 1, none⟩)) | 10 => .inl (.int .i64 lt) | 11 => .inl (.pointer (some ⟨w.heap.size, 1, none⟩)) | 12 => .inl (.slice (some ⟨bl, offl, none⟩) ls.length c) | 13 => .inl (.slice (some ⟨bi, offi, none⟩) sv.length ci) | 14 => .inl (.int .i64 (k : Int)) | 15 => .inl (.pointer (some ⟨bi, offi + k, none⟩)) | 16 => .inl (.int .i64 (j : Int)) | 17 => .inl (.pointer (some ⟨bl, offl + j * 4, none⟩)) | 18 => .inl (.pointer (some ⟨bl, offl + j * 4, none⟩)) | 19 => .inl (.int .i64 lf) | 20 => .inr (0, fun g => g) | 21 => .inr (0, fun g => g) | _ => .inl undef) (fun _ => rowGR wr.heap.size ls.length tt) (fun _ => rowGR_up) (by kernel_rfl) (by kernel_rfl) ?_ ?_
          · intro iq oq ho aq W hI hdep hrest hgd
            have hc : ∀ v, aq.eval (.const v) = v := fun _ => rfl
            have hfn : ∀ f, aq.eval (.func f) = .func (.func f) #[] #[] := fun _ => rfl
            rcases iq with _ | _ | _ | _ | _ | _ | _ | _ | _ | _ | _ | _ | _ | _ | _ | _ | _ | _ | _ | _ | _ | _ | iq
            · injection ho with ho
              subst ho
              have r2 : aq.eval (.tmp 2) = .pointer (some ⟨w.heap.size, 0, none⟩) := hrest 2 (by kernel_rfl)
              clear hrest
              clear hdep hgd
              have x0 := (hI.cell (p := ⟨w.heap.size, 0, none⟩) hz).trans q0
              have x1 := (hI.cell (p := ⟨w.heap.size, 1, none⟩) hz).trans q1
              refine ⟨fun _ => .inl ⟨.agg #[.int .i64 nb, .slice (some ⟨bl, offl, none⟩) ls.length c], ?_, rfl⟩, fun hw => (by simp [Region.wanted] at hw)⟩
              clear hI
              generalize aq.eval = ρ at *
              simp [go_sem, r2, x0, x1]
            · injection ho with ho
              subst ho
              have r6 : aq.eval (.tmp 6) = .slice At tl.length ct := hrest 6 (by kernel_rfl)
              clear hrest
              clear hdep hgd
              refine ⟨fun _ => .inl ⟨.slice At tl.length ct, ?_, rfl⟩, fun hw => (by simp [Region.wanted] at hw)⟩
              clear hI
              generalize aq.eval = ρ at *
              simp [go_sem, r6]
            · injection ho with ho
              subst ho
              have r2 : aq.eval (.tmp 2) = .pointer (some ⟨w.heap.size, 0, none⟩) := hrest 2 (by kernel_rfl)
              clear hrest
              clear hdep hgd
              refine ⟨fun _ => .inl ⟨.pointer (some ⟨w.heap.size, 1, none⟩), ?_, rfl⟩, fun hw => (by simp [Region.wanted] at hw)⟩
              clear hI
              generalize aq.eval = ρ at *
              simp [go_sem, r2]
            · injection ho with ho
              subst ho
              clear hrest
              have d2 : aq.eval (.tmp 38) = .pointer (some ⟨w.heap.size, 1, none⟩) := hdep ⟨2, .data⟩ (by simp) rfl _ _ rfl rfl
              clear hdep hgd
              have x1 := (hI.cell (p := ⟨w.heap.size, 1, none⟩) hz).trans q1
              refine ⟨fun _ => .inl ⟨.slice (some ⟨bl, offl, none⟩) ls.length c, ?_, rfl⟩, fun hw => (by simp [Region.wanted] at hw)⟩
              clear hI
              generalize aq.eval = ρ at *
              simp [go_sem, d2, x1]
            · injection ho with ho
              subst ho
              have r9 : aq.eval (.tmp 9) = .slice (some ⟨bi, offi, none⟩) sv.length ci := hrest 9 (by kernel_rfl)
              clear hrest
              clear hdep hgd
              refine ⟨fun _ => .inl ⟨.slice (some ⟨bi, offi, none⟩) sv.length ci, ?_, rfl⟩, fun hw => (by simp [Region.wanted] at hw)⟩
              clear hI
              generalize aq.eval = ρ at *
              simp [go_sem, r9]
            · injection ho with ho
              subst ho
              have r10 : aq.eval (.tmp 10) = .int .i64 (k : Int) := hrest 10 (by kernel_rfl)
              clear hrest
              clear hdep hgd
              refine ⟨fun _ => .inl ⟨.int .i64 (k : Int), ?_, rfl⟩, fun hw => (by simp [Region.wanted] at hw)⟩
              clear hI
              generalize aq.eval = ρ at *
              simp [go_sem, r10]
            · injection ho with ho
              subst ho
              clear hrest
              have d4 : aq.eval (.tmp 40) = .slice (some ⟨bi, offi, none⟩) sv.length ci := hdep ⟨4, .data⟩ (by simp) rfl _ _ rfl rfl
              have d5 : aq.eval (.tmp 41) = .int .i64 (k : Int) := hdep ⟨5, .data⟩ (by simp) rfl _ _ rfl rfl
              clear hdep hgd
              refine ⟨fun _ => .inl ⟨.pointer (some ⟨bi, offi + k, none⟩), ?_, rfl⟩, fun hw => (by simp [Region.wanted] at hw)⟩
              clear hI
              generalize aq.eval = ρ at *
              simp [go_sem, d4, d5, hk]
            · injection ho with ho
              subst ho
              clear hrest
              have d6 : aq.eval (.tmp 42) = .pointer (some ⟨bi, offi + k, none⟩) := hdep ⟨6, .data⟩ (by simp) rfl _ _ rfl rfl
              clear hdep hgd
              have x0 := (hI.cell (p := ⟨bi, offi + k, none⟩) hbi).trans ei
              refine ⟨fun _ => .inl ⟨.int .i64 (j : Int), ?_, rfl⟩, fun hw => (by simp [Region.wanted] at hw)⟩
              clear hI
              generalize aq.eval = ρ at *
              simp [go_sem, d6, x0]
            · injection ho with ho
              subst ho
              clear hrest
              have d3 : aq.eval (.tmp 39) = .slice (some ⟨bl, offl, none⟩) ls.length c := hdep ⟨3, .data⟩ (by simp) rfl _ _ rfl rfl
              have d7 : aq.eval (.tmp 43) = .int .i64 (j : Int) := hdep ⟨7, .data⟩ (by simp) rfl _ _ rfl rfl
              clear hdep hgd
              refine ⟨fun _ => .inl ⟨.pointer (some ⟨bl, offl + j * 4, none⟩), ?_, rfl⟩, fun hw => (by simp [Region.wanted] at hw)⟩
              clear hI
              generalize aq.eval = ρ at *
              simp [go_sem, d3, d7, hj]
            · injection ho with ho
              subst ho
              clear hrest
              have d8 : aq.eval (.tmp 44) = .pointer (some ⟨bl, offl + j * 4, none⟩) := hdep ⟨8, .data⟩ (by simp) rfl _ _ rfl rfl
              clear hdep hgd
              refine ⟨fun _ => .inl ⟨.pointer (some ⟨bl, offl + j * 4 + 1, none⟩), ?_, rfl⟩, fun hw => (by simp [Region.wanted] at hw)⟩
              clear hI
              generalize aq.eval = ρ at *
              simp [go_sem, d8]
            · injection ho with ho
              subst ho
              clear hrest
              have d9 : aq.eval (.tmp 45) = .pointer (some ⟨bl, offl + j * 4 + 1, none⟩) := hdep ⟨9, .data⟩ (by simp) rfl _ _ rfl rfl
              clear hdep hgd
              have x0 := (hI.cell (p := ⟨bl, offl + j * 4 + 1, none⟩) hbl).trans f1
              refine ⟨fun _ => .inl ⟨.int .i64 lt, ?_, rfl⟩, fun hw => (by simp [Region.wanted] at hw)⟩
              clear hI
              generalize aq.eval = ρ at *
              simp [go_sem, d9, x0]
            · injection ho with ho
              subst ho
              have r2 : aq.eval (.tmp 2) = .pointer (some ⟨w.heap.size, 0, none⟩) := hrest 2 (by kernel_rfl)
              clear hrest
              clear hdep hgd
              refine ⟨fun _ => .inl ⟨.pointer (some ⟨w.heap.size, 1, none⟩), ?_, rfl⟩, fun hw => (by simp [Region.wanted] at hw)⟩
              clear hI
              generalize aq.eval = ρ at *
              simp [go_sem, r2]
            · injection ho with ho
              subst ho
              clear hrest
              have d11 : aq.eval (.tmp 47) = .pointer (some ⟨w.heap.size, 1, none⟩) := hdep ⟨11, .data⟩ (by simp) rfl _ _ rfl rfl
              clear hdep hgd
              have x1 := (hI.cell (p := ⟨w.heap.size, 1, none⟩) hz).trans q1
              refine ⟨fun _ => .inl ⟨.slice (some ⟨bl, offl, none⟩) ls.length c, ?_, rfl⟩, fun hw => (by simp [Region.wanted] at hw)⟩
              clear hI
              generalize aq.eval = ρ at *
              simp [go_sem, d11, x1]
            · injection ho with ho
              subst ho
              have r9 : aq.eval (.tmp 9) = .slice (some ⟨bi, offi, none⟩) sv.length ci := hrest 9 (by kernel_rfl)
              clear hrest
              clear hdep hgd
              refine ⟨fun _ => .inl ⟨.slice (some ⟨bi, offi, none⟩) sv.length ci, ?_, rfl⟩, fun hw => (by simp [Region.wanted] at hw)⟩
              clear hI
              generalize aq.eval = ρ at *
              simp [go_sem, r9]
            · injection ho with ho
              subst ho
              have r10 : aq.eval (.tmp 10) = .int .i64 (k : Int) := hrest 10 (by kernel_rfl)
              clear hrest
              clear hdep hgd
              refine ⟨fun _ => .inl ⟨.int .i64 (k : Int), ?_, rfl⟩, fun hw => (by simp [Region.wanted] at hw)⟩
              clear hI
              generalize aq.eval = ρ at *
              simp [go_sem, r10]
            · injection ho with ho
              subst ho
              clear hrest
              have d13 : aq.eval (.tmp 49) = .slice (some ⟨bi, offi, none⟩) sv.length ci := hdep ⟨13, .data⟩ (by simp) rfl _ _ rfl rfl
              have d14 : aq.eval (.tmp 50) = .int .i64 (k : Int) := hdep ⟨14, .data⟩ (by simp) rfl _ _ rfl rfl
              clear hdep hgd
              refine ⟨fun _ => .inl ⟨.pointer (some ⟨bi, offi + k, none⟩), ?_, rfl⟩, fun hw => (by simp [Region.wanted] at hw)⟩
              clear hI
              generalize aq.eval = ρ at *
              simp [go_sem, d13, d14, hk]
            · injection ho with ho
              subst ho
              clear hrest
              have d15 : aq.eval (.tmp 51) = .pointer (some ⟨bi, offi + k, none⟩) := hdep ⟨15, .data⟩ (by simp) rfl _ _ rfl rfl
              clear hdep hgd
              have x0 := (hI.cell (p := ⟨bi, offi + k, none⟩) hbi).trans ei
              refine ⟨fun _ => .inl ⟨.int .i64 (j : Int), ?_, rfl⟩, fun hw => (by simp [Region.wanted] at hw)⟩
              clear hI
              generalize aq.eval = ρ at *
              simp [go_sem, d15, x0]
            · injection ho with ho
              subst ho
              clear hrest
              have d12 : aq.eval (.tmp 48) = .slice (some ⟨bl, offl, none⟩) ls.length c := hdep ⟨12, .data⟩ (by simp) rfl _ _ rfl rfl
              have d16 : aq.eval (.tmp 52) = .int .i64 (j : Int) := hdep ⟨16, .data⟩ (by simp) rfl _ _ rfl rfl
              clear hdep hgd
              refine ⟨fun _ => .inl ⟨.pointer (some ⟨bl, offl + j * 4, none⟩), ?_, rfl⟩, fun hw => (by simp [Region.wanted] at hw)⟩
              clear hI
              generalize aq.eval = ρ at *
              simp [go_sem, d12, d16, hj]
            · injection ho with ho
              subst ho
              clear hrest
              have d17 : aq.eval (.tmp 53) = .pointer (some ⟨bl, offl + j * 4, none⟩) := hdep ⟨17, .data⟩ (by simp) rfl _ _ rfl rfl
              clear hdep hgd
              refine ⟨fun _ => .inl ⟨.pointer (some ⟨bl, offl + j * 4, none⟩), ?_, rfl⟩, fun hw => (by simp [Region.wanted] at hw)⟩
              clear hI
              generalize aq.eval = ρ at *
              simp [go_sem, d17]
            · injection ho with ho
              subst ho
              clear hrest
              have d18 : aq.eval (.tmp 54) = .pointer (some ⟨bl, offl + j * 4, none⟩) := hdep ⟨18, .data⟩ (by simp) rfl _ _ rfl rfl
              clear hdep hgd
              have x0 := (hI.cell (p := ⟨bl, offl + j * 4, none⟩) hbl).trans f0
              refine ⟨fun _ => .inl ⟨.int .i64 lf, ?_, rfl⟩, fun hw => (by simp [Region.wanted] at hw)⟩
              clear hI
              generalize aq.eval = ρ at *
              simp [go_sem, d18, x0]
            · injection ho with ho
              subst ho
              clear hrest
              have d0 : aq.eval (.tmp 36) = .agg #[.int .i64 nb, .slice (some ⟨bl, offl, none⟩) ls.length c] := hdep ⟨0, .data⟩ (by simp) rfl _ _ rfl rfl
              have d1 : aq.eval (.tmp 37) = .slice At tl.length ct := hdep ⟨1, .data⟩ (by simp) rfl _ _ rfl rfl
              have d10 : aq.eval (.tmp 46) = .int .i64 lt := hdep ⟨10, .data⟩ (by simp) rfl _ _ rfl rfl
              have d19 : aq.eval (.tmp 55) = .int .i64 lf := hdep ⟨19, .data⟩ (by simp) rfl _ _ rfl rfl
              clear hdep hgd
              refine ⟨fun _ => .inr ⟨39, #[.agg #[.int .i64 nb, .slice (some ⟨bl, offl, none⟩) ls.length c], .slice At tl.length ct, .int .i64 lt, .int .i64 lf], ?_, (KWY.out W (HLW.out.upto hI) (HTW.out.upto hI)).mono fun e w' ⟨g, he, hg, hr, hb⟩ => ⟨_, he, ⟨_, rfl, g, rfl, Nat.le_trans hI.size hg, hr⟩, hb⟩⟩, fun hw => (by simp [Region.wanted] at hw)⟩
              clear hI
              generalize aq.eval = ρ at *
              simp [go_sem, d0, d1, d10, d19, hfn]
            · injection ho with ho
              subst ho
              clear hrest
              obtain ⟨g20, d20, hR20⟩ : ∃ g, aq.eval (.tmp 56) = g ∧ (fun _ => rowGR wr.heap.size ls.length tt) 0 g W := hdep ⟨20, .data⟩ (by simp) rfl _ _ rfl rfl
              clear hdep hgd
              refine ⟨fun _ => .inl ⟨g20, ?_, g20, rfl, hR20⟩, fun hw => (by simp [Region.wanted] at hw)⟩
              clear hI
              generalize aq.eval = ρ at *
              simp [go_sem, d20]
            · simp at ho
          intro vs W hb hF
          have hv0 : vs 0 = .agg #[.int .i64 nb, .slice (some ⟨bl, offl, none⟩) ls.length c] := hF 0 (by decide)
          have hv1 : vs 1 = .slice At tl.length ct := hF 1 (by decide)
          have hv2 : vs 2 = .pointer (some ⟨w.heap.size, 1, none⟩) := hF 2 (by decide)
          have hv3 : vs 3 = .slice (some ⟨bl, offl, none⟩) ls.length c := hF 3 (by decide)
          have hv4 : vs 4 = .slice (some ⟨bi, offi, none⟩) sv.length ci := hF 4 (by decide)
          have hv5 : vs 5 = .int .i64 (k : Int) := hF 5 (by decide)
          have hv6 : vs 6 = .pointer (some ⟨bi, offi + k, none⟩) := hF 6 (by decide)
          have hv7 : vs 7 = .int .i64 (j : Int) := hF 7 (by decide)
          have hv8 : vs 8 = .pointer (some ⟨bl, offl + j * 4, none⟩) := hF 8 (by decide)
          have hv9 : vs 9 = .pointer (some ⟨bl, offl + j * 4 + 1, none⟩) := hF 9 (by decide)
          have hv10 : vs 10 = .int .i64 lt := hF 10 (by decide)
          have hv11 : vs 11 = .pointer (some ⟨w.heap.size, 1, none⟩) := hF 11 (by decide)
          have hv12 : vs 12 = .slice (some ⟨bl, offl, none⟩) ls.length c := hF 12 (by decide)
          have hv13 : vs 13 = .slice (some ⟨bi, offi, none⟩) sv.length ci := hF 13 (by decide)
          have hv14 : vs 14 = .int .i64 (k : Int) := hF 14 (by decide)
          have hv15 : vs 15 = .pointer (some ⟨bi, offi + k, none⟩) := hF 15 (by decide)
          have hv16 : vs 16 = .int .i64 (j : Int) := hF 16 (by decide)
          have hv17 : vs 17 = .pointer (some ⟨bl, offl + j * 4, none⟩) := hF 17 (by decide)
          have hv18 : vs 18 = .pointer (some ⟨bl, offl + j * 4, none⟩) := hF 18 (by decide)
          have hv19 : vs 19 = .int .i64 lf := hF 19 (by decide)
          obtain ⟨gg20, hv20, hR20⟩ : ∃ g, vs 20 = g ∧ (fun _ => rowGR wr.heap.size ls.length tt) 0 g W := hF 20 (by decide)
          obtain ⟨gg21, hv21, hR21⟩ : ∃ g, vs 21 = g ∧ (fun _ => rowGR wr.heap.size ls.length tt) 0 g W := hF 21 (by decide)
          clear hF
          simp only [putAll, Act.put, List.setIfInBounds_toArray, List.set_cons_zero, List.set_cons_succ, Nat.reduceAdd, hv0, hv1, hv2, hv3, hv4, hv5, hv6, hv7, hv8, hv9, hv10, hv11, hv12, hv13, hv14, hv15, hv16, hv17, hv18, hv19, hv20, hv21]
          clear hv0 hv1 hv2 hv3 hv4 hv5 hv6 hv7 hv8 hv9 hv10 hv11 hv12 hv13 hv14 hv15 hv16 hv17 hv18 hv19 hv20 hv21
          obtain ⟨gu, rfl, hgw, h15⟩ := hR21
          clear hR20
          have hI := hb
          have ei2 := (hb.cell (p := ⟨bi, offi + k, none⟩) hbi).trans ei
          clear ei
          have hgu := h15.lt
          have hjt : j < tt.length := by rw [HTT.out]; exact hj
          have hxc := h15.cell (i := j) hjt
          have hfz := h15.frz j
          have hst := h15.put j 1
          have hbW2 : Below wr.heap.size wr (W.setCell ⟨gu, j, none⟩ (.int .i64 1)) := hI.setCell (p := ⟨gu, j, none⟩) hgw _
          have hown2 := hst.owns (base := wr.heap.size) hgw (by rw [List.length_set, HTT.out]; exact hm)
          obtain ⟨xs, h1, h2, h3, h4⟩ := hrow
          have hfresh : ∀ (i : Nat) (y : Value), xs[i]? = some y → ∀ b, y.ownBlock = some b → b < wr.heap.size := fun i y hy b hb => by
            have hi : i < pre.length := by rw [← h1]; exact (List.getElem?_eq_some_iff.1 hy).1
            obtain ⟨u, hu', ho⟩ := h3 i _ (List.getElem?_eq_getElem hi)
            rw [hy] at hu'
            injection hu' with hu'
            subst hu'
            exact (ho.lt b hb).2
          have h2' := ownsRow_below h2 hbW2
          have h3' : ∀ (i : Nat) (r : List Int), pre[i]? = some r → ∃ u, xs[i]? = some u ∧ (W.setCell ⟨gu, j, none⟩ (.int .i64 1)).ownsRow w2.heap.size 3 1 u r.length (r.map (Value.int .i64)) := fun i r hr => by
            obtain ⟨u, hu', ho⟩ := h3 i r hr
            exact ⟨u, hu', ownsRow_below ho hbW2⟩
          obtain ⟨A3, c3, rfl⟩ := own_slc h2
          have hsz2 := HBW.out.size
          have hu2 : (W.setCell ⟨gu, j, none⟩ (.int .i64 1)).ownsRow w2.heap.size 3 1 (.slice (some ⟨gu, 0, none⟩) ls.length ls.length) (tt.set j 1).length ((tt.set j 1).map (Value.int .i64)) := by
            rw [List.length_set, HTT.out] at hown2 ⊢; exact ownsRow_base hown2 hsz2
          have HFR := Lib.hid hfresh
          have HU2 := Lib.hid hu2
          have H3 := Lib.hid h3'
          have H4 := Lib.hid h4
          have H1 := Lib.hid h1
          have HB4 := Lib.hid (HBW.out.trans (hbW2.mono hsz2))
          have hs4 := HB4.out.size
          clear h2 h3 h3' h4 h15 hst hfresh hu2 hbW2 q0 q1 f0 f1 HLW HTW hown2 hI hb
          generalize tt.getD j 0 = oldv at hxc
          go_upto_region 12 with fail
          generalize W.setCell ⟨gu, j, none⟩ (.int .i64 1) = W2 at *
          go_wp2_with (at_builtin; refine wpList_append_any _ rfl (.tmp 63) (.tmp 65) _ rfl w2.heap.size 25 j0 _ 1 24 Try.underlying31 hj0 hy0 hy1 hy2 rfl (by omega) (.slice A3 pre.length c3) pre.length xs rfl (h2'.alloc _) (some ⟨W2.heap.size, 0, none⟩) 1 1 [.slice (some ⟨gu, 0, none⟩) ls.length ls.length] rfl (src_one _ _ _) (by simp [Value.oneCell']) (by simp only [maxLen]; omega) (by omega) (by simp; omega) ?_; intro v' w5 hown' hgrow _)
          have hb5 := below_append h2' hs4 hgrow
          have hnew := RowsOwn.snoc H1.out h2' H3.out H4.out HU2.out (fun i y hy => by
            cases hyb : y.ownBlock with
            | none => exact .inl rfl
            | some b => right; intro e; have := HFR.out i y hy b hyb; simp [Value.ownBlock] at e; omega) (fun i y hy => by
            right; intro e; have := HFR.out i y hy gu e.symm; omega) hown' hgrow
          have HNEW := Lib.hid hnew
          clear hgrow hown' hnew h2'
          go_wp2_with fail
          go_roundg g
          case measure => omega
          case rel => exact ⟨k + 1, by have := HG.out; omega, by go_num, by rw [HST'.out]; exact HNEW.out, HB4.out.trans hb5⟩
  · rw [if_neg he]
    have b1 : (outsE nb ls out != 0) = true := by simpa using he
    clear he
    generalize treeL nb ls out = tl at *
    generalize outsE nb ls out = er at *
    have KT := Lib.hid kt
    clear kt
    go_enter Try.func15, Try.ntmps15
    go_wp2_with fail
    refine (KT.out _ HL.out HO.out).mono ?_
    rintro e w1 ⟨v, rfl, hown, hb⟩
    obtain ⟨At, ct, rfl, hI⟩ := ownsRow_ints hown
    have HT := Lib.hid hI
    replace HL := Lib.hid (HL.out.upto hb)
    replace HO := Lib.hid (HO.out.upto hb)
    replace q0 := (hb.cell (p := ⟨w.heap.size, 0, none⟩) hz).trans q0
    replace q1 := (hb.cell (p := ⟨w.heap.size, 1, none⟩) hz).trans q1
    replace hz : w.heap.size < w1.heap.size := Nat.lt_of_lt_of_le hz hb.size
    have HB1 := Lib.hid (HB0.out.trans (hb.mono HB0.out.size))
    clear hb HB0 hown hI
    go_wp2_with fail
    go_ret2
    exact ⟨_, rfl, RowsOwn.nil_ _ _, HB1.out⟩
end Go.Proofs.Ytmojjfdamdgegaa
