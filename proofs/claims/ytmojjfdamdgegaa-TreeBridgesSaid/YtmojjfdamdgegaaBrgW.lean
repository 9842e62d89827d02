/- The walk of TreeBridges. -/
import Derived.Test.YtmojjfdamdgegaaTreH
import Derived.Test.YtmojjfdamdgegaaBrgP
import Derived.Test.YtmojjfdamdgegaaAnyY
import Derived.Test.YtmojjfdamdgegaaIslF
import Derived.Deep.DeepCutAuto
namespace Go.Proofs.Ytmojjfdamdgegaa
open Go.RowKit
set_option linter.unusedVariables false

theorem any_take (rows : List (List Int)) (x d : Nat) (h : d < rows.length) : ((rows.take (d + 1)).any fun r => r.getD x 0 != 0) = (((rows.take d).any fun r => r.getD x 0 != 0) || ((rows.getD d []).getD x 0 != 0)) := by
  rw [List.take_succ_eq_append_getElem h, List.any_append, getD_eq _ _ _ h]
  simp

set_option maxRecDepth 100000 in
set_option maxHeartbeats 8000000 in
theorem brg_walk (nb : Int) (A : Option Addr) (c : Nat) (ls : List Ln) (O : Option Addr) (co : Nat) (out : List Int) (w : World) (hl : LinesR w w.heap.size A ls) (ho : IntsR w w.heap.size O out) :
    Calls Try.prog 8 #[.agg #[.int .i64 nb, .slice A ls.length c], .slice O out.length co] w fun e w' => e = .returned (.bool true) ∧ Below w.heap.size w w' := by
  obtain ⟨i0, hi0, hz0, hz1, hz2⟩ := info_parts info_int
  have HL := Lib.hid hl
  have HO := Lib.hid ho
  clear hl ho
  have kl := fun W b hb => long_lit1 (.int .i64 nb) A ls.length c 25 W b hb O out.length co
  cases hlong : longB [out.length] ls.length with
  | true =>
    rw [hlong] at kl
    have KL := Lib.hid kl
    clear kl hlong
    have HB0 := Lib.hid (Below.refl w.heap.size w)
    go_enter Try.func8, Try.ntmps8
    go_wp2_with fail
    have hb := below_alloc2 w (.cells #[.int .i64 nb, .slice A ls.length c] 24) (.cells #[.slice O out.length co] 25)
    have q0 : ((w.alloc (.cells #[.int .i64 nb, .slice A ls.length c] 24)).alloc (.cells #[.slice O out.length co] 25)).cell? ⟨w.heap.size, 0, none⟩ = some (.int .i64 nb) := by simp
    have q1 : ((w.alloc (.cells #[.int .i64 nb, .slice A ls.length c] 24)).alloc (.cells #[.slice O out.length co] 25)).cell? ⟨w.heap.size, 1, none⟩ = some (.slice A ls.length c) := by simp
    have hz : w.heap.size < ((w.alloc (.cells #[.int .i64 nb, .slice A ls.length c] 24)).alloc (.cells #[.slice O out.length co] 25)).heap.size := by simp; omega
    have HB1 := Lib.hid (HB0.out.trans (hb.mono HB0.out.size))
    clear HB0
    replace HL := Lib.hid (HL.out.upto hb)
    replace HO := Lib.hid (HO.out.upto hb)
    clear hb
    refine (KL.out (w.alloc (.cells #[.int .i64 nb, .slice A ls.length c] 24)) _ (by simp)).mono ?_
    rintro e w2 ⟨rfl, hb⟩
    rw [← World.size_alloc (w.alloc (.cells #[.int .i64 nb, .slice A ls.length c] 24)) (.cells #[.slice O out.length co] 25)] at hb
    have HB2 := Lib.hid (HB1.out.trans (hb.mono HB1.out.size))
    clear HB1
    replace HL := Lib.hid (HL.out.upto hb)
    replace HO := Lib.hid (HO.out.upto hb)
    replace q0 := (hb.cell (p := ⟨w.heap.size, 0, none⟩) hz).trans q0
    replace q1 := (hb.cell (p := ⟨w.heap.size, 1, none⟩) hz).trans q1
    replace hz : w.heap.size < w2.heap.size := Nat.lt_of_lt_of_le hz hb.size
    clear hb
    go_wp2_with fail
    refine (awake16_any _).mono ?_
    rintro e w3 ⟨rfl, hb⟩
    have HB3 := Lib.hid (HB2.out.trans (hb.mono HB2.out.size))
    clear HB2
    replace HL := Lib.hid (HL.out.upto hb)
    replace HO := Lib.hid (HO.out.upto hb)
    replace q0 := (hb.cell (p := ⟨w.heap.size, 0, none⟩) hz).trans q0
    replace q1 := (hb.cell (p := ⟨w.heap.size, 1, none⟩) hz).trans q1
    replace hz : w.heap.size < w3.heap.size := Nat.lt_of_lt_of_le hz hb.size
    clear hb
    go_wp2_with fail
    go_ret
    exact ⟨rfl, HB3.out⟩
  | false =>
    rw [hlong] at kl
    have hb100 := longB_false hlong
    have h1 : out.length ≤ 100 := hb100.1 _ (by simp)
    have h2 : ls.length ≤ 100 := hb100.2
    have KL := Lib.hid kl
    clear kl hlong hb100
    have ko := fun W hl ho => outs_any nb A O c co ls out W hl ho (by omega) (by omega)
    by_cases he : outsE nb ls out = 0
    · have hc := (check_of_outs he).1
      have hvv := valid_of_check hc
      have hlo := hvv.lo
      have hhi := hvv.hi
      have hin := tree_in he
      have hsl := svcL_le out ls.length
      have htl : treeL nb ls out = treeTo nb ls (svcL out ls.length) (svcL out ls.length).length := by rw [treeL, if_pos he]
      have hcnt := tree_cnt he _ (Nat.le_refl _)
      rw [← htl] at hcnt
      have hcn : cntL nb ls out = nb - ((treeL nb ls out).length : Int) := by
        rw [← hcnt]
        unfold cntL refsL
        rw [tree_of he]
      have hkn1 : -1000000 ≤ cntL nb ls out := by omega
      have hkn2 : cntL nb ls out ≤ 1000000 := by omega
      have kt := fun W hl ho => tree_any nb A O c co ls out W hl ho (by omega) (by omega)
      have ki := fun W hl ho => in_any nb A O c co ls out W hl ho (by omega) (by omega)
      rw [inL, if_pos he, he] at ki
      have kb := fun W hl ho => bridges_any nb A O c co ls out W hl ho (by omega) (by omega)
      have knn := fun W hl ho => count_any nb A O c co ls out W hl ho (by omega) (by omega)
      have kc := fun W hl ho => cycles_ok nb A O c co ls out _ W hl ho (by omega) (by omega) he (cyc_dfs he)
      rw [he] at ko kt kb knn
      have hrl2 : ∀ d, d < (cycL nb ls out).length → ((cycL nb ls out).getD d []).length = ls.length := fun d hd => by
        rw [cyc_len he] at hd
        obtain ⟨_, _, _, _, _, h5, h6⟩ := cyc_at he d hd
        rw [h5, List.length_set]; exact h6.len
      have hsv : ∀ k, k < (svcL out ls.length).length → ∃ x : Nat, (svcL out ls.length).getD k 0 = (x : Int) ∧ x < ls.length ∧ hasB (brgL nb ls out) (x : Int) = decide (cntL nb ls (unionL out [(x : Int)]) = cntL nb ls out + 1) ∧ (uniE out [(x : Int)] = 0 ∧ uniL out [(x : Int)] = unionL out [(x : Int)]) ∧
          hasB (brgL nb ls out) (x : Int) = (!((cycL nb ls out).any fun r => r.getD x 0 != 0)) ∧ (hasB (brgL nb ls out) (x : Int) = true → hasB (treeL nb ls out) (x : Int) = true) ∧ ((unionL out [(x : Int)]).length ≤ 1000000 ∧ outsE nb ls (unionL out [(x : Int)]) = 0) := fun k hk => by
        have hm : (svcL out ls.length).getD k 0 ∈ svcL out ls.length := by rw [getD_eq _ _ _ hk]; exact List.getElem_mem hk
        have hx := svc_in he hm
        obtain ⟨x, ex⟩ := Int.eq_ofNat_of_zero_le hx.1
        rw [ex] at hm hx ⊢
        have hun := union_rest he hm
        have hul := svcL_le ((svcL out ls.length).filter fun y => decide (y ≠ (x : Int))) ls.length
        exact ⟨x, rfl, by omega, brg_cnt he hm, union_is he x, brg_used he hm, fun h => (hasB_mem _ _).2 (brg_tree he ((hasB_mem _ _).1 h)), by rw [hun]; omega, unionx_ok he hm⟩
      have hbs : ∀ m, m < (brgL nb ls out).length → hasB (svcL out ls.length) ((brgL nb ls out).getD m 0) = true ∧ (0 < m → (brgL nb ls out).getD (m - 1) 0 < (brgL nb ls out).getD m 0) := fun m hm => by
        refine ⟨(hasB_mem _ _).2 ((brg_mem he).1 (by rw [getD_eq _ _ _ hm]; exact List.getElem_mem hm)).1, fun h0 => ?_⟩
        rw [getD_eq _ _ _ hm, getD_eq _ _ _ (show m - 1 < (brgL nb ls out).length by omega)]
        exact List.pairwise_iff_getElem.1 (brg_sorted he) _ _ _ _ (by omega)
      have hbl : (brgL nb ls out).length ≤ 1000000 := by
        have h : (brgL nb ls out).length ≤ (svcL out ls.length).length := by
          rw [brgL, if_pos he, brgTo, List.take_length]
          exact List.length_filter_le _ _
        omega
      have hrl : (cycL nb ls out).length ≤ 1000000 := by
        rw [cyc_len he]
        have h := List.length_filter_le (fun x => !hasB (treeL nb ls out) x) (svcL out ls.length)
        unfold ownL
        omega
      have e1 : cycTo ls (treeL nb ls out) ((treeL nb ls out).length + 1) (svcL out ls.length) (svcL out ls.length).length = cycL nb ls out := rfl
      rw [e1] at kc
      clear he e1 hc hvv htl hcnt hcn
      generalize cycL nb ls out = rows at *
      generalize brgL nb ls out = bl at *
      generalize treeL nb ls out = tl at *
      generalize svcL out ls.length = sv at *
      generalize cntL nb ls out = kn at *
      have KO := Lib.hid ko
      have KT := Lib.hid kt
      have KI := Lib.hid ki
      have KC := Lib.hid kc
      have KB := Lib.hid kb
      have KN := Lib.hid knn
      have HSV := Lib.hid hsv
      have HBS := Lib.hid hbs
      have HRL := Lib.hid hrl2
      clear ko kt ki kc kb knn hsv hbs hrl2
      have HB0 := Lib.hid (Below.refl w.heap.size w)
      go_enter Try.func8, Try.ntmps8
      go_wp2_with fail
      have hb := below_alloc2 w (.cells #[.int .i64 nb, .slice A ls.length c] 24) (.cells #[.slice O out.length co] 25)
      have q0 : ((w.alloc (.cells #[.int .i64 nb, .slice A ls.length c] 24)).alloc (.cells #[.slice O out.length co] 25)).cell? ⟨w.heap.size, 0, none⟩ = some (.int .i64 nb) := by simp
      have q1 : ((w.alloc (.cells #[.int .i64 nb, .slice A ls.length c] 24)).alloc (.cells #[.slice O out.length co] 25)).cell? ⟨w.heap.size, 1, none⟩ = some (.slice A ls.length c) := by simp
      have hz : w.heap.size < ((w.alloc (.cells #[.int .i64 nb, .slice A ls.length c] 24)).alloc (.cells #[.slice O out.length co] 25)).heap.size := by simp; omega
      have HB1 := Lib.hid (HB0.out.trans (hb.mono HB0.out.size))
      clear HB0
      replace HL := Lib.hid (HL.out.upto hb)
      replace HO := Lib.hid (HO.out.upto hb)
      clear hb
      refine (KL.out (w.alloc (.cells #[.int .i64 nb, .slice A ls.length c] 24)) _ (by simp)).mono ?_
      rintro e w2 ⟨rfl, hb⟩
      rw [← World.size_alloc (w.alloc (.cells #[.int .i64 nb, .slice A ls.length c] 24)) (.cells #[.slice O out.length co] 25)] at hb
      have HB2 := Lib.hid (HB1.out.trans (hb.mono HB1.out.size))
      clear HB1
      replace HL := Lib.hid (HL.out.upto hb)
      replace HO := Lib.hid (HO.out.upto hb)
      replace q0 := (hb.cell (p := ⟨w.heap.size, 0, none⟩) hz).trans q0
      replace q1 := (hb.cell (p := ⟨w.heap.size, 1, none⟩) hz).trans q1
      replace hz : w.heap.size < w2.heap.size := Nat.lt_of_lt_of_le hz hb.size
      clear hb
      go_wp2_with fail
      refine (awake16_any _).mono ?_
      rintro e w3 ⟨rfl, hb⟩
      have HB3 := Lib.hid (HB2.out.trans (hb.mono HB2.out.size))
      clear HB2
      replace HL := Lib.hid (HL.out.upto hb)
      replace HO := Lib.hid (HO.out.upto hb)
      replace q0 := (hb.cell (p := ⟨w.heap.size, 0, none⟩) hz).trans q0
      replace q1 := (hb.cell (p := ⟨w.heap.size, 1, none⟩) hz).trans q1
      replace hz : w.heap.size < w3.heap.size := Nat.lt_of_lt_of_le hz hb.size
      clear hb
      go_wp2_with fail
      refine (KO.out _ HL.out HO.out).mono ?_
      rintro e w4 ⟨rfl, hb⟩
      have HB4 := Lib.hid (HB3.out.trans (hb.mono HB3.out.size))
      clear HB3
      replace HL := Lib.hid (HL.out.upto hb)
      replace HO := Lib.hid (HO.out.upto hb)
      replace q0 := (hb.cell (p := ⟨w.heap.size, 0, none⟩) hz).trans q0
      replace q1 := (hb.cell (p := ⟨w.heap.size, 1, none⟩) hz).trans q1
      replace hz : w.heap.size < w4.heap.size := Nat.lt_of_lt_of_le hz hb.size
      clear hb
      go_wp2_with fail
      refine (KB.out _ HL.out HO.out).mono ?_
      rintro e w5 ⟨v, rfl, hown, hb⟩
      obtain ⟨Ab, cb, rfl, hI⟩ := ownsRow_ints hown
      have HIb := Lib.hid hI
      clear hown hI
      have HB5 := Lib.hid (HB4.out.trans (hb.mono HB4.out.size))
      clear HB4
      replace HL := Lib.hid (HL.out.upto hb)
      replace HO := Lib.hid (HO.out.upto hb)
      replace q0 := (hb.cell (p := ⟨w.heap.size, 0, none⟩) hz).trans q0
      replace q1 := (hb.cell (p := ⟨w.heap.size, 1, none⟩) hz).trans q1
      replace hz : w.heap.size < w5.heap.size := Nat.lt_of_lt_of_le hz hb.size
      clear hb
      go_wp2_with fail
      refine (KT.out _ HL.out HO.out).mono ?_
      rintro e w6 ⟨v, rfl, hown, hb⟩
      obtain ⟨At, ct, rfl, hI⟩ := ownsRow_ints hown
      have HIt := Lib.hid hI
      clear hown hI
      have HB6 := Lib.hid (HB5.out.trans (hb.mono HB5.out.size))
      clear HB5
      replace HL := Lib.hid (HL.out.upto hb)
      replace HO := Lib.hid (HO.out.upto hb)
      replace HIb := Lib.hid (HIb.out.upto hb)
      replace q0 := (hb.cell (p := ⟨w.heap.size, 0, none⟩) hz).trans q0
      replace q1 := (hb.cell (p := ⟨w.heap.size, 1, none⟩) hz).trans q1
      replace hz : w.heap.size < w6.heap.size := Nat.lt_of_lt_of_le hz hb.size
      clear hb
      go_wp2_with fail
      refine (KC.out _ HL.out HO.out).mono ?_
      rintro e w7 ⟨v, rfl, hown, hb⟩
      obtain ⟨Ar, cr, rfl, hR⟩ := hown.read
      have HR := Lib.hid hR
      clear hown hR
      have HB7 := Lib.hid (HB6.out.trans (hb.mono HB6.out.size))
      clear HB6
      replace HL := Lib.hid (HL.out.upto hb)
      replace HO := Lib.hid (HO.out.upto hb)
      replace HIb := Lib.hid (HIb.out.upto hb)
      replace HIt := Lib.hid (HIt.out.upto hb)
      replace q0 := (hb.cell (p := ⟨w.heap.size, 0, none⟩) hz).trans q0
      replace q1 := (hb.cell (p := ⟨w.heap.size, 1, none⟩) hz).trans q1
      replace hz : w.heap.size < w7.heap.size := Nat.lt_of_lt_of_le hz hb.size
      clear hb
      go_wp2_with fail
      refine (KI.out _ HL.out HO.out).mono ?_
      rintro e w8 ⟨v, rfl, hown, hb⟩
      obtain ⟨Ai, ci, rfl, hI⟩ := ownsRow_ints hown
      have HIi := Lib.hid hI
      clear hown hI
      have HB8 := Lib.hid (HB7.out.trans (hb.mono HB7.out.size))
      clear HB7
      replace HL := Lib.hid (HL.out.upto hb)
      replace HO := Lib.hid (HO.out.upto hb)
      replace HIb := Lib.hid (HIb.out.upto hb)
      replace HIt := Lib.hid (HIt.out.upto hb)
      replace HR := Lib.hid (HR.out.upto hb)
      replace q0 := (hb.cell (p := ⟨w.heap.size, 0, none⟩) hz).trans q0
      replace q1 := (hb.cell (p := ⟨w.heap.size, 1, none⟩) hz).trans q1
      replace hz : w.heap.size < w8.heap.size := Nat.lt_of_lt_of_le hz hb.size
      clear hb
      go_wp2_with fail
      refine (KN.out _ HL.out HO.out).mono ?_
      rintro e w9 ⟨rfl, hb⟩
      have HB9 := Lib.hid (HB8.out.trans (hb.mono HB8.out.size))
      clear HB8
      replace HL := Lib.hid (HL.out.upto hb)
      replace HO := Lib.hid (HO.out.upto hb)
      replace HIb := Lib.hid (HIb.out.upto hb)
      replace HIt := Lib.hid (HIt.out.upto hb)
      replace HR := Lib.hid (HR.out.upto hb)
      replace HIi := Lib.hid (HIi.out.upto hb)
      replace q0 := (hb.cell (p := ⟨w.heap.size, 0, none⟩) hz).trans q0
      replace q1 := (hb.cell (p := ⟨w.heap.size, 1, none⟩) hz).trans q1
      replace hz : w.heap.size < w9.heap.size := Nat.lt_of_lt_of_le hz hb.size
      clear hb
      go_wp2_with fail
      go_loopg [15, 16, 17, 18, 19, 20, 21] sv.length (fun g i s16 s17 s18 s19 s20 s21 wr => ∃ k : Nat, k + g = sv.length ∧ i = .int .i64 k ∧ Below w9.heap.size w9 wr)
      case atStart => exact ⟨0, by omega, rfl, Below.refl _ _⟩
      case round =>
        obtain ⟨k, hkg, rfl, hbx⟩ := hrel
        have HBX := Lib.hid hbx
        have hsx := hbx.size
        clear hbx
        cases gk with
        | zero =>
          obtain rfl : k = sv.length := by omega
          clear hkg
          have HIX := Lib.hid (HIi.out.upto HBX.out)
          have HbX := Lib.hid (HIb.out.upto HBX.out)
          have HBY := Lib.hid (HB9.out.trans (HBX.out.mono HB9.out.size))
          clear HL HO HR HIt HIi HIb HB9 HBX hsx q0 q1 hz
          generalize wr = wy at *
          go_wp2_with fail
          go_loopg [22] bl.length (fun g i wr => ∃ k : Nat, k + g = bl.length ∧ i = .int .i64 k ∧ Below wy.heap.size wy wr)
          case atStart => exact ⟨0, by omega, rfl, Below.refl _ _⟩
          case round =>
            obtain ⟨m, hmg, rfl, hbel⟩ := hrel
            have HBW := Lib.hid hbel
            clear hbel
            cases gk with
            | zero =>
              obtain rfl : m = bl.length := by omega
              clear hmg
              go_wp2_with fail
              go_ret
              exact ⟨rfl, HBY.out.trans (HBW.out.mono HBY.out.size)⟩
            | succ g =>
              have hm : m < bl.length := by omega
              have HG := Lib.hid hmg
              clear hmg
              obtain ⟨bb, offb, hAb, hbb, hcb⟩ := HbX.out (by omega)
              subst hAb
              have eb := (HBW.out.cell (p := ⟨bb, offb + m, none⟩) hbb).trans (hcb m hm)
              obtain ⟨hy1, hy2⟩ := HBS.out m hm
              have hep := fun h0 : 0 < m => (HBW.out.cell (p := ⟨bb, offb + (m - 1), none⟩) hbb).trans (hcb (m - 1) (by omega))
              replace HIX := Lib.hid (HIX.out.upto HBW.out)
              replace hbb : bb < wr.heap.size := Nat.lt_of_lt_of_le hbb HBW.out.size
              have kh := fun W hO => (has16_any Ai ci sv (bl.getD m 0) W W.heap.size hO (by omega)).mono (fun e w' (h : _ ∧ W = w') => (show e = .returned (.bool true) ∧ Below W.heap.size W w' from ⟨by rw [h.1, hy1], h.2 ▸ Below.refl _ _⟩))
              have KH := Lib.hid kh
              clear kh hcb hy1
              generalize bl.getD m 0 = y at *
              by_cases h0 : m = 0
              · have i6 : ¬ 0 < m := by omega
                clear hy2 hep h0
                go_wp2_with fail
                refine region_calls (w0 := wr) (fun jq => match jq with | 0 => .slice Ai sv.length ci | 1 => .slice (some ⟨bb, offb, none⟩) bl.length cb | 2 => .int .i64 (m : Int) | 3 => .pointer (some ⟨bb, offb + m, none⟩) | 4 => .int .i64 y | 5 => .bool true | 6 => .bool false | 7 => .bool false | 8 => .int .i64 (m : Int) | 9 => .bool false | 10 => .bool false | 11 => undef | 12 => undef | 13 => undef | 14 => undef | 15 => undef | 16 => undef | 17 => undef | 18 => undef | 19 => undef | 20 => undef | 21 => .bool false | 22 => .bool false | _ => undef) (by kernel_rfl) (by kernel_rfl) ?_ ?_
                · intro iq oq ho aq W hI hdep hrest hgd
                  have r11 : aq.eval (.tmp 11) = .slice Ai sv.length ci := hrest 11 (apart_of (by kernel_rfl))
                  have r5 : aq.eval (.tmp 5) = .slice (some ⟨bb, offb, none⟩) bl.length cb := hrest 5 (apart_of (by kernel_rfl))
                  have r22 : aq.eval (.tmp 22) = .int .i64 (m : Int) := hrest 22 (apart_of (by kernel_rfl))
                  have hc : ∀ v, aq.eval (.const v) = v := fun _ => rfl
                  have hfn : ∀ f, aq.eval (.func f) = .func (.func f) #[] #[] := fun _ => rfl
                  clear hrest
                  rcases iq with _ | _ | _ | _ | _ | _ | _ | _ | _ | _ | _ | _ | _ | _ | _ | _ | _ | _ | _ | _ | _ | _ | _ | iq
                  · injection ho with ho
                    subst ho
                    clear hdep hgd
                    refine ⟨fun _ => .inl ?_, fun hw => (by simp [Region.wanted] at hw)⟩
                    clear hI
                    generalize aq.eval = ρ at *
                    simp [go_sem, r11]
                  · injection ho with ho
                    subst ho
                    clear hdep hgd
                    refine ⟨fun _ => .inl ?_, fun hw => (by simp [Region.wanted] at hw)⟩
                    clear hI
                    generalize aq.eval = ρ at *
                    simp [go_sem, r5]
                  · injection ho with ho
                    subst ho
                    clear hdep hgd
                    refine ⟨fun _ => .inl ?_, fun hw => (by simp [Region.wanted] at hw)⟩
                    clear hI
                    generalize aq.eval = ρ at *
                    simp [go_sem, r22]
                  · injection ho with ho
                    subst ho
                    have d1 : aq.eval (.tmp 207) = .slice (some ⟨bb, offb, none⟩) bl.length cb := hdep ⟨1, .data⟩ (by simp) rfl _ _ rfl rfl
                    have d2 : aq.eval (.tmp 208) = .int .i64 (m : Int) := hdep ⟨2, .data⟩ (by simp) rfl _ _ rfl rfl
                    clear hdep hgd
                    refine ⟨fun _ => .inl ?_, fun hw => (by simp [Region.wanted] at hw)⟩
                    clear hI
                    generalize aq.eval = ρ at *
                    simp [go_sem, d1, d2, hm]
                  · injection ho with ho
                    subst ho
                    have d3 : aq.eval (.tmp 209) = .pointer (some ⟨bb, offb + m, none⟩) := hdep ⟨3, .data⟩ (by simp) rfl _ _ rfl rfl
                    clear hdep hgd
                    have x0 := (hI.cell (p := ⟨bb, offb + m, none⟩) hbb).trans eb
                    refine ⟨fun _ => .inl ?_, fun hw => (by simp [Region.wanted] at hw)⟩
                    clear hI
                    generalize aq.eval = ρ at *
                    simp [go_sem, d3, x0]
                  · injection ho with ho
                    subst ho
                    have d0 : aq.eval (.tmp 206) = .slice Ai sv.length ci := hdep ⟨0, .data⟩ (by simp) rfl _ _ rfl rfl
                    have d4 : aq.eval (.tmp 210) = .int .i64 y := hdep ⟨4, .data⟩ (by simp) rfl _ _ rfl rfl
                    clear hdep hgd
                    refine ⟨fun _ => .inr ⟨29, #[.slice Ai sv.length ci, .int .i64 y], ?_, KH.out W (HIX.out.upto hI)⟩, fun hw => (by simp [Region.wanted] at hw)⟩
                    clear hI
                    generalize aq.eval = ρ at *
                    simp [go_sem, d0, d4, hfn]
                  · injection ho with ho
                    subst ho
                    have d5 : aq.eval (.tmp 211) = .bool true := hdep ⟨5, .data⟩ (by simp) rfl _ _ rfl rfl
                    clear hdep hgd
                    refine ⟨fun _ => .inl ?_, fun hw => (by simp [Region.wanted] at hw)⟩
                    clear hI
                    generalize aq.eval = ρ at *
                    simp [go_sem, d5]
                  · injection ho with ho
                    subst ho
                    have d6 : aq.eval (.tmp 212) = .bool false := hdep ⟨6, .data⟩ (by simp) rfl _ _ rfl rfl
                    clear hdep hgd
                    refine ⟨fun _ => .inl ?_, fun hw => (by simp [Region.wanted] at hw)⟩
                    clear hI
                    generalize aq.eval = ρ at *
                    simp [go_sem, d6]
                  · injection ho with ho
                    subst ho
                    have h8 : aq.tmps.getD 213 undef = .bool false := hdep ⟨7, .guard⟩ (by simp) rfl _ _ rfl rfl
                    have hwd := hgd 7 false rfl _ _ rfl rfl false h8
                    clear hdep hgd
                    refine ⟨fun _ => .inl ?_, fun hw => (by rw [hwd] at hw; cases hw)⟩
                    clear h8 hwd
                    clear hI
                    generalize aq.eval = ρ at *
                    simp [go_sem, r22]
                  · injection ho with ho
                    subst ho
                    have d8 : aq.eval (.tmp 214) = .int .i64 (m : Int) := hdep ⟨8, .data⟩ (by simp) rfl _ _ rfl rfl
                    have h8 : aq.tmps.getD 213 undef = .bool false := hdep ⟨7, .guard⟩ (by simp) rfl _ _ rfl rfl
                    have hwd := hgd 7 false rfl _ _ rfl rfl false h8
                    clear hdep hgd
                    refine ⟨fun _ => .inl ?_, fun hw => (by rw [hwd] at hw; cases hw)⟩
                    clear h8 hwd
                    clear hI
                    generalize aq.eval = ρ at *
                    simp [go_sem, d8, hc, i6]
                  · injection ho with ho
                    subst ho
                    have d9 : aq.eval (.tmp 215) = .bool false := hdep ⟨9, .data⟩ (by simp) rfl _ _ rfl rfl
                    have h8 : aq.tmps.getD 213 undef = .bool false := hdep ⟨7, .guard⟩ (by simp) rfl _ _ rfl rfl
                    have hwd := hgd 7 false rfl _ _ rfl rfl false h8
                    clear hdep hgd
                    refine ⟨fun _ => .inl ?_, fun hw => (by rw [hwd] at hw; cases hw)⟩
                    clear h8 hwd
                    clear hI
                    generalize aq.eval = ρ at *
                    simp [go_sem, d9]
                  · injection ho with ho
                    subst ho
                    have h8 : aq.tmps.getD 216 undef = .bool false := hdep ⟨10, .guard⟩ (by simp) rfl _ _ rfl rfl
                    have hwd := hgd 10 true rfl _ _ rfl rfl false h8
                    exact ⟨fun hw => (by rw [hwd] at hw; cases hw), fun _ => rfl⟩
                  · injection ho with ho
                    subst ho
                    have h8 : aq.tmps.getD 216 undef = .bool false := hdep ⟨10, .guard⟩ (by simp) rfl _ _ rfl rfl
                    have hwd := hgd 10 true rfl _ _ rfl rfl false h8
                    exact ⟨fun hw => (by rw [hwd] at hw; cases hw), fun _ => rfl⟩
                  · injection ho with ho
                    subst ho
                    have h8 : aq.tmps.getD 216 undef = .bool false := hdep ⟨10, .guard⟩ (by simp) rfl _ _ rfl rfl
                    have hwd := hgd 10 true rfl _ _ rfl rfl false h8
                    exact ⟨fun hw => (by rw [hwd] at hw; cases hw), fun _ => rfl⟩
                  · injection ho with ho
                    subst ho
                    have h8 : aq.tmps.getD 216 undef = .bool false := hdep ⟨10, .guard⟩ (by simp) rfl _ _ rfl rfl
                    have hwd := hgd 10 true rfl _ _ rfl rfl false h8
                    exact ⟨fun hw => (by rw [hwd] at hw; cases hw), fun _ => rfl⟩
                  · injection ho with ho
                    subst ho
                    have h8 : aq.tmps.getD 216 undef = .bool false := hdep ⟨10, .guard⟩ (by simp) rfl _ _ rfl rfl
                    have hwd := hgd 10 true rfl _ _ rfl rfl false h8
                    exact ⟨fun hw => (by rw [hwd] at hw; cases hw), fun _ => rfl⟩
                  · injection ho with ho
                    subst ho
                    have h8 : aq.tmps.getD 216 undef = .bool false := hdep ⟨10, .guard⟩ (by simp) rfl _ _ rfl rfl
                    have hwd := hgd 10 true rfl _ _ rfl rfl false h8
                    exact ⟨fun hw => (by rw [hwd] at hw; cases hw), fun _ => rfl⟩
                  · injection ho with ho
                    subst ho
                    have h8 : aq.tmps.getD 216 undef = .bool false := hdep ⟨10, .guard⟩ (by simp) rfl _ _ rfl rfl
                    have hwd := hgd 10 true rfl _ _ rfl rfl false h8
                    exact ⟨fun hw => (by rw [hwd] at hw; cases hw), fun _ => rfl⟩
                  · injection ho with ho
                    subst ho
                    have h8 : aq.tmps.getD 216 undef = .bool false := hdep ⟨10, .guard⟩ (by simp) rfl _ _ rfl rfl
                    have hwd := hgd 10 true rfl _ _ rfl rfl false h8
                    exact ⟨fun hw => (by rw [hwd] at hw; cases hw), fun _ => rfl⟩
                  · injection ho with ho
                    subst ho
                    have h8 : aq.tmps.getD 216 undef = .bool false := hdep ⟨10, .guard⟩ (by simp) rfl _ _ rfl rfl
                    have hwd := hgd 10 true rfl _ _ rfl rfl false h8
                    exact ⟨fun hw => (by rw [hwd] at hw; cases hw), fun _ => rfl⟩
                  · injection ho with ho
                    subst ho
                    have h8 : aq.tmps.getD 216 undef = .bool false := hdep ⟨10, .guard⟩ (by simp) rfl _ _ rfl rfl
                    have hwd := hgd 10 true rfl _ _ rfl rfl false h8
                    exact ⟨fun hw => (by rw [hwd] at hw; cases hw), fun _ => rfl⟩
                  · injection ho with ho
                    subst ho
                    have d10 : aq.eval (.tmp 216) = .bool false := hdep ⟨10, .data⟩ (by simp) rfl _ _ rfl rfl
                    have h8 : aq.tmps.getD 213 undef = .bool false := hdep ⟨7, .guard⟩ (by simp) rfl _ _ rfl rfl
                    have hwd := hgd 7 false rfl _ _ rfl rfl false h8
                    clear hdep hgd
                    refine ⟨fun _ => .inl ?_, fun hw => (by rw [hwd] at hw; cases hw)⟩
                    clear h8 hwd
                    clear hI
                    generalize aq.eval = ρ at *
                    simp [go_sem, d10, hc]
                  · injection ho with ho
                    subst ho
                    have d7 : aq.eval (.tmp 213) = .bool false := hdep ⟨7, .data⟩ (by simp) rfl _ _ rfl rfl
                    have d21 : aq.eval (.tmp 227) = .bool false := hdep ⟨21, .data⟩ (by simp) rfl _ _ rfl rfl
                    clear hdep hgd
                    refine ⟨fun _ => .inl ?_, fun hw => (by simp [Region.wanted] at hw)⟩
                    clear hI
                    generalize aq.eval = ρ at *
                    simp [go_sem, d7, d21]
                  · simp at ho
                intro wx hb
                simp only [putAll, Act.put, List.setIfInBounds_toArray, List.set_cons_zero, List.set_cons_succ, Nat.reduceAdd]
                go_wp2_with fail
                go_roundg g
                case measure => omega
                case rel => exact ⟨m + 1, by have := HG.out; omega, by go_num, HBW.out.trans (hb.mono HBW.out.size)⟩
              · have i6 : 0 < m := by omega
                have ep := hep i6
                have hlt := hy2 i6
                have i7 : ¬ y ≤ bl.getD (m - 1) 0 := by omega
                have u1 : ((m : Int) - 1).toNat = m - 1 := by omega
                have u2 : IntKind.i64.wrap ((m : Int) - 1) = (m : Int) - 1 := IntWalk.i64_in _ (by omega)
                have u4 : (m : Int) - 1 < (bl.length : Int) := by omega
                have u5 : ¬ (m : Int) < 1 := by omega
                clear hy2 hlt hep
                generalize bl.getD (m - 1) 0 = z at *
                go_wp2_with fail
                refine region_calls (w0 := wr) (fun jq => match jq with | 0 => .slice Ai sv.length ci | 1 => .slice (some ⟨bb, offb, none⟩) bl.length cb | 2 => .int .i64 (m : Int) | 3 => .pointer (some ⟨bb, offb + m, none⟩) | 4 => .int .i64 y | 5 => .bool true | 6 => .bool false | 7 => .bool false | 8 => .int .i64 (m : Int) | 9 => .bool true | 10 => .bool true | 11 => .slice (some ⟨bb, offb, none⟩) bl.length cb | 12 => .int .i64 (m : Int) | 13 => .pointer (some ⟨bb, offb + m, none⟩) | 14 => .int .i64 y | 15 => .slice (some ⟨bb, offb, none⟩) bl.length cb | 16 => .int .i64 (m : Int) | 17 => .int .i64 ((m : Int) - 1) | 18 => .pointer (some ⟨bb, offb + (m - 1), none⟩) | 19 => .int .i64 z | 20 => .bool false | 21 => .bool false | 22 => .bool false | _ => undef) (by kernel_rfl) (by kernel_rfl) ?_ ?_
                · intro iq oq ho aq W hI hdep hrest hgd
                  have r11 : aq.eval (.tmp 11) = .slice Ai sv.length ci := hrest 11 (apart_of (by kernel_rfl))
                  have r5 : aq.eval (.tmp 5) = .slice (some ⟨bb, offb, none⟩) bl.length cb := hrest 5 (apart_of (by kernel_rfl))
                  have r22 : aq.eval (.tmp 22) = .int .i64 (m : Int) := hrest 22 (apart_of (by kernel_rfl))
                  have hc : ∀ v, aq.eval (.const v) = v := fun _ => rfl
                  have hfn : ∀ f, aq.eval (.func f) = .func (.func f) #[] #[] := fun _ => rfl
                  clear hrest
                  rcases iq with _ | _ | _ | _ | _ | _ | _ | _ | _ | _ | _ | _ | _ | _ | _ | _ | _ | _ | _ | _ | _ | _ | _ | iq
                  · injection ho with ho
                    subst ho
                    clear hdep hgd
                    refine ⟨fun _ => .inl ?_, fun hw => (by simp [Region.wanted] at hw)⟩
                    clear hI
                    generalize aq.eval = ρ at *
                    simp [go_sem, r11]
                  · injection ho with ho
                    subst ho
                    clear hdep hgd
                    refine ⟨fun _ => .inl ?_, fun hw => (by simp [Region.wanted] at hw)⟩
                    clear hI
                    generalize aq.eval = ρ at *
                    simp [go_sem, r5]
                  · injection ho with ho
                    subst ho
                    clear hdep hgd
                    refine ⟨fun _ => .inl ?_, fun hw => (by simp [Region.wanted] at hw)⟩
                    clear hI
                    generalize aq.eval = ρ at *
                    simp [go_sem, r22]
                  · injection ho with ho
                    subst ho
                    have d1 : aq.eval (.tmp 207) = .slice (some ⟨bb, offb, none⟩) bl.length cb := hdep ⟨1, .data⟩ (by simp) rfl _ _ rfl rfl
                    have d2 : aq.eval (.tmp 208) = .int .i64 (m : Int) := hdep ⟨2, .data⟩ (by simp) rfl _ _ rfl rfl
                    clear hdep hgd
                    refine ⟨fun _ => .inl ?_, fun hw => (by simp [Region.wanted] at hw)⟩
                    clear hI
                    generalize aq.eval = ρ at *
                    simp [go_sem, d1, d2, hm]
                  · injection ho with ho
                    subst ho
                    have d3 : aq.eval (.tmp 209) = .pointer (some ⟨bb, offb + m, none⟩) := hdep ⟨3, .data⟩ (by simp) rfl _ _ rfl rfl
                    clear hdep hgd
                    have x0 := (hI.cell (p := ⟨bb, offb + m, none⟩) hbb).trans eb
                    refine ⟨fun _ => .inl ?_, fun hw => (by simp [Region.wanted] at hw)⟩
                    clear hI
                    generalize aq.eval = ρ at *
                    simp [go_sem, d3, x0]
                  · injection ho with ho
                    subst ho
                    have d0 : aq.eval (.tmp 206) = .slice Ai sv.length ci := hdep ⟨0, .data⟩ (by simp) rfl _ _ rfl rfl
                    have d4 : aq.eval (.tmp 210) = .int .i64 y := hdep ⟨4, .data⟩ (by simp) rfl _ _ rfl rfl
                    clear hdep hgd
                    refine ⟨fun _ => .inr ⟨29, #[.slice Ai sv.length ci, .int .i64 y], ?_, KH.out W (HIX.out.upto hI)⟩, fun hw => (by simp [Region.wanted] at hw)⟩
                    clear hI
                    generalize aq.eval = ρ at *
                    simp [go_sem, d0, d4, hfn]
                  · injection ho with ho
                    subst ho
                    have d5 : aq.eval (.tmp 211) = .bool true := hdep ⟨5, .data⟩ (by simp) rfl _ _ rfl rfl
                    clear hdep hgd
                    refine ⟨fun _ => .inl ?_, fun hw => (by simp [Region.wanted] at hw)⟩
                    clear hI
                    generalize aq.eval = ρ at *
                    simp [go_sem, d5]
                  · injection ho with ho
                    subst ho
                    have d6 : aq.eval (.tmp 212) = .bool false := hdep ⟨6, .data⟩ (by simp) rfl _ _ rfl rfl
                    clear hdep hgd
                    refine ⟨fun _ => .inl ?_, fun hw => (by simp [Region.wanted] at hw)⟩
                    clear hI
                    generalize aq.eval = ρ at *
                    simp [go_sem, d6]
                  · injection ho with ho
                    subst ho
                    have h8 : aq.tmps.getD 213 undef = .bool false := hdep ⟨7, .guard⟩ (by simp) rfl _ _ rfl rfl
                    have hwd := hgd 7 false rfl _ _ rfl rfl false h8
                    clear hdep hgd
                    refine ⟨fun _ => .inl ?_, fun hw => (by rw [hwd] at hw; cases hw)⟩
                    clear h8 hwd
                    clear hI
                    generalize aq.eval = ρ at *
                    simp [go_sem, r22]
                  · injection ho with ho
                    subst ho
                    have d8 : aq.eval (.tmp 214) = .int .i64 (m : Int) := hdep ⟨8, .data⟩ (by simp) rfl _ _ rfl rfl
                    have h8 : aq.tmps.getD 213 undef = .bool false := hdep ⟨7, .guard⟩ (by simp) rfl _ _ rfl rfl
                    have hwd := hgd 7 false rfl _ _ rfl rfl false h8
                    clear hdep hgd
                    refine ⟨fun _ => .inl ?_, fun hw => (by rw [hwd] at hw; cases hw)⟩
                    clear h8 hwd
                    clear hI
                    generalize aq.eval = ρ at *
                    simp [go_sem, d8, hc, i6]
                  · injection ho with ho
                    subst ho
                    have d9 : aq.eval (.tmp 215) = .bool true := hdep ⟨9, .data⟩ (by simp) rfl _ _ rfl rfl
                    have h8 : aq.tmps.getD 213 undef = .bool false := hdep ⟨7, .guard⟩ (by simp) rfl _ _ rfl rfl
                    have hwd := hgd 7 false rfl _ _ rfl rfl false h8
                    clear hdep hgd
                    refine ⟨fun _ => .inl ?_, fun hw => (by rw [hwd] at hw; cases hw)⟩
                    clear h8 hwd
                    clear hI
                    generalize aq.eval = ρ at *
                    simp [go_sem, d9]
                  · injection ho with ho
                    subst ho
                    have h8 : aq.tmps.getD 216 undef = .bool true := hdep ⟨10, .guard⟩ (by simp) rfl _ _ rfl rfl
                    have hwd := hgd 10 true rfl _ _ rfl rfl true h8
                    clear hdep hgd
                    refine ⟨fun _ => .inl ?_, fun hw => (by rw [hwd] at hw; cases hw)⟩
                    clear h8 hwd
                    clear hI
                    generalize aq.eval = ρ at *
                    simp [go_sem, r5]
                  · injection ho with ho
                    subst ho
                    have h8 : aq.tmps.getD 216 undef = .bool true := hdep ⟨10, .guard⟩ (by simp) rfl _ _ rfl rfl
                    have hwd := hgd 10 true rfl _ _ rfl rfl true h8
                    clear hdep hgd
                    refine ⟨fun _ => .inl ?_, fun hw => (by rw [hwd] at hw; cases hw)⟩
                    clear h8 hwd
                    clear hI
                    generalize aq.eval = ρ at *
                    simp [go_sem, r22]
                  · injection ho with ho
                    subst ho
                    have d11 : aq.eval (.tmp 217) = .slice (some ⟨bb, offb, none⟩) bl.length cb := hdep ⟨11, .data⟩ (by simp) rfl _ _ rfl rfl
                    have d12 : aq.eval (.tmp 218) = .int .i64 (m : Int) := hdep ⟨12, .data⟩ (by simp) rfl _ _ rfl rfl
                    have h8 : aq.tmps.getD 216 undef = .bool true := hdep ⟨10, .guard⟩ (by simp) rfl _ _ rfl rfl
                    have hwd := hgd 10 true rfl _ _ rfl rfl true h8
                    clear hdep hgd
                    refine ⟨fun _ => .inl ?_, fun hw => (by rw [hwd] at hw; cases hw)⟩
                    clear h8 hwd
                    clear hI
                    generalize aq.eval = ρ at *
                    simp [go_sem, d11, d12, hm]
                  · injection ho with ho
                    subst ho
                    have d13 : aq.eval (.tmp 219) = .pointer (some ⟨bb, offb + m, none⟩) := hdep ⟨13, .data⟩ (by simp) rfl _ _ rfl rfl
                    have h8 : aq.tmps.getD 216 undef = .bool true := hdep ⟨10, .guard⟩ (by simp) rfl _ _ rfl rfl
                    have hwd := hgd 10 true rfl _ _ rfl rfl true h8
                    clear hdep hgd
                    have x0 := (hI.cell (p := ⟨bb, offb + m, none⟩) hbb).trans eb
                    refine ⟨fun _ => .inl ?_, fun hw => (by rw [hwd] at hw; cases hw)⟩
                    clear h8 hwd
                    clear hI
                    generalize aq.eval = ρ at *
                    simp [go_sem, d13, x0]
                  · injection ho with ho
                    subst ho
                    have h8 : aq.tmps.getD 216 undef = .bool true := hdep ⟨10, .guard⟩ (by simp) rfl _ _ rfl rfl
                    have hwd := hgd 10 true rfl _ _ rfl rfl true h8
                    clear hdep hgd
                    refine ⟨fun _ => .inl ?_, fun hw => (by rw [hwd] at hw; cases hw)⟩
                    clear h8 hwd
                    clear hI
                    generalize aq.eval = ρ at *
                    simp [go_sem, r5]
                  · injection ho with ho
                    subst ho
                    have h8 : aq.tmps.getD 216 undef = .bool true := hdep ⟨10, .guard⟩ (by simp) rfl _ _ rfl rfl
                    have hwd := hgd 10 true rfl _ _ rfl rfl true h8
                    clear hdep hgd
                    refine ⟨fun _ => .inl ?_, fun hw => (by rw [hwd] at hw; cases hw)⟩
                    clear h8 hwd
                    clear hI
                    generalize aq.eval = ρ at *
                    simp [go_sem, r22]
                  · injection ho with ho
                    subst ho
                    have d16 : aq.eval (.tmp 222) = .int .i64 (m : Int) := hdep ⟨16, .data⟩ (by simp) rfl _ _ rfl rfl
                    have h8 : aq.tmps.getD 216 undef = .bool true := hdep ⟨10, .guard⟩ (by simp) rfl _ _ rfl rfl
                    have hwd := hgd 10 true rfl _ _ rfl rfl true h8
                    clear hdep hgd
                    refine ⟨fun _ => .inl ?_, fun hw => (by rw [hwd] at hw; cases hw)⟩
                    clear h8 hwd
                    clear hI
                    generalize aq.eval = ρ at *
                    simp [go_sem, d16, hc, u2]
                  · injection ho with ho
                    subst ho
                    have d15 : aq.eval (.tmp 221) = .slice (some ⟨bb, offb, none⟩) bl.length cb := hdep ⟨15, .data⟩ (by simp) rfl _ _ rfl rfl
                    have d17 : aq.eval (.tmp 223) = .int .i64 ((m : Int) - 1) := hdep ⟨17, .data⟩ (by simp) rfl _ _ rfl rfl
                    have h8 : aq.tmps.getD 216 undef = .bool true := hdep ⟨10, .guard⟩ (by simp) rfl _ _ rfl rfl
                    have hwd := hgd 10 true rfl _ _ rfl rfl true h8
                    clear hdep hgd
                    refine ⟨fun _ => .inl ?_, fun hw => (by rw [hwd] at hw; cases hw)⟩
                    clear h8 hwd
                    clear hI
                    generalize aq.eval = ρ at *
                    simp [go_sem, d15, d17, u1, u4, u5]
                  · injection ho with ho
                    subst ho
                    have d18 : aq.eval (.tmp 224) = .pointer (some ⟨bb, offb + (m - 1), none⟩) := hdep ⟨18, .data⟩ (by simp) rfl _ _ rfl rfl
                    have h8 : aq.tmps.getD 216 undef = .bool true := hdep ⟨10, .guard⟩ (by simp) rfl _ _ rfl rfl
                    have hwd := hgd 10 true rfl _ _ rfl rfl true h8
                    clear hdep hgd
                    have x0 := (hI.cell (p := ⟨bb, offb + (m - 1), none⟩) hbb).trans ep
                    refine ⟨fun _ => .inl ?_, fun hw => (by rw [hwd] at hw; cases hw)⟩
                    clear h8 hwd
                    clear hI
                    generalize aq.eval = ρ at *
                    simp [go_sem, d18, x0]
                  · injection ho with ho
                    subst ho
                    have d14 : aq.eval (.tmp 220) = .int .i64 y := hdep ⟨14, .data⟩ (by simp) rfl _ _ rfl rfl
                    have d19 : aq.eval (.tmp 225) = .int .i64 z := hdep ⟨19, .data⟩ (by simp) rfl _ _ rfl rfl
                    have h8 : aq.tmps.getD 216 undef = .bool true := hdep ⟨10, .guard⟩ (by simp) rfl _ _ rfl rfl
                    have hwd := hgd 10 true rfl _ _ rfl rfl true h8
                    clear hdep hgd
                    refine ⟨fun _ => .inl ?_, fun hw => (by rw [hwd] at hw; cases hw)⟩
                    clear h8 hwd
                    clear hI
                    generalize aq.eval = ρ at *
                    simp [go_sem, d14, d19, i7]
                  · injection ho with ho
                    subst ho
                    have d10 : aq.eval (.tmp 216) = .bool true := hdep ⟨10, .data⟩ (by simp) rfl _ _ rfl rfl
                    have d20 : aq.eval (.tmp 226) = .bool false := hdep ⟨20, .data⟩ (by simp) rfl _ _ rfl rfl
                    have h8 : aq.tmps.getD 213 undef = .bool false := hdep ⟨7, .guard⟩ (by simp) rfl _ _ rfl rfl
                    have hwd := hgd 7 false rfl _ _ rfl rfl false h8
                    clear hdep hgd
                    refine ⟨fun _ => .inl ?_, fun hw => (by rw [hwd] at hw; cases hw)⟩
                    clear h8 hwd
                    clear hI
                    generalize aq.eval = ρ at *
                    simp [go_sem, d10, d20]
                  · injection ho with ho
                    subst ho
                    have d7 : aq.eval (.tmp 213) = .bool false := hdep ⟨7, .data⟩ (by simp) rfl _ _ rfl rfl
                    have d21 : aq.eval (.tmp 227) = .bool false := hdep ⟨21, .data⟩ (by simp) rfl _ _ rfl rfl
                    clear hdep hgd
                    refine ⟨fun _ => .inl ?_, fun hw => (by simp [Region.wanted] at hw)⟩
                    clear hI
                    generalize aq.eval = ρ at *
                    simp [go_sem, d7, d21]
                  · simp at ho
                intro wx hb
                simp only [putAll, Act.put, List.setIfInBounds_toArray, List.set_cons_zero, List.set_cons_succ, Nat.reduceAdd]
                clear u2
                go_wp2_with fail
                go_roundg g
                case measure => omega
                case rel => exact ⟨m + 1, by have := HG.out; omega, by go_num, HBW.out.trans (hb.mono HBW.out.size)⟩
        | succ g =>
          have hk : k < sv.length := by omega
          have HG := Lib.hid hkg
          clear hkg
          obtain ⟨x, hx1, hxl, hx2, hx3, hx4, hx5, hx6⟩ := HSV.out k hk
          obtain ⟨bi, offi, hAi, hbi, hci⟩ := HIi.out (by omega)
          subst hAi
          have ei := (HBX.out.cell (p := ⟨bi, offi + k, none⟩) hbi).trans (hci k hk)
          rw [hx1] at ei
          replace hbi : bi < wr.heap.size := Nat.lt_of_lt_of_le hbi hsx
          replace q0 := (HBX.out.cell (p := ⟨w.heap.size, 0, none⟩) hz).trans q0
          replace q1 := (HBX.out.cell (p := ⟨w.heap.size, 1, none⟩) hz).trans q1
          replace hz : w.heap.size < wr.heap.size := Nat.lt_of_lt_of_le hz hsx
          replace HR := Lib.hid (HR.out.upto HBX.out)
          replace HL := Lib.hid (HL.out.upto HBX.out)
          replace HO := Lib.hid (HO.out.upto HBX.out)
          replace HIb := Lib.hid (HIb.out.upto HBX.out)
          replace HIt := Lib.hid (HIt.out.upto HBX.out)
          have i1 : ¬ (x : Int) < 0 := by omega
          have HX2 := Lib.hid hx2
          have HX3 := Lib.hid hx3
          have HX4 := Lib.hid hx4
          have HX5 := Lib.hid hx5
          have HX6 := Lib.hid hx6
          clear hci hx1 hx2 hx3 hx4 hx5 hx6 HIi
          generalize wr = wd at *
          go_wp2_with fail
          go_loopg [16, 17] rows.length (fun g s16 s17 wr => ∃ (d : Nat) (bu : Bool), d + g = rows.length ∧ s17 = .int .i64 d ∧ s16 = .bool bu ∧ ((rows.take d).any fun r => r.getD x 0 != 0) = bu ∧ Below wd.heap.size wd wr)
          case atStart => exact ⟨0, false, by omega, rfl, rfl, rfl, Below.refl _ _⟩
          case round =>
            obtain ⟨d, bu, hdg, rfl, rfl, hbu, hbz⟩ := hrel
            have HBZ := Lib.hid hbz
            have hsz := hbz.size
            have HBU := Lib.hid hbu
            clear hbz hbu
            generalize wr = wx at *
            cases gk with
            | zero =>
              obtain rfl : d = rows.length := by omega
              clear hdg
              have hbu := HBU.out
              rw [List.take_length] at hbu
              replace ei := (HBZ.out.cell (p := ⟨bi, offi + k, none⟩) hbi).trans ei
              replace hbi : bi < wx.heap.size := Nat.lt_of_lt_of_le hbi hsz
              replace q0 := (HBZ.out.cell (p := ⟨w.heap.size, 0, none⟩) hz).trans q0
              replace q1 := (HBZ.out.cell (p := ⟨w.heap.size, 1, none⟩) hz).trans q1
              replace hz : w.heap.size < wx.heap.size := Nat.lt_of_lt_of_le hz hsz
              replace HL := Lib.hid (HL.out.upto HBZ.out)
              replace HO := Lib.hid (HO.out.upto HBZ.out)
              replace HIb := Lib.hid (HIb.out.upto HBZ.out)
              replace HIt := Lib.hid (HIt.out.upto HBZ.out)
              have HB9 := Lib.hid (HBX.out.trans (HBZ.out.mono HBX.out.size))
              have hu1 := HX4.out
              rw [hbu] at hu1
              obtain ⟨hun1, hun2⟩ := HX3.out
              have ku := fun X cx W ho hx => union_any O X co cx out [(x : Int)] W ho hx (by omega) (by simp)
              rw [hun1, hun2] at ku
              have hul : (unionL out [(x : Int)]).length ≤ 1000000 := HX6.out.1
              have kn2 := fun X cx W hl hi => count_any nb A X c cx ls (unionL out [(x : Int)]) W hl hi (by omega) hul
              rw [HX6.out.2] at kn2
              have hcnt := HX2.out
              have kh := fun W hO => has16_any Ab cb bl (x : Int) W W.heap.size hO (by omega)
              have kt := fun W hO => has16_any At ct tl (x : Int) W W.heap.size hO (by omega)
              have ht := HX5.out
              generalize unionL out [(x : Int)] = un at *
              have KU := Lib.hid ku
              clear ku hun1 hun2 HX2 HX3 HX4 HX5 HX6 HBU HBX HBZ HR hsz hbu
              have hw1 : IntKind.i64.wrap (kn + 1) = kn + 1 := IntWalk.i64_in _ (by omega)
              cases hh : hasB bl (x : Int) with
              | true =>
                rw [hh] at hcnt hu1 kh
                rw [ht hh] at kt
                have hm : cntL nb ls un = kn + 1 := of_decide_eq_true hcnt.symm
                rw [hm] at kn2
                obtain rfl : bu = false := by cases bu; rfl; cases hu1
                have KN2 := Lib.hid kn2
                have KH := Lib.hid kh
                have KT2 := Lib.hid kt
                clear kn2 kh kt hm hcnt hh ht hu1
                have HXL := Lib.hid (IntsR.litU wx 3 [(x : Int)] #[.int .i64 (x : Int)] rfl)
                have hb := (Below.refl wx.heap.size wx).alloc (Nat.le_refl _) (.cells #[.int .i64 (x : Int)] 3)
                have HB91 := Lib.hid (HB9.out.trans (hb.mono HB9.out.size))
                have HO1 := Lib.hid (HO.out.upto hb)
                go_wp2_with fail
                refine (KU.out _ _ _ HO1.out HXL.out).mono ?_
                rintro e w91 ⟨v, rfl, hown, hb1⟩
                obtain ⟨Au, cu, rfl, hI⟩ := ownsRow_ints hown
                have HIu := Lib.hid hI
                have hb12 := hb.trans (hb1.mono hb.size)
                replace HL := Lib.hid (HL.out.upto hb12)
                replace HIb := Lib.hid (HIb.out.upto hb12)
                replace HIt := Lib.hid (HIt.out.upto hb12)
                replace ei := (hb12.cell (p := ⟨bi, offi + k, none⟩) hbi).trans ei
                replace q0 := (hb12.cell (p := ⟨w.heap.size, 0, none⟩) hz).trans q0
                replace q1 := (hb12.cell (p := ⟨w.heap.size, 1, none⟩) hz).trans q1
                replace hbi : bi < w91.heap.size := Nat.lt_of_lt_of_le hbi hb12.size
                replace hz : w.heap.size < w91.heap.size := Nat.lt_of_lt_of_le hz hb12.size
                have HB92 := Lib.hid (HB9.out.trans (hb12.mono HB9.out.size))
                clear hown hI hb hb1 hb12 HXL HB91 HO1 HO
                go_wp2_with fail
                refine (KN2.out _ _ _ HL.out HIu.out).mono ?_
                rintro e w92 ⟨rfl, hb⟩
                replace HIb := Lib.hid (HIb.out.upto hb)
                replace HIt := Lib.hid (HIt.out.upto hb)
                replace ei := (hb.cell (p := ⟨bi, offi + k, none⟩) hbi).trans ei
                have HB93 := Lib.hid (HB92.out.trans (hb.mono HB92.out.size))
                clear hb HB92 q0 q1 HL
                go_wp2_with fail
                refine (KH.out _ HIb.out).mono ?_
                rintro e w' ⟨rfl, rfl⟩
                go_wp2_with fail
                refine (KH.out _ HIb.out).mono ?_
                rintro e w' ⟨rfl, rfl⟩
                go_wp2_with fail
                refine (KH.out _ HIb.out).mono ?_
                rintro e w' ⟨rfl, rfl⟩
                go_wp2_with fail
                refine (KT2.out _ HIt.out).mono ?_
                rintro e w' ⟨rfl, rfl⟩
                go_wp2_with fail
                go_roundg g
                case measure => omega
                case rel => exact ⟨k + 1, by have := HG.out; omega, by go_num, HB93.out⟩
              | false =>
                rw [hh] at hcnt hu1 kh
                have hm : ¬ cntL nb ls un = kn + 1 := of_decide_eq_false hcnt.symm
                have hm2 : (cntL nb ls un == kn + 1) = false := by simpa using hm
                generalize cntL nb ls un = km at *
                obtain rfl : bu = true := by cases bu; cases hu1; rfl
                have KN2 := Lib.hid kn2
                have KH := Lib.hid kh
                clear kn2 kh kt hm hcnt hh ht hu1
                have HXL := Lib.hid (IntsR.litU wx 3 [(x : Int)] #[.int .i64 (x : Int)] rfl)
                have hb := (Below.refl wx.heap.size wx).alloc (Nat.le_refl _) (.cells #[.int .i64 (x : Int)] 3)
                have HB91 := Lib.hid (HB9.out.trans (hb.mono HB9.out.size))
                have HO1 := Lib.hid (HO.out.upto hb)
                go_wp2_with fail
                refine (KU.out _ _ _ HO1.out HXL.out).mono ?_
                rintro e w91 ⟨v, rfl, hown, hb1⟩
                obtain ⟨Au, cu, rfl, hI⟩ := ownsRow_ints hown
                have HIu := Lib.hid hI
                have hb12 := hb.trans (hb1.mono hb.size)
                replace HL := Lib.hid (HL.out.upto hb12)
                replace HIb := Lib.hid (HIb.out.upto hb12)
                replace HIt := Lib.hid (HIt.out.upto hb12)
                replace ei := (hb12.cell (p := ⟨bi, offi + k, none⟩) hbi).trans ei
                replace q0 := (hb12.cell (p := ⟨w.heap.size, 0, none⟩) hz).trans q0
                replace q1 := (hb12.cell (p := ⟨w.heap.size, 1, none⟩) hz).trans q1
                replace hbi : bi < w91.heap.size := Nat.lt_of_lt_of_le hbi hb12.size
                replace hz : w.heap.size < w91.heap.size := Nat.lt_of_lt_of_le hz hb12.size
                have HB92 := Lib.hid (HB9.out.trans (hb12.mono HB9.out.size))
                clear hown hI hb hb1 hb12 HXL HB91 HO1 HO
                go_wp2_with fail
                refine (KN2.out _ _ _ HL.out HIu.out).mono ?_
                rintro e w92 ⟨rfl, hb⟩
                replace HIb := Lib.hid (HIb.out.upto hb)
                replace HIt := Lib.hid (HIt.out.upto hb)
                replace ei := (hb.cell (p := ⟨bi, offi + k, none⟩) hbi).trans ei
                have HB93 := Lib.hid (HB92.out.trans (hb.mono HB92.out.size))
                clear hb HB92 q0 q1 HL
                go_wp2_with fail
                refine (KH.out _ HIb.out).mono ?_
                rintro e w' ⟨rfl, rfl⟩
                go_wp2_with fail
                refine (KH.out _ HIb.out).mono ?_
                rintro e w' ⟨rfl, rfl⟩
                go_wp2_with fail
                refine (KH.out _ HIb.out).mono ?_
                rintro e w' ⟨rfl, rfl⟩
                go_wp2_with fail
                go_roundg g
                case measure => omega
                case rel => exact ⟨k + 1, by have := HG.out; omega, by go_num, HB93.out⟩
            | succ g2 =>
              have hdr : d < rows.length := by omega
              have HG2 := Lib.hid hdg
              clear hdg
              obtain ⟨br, offr, hAr, hbr, hcr⟩ := HR.out (by omega)
              subst hAr
              obtain ⟨Aq, cq, er, hIq⟩ := hcr d hdr
              have hrl := HRL.out d hdr
              obtain ⟨bq, offq, hAq, hbq, hcq⟩ := hIq (by omega)
              subst hAq
              have ex := hcq x (by omega)
              rw [hrl] at er
              have HAT := Lib.hid (any_take rows x d hdr)
              have hi1 := HBZ.out
              replace er := (hi1.cell (p := ⟨br, offr + d, none⟩) hbr).trans er
              replace ei := (hi1.cell (p := ⟨bi, offi + k, none⟩) hbi).trans ei
              replace ex := (hi1.cell (p := ⟨bq, offq + x, none⟩) hbq).trans ex
              replace q1 := (hi1.cell (p := ⟨w.heap.size, 1, none⟩) hz).trans q1
              replace hbr : br < wx.heap.size := Nat.lt_of_lt_of_le hbr hsz
              replace hbi : bi < wx.heap.size := Nat.lt_of_lt_of_le hbi hsz
              replace hbq : bq < wx.heap.size := Nat.lt_of_lt_of_le hbq hsz
              replace hz : w.heap.size < wx.heap.size := Nat.lt_of_lt_of_le hz hsz
              clear hcr hcq hIq hi1 hrl HL HO HIb HIt q0 HX2 HX3 HX4 HX5 HX6 hsz
              generalize hv0 : (rows.getD d []).getD x 0 = v at *
              clear hv0
              go_wp2_with fail
              refine region_calls (w0 := wx) (fun jq => match jq with | 0 => .slice (some ⟨br, offr, none⟩) rows.length cr | 1 => .int .i64 (d : Int) | 2 => .pointer (some ⟨br, offr + d, none⟩) | 3 => .slice (some ⟨bq, offq, none⟩) ls.length cq | 4 => .int .i64 (ls.length : Int) | 5 => .pointer (some ⟨w.heap.size, 1, none⟩) | 6 => .slice A ls.length c | 7 => .int .i64 (ls.length : Int) | 8 => .bool false | 9 => .bool false | 10 => .slice (some ⟨bi, offi, none⟩) sv.length ci | 11 => .int .i64 (k : Int) | 12 => .pointer (some ⟨bi, offi + k, none⟩) | 13 => .int .i64 (x : Int) | 14 => .bool false | 15 => .bool false | 16 => .bool false | 17 => .slice (some ⟨bi, offi, none⟩) sv.length ci | 18 => .int .i64 (k : Int) | 19 => .pointer (some ⟨bi, offi + k, none⟩) | 20 => .int .i64 (x : Int) | 21 => .pointer (some ⟨w.heap.size, 1, none⟩) | 22 => .slice A ls.length c | 23 => .int .i64 (ls.length : Int) | 24 => .bool false | 25 => .bool false | _ => undef) (by kernel_rfl) (by kernel_rfl) ?_ ?_
              · intro iq oq ho aq W hI hdep hrest hgd
                have r9 : aq.eval (.tmp 9) = .slice (some ⟨br, offr, none⟩) rows.length cr := hrest 9 (apart_of (by kernel_rfl))
                have r17 : aq.eval (.tmp 17) = .int .i64 (d : Int) := hrest 17 (apart_of (by kernel_rfl))
                have r2 : aq.eval (.tmp 2) = .pointer (some ⟨w.heap.size, 0, none⟩) := hrest 2 (apart_of (by kernel_rfl))
                have r11 : aq.eval (.tmp 11) = .slice (some ⟨bi, offi, none⟩) sv.length ci := hrest 11 (apart_of (by kernel_rfl))
                have r15 : aq.eval (.tmp 15) = .int .i64 (k : Int) := hrest 15 (apart_of (by kernel_rfl))
                have hc : ∀ v, aq.eval (.const v) = v := fun _ => rfl
                have hfn : ∀ f, aq.eval (.func f) = .func (.func f) #[] #[] := fun _ => rfl
                clear hrest
                rcases iq with _ | _ | _ | _ | _ | _ | _ | _ | _ | _ | _ | _ | _ | _ | _ | _ | _ | _ | _ | _ | _ | _ | _ | _ | _ | _ | iq
                · injection ho with ho
                  subst ho
                  clear hdep hgd
                  refine ⟨fun _ => .inl ?_, fun hw => (by simp [Region.wanted] at hw)⟩
                  clear hI
                  generalize aq.eval = ρ at *
                  simp [go_sem, r9]
                · injection ho with ho
                  subst ho
                  clear hdep hgd
                  refine ⟨fun _ => .inl ?_, fun hw => (by simp [Region.wanted] at hw)⟩
                  clear hI
                  generalize aq.eval = ρ at *
                  simp [go_sem, r17]
                · injection ho with ho
                  subst ho
                  have d0 : aq.eval (.tmp 98) = .slice (some ⟨br, offr, none⟩) rows.length cr := hdep ⟨0, .data⟩ (by simp) rfl _ _ rfl rfl
                  have d1 : aq.eval (.tmp 99) = .int .i64 (d : Int) := hdep ⟨1, .data⟩ (by simp) rfl _ _ rfl rfl
                  clear hdep hgd
                  refine ⟨fun _ => .inl ?_, fun hw => (by simp [Region.wanted] at hw)⟩
                  clear hI
                  generalize aq.eval = ρ at *
                  simp [go_sem, d0, d1, hdr]
                · injection ho with ho
                  subst ho
                  have d2 : aq.eval (.tmp 100) = .pointer (some ⟨br, offr + d, none⟩) := hdep ⟨2, .data⟩ (by simp) rfl _ _ rfl rfl
                  clear hdep hgd
                  have x0 := (hI.cell (p := ⟨br, offr + d, none⟩) hbr).trans er
                  refine ⟨fun _ => .inl ?_, fun hw => (by simp [Region.wanted] at hw)⟩
                  clear hI
                  generalize aq.eval = ρ at *
                  simp [go_sem, d2, x0]
                · injection ho with ho
                  subst ho
                  have d3 : aq.eval (.tmp 101) = .slice (some ⟨bq, offq, none⟩) ls.length cq := hdep ⟨3, .data⟩ (by simp) rfl _ _ rfl rfl
                  clear hdep hgd
                  refine ⟨fun _ => .inl ?_, fun hw => (by simp [Region.wanted] at hw)⟩
                  clear hI
                  generalize aq.eval = ρ at *
                  simp [go_sem, d3]
                · injection ho with ho
                  subst ho
                  clear hdep hgd
                  refine ⟨fun _ => .inl ?_, fun hw => (by simp [Region.wanted] at hw)⟩
                  clear hI
                  generalize aq.eval = ρ at *
                  simp [go_sem, r2]
                · injection ho with ho
                  subst ho
                  have d5 : aq.eval (.tmp 103) = .pointer (some ⟨w.heap.size, 1, none⟩) := hdep ⟨5, .data⟩ (by simp) rfl _ _ rfl rfl
                  clear hdep hgd
                  have x0 := (hI.cell (p := ⟨w.heap.size, 1, none⟩) hz).trans q1
                  refine ⟨fun _ => .inl ?_, fun hw => (by simp [Region.wanted] at hw)⟩
                  clear hI
                  generalize aq.eval = ρ at *
                  simp [go_sem, d5, x0]
                · injection ho with ho
                  subst ho
                  have d6 : aq.eval (.tmp 104) = .slice A ls.length c := hdep ⟨6, .data⟩ (by simp) rfl _ _ rfl rfl
                  clear hdep hgd
                  refine ⟨fun _ => .inl ?_, fun hw => (by simp [Region.wanted] at hw)⟩
                  clear hI
                  generalize aq.eval = ρ at *
                  simp [go_sem, d6]
                · injection ho with ho
                  subst ho
                  have d4 : aq.eval (.tmp 102) = .int .i64 (ls.length : Int) := hdep ⟨4, .data⟩ (by simp) rfl _ _ rfl rfl
                  have d7 : aq.eval (.tmp 105) = .int .i64 (ls.length : Int) := hdep ⟨7, .data⟩ (by simp) rfl _ _ rfl rfl
                  clear hdep hgd
                  refine ⟨fun _ => .inl ?_, fun hw => (by simp [Region.wanted] at hw)⟩
                  clear hI
                  generalize aq.eval = ρ at *
                  simp [go_sem, d4, d7]
                · injection ho with ho
                  subst ho
                  have d8 : aq.eval (.tmp 106) = .bool false := hdep ⟨8, .data⟩ (by simp) rfl _ _ rfl rfl
                  clear hdep hgd
                  refine ⟨fun _ => .inl ?_, fun hw => (by simp [Region.wanted] at hw)⟩
                  clear hI
                  generalize aq.eval = ρ at *
                  simp [go_sem, d8]
                · injection ho with ho
                  subst ho
                  have h8 : aq.tmps.getD 107 undef = .bool false := hdep ⟨9, .guard⟩ (by simp) rfl _ _ rfl rfl
                  have hwd := hgd 9 false rfl _ _ rfl rfl false h8
                  clear hdep hgd
                  refine ⟨fun _ => .inl ?_, fun hw => (by rw [hwd] at hw; cases hw)⟩
                  clear h8 hwd
                  clear hI
                  generalize aq.eval = ρ at *
                  simp [go_sem, r11]
                · injection ho with ho
                  subst ho
                  have h8 : aq.tmps.getD 107 undef = .bool false := hdep ⟨9, .guard⟩ (by simp) rfl _ _ rfl rfl
                  have hwd := hgd 9 false rfl _ _ rfl rfl false h8
                  clear hdep hgd
                  refine ⟨fun _ => .inl ?_, fun hw => (by rw [hwd] at hw; cases hw)⟩
                  clear h8 hwd
                  clear hI
                  generalize aq.eval = ρ at *
                  simp [go_sem, r15]
                · injection ho with ho
                  subst ho
                  have d10 : aq.eval (.tmp 108) = .slice (some ⟨bi, offi, none⟩) sv.length ci := hdep ⟨10, .data⟩ (by simp) rfl _ _ rfl rfl
                  have d11 : aq.eval (.tmp 109) = .int .i64 (k : Int) := hdep ⟨11, .data⟩ (by simp) rfl _ _ rfl rfl
                  have h8 : aq.tmps.getD 107 undef = .bool false := hdep ⟨9, .guard⟩ (by simp) rfl _ _ rfl rfl
                  have hwd := hgd 9 false rfl _ _ rfl rfl false h8
                  clear hdep hgd
                  refine ⟨fun _ => .inl ?_, fun hw => (by rw [hwd] at hw; cases hw)⟩
                  clear h8 hwd
                  clear hI
                  generalize aq.eval = ρ at *
                  simp [go_sem, d10, d11, hk]
                · injection ho with ho
                  subst ho
                  have d12 : aq.eval (.tmp 110) = .pointer (some ⟨bi, offi + k, none⟩) := hdep ⟨12, .data⟩ (by simp) rfl _ _ rfl rfl
                  have h8 : aq.tmps.getD 107 undef = .bool false := hdep ⟨9, .guard⟩ (by simp) rfl _ _ rfl rfl
                  have hwd := hgd 9 false rfl _ _ rfl rfl false h8
                  clear hdep hgd
                  have x0 := (hI.cell (p := ⟨bi, offi + k, none⟩) hbi).trans ei
                  refine ⟨fun _ => .inl ?_, fun hw => (by rw [hwd] at hw; cases hw)⟩
                  clear h8 hwd
                  clear hI
                  generalize aq.eval = ρ at *
                  simp [go_sem, d12, x0]
                · injection ho with ho
                  subst ho
                  have d13 : aq.eval (.tmp 111) = .int .i64 (x : Int) := hdep ⟨13, .data⟩ (by simp) rfl _ _ rfl rfl
                  have h8 : aq.tmps.getD 107 undef = .bool false := hdep ⟨9, .guard⟩ (by simp) rfl _ _ rfl rfl
                  have hwd := hgd 9 false rfl _ _ rfl rfl false h8
                  clear hdep hgd
                  refine ⟨fun _ => .inl ?_, fun hw => (by rw [hwd] at hw; cases hw)⟩
                  clear h8 hwd
                  clear hI
                  generalize aq.eval = ρ at *
                  simp [go_sem, d13, hc, i1]
                · injection ho with ho
                  subst ho
                  have d9 : aq.eval (.tmp 107) = .bool false := hdep ⟨9, .data⟩ (by simp) rfl _ _ rfl rfl
                  have d14 : aq.eval (.tmp 112) = .bool false := hdep ⟨14, .data⟩ (by simp) rfl _ _ rfl rfl
                  clear hdep hgd
                  refine ⟨fun _ => .inl ?_, fun hw => (by simp [Region.wanted] at hw)⟩
                  clear hI
                  generalize aq.eval = ρ at *
                  simp [go_sem, d9, d14]
                · injection ho with ho
                  subst ho
                  have d15 : aq.eval (.tmp 113) = .bool false := hdep ⟨15, .data⟩ (by simp) rfl _ _ rfl rfl
                  clear hdep hgd
                  refine ⟨fun _ => .inl ?_, fun hw => (by simp [Region.wanted] at hw)⟩
                  clear hI
                  generalize aq.eval = ρ at *
                  simp [go_sem, d15]
                · injection ho with ho
                  subst ho
                  have h8 : aq.tmps.getD 114 undef = .bool false := hdep ⟨16, .guard⟩ (by simp) rfl _ _ rfl rfl
                  have hwd := hgd 16 false rfl _ _ rfl rfl false h8
                  clear hdep hgd
                  refine ⟨fun _ => .inl ?_, fun hw => (by rw [hwd] at hw; cases hw)⟩
                  clear h8 hwd
                  clear hI
                  generalize aq.eval = ρ at *
                  simp [go_sem, r11]
                · injection ho with ho
                  subst ho
                  have h8 : aq.tmps.getD 114 undef = .bool false := hdep ⟨16, .guard⟩ (by simp) rfl _ _ rfl rfl
                  have hwd := hgd 16 false rfl _ _ rfl rfl false h8
                  clear hdep hgd
                  refine ⟨fun _ => .inl ?_, fun hw => (by rw [hwd] at hw; cases hw)⟩
                  clear h8 hwd
                  clear hI
                  generalize aq.eval = ρ at *
                  simp [go_sem, r15]
                · injection ho with ho
                  subst ho
                  have d17 : aq.eval (.tmp 115) = .slice (some ⟨bi, offi, none⟩) sv.length ci := hdep ⟨17, .data⟩ (by simp) rfl _ _ rfl rfl
                  have d18 : aq.eval (.tmp 116) = .int .i64 (k : Int) := hdep ⟨18, .data⟩ (by simp) rfl _ _ rfl rfl
                  have h8 : aq.tmps.getD 114 undef = .bool false := hdep ⟨16, .guard⟩ (by simp) rfl _ _ rfl rfl
                  have hwd := hgd 16 false rfl _ _ rfl rfl false h8
                  clear hdep hgd
                  refine ⟨fun _ => .inl ?_, fun hw => (by rw [hwd] at hw; cases hw)⟩
                  clear h8 hwd
                  clear hI
                  generalize aq.eval = ρ at *
                  simp [go_sem, d17, d18, hk]
                · injection ho with ho
                  subst ho
                  have d19 : aq.eval (.tmp 117) = .pointer (some ⟨bi, offi + k, none⟩) := hdep ⟨19, .data⟩ (by simp) rfl _ _ rfl rfl
                  have h8 : aq.tmps.getD 114 undef = .bool false := hdep ⟨16, .guard⟩ (by simp) rfl _ _ rfl rfl
                  have hwd := hgd 16 false rfl _ _ rfl rfl false h8
                  clear hdep hgd
                  have x0 := (hI.cell (p := ⟨bi, offi + k, none⟩) hbi).trans ei
                  refine ⟨fun _ => .inl ?_, fun hw => (by rw [hwd] at hw; cases hw)⟩
                  clear h8 hwd
                  clear hI
                  generalize aq.eval = ρ at *
                  simp [go_sem, d19, x0]
                · injection ho with ho
                  subst ho
                  have h8 : aq.tmps.getD 114 undef = .bool false := hdep ⟨16, .guard⟩ (by simp) rfl _ _ rfl rfl
                  have hwd := hgd 16 false rfl _ _ rfl rfl false h8
                  clear hdep hgd
                  refine ⟨fun _ => .inl ?_, fun hw => (by rw [hwd] at hw; cases hw)⟩
                  clear h8 hwd
                  clear hI
                  generalize aq.eval = ρ at *
                  simp [go_sem, r2]
                · injection ho with ho
                  subst ho
                  have d21 : aq.eval (.tmp 119) = .pointer (some ⟨w.heap.size, 1, none⟩) := hdep ⟨21, .data⟩ (by simp) rfl _ _ rfl rfl
                  have h8 : aq.tmps.getD 114 undef = .bool false := hdep ⟨16, .guard⟩ (by simp) rfl _ _ rfl rfl
                  have hwd := hgd 16 false rfl _ _ rfl rfl false h8
                  clear hdep hgd
                  have x0 := (hI.cell (p := ⟨w.heap.size, 1, none⟩) hz).trans q1
                  refine ⟨fun _ => .inl ?_, fun hw => (by rw [hwd] at hw; cases hw)⟩
                  clear h8 hwd
                  clear hI
                  generalize aq.eval = ρ at *
                  simp [go_sem, d21, x0]
                · injection ho with ho
                  subst ho
                  have d22 : aq.eval (.tmp 120) = .slice A ls.length c := hdep ⟨22, .data⟩ (by simp) rfl _ _ rfl rfl
                  have h8 : aq.tmps.getD 114 undef = .bool false := hdep ⟨16, .guard⟩ (by simp) rfl _ _ rfl rfl
                  have hwd := hgd 16 false rfl _ _ rfl rfl false h8
                  clear hdep hgd
                  refine ⟨fun _ => .inl ?_, fun hw => (by rw [hwd] at hw; cases hw)⟩
                  clear h8 hwd
                  clear hI
                  generalize aq.eval = ρ at *
                  simp [go_sem, d22]
                · injection ho with ho
                  subst ho
                  have d20 : aq.eval (.tmp 118) = .int .i64 (x : Int) := hdep ⟨20, .data⟩ (by simp) rfl _ _ rfl rfl
                  have d23 : aq.eval (.tmp 121) = .int .i64 (ls.length : Int) := hdep ⟨23, .data⟩ (by simp) rfl _ _ rfl rfl
                  have h8 : aq.tmps.getD 114 undef = .bool false := hdep ⟨16, .guard⟩ (by simp) rfl _ _ rfl rfl
                  have hwd := hgd 16 false rfl _ _ rfl rfl false h8
                  clear hdep hgd
                  refine ⟨fun _ => .inl ?_, fun hw => (by rw [hwd] at hw; cases hw)⟩
                  clear h8 hwd
                  clear hI
                  generalize aq.eval = ρ at *
                  simp [go_sem, d20, d23, hxl]
                · injection ho with ho
                  subst ho
                  have d16 : aq.eval (.tmp 114) = .bool false := hdep ⟨16, .data⟩ (by simp) rfl _ _ rfl rfl
                  have d24 : aq.eval (.tmp 122) = .bool false := hdep ⟨24, .data⟩ (by simp) rfl _ _ rfl rfl
                  clear hdep hgd
                  refine ⟨fun _ => .inl ?_, fun hw => (by simp [Region.wanted] at hw)⟩
                  clear hI
                  generalize aq.eval = ρ at *
                  simp [go_sem, d16, d24]
                · simp at ho
              intro wu hb
              simp only [putAll, Act.put, List.setIfInBounds_toArray, List.set_cons_zero, List.set_cons_succ, Nat.reduceAdd]
              replace er := (hb.cell (p := ⟨br, offr + d, none⟩) hbr).trans er
              replace ei := (hb.cell (p := ⟨bi, offi + k, none⟩) hbi).trans ei
              replace ex := (hb.cell (p := ⟨bq, offq + x, none⟩) hbq).trans ex
              replace hbr : br < wu.heap.size := Nat.lt_of_lt_of_le hbr hb.size
              replace hbi : bi < wu.heap.size := Nat.lt_of_lt_of_le hbi hb.size
              replace hbq : bq < wu.heap.size := Nat.lt_of_lt_of_le hbq hb.size
              have HBU2 := Lib.hid (HBZ.out.trans (hb.mono HBZ.out.size))
              clear q1 hz hb HBZ
              cases bu with
              | true =>
                go_wp2_with fail
                refine region_callsY (w0 := wu) (fun jq => match jq with | 0 => .bool true | 1 => .bool true | 2 => undef | 3 => undef | 4 => undef | 5 => undef | 6 => undef | 7 => undef | 8 => undef | 9 => undef | 10 => undef | 11 => undef | 12 => undef | 13 => .bool true | 14 => .bool true | _ => undef) (by kernel_rfl) (by kernel_rfl) ?_ ?_
                · intro iq oq ho aq W hI hdep hrest hgd
                  have hc : ∀ v, aq.eval (.const v) = v := fun _ => rfl
                  have hfn : ∀ f, aq.eval (.func f) = .func (.func f) #[] #[] := fun _ => rfl
                  rcases iq with _ | _ | _ | _ | _ | _ | _ | _ | _ | _ | _ | _ | _ | _ | _ | iq
                  · injection ho with ho
                    subst ho
                    have r16 : aq.eval (.tmp 16) = .bool true := hrest 16 (by kernel_rfl)
                    clear hrest
                    clear hdep hgd
                    refine ⟨fun _ => .inl ?_, fun hw => (by simp [Region.wanted] at hw)⟩
                    clear hI
                    generalize aq.eval = ρ at *
                    simp [go_sem, r16]
                  · injection ho with ho
                    subst ho
                    clear hrest
                    have d0 : aq.eval (.tmp 124) = .bool true := hdep ⟨0, .data⟩ (by simp) rfl _ _ rfl rfl
                    clear hdep hgd
                    refine ⟨fun _ => .inl ?_, fun hw => (by simp [Region.wanted] at hw)⟩
                    clear hI
                    generalize aq.eval = ρ at *
                    simp [go_sem, d0]
                  · injection ho with ho
                    subst ho
                    clear hrest
                    have h8 : aq.tmps.getD 125 undef = .bool true := hdep ⟨1, .guard⟩ (by simp) rfl _ _ rfl rfl
                    have hwd := hgd 1 false rfl _ _ rfl rfl true h8
                    exact ⟨fun hw => (by rw [hwd] at hw; cases hw), fun _ => rfl⟩
                  · injection ho with ho
                    subst ho
                    clear hrest
                    have h8 : aq.tmps.getD 125 undef = .bool true := hdep ⟨1, .guard⟩ (by simp) rfl _ _ rfl rfl
                    have hwd := hgd 1 false rfl _ _ rfl rfl true h8
                    exact ⟨fun hw => (by rw [hwd] at hw; cases hw), fun _ => rfl⟩
                  · injection ho with ho
                    subst ho
                    clear hrest
                    have h8 : aq.tmps.getD 125 undef = .bool true := hdep ⟨1, .guard⟩ (by simp) rfl _ _ rfl rfl
                    have hwd := hgd 1 false rfl _ _ rfl rfl true h8
                    exact ⟨fun hw => (by rw [hwd] at hw; cases hw), fun _ => rfl⟩
                  · injection ho with ho
                    subst ho
                    clear hrest
                    have h8 : aq.tmps.getD 125 undef = .bool true := hdep ⟨1, .guard⟩ (by simp) rfl _ _ rfl rfl
                    have hwd := hgd 1 false rfl _ _ rfl rfl true h8
                    exact ⟨fun hw => (by rw [hwd] at hw; cases hw), fun _ => rfl⟩
                  · injection ho with ho
                    subst ho
                    clear hrest
                    have h8 : aq.tmps.getD 125 undef = .bool true := hdep ⟨1, .guard⟩ (by simp) rfl _ _ rfl rfl
                    have hwd := hgd 1 false rfl _ _ rfl rfl true h8
                    exact ⟨fun hw => (by rw [hwd] at hw; cases hw), fun _ => rfl⟩
                  · injection ho with ho
                    subst ho
                    clear hrest
                    have h8 : aq.tmps.getD 125 undef = .bool true := hdep ⟨1, .guard⟩ (by simp) rfl _ _ rfl rfl
                    have hwd := hgd 1 false rfl _ _ rfl rfl true h8
                    exact ⟨fun hw => (by rw [hwd] at hw; cases hw), fun _ => rfl⟩
                  · injection ho with ho
                    subst ho
                    clear hrest
                    have h8 : aq.tmps.getD 125 undef = .bool true := hdep ⟨1, .guard⟩ (by simp) rfl _ _ rfl rfl
                    have hwd := hgd 1 false rfl _ _ rfl rfl true h8
                    exact ⟨fun hw => (by rw [hwd] at hw; cases hw), fun _ => rfl⟩
                  · injection ho with ho
                    subst ho
                    clear hrest
                    have h8 : aq.tmps.getD 125 undef = .bool true := hdep ⟨1, .guard⟩ (by simp) rfl _ _ rfl rfl
                    have hwd := hgd 1 false rfl _ _ rfl rfl true h8
                    exact ⟨fun hw => (by rw [hwd] at hw; cases hw), fun _ => rfl⟩
                  · injection ho with ho
                    subst ho
                    clear hrest
                    have h8 : aq.tmps.getD 125 undef = .bool true := hdep ⟨1, .guard⟩ (by simp) rfl _ _ rfl rfl
                    have hwd := hgd 1 false rfl _ _ rfl rfl true h8
                    exact ⟨fun hw => (by rw [hwd] at hw; cases hw), fun _ => rfl⟩
                  · injection ho with ho
                    subst ho
                    clear hrest
                    have h8 : aq.tmps.getD 125 undef = .bool true := hdep ⟨1, .guard⟩ (by simp) rfl _ _ rfl rfl
                    have hwd := hgd 1 false rfl _ _ rfl rfl true h8
                    exact ⟨fun hw => (by rw [hwd] at hw; cases hw), fun _ => rfl⟩
                  · injection ho with ho
                    subst ho
                    clear hrest
                    have h8 : aq.tmps.getD 125 undef = .bool true := hdep ⟨1, .guard⟩ (by simp) rfl _ _ rfl rfl
                    have hwd := hgd 1 false rfl _ _ rfl rfl true h8
                    exact ⟨fun hw => (by rw [hwd] at hw; cases hw), fun _ => rfl⟩
                  · injection ho with ho
                    subst ho
                    clear hrest
                    have d1 : aq.eval (.tmp 125) = .bool true := hdep ⟨1, .data⟩ (by simp) rfl _ _ rfl rfl
                    clear hdep hgd
                    refine ⟨fun _ => .inl ?_, fun hw => (by simp [Region.wanted] at hw)⟩
                    clear hI
                    generalize aq.eval = ρ at *
                    simp [go_sem, d1, hc]
                  · injection ho with ho
                    subst ho
                    clear hrest
                    have d13 : aq.eval (.tmp 137) = .bool true := hdep ⟨13, .data⟩ (by simp) rfl _ _ rfl rfl
                    clear hdep hgd
                    refine ⟨fun _ => .inl ?_, fun hw => (by simp [Region.wanted] at hw)⟩
                    clear hI
                    generalize aq.eval = ρ at *
                    simp [go_sem, d13]
                  · simp at ho
                intro wv hb2
                simp only [putAll, Act.put, List.setIfInBounds_toArray, List.set_cons_zero, List.set_cons_succ, Nat.reduceAdd]
                go_wp2_with fail
                go_roundg g2
                case measure => omega
                case rel => exact ⟨d + 1, true, by have := HG2.out; omega, by go_num, rfl, by rw [HAT.out, HBU.out]; rfl, HBU2.out.trans (hb2.mono HBU2.out.size)⟩
              | false =>
                by_cases hv : v = 0
                · rw [hv] at ex
                  have HV := Lib.hid hv
                  clear hv
                  go_wp2_with fail
                  refine region_callsY (w0 := wu) (fun jq => match jq with | 0 => .bool false | 1 => .bool false | 2 => .slice (some ⟨br, offr, none⟩) rows.length cr | 3 => .int .i64 (d : Int) | 4 => .pointer (some ⟨br, offr + d, none⟩) | 5 => .slice (some ⟨bq, offq, none⟩) ls.length cq | 6 => .slice (some ⟨bi, offi, none⟩) sv.length ci | 7 => .int .i64 (k : Int) | 8 => .pointer (some ⟨bi, offi + k, none⟩) | 9 => .int .i64 (x : Int) | 10 => .pointer (some ⟨bq, offq + x, none⟩) | 11 => .int .i64 0 | 12 => .bool false | 13 => .bool false | 14 => .bool false | _ => undef) (by kernel_rfl) (by kernel_rfl) ?_ ?_
                  · intro iq oq ho aq W hI hdep hrest hgd
                    have hc : ∀ v, aq.eval (.const v) = v := fun _ => rfl
                    have hfn : ∀ f, aq.eval (.func f) = .func (.func f) #[] #[] := fun _ => rfl
                    rcases iq with _ | _ | _ | _ | _ | _ | _ | _ | _ | _ | _ | _ | _ | _ | _ | iq
                    · injection ho with ho
                      subst ho
                      have r16 : aq.eval (.tmp 16) = .bool false := hrest 16 (by kernel_rfl)
                      clear hrest
                      clear hdep hgd
                      refine ⟨fun _ => .inl ?_, fun hw => (by simp [Region.wanted] at hw)⟩
                      clear hI
                      generalize aq.eval = ρ at *
                      simp [go_sem, r16]
                    · injection ho with ho
                      subst ho
                      clear hrest
                      have d0 : aq.eval (.tmp 124) = .bool false := hdep ⟨0, .data⟩ (by simp) rfl _ _ rfl rfl
                      clear hdep hgd
                      refine ⟨fun _ => .inl ?_, fun hw => (by simp [Region.wanted] at hw)⟩
                      clear hI
                      generalize aq.eval = ρ at *
                      simp [go_sem, d0]
                    · injection ho with ho
                      subst ho
                      have r9 : aq.eval (.tmp 9) = .slice (some ⟨br, offr, none⟩) rows.length cr := hrest 9 (by kernel_rfl)
                      clear hrest
                      have h8 : aq.tmps.getD 125 undef = .bool false := hdep ⟨1, .guard⟩ (by simp) rfl _ _ rfl rfl
                      have hwd := hgd 1 false rfl _ _ rfl rfl false h8
                      clear hdep hgd
                      refine ⟨fun _ => .inl ?_, fun hw => (by rw [hwd] at hw; cases hw)⟩
                      clear h8 hwd
                      clear hI
                      generalize aq.eval = ρ at *
                      simp [go_sem, r9]
                    · injection ho with ho
                      subst ho
                      have r17 : aq.eval (.tmp 17) = .int .i64 (d : Int) := hrest 17 (by kernel_rfl)
                      clear hrest
                      have h8 : aq.tmps.getD 125 undef = .bool false := hdep ⟨1, .guard⟩ (by simp) rfl _ _ rfl rfl
                      have hwd := hgd 1 false rfl _ _ rfl rfl false h8
                      clear hdep hgd
                      refine ⟨fun _ => .inl ?_, fun hw => (by rw [hwd] at hw; cases hw)⟩
                      clear h8 hwd
                      clear hI
                      generalize aq.eval = ρ at *
                      simp [go_sem, r17]
                    · injection ho with ho
                      subst ho
                      clear hrest
                      have d2 : aq.eval (.tmp 126) = .slice (some ⟨br, offr, none⟩) rows.length cr := hdep ⟨2, .data⟩ (by simp) rfl _ _ rfl rfl
                      have d3 : aq.eval (.tmp 127) = .int .i64 (d : Int) := hdep ⟨3, .data⟩ (by simp) rfl _ _ rfl rfl
                      have h8 : aq.tmps.getD 125 undef = .bool false := hdep ⟨1, .guard⟩ (by simp) rfl _ _ rfl rfl
                      have hwd := hgd 1 false rfl _ _ rfl rfl false h8
                      clear hdep hgd
                      refine ⟨fun _ => .inl ?_, fun hw => (by rw [hwd] at hw; cases hw)⟩
                      clear h8 hwd
                      clear hI
                      generalize aq.eval = ρ at *
                      simp [go_sem, d2, d3, hdr]
                    · injection ho with ho
                      subst ho
                      clear hrest
                      have d4 : aq.eval (.tmp 128) = .pointer (some ⟨br, offr + d, none⟩) := hdep ⟨4, .data⟩ (by simp) rfl _ _ rfl rfl
                      have h8 : aq.tmps.getD 125 undef = .bool false := hdep ⟨1, .guard⟩ (by simp) rfl _ _ rfl rfl
                      have hwd := hgd 1 false rfl _ _ rfl rfl false h8
                      clear hdep hgd
                      have x0 := (hI.cell (p := ⟨br, offr + d, none⟩) hbr).trans er
                      refine ⟨fun _ => .inl ?_, fun hw => (by rw [hwd] at hw; cases hw)⟩
                      clear h8 hwd
                      clear hI
                      generalize aq.eval = ρ at *
                      simp [go_sem, d4, x0]
                    · injection ho with ho
                      subst ho
                      have r11 : aq.eval (.tmp 11) = .slice (some ⟨bi, offi, none⟩) sv.length ci := hrest 11 (by kernel_rfl)
                      clear hrest
                      have h8 : aq.tmps.getD 125 undef = .bool false := hdep ⟨1, .guard⟩ (by simp) rfl _ _ rfl rfl
                      have hwd := hgd 1 false rfl _ _ rfl rfl false h8
                      clear hdep hgd
                      refine ⟨fun _ => .inl ?_, fun hw => (by rw [hwd] at hw; cases hw)⟩
                      clear h8 hwd
                      clear hI
                      generalize aq.eval = ρ at *
                      simp [go_sem, r11]
                    · injection ho with ho
                      subst ho
                      have r15 : aq.eval (.tmp 15) = .int .i64 (k : Int) := hrest 15 (by kernel_rfl)
                      clear hrest
                      have h8 : aq.tmps.getD 125 undef = .bool false := hdep ⟨1, .guard⟩ (by simp) rfl _ _ rfl rfl
                      have hwd := hgd 1 false rfl _ _ rfl rfl false h8
                      clear hdep hgd
                      refine ⟨fun _ => .inl ?_, fun hw => (by rw [hwd] at hw; cases hw)⟩
                      clear h8 hwd
                      clear hI
                      generalize aq.eval = ρ at *
                      simp [go_sem, r15]
                    · injection ho with ho
                      subst ho
                      clear hrest
                      have d6 : aq.eval (.tmp 130) = .slice (some ⟨bi, offi, none⟩) sv.length ci := hdep ⟨6, .data⟩ (by simp) rfl _ _ rfl rfl
                      have d7 : aq.eval (.tmp 131) = .int .i64 (k : Int) := hdep ⟨7, .data⟩ (by simp) rfl _ _ rfl rfl
                      have h8 : aq.tmps.getD 125 undef = .bool false := hdep ⟨1, .guard⟩ (by simp) rfl _ _ rfl rfl
                      have hwd := hgd 1 false rfl _ _ rfl rfl false h8
                      clear hdep hgd
                      refine ⟨fun _ => .inl ?_, fun hw => (by rw [hwd] at hw; cases hw)⟩
                      clear h8 hwd
                      clear hI
                      generalize aq.eval = ρ at *
                      simp [go_sem, d6, d7, hk]
                    · injection ho with ho
                      subst ho
                      clear hrest
                      have d8 : aq.eval (.tmp 132) = .pointer (some ⟨bi, offi + k, none⟩) := hdep ⟨8, .data⟩ (by simp) rfl _ _ rfl rfl
                      have h8 : aq.tmps.getD 125 undef = .bool false := hdep ⟨1, .guard⟩ (by simp) rfl _ _ rfl rfl
                      have hwd := hgd 1 false rfl _ _ rfl rfl false h8
                      clear hdep hgd
                      have x0 := (hI.cell (p := ⟨bi, offi + k, none⟩) hbi).trans ei
                      refine ⟨fun _ => .inl ?_, fun hw => (by rw [hwd] at hw; cases hw)⟩
                      clear h8 hwd
                      clear hI
                      generalize aq.eval = ρ at *
                      simp [go_sem, d8, x0]
                    · injection ho with ho
                      subst ho
                      clear hrest
                      have d5 : aq.eval (.tmp 129) = .slice (some ⟨bq, offq, none⟩) ls.length cq := hdep ⟨5, .data⟩ (by simp) rfl _ _ rfl rfl
                      have d9 : aq.eval (.tmp 133) = .int .i64 (x : Int) := hdep ⟨9, .data⟩ (by simp) rfl _ _ rfl rfl
                      have h8 : aq.tmps.getD 125 undef = .bool false := hdep ⟨1, .guard⟩ (by simp) rfl _ _ rfl rfl
                      have hwd := hgd 1 false rfl _ _ rfl rfl false h8
                      clear hdep hgd
                      refine ⟨fun _ => .inl ?_, fun hw => (by rw [hwd] at hw; cases hw)⟩
                      clear h8 hwd
                      clear hI
                      generalize aq.eval = ρ at *
                      simp [go_sem, d5, d9, hxl]
                    · injection ho with ho
                      subst ho
                      clear hrest
                      have d10 : aq.eval (.tmp 134) = .pointer (some ⟨bq, offq + x, none⟩) := hdep ⟨10, .data⟩ (by simp) rfl _ _ rfl rfl
                      have h8 : aq.tmps.getD 125 undef = .bool false := hdep ⟨1, .guard⟩ (by simp) rfl _ _ rfl rfl
                      have hwd := hgd 1 false rfl _ _ rfl rfl false h8
                      clear hdep hgd
                      have x0 := (hI.cell (p := ⟨bq, offq + x, none⟩) hbq).trans ex
                      refine ⟨fun _ => .inl ?_, fun hw => (by rw [hwd] at hw; cases hw)⟩
                      clear h8 hwd
                      clear hI
                      generalize aq.eval = ρ at *
                      simp [go_sem, d10, x0]
                    · injection ho with ho
                      subst ho
                      clear hrest
                      have d11 : aq.eval (.tmp 135) = .int .i64 0 := hdep ⟨11, .data⟩ (by simp) rfl _ _ rfl rfl
                      have h8 : aq.tmps.getD 125 undef = .bool false := hdep ⟨1, .guard⟩ (by simp) rfl _ _ rfl rfl
                      have hwd := hgd 1 false rfl _ _ rfl rfl false h8
                      clear hdep hgd
                      refine ⟨fun _ => .inl ?_, fun hw => (by rw [hwd] at hw; cases hw)⟩
                      clear h8 hwd
                      clear hI
                      generalize aq.eval = ρ at *
                      simp [go_sem, d11, hc]
                    · injection ho with ho
                      subst ho
                      clear hrest
                      have d1 : aq.eval (.tmp 125) = .bool false := hdep ⟨1, .data⟩ (by simp) rfl _ _ rfl rfl
                      have d12 : aq.eval (.tmp 136) = .bool false := hdep ⟨12, .data⟩ (by simp) rfl _ _ rfl rfl
                      clear hdep hgd
                      refine ⟨fun _ => .inl ?_, fun hw => (by simp [Region.wanted] at hw)⟩
                      clear hI
                      generalize aq.eval = ρ at *
                      simp [go_sem, d1, d12]
                    · injection ho with ho
                      subst ho
                      clear hrest
                      have d13 : aq.eval (.tmp 137) = .bool false := hdep ⟨13, .data⟩ (by simp) rfl _ _ rfl rfl
                      clear hdep hgd
                      refine ⟨fun _ => .inl ?_, fun hw => (by simp [Region.wanted] at hw)⟩
                      clear hI
                      generalize aq.eval = ρ at *
                      simp [go_sem, d13]
                    · simp at ho
                  intro wv hb2
                  simp only [putAll, Act.put, List.setIfInBounds_toArray, List.set_cons_zero, List.set_cons_succ, Nat.reduceAdd]
                  go_wp2_with fail
                  go_roundg g2
                  case measure => omega
                  case rel => exact ⟨d + 1, false, by have := HG2.out; omega, by go_num, rfl, by rw [HAT.out, HBU.out, HV.out]; rfl, HBU2.out.trans (hb2.mono HBU2.out.size)⟩
                · have hvb : (v != 0) = true := by simpa using hv
                  have HV := Lib.hid hvb
                  clear hvb
                  go_wp2_with fail
                  refine region_callsY (w0 := wu) (fun jq => match jq with | 0 => .bool false | 1 => .bool false | 2 => .slice (some ⟨br, offr, none⟩) rows.length cr | 3 => .int .i64 (d : Int) | 4 => .pointer (some ⟨br, offr + d, none⟩) | 5 => .slice (some ⟨bq, offq, none⟩) ls.length cq | 6 => .slice (some ⟨bi, offi, none⟩) sv.length ci | 7 => .int .i64 (k : Int) | 8 => .pointer (some ⟨bi, offi + k, none⟩) | 9 => .int .i64 (x : Int) | 10 => .pointer (some ⟨bq, offq + x, none⟩) | 11 => .int .i64 v | 12 => .bool true | 13 => .bool true | 14 => .bool true | _ => undef) (by kernel_rfl) (by kernel_rfl) ?_ ?_
                  · intro iq oq ho aq W hI hdep hrest hgd
                    have hc : ∀ v, aq.eval (.const v) = v := fun _ => rfl
                    have hfn : ∀ f, aq.eval (.func f) = .func (.func f) #[] #[] := fun _ => rfl
                    rcases iq with _ | _ | _ | _ | _ | _ | _ | _ | _ | _ | _ | _ | _ | _ | _ | iq
                    · injection ho with ho
                      subst ho
                      have r16 : aq.eval (.tmp 16) = .bool false := hrest 16 (by kernel_rfl)
                      clear hrest
                      clear hdep hgd
                      refine ⟨fun _ => .inl ?_, fun hw => (by simp [Region.wanted] at hw)⟩
                      clear hI
                      generalize aq.eval = ρ at *
                      simp [go_sem, r16]
                    · injection ho with ho
                      subst ho
                      clear hrest
                      have d0 : aq.eval (.tmp 124) = .bool false := hdep ⟨0, .data⟩ (by simp) rfl _ _ rfl rfl
                      clear hdep hgd
                      refine ⟨fun _ => .inl ?_, fun hw => (by simp [Region.wanted] at hw)⟩
                      clear hI
                      generalize aq.eval = ρ at *
                      simp [go_sem, d0]
                    · injection ho with ho
                      subst ho
                      have r9 : aq.eval (.tmp 9) = .slice (some ⟨br, offr, none⟩) rows.length cr := hrest 9 (by kernel_rfl)
                      clear hrest
                      have h8 : aq.tmps.getD 125 undef = .bool false := hdep ⟨1, .guard⟩ (by simp) rfl _ _ rfl rfl
                      have hwd := hgd 1 false rfl _ _ rfl rfl false h8
                      clear hdep hgd
                      refine ⟨fun _ => .inl ?_, fun hw => (by rw [hwd] at hw; cases hw)⟩
                      clear h8 hwd
                      clear hI
                      generalize aq.eval = ρ at *
                      simp [go_sem, r9]
                    · injection ho with ho
                      subst ho
                      have r17 : aq.eval (.tmp 17) = .int .i64 (d : Int) := hrest 17 (by kernel_rfl)
                      clear hrest
                      have h8 : aq.tmps.getD 125 undef = .bool false := hdep ⟨1, .guard⟩ (by simp) rfl _ _ rfl rfl
                      have hwd := hgd 1 false rfl _ _ rfl rfl false h8
                      clear hdep hgd
                      refine ⟨fun _ => .inl ?_, fun hw => (by rw [hwd] at hw; cases hw)⟩
                      clear h8 hwd
                      clear hI
                      generalize aq.eval = ρ at *
                      simp [go_sem, r17]
                    · injection ho with ho
                      subst ho
                      clear hrest
                      have d2 : aq.eval (.tmp 126) = .slice (some ⟨br, offr, none⟩) rows.length cr := hdep ⟨2, .data⟩ (by simp) rfl _ _ rfl rfl
                      have d3 : aq.eval (.tmp 127) = .int .i64 (d : Int) := hdep ⟨3, .data⟩ (by simp) rfl _ _ rfl rfl
                      have h8 : aq.tmps.getD 125 undef = .bool false := hdep ⟨1, .guard⟩ (by simp) rfl _ _ rfl rfl
                      have hwd := hgd 1 false rfl _ _ rfl rfl false h8
                      clear hdep hgd
                      refine ⟨fun _ => .inl ?_, fun hw => (by rw [hwd] at hw; cases hw)⟩
                      clear h8 hwd
                      clear hI
                      generalize aq.eval = ρ at *
                      simp [go_sem, d2, d3, hdr]
                    · injection ho with ho
                      subst ho
                      clear hrest
                      have d4 : aq.eval (.tmp 128) = .pointer (some ⟨br, offr + d, none⟩) := hdep ⟨4, .data⟩ (by simp) rfl _ _ rfl rfl
                      have h8 : aq.tmps.getD 125 undef = .bool false := hdep ⟨1, .guard⟩ (by simp) rfl _ _ rfl rfl
                      have hwd := hgd 1 false rfl _ _ rfl rfl false h8
                      clear hdep hgd
                      have x0 := (hI.cell (p := ⟨br, offr + d, none⟩) hbr).trans er
                      refine ⟨fun _ => .inl ?_, fun hw => (by rw [hwd] at hw; cases hw)⟩
                      clear h8 hwd
                      clear hI
                      generalize aq.eval = ρ at *
                      simp [go_sem, d4, x0]
                    · injection ho with ho
                      subst ho
                      have r11 : aq.eval (.tmp 11) = .slice (some ⟨bi, offi, none⟩) sv.length ci := hrest 11 (by kernel_rfl)
                      clear hrest
                      have h8 : aq.tmps.getD 125 undef = .bool false := hdep ⟨1, .guard⟩ (by simp) rfl _ _ rfl rfl
                      have hwd := hgd 1 false rfl _ _ rfl rfl false h8
                      clear hdep hgd
                      refine ⟨fun _ => .inl ?_, fun hw => (by rw [hwd] at hw; cases hw)⟩
                      clear h8 hwd
                      clear hI
                      generalize aq.eval = ρ at *
                      simp [go_sem, r11]
                    · injection ho with ho
                      subst ho
                      have r15 : aq.eval (.tmp 15) = .int .i64 (k : Int) := hrest 15 (by kernel_rfl)
                      clear hrest
                      have h8 : aq.tmps.getD 125 undef = .bool false := hdep ⟨1, .guard⟩ (by simp) rfl _ _ rfl rfl
                      have hwd := hgd 1 false rfl _ _ rfl rfl false h8
                      clear hdep hgd
                      refine ⟨fun _ => .inl ?_, fun hw => (by rw [hwd] at hw; cases hw)⟩
                      clear h8 hwd
                      clear hI
                      generalize aq.eval = ρ at *
                      simp [go_sem, r15]
                    · injection ho with ho
                      subst ho
                      clear hrest
                      have d6 : aq.eval (.tmp 130) = .slice (some ⟨bi, offi, none⟩) sv.length ci := hdep ⟨6, .data⟩ (by simp) rfl _ _ rfl rfl
                      have d7 : aq.eval (.tmp 131) = .int .i64 (k : Int) := hdep ⟨7, .data⟩ (by simp) rfl _ _ rfl rfl
                      have h8 : aq.tmps.getD 125 undef = .bool false := hdep ⟨1, .guard⟩ (by simp) rfl _ _ rfl rfl
                      have hwd := hgd 1 false rfl _ _ rfl rfl false h8
                      clear hdep hgd
                      refine ⟨fun _ => .inl ?_, fun hw => (by rw [hwd] at hw; cases hw)⟩
                      clear h8 hwd
                      clear hI
                      generalize aq.eval = ρ at *
                      simp [go_sem, d6, d7, hk]
                    · injection ho with ho
                      subst ho
                      clear hrest
                      have d8 : aq.eval (.tmp 132) = .pointer (some ⟨bi, offi + k, none⟩) := hdep ⟨8, .data⟩ (by simp) rfl _ _ rfl rfl
                      have h8 : aq.tmps.getD 125 undef = .bool false := hdep ⟨1, .guard⟩ (by simp) rfl _ _ rfl rfl
                      have hwd := hgd 1 false rfl _ _ rfl rfl false h8
                      clear hdep hgd
                      have x0 := (hI.cell (p := ⟨bi, offi + k, none⟩) hbi).trans ei
                      refine ⟨fun _ => .inl ?_, fun hw => (by rw [hwd] at hw; cases hw)⟩
                      clear h8 hwd
                      clear hI
                      generalize aq.eval = ρ at *
                      simp [go_sem, d8, x0]
                    · injection ho with ho
                      subst ho
                      clear hrest
                      have d5 : aq.eval (.tmp 129) = .slice (some ⟨bq, offq, none⟩) ls.length cq := hdep ⟨5, .data⟩ (by simp) rfl _ _ rfl rfl
                      have d9 : aq.eval (.tmp 133) = .int .i64 (x : Int) := hdep ⟨9, .data⟩ (by simp) rfl _ _ rfl rfl
                      have h8 : aq.tmps.getD 125 undef = .bool false := hdep ⟨1, .guard⟩ (by simp) rfl _ _ rfl rfl
                      have hwd := hgd 1 false rfl _ _ rfl rfl false h8
                      clear hdep hgd
                      refine ⟨fun _ => .inl ?_, fun hw => (by rw [hwd] at hw; cases hw)⟩
                      clear h8 hwd
                      clear hI
                      generalize aq.eval = ρ at *
                      simp [go_sem, d5, d9, hxl]
                    · injection ho with ho
                      subst ho
                      clear hrest
                      have d10 : aq.eval (.tmp 134) = .pointer (some ⟨bq, offq + x, none⟩) := hdep ⟨10, .data⟩ (by simp) rfl _ _ rfl rfl
                      have h8 : aq.tmps.getD 125 undef = .bool false := hdep ⟨1, .guard⟩ (by simp) rfl _ _ rfl rfl
                      have hwd := hgd 1 false rfl _ _ rfl rfl false h8
                      clear hdep hgd
                      have x0 := (hI.cell (p := ⟨bq, offq + x, none⟩) hbq).trans ex
                      refine ⟨fun _ => .inl ?_, fun hw => (by rw [hwd] at hw; cases hw)⟩
                      clear h8 hwd
                      clear hI
                      generalize aq.eval = ρ at *
                      simp [go_sem, d10, x0]
                    · injection ho with ho
                      subst ho
                      clear hrest
                      have d11 : aq.eval (.tmp 135) = .int .i64 v := hdep ⟨11, .data⟩ (by simp) rfl _ _ rfl rfl
                      have h8 : aq.tmps.getD 125 undef = .bool false := hdep ⟨1, .guard⟩ (by simp) rfl _ _ rfl rfl
                      have hwd := hgd 1 false rfl _ _ rfl rfl false h8
                      clear hdep hgd
                      refine ⟨fun _ => .inl ?_, fun hw => (by rw [hwd] at hw; cases hw)⟩
                      clear h8 hwd
                      clear hI
                      generalize aq.eval = ρ at *
                      simp [go_sem, d11, hc, hv]
                    · injection ho with ho
                      subst ho
                      clear hrest
                      have d1 : aq.eval (.tmp 125) = .bool false := hdep ⟨1, .data⟩ (by simp) rfl _ _ rfl rfl
                      have d12 : aq.eval (.tmp 136) = .bool true := hdep ⟨12, .data⟩ (by simp) rfl _ _ rfl rfl
                      clear hdep hgd
                      refine ⟨fun _ => .inl ?_, fun hw => (by simp [Region.wanted] at hw)⟩
                      clear hI
                      generalize aq.eval = ρ at *
                      simp [go_sem, d1, d12]
                    · injection ho with ho
                      subst ho
                      clear hrest
                      have d13 : aq.eval (.tmp 137) = .bool true := hdep ⟨13, .data⟩ (by simp) rfl _ _ rfl rfl
                      clear hdep hgd
                      refine ⟨fun _ => .inl ?_, fun hw => (by simp [Region.wanted] at hw)⟩
                      clear hI
                      generalize aq.eval = ρ at *
                      simp [go_sem, d13]
                    · simp at ho
                  intro wv hb2
                  simp only [putAll, Act.put, List.setIfInBounds_toArray, List.set_cons_zero, List.set_cons_succ, Nat.reduceAdd]
                  go_wp2_with fail
                  go_roundg g2
                  case measure => omega
                  case rel => exact ⟨d + 1, true, by have := HG2.out; omega, by go_num, rfl, by rw [HAT.out, HBU.out, HV.out]; rfl, HBU2.out.trans (hb2.mono HBU2.out.size)⟩
    · have b1 : (outsE nb ls out != 0) = true := by rw [bne_iff_ne]; exact he
      generalize outsE nb ls out = er at *
      have KO := Lib.hid ko
      clear ko he
      have HB0 := Lib.hid (Below.refl w.heap.size w)
      go_enter Try.func8, Try.ntmps8
      go_wp2_with fail
      have hb := below_alloc2 w (.cells #[.int .i64 nb, .slice A ls.length c] 24) (.cells #[.slice O out.length co] 25)
      have q0 : ((w.alloc (.cells #[.int .i64 nb, .slice A ls.length c] 24)).alloc (.cells #[.slice O out.length co] 25)).cell? ⟨w.heap.size, 0, none⟩ = some (.int .i64 nb) := by simp
      have q1 : ((w.alloc (.cells #[.int .i64 nb, .slice A ls.length c] 24)).alloc (.cells #[.slice O out.length co] 25)).cell? ⟨w.heap.size, 1, none⟩ = some (.slice A ls.length c) := by simp
      have hz : w.heap.size < ((w.alloc (.cells #[.int .i64 nb, .slice A ls.length c] 24)).alloc (.cells #[.slice O out.length co] 25)).heap.size := by simp; omega
      have HB1 := Lib.hid (HB0.out.trans (hb.mono HB0.out.size))
      clear HB0
      replace HL := Lib.hid (HL.out.upto hb)
      replace HO := Lib.hid (HO.out.upto hb)
      clear hb
      refine (KL.out (w.alloc (.cells #[.int .i64 nb, .slice A ls.length c] 24)) _ (by simp)).mono ?_
      rintro e w2 ⟨rfl, hb⟩
      rw [← World.size_alloc (w.alloc (.cells #[.int .i64 nb, .slice A ls.length c] 24)) (.cells #[.slice O out.length co] 25)] at hb
      have HB2 := Lib.hid (HB1.out.trans (hb.mono HB1.out.size))
      clear HB1
      replace HL := Lib.hid (HL.out.upto hb)
      replace HO := Lib.hid (HO.out.upto hb)
      replace q0 := (hb.cell (p := ⟨w.heap.size, 0, none⟩) hz).trans q0
      replace q1 := (hb.cell (p := ⟨w.heap.size, 1, none⟩) hz).trans q1
      replace hz : w.heap.size < w2.heap.size := Nat.lt_of_lt_of_le hz hb.size
      clear hb
      go_wp2_with fail
      refine (awake16_any _).mono ?_
      rintro e w3 ⟨rfl, hb⟩
      have HB3 := Lib.hid (HB2.out.trans (hb.mono HB2.out.size))
      clear HB2
      replace HL := Lib.hid (HL.out.upto hb)
      replace HO := Lib.hid (HO.out.upto hb)
      replace q0 := (hb.cell (p := ⟨w.heap.size, 0, none⟩) hz).trans q0
      replace q1 := (hb.cell (p := ⟨w.heap.size, 1, none⟩) hz).trans q1
      replace hz : w.heap.size < w3.heap.size := Nat.lt_of_lt_of_le hz hb.size
      clear hb
      go_wp2_with fail
      refine (KO.out _ HL.out HO.out).mono ?_
      rintro e w4 ⟨rfl, hb⟩
      have HB4 := Lib.hid (HB3.out.trans (hb.mono HB3.out.size))
      clear HB3
      replace HL := Lib.hid (HL.out.upto hb)
      replace HO := Lib.hid (HO.out.upto hb)
      replace q0 := (hb.cell (p := ⟨w.heap.size, 0, none⟩) hz).trans q0
      replace q1 := (hb.cell (p := ⟨w.heap.size, 1, none⟩) hz).trans q1
      replace hz : w.heap.size < w4.heap.size := Nat.lt_of_lt_of_le hz hb.size
      clear hb
      go_wp2_with fail
      refine (awake16_any _).mono ?_
      rintro e w5 ⟨rfl, hb⟩
      have HB5 := Lib.hid (HB4.out.trans (hb.mono HB4.out.size))
      clear HB4
      replace HL := Lib.hid (HL.out.upto hb)
      replace HO := Lib.hid (HO.out.upto hb)
      replace q0 := (hb.cell (p := ⟨w.heap.size, 0, none⟩) hz).trans q0
      replace q1 := (hb.cell (p := ⟨w.heap.size, 1, none⟩) hz).trans q1
      replace hz : w.heap.size < w5.heap.size := Nat.lt_of_lt_of_le hz hb.size
      clear hb
      go_wp2_with fail
      go_ret
      exact ⟨rfl, HB5.out⟩
end Go.Proofs.Ytmojjfdamdgegaa
