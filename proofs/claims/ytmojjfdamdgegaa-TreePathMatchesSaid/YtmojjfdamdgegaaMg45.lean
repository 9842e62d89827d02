/- The text RfB. -/
import Derived.Deep.DeepCutAuto
import Derived.Test.YtmojjfdamdgegaaMg44
/- Contracts of the reference functions Tree and Bridges of layer 16: they answer what the program answers. -/
namespace Go.Proofs.Ytmojjfdamdgegaa
open Go.RowKit
set_option linter.unusedVariables false

set_option maxRecDepth 100000 in
set_option maxHeartbeats 4000000 in
theorem reftree_any (nb : Int) (A O : Option Addr) (c co : Nat) (ls : List Ln) (out : List Int) (w : World) (hl : LinesR w w.heap.size A ls) (ho : IntsR w w.heap.size O out) (hm : ls.length ≤ 1000000) (hn : out.length ≤ 1000000) :
    Calls Try.prog 14 #[.agg #[.int .i64 nb, .slice A ls.length c], .slice O out.length co] w (IntsE w (treeL nb ls out) (outsE nb ls out)) := by
  obtain ⟨i0, hi0, hz0, hz1, hz2⟩ := info_parts info_int
  have ko := fun W hl ho => refouts_any nb A O c co ls out W hl ho hm hn
  have hb := (Below.refl w.heap.size w).alloc (Nat.le_refl _) (.cells #[.int .i64 nb, .slice A ls.length c] 24)
  have q0 : (w.alloc (.cells #[.int .i64 nb, .slice A ls.length c] 24)).cell? ⟨w.heap.size, 0, none⟩ = some (.int .i64 nb) := by simp
  have q1 : (w.alloc (.cells #[.int .i64 nb, .slice A ls.length c] 24)).cell? ⟨w.heap.size, 1, none⟩ = some (.slice A ls.length c) := by simp
  have hz : w.heap.size < (w.alloc (.cells #[.int .i64 nb, .slice A ls.length c] 24)).heap.size := by simp
  have HL := Lib.hid (hl.upto hb)
  have HO := Lib.hid (ho.upto hb)
  have HB0 := Lib.hid hb
  clear hl ho hb
  by_cases he : outsE nb ls out = 0
  · have ki := fun W ho => refin_any (.int .i64 nb) A O c co ls.length out W ho hm hn
    rw [← svcL_eq (check_of_outs he).2] at ki
    have hsl := svcL_le out ls.length
    have hvv := valid_of_check (check_of_outs he).1
    rw [he] at ko ⊢
    have hres : treeL nb ls out = treeTo nb ls (svcL out ls.length) (svcL out ls.length).length := by rw [treeL, if_pos he]
    rw [hres]
    have hrd : ∀ k, k < (svcL out ls.length).length → ∃ j : Nat, (svcL out ls.length).getD k 0 = (j : Int) ∧ j < ls.length ∧ ((treeTo nb ls (svcL out ls.length) k).length ≤ 1000000 ∧ notIn (treeTo nb ls (svcL out ls.length) k) ls.length = svcL (treeTo nb ls (svcL out ls.length) k) ls.length) ∧ True ∧ treeTo nb ls (svcL out ls.length) (k + 1) = if connB nb ls (svcL (treeTo nb ls (svcL out ls.length) k) ls.length) (ls.getD j (0, 0, 0, 0)).1 (ls.getD j (0, 0, 0, 0)).2.1 = true then treeTo nb ls (svcL out ls.length) k else treeTo nb ls (svcL out ls.length) k ++ [(j : Int)] := fun k hk => by
      have hm0 : (svcL out ls.length).getD k 0 ∈ svcL out ls.length := by rw [getD_eq _ _ _ hk]; exact List.getElem_mem hk
      have hx := svc_in he hm0
      obtain ⟨j, ej⟩ := Int.eq_ofNat_of_zero_le hx.1
      have hsc := treeTo_succ nb ls (svcL out ls.length) k hk
      rw [ej] at hm0 hx hsc ⊢
      have hto := tree_outs he k
      have htl := svc_length hto
      unfold treeStep at hsc
      rw [Int.toNat_natCast] at hsc
      exact ⟨j, rfl, by omega, ⟨by omega, (svcL_eq hto _).symm⟩, trivial, hsc⟩
    have KO := Lib.hid ko
    have KI := Lib.hid ki
    have HRD := Lib.hid hrd
    clear ko ki hrd hres hvv
    go_enter Try.func14, Try.ntmps14
    go_wp2_with fail
    refine (KO.out _ HL.out HO.out).mono ?_
    rintro e w1 ⟨rfl, hb⟩
    replace HL := Lib.hid (HL.out.upto hb)
    replace HO := Lib.hid (HO.out.upto hb)
    replace q0 := (hb.cell (p := ⟨w.heap.size, 0, none⟩) hz).trans q0
    replace q1 := (hb.cell (p := ⟨w.heap.size, 1, none⟩) hz).trans q1
    replace hz : w.heap.size < w1.heap.size := Nat.lt_of_lt_of_le hz hb.size
    have HB1 := Lib.hid (HB0.out.trans (hb.mono HB0.out.size))
    clear hb HB0
    go_wp2_with fail
    refine (KI.out _ HO.out).mono ?_
    rintro e w2 ⟨v, rfl, hown, hb⟩
    obtain ⟨Ai, ci, rfl, hI⟩ := ownsRow_ints hown
    have HI := Lib.hid hI
    replace HL := Lib.hid (HL.out.upto hb)
    replace q0 := (hb.cell (p := ⟨w.heap.size, 0, none⟩) hz).trans q0
    replace q1 := (hb.cell (p := ⟨w.heap.size, 1, none⟩) hz).trans q1
    replace hz : w.heap.size < w2.heap.size := Nat.lt_of_lt_of_le hz hb.size
    have HB2 := Lib.hid (HB1.out.trans (hb.mono HB1.out.size))
    clear hb HB1 hown hI HO
    generalize svcL out ls.length = sv at *
    go_wp2_with fail
    go_loopg [7, 9] sv.length (fun g s i wr => ∃ k : Nat, k + g = sv.length ∧ i = .int .i64 k ∧ wr.ownsRow w2.heap.size 3 1 s (treeTo nb ls sv k).length ((treeTo nb ls sv k).map (Value.int .i64)) ∧ Below w2.heap.size w2 wr)
    case atStart => exact ⟨0, by omega, rfl, World.ownsRow_nil _ _ _ _, Below.refl _ _⟩
    case round =>
      obtain ⟨k, hkg, rfl, hrow, hbw⟩ := hrel
      have HBW := Lib.hid hbw
      have hzz := hbw.size
      clear hbw
      cases gk with
      | zero =>
        obtain rfl : k = sv.length := by omega
        clear hkg
        have HROW := Lib.hid hrow
        clear hrow
        go_wp2_with fail
        go_ret2
        exact ⟨_, rfl, ownsRow_base HROW.out HB2.out.size, HB2.out.trans (HBW.out.mono HB2.out.size)⟩
      | succ g =>
        have hk : k < sv.length := by omega
        have HG := Lib.hid hkg
        clear hkg
        obtain ⟨j, hj1, hj, hle, hjn, hsc⟩ := HRD.out k hk
        obtain ⟨bi, offi, hAi, hbi, hci⟩ := HI.out (by omega)
        subst hAi
        have ei := (HBW.out.cell (p := ⟨bi, offi + k, none⟩) hbi).trans (hci k hk)
        rw [hj1] at ei
        replace hbi : bi < wr.heap.size := Nat.lt_of_lt_of_le hbi hzz
        replace q0 := (HBW.out.cell (p := ⟨w.heap.size, 0, none⟩) hz).trans q0
        replace q1 := (HBW.out.cell (p := ⟨w.heap.size, 1, none⟩) hz).trans q1
        replace hz : w.heap.size < wr.heap.size := Nat.lt_of_lt_of_le hz hzz
        have HIW := Lib.hid (HI.out.upto HBW.out)
        obtain ⟨bl, offl, hAl, hbl, hcl⟩ := (HL.out.upto HBW.out) (by omega)
        subst hAl
        obtain ⟨f0, f1, _, _⟩ := hcl j hj
        have HLW := Lib.hid (HL.out.upto HBW.out)
        obtain ⟨hle, hno⟩ := hle
        obtain ⟨X, cx, rfl, hIX⟩ := ownsRow_ints hrow
        have HX := Lib.hid hIX
        have kj := fun W hl hx => joined16_any nb (some ⟨bl, offl, none⟩) X c cx ls (treeTo nb ls sv k) (ls.getD j (0, 0, 0, 0)).1 (ls.getD j (0, 0, 0, 0)).2.1 W hl hx hm (by omega)
        rw [hno] at kj
        clear hno hIX
        generalize connB nb ls (svcL (treeTo nb ls sv k) ls.length) (ls.getD j (0, 0, 0, 0)).1 (ls.getD j (0, 0, 0, 0)).2.1 = jb at *
        generalize (ls.getD j (0, 0, 0, 0)).1 = lf at *
        generalize (ls.getD j (0, 0, 0, 0)).2.1 = lt at *
        generalize treeTo nb ls sv k = fl at *
        have hbl2 : bl < wr.heap.size := hbl
        clear hcl hci hbl HL
        have hbl := hbl2
        cases jb with
        | true =>
          have HST := Lib.hid (hsc.trans (if_pos rfl))
          have HROW := Lib.hid hrow
          have KJ := Lib.hid kj
          skip
          clear hsc hrow kj
          go_wp2_with fail
          refine region_calls (w0 := wr) (fun jq => match jq with | 0 => .agg #[.int .i64 nb, .slice (some ⟨bl, offl, none⟩) ls.length c] | 1 => .slice X fl.length cx | 2 => .pointer (some ⟨w.heap.size, 1, none⟩) | 3 => .slice (some ⟨bl, offl, none⟩) ls.length c | 4 => .slice (some ⟨bi, offi, none⟩) sv.length ci | 5 => .int .i64 (k : Int) | 6 => .pointer (some ⟨bi, offi + k, none⟩) | 7 => .int .i64 (j : Int) | 8 => .pointer (some ⟨bl, offl + j * 4, none⟩) | 9 => .pointer (some ⟨bl, offl + j * 4, none⟩) | 10 => .int .i64 lf | 11 => .pointer (some ⟨w.heap.size, 1, none⟩) | 12 => .slice (some ⟨bl, offl, none⟩) ls.length c | 13 => .slice (some ⟨bi, offi, none⟩) sv.length ci | 14 => .int .i64 (k : Int) | 15 => .pointer (some ⟨bi, offi + k, none⟩) | 16 => .int .i64 (j : Int) | 17 => .pointer (some ⟨bl, offl + j * 4, none⟩) | 18 => .pointer (some ⟨bl, offl + j * 4 + 1, none⟩) | 19 => .int .i64 lt | 20 => .bool true | 21 => .bool false | _ => undef) (by kernel_rfl) (by kernel_rfl) ?_ ?_
          · intro iq oq ho aq W hI hdep hrest hgd
            have r2 : aq.eval (.tmp 2) = .pointer (some ⟨w.heap.size, 0, none⟩) := hrest 2 (apart_of (by kernel_rfl))
            have r7 : aq.eval (.tmp 7) = .slice X fl.length cx := hrest 7 (apart_of (by kernel_rfl))
            have r8 : aq.eval (.tmp 8) = .slice (some ⟨bi, offi, none⟩) sv.length ci := hrest 8 (apart_of (by kernel_rfl))
            have r9 : aq.eval (.tmp 9) = .int .i64 (k : Int) := hrest 9 (apart_of (by kernel_rfl))
            have hc : ∀ v, aq.eval (.const v) = v := fun _ => rfl
            have hfn : ∀ f, aq.eval (.func f) = .func (.func f) #[] #[] := fun _ => rfl
            clear hrest
            rcases iq with _ | _ | _ | _ | _ | _ | _ | _ | _ | _ | _ | _ | _ | _ | _ | _ | _ | _ | _ | _ | _ | _ | iq
            · injection ho with ho
              subst ho
              clear hdep hgd
              have x0 := (hI.cell (p := ⟨w.heap.size, 0, none⟩) hz).trans q0
              have x1 := (hI.cell (p := ⟨w.heap.size, 1, none⟩) hz).trans q1
              refine ⟨fun _ => .inl ?_, fun hw => (by simp [Region.wanted] at hw)⟩
              clear hI
              generalize aq.eval = ρ at *
              simp [go_sem, r2, x0, x1]
            · injection ho with ho
              subst ho
              clear hdep hgd
              refine ⟨fun _ => .inl ?_, fun hw => (by simp [Region.wanted] at hw)⟩
              clear hI
              generalize aq.eval = ρ at *
              simp [go_sem, r7]
            · injection ho with ho
              subst ho
              clear hdep hgd
              refine ⟨fun _ => .inl ?_, fun hw => (by simp [Region.wanted] at hw)⟩
              clear hI
              generalize aq.eval = ρ at *
              simp [go_sem, r2]
            · injection ho with ho
              subst ho
              have d2 : aq.eval (.tmp 27) = .pointer (some ⟨w.heap.size, 1, none⟩) := hdep ⟨2, .data⟩ (by simp) rfl _ _ rfl rfl
              clear hdep hgd
              have x1 := (hI.cell (p := ⟨w.heap.size, 1, none⟩) hz).trans q1
              refine ⟨fun _ => .inl ?_, fun hw => (by simp [Region.wanted] at hw)⟩
              clear hI
              generalize aq.eval = ρ at *
              simp [go_sem, d2, x1]
            · injection ho with ho
              subst ho
              clear hdep hgd
              refine ⟨fun _ => .inl ?_, fun hw => (by simp [Region.wanted] at hw)⟩
              clear hI
              generalize aq.eval = ρ at *
              simp [go_sem, r8]
            · injection ho with ho
              subst ho
              clear hdep hgd
              refine ⟨fun _ => .inl ?_, fun hw => (by simp [Region.wanted] at hw)⟩
              clear hI
              generalize aq.eval = ρ at *
              simp [go_sem, r9]
            · injection ho with ho
              subst ho
              have d4 : aq.eval (.tmp 29) = .slice (some ⟨bi, offi, none⟩) sv.length ci := hdep ⟨4, .data⟩ (by simp) rfl _ _ rfl rfl
              have d5 : aq.eval (.tmp 30) = .int .i64 (k : Int) := hdep ⟨5, .data⟩ (by simp) rfl _ _ rfl rfl
              clear hdep hgd
              refine ⟨fun _ => .inl ?_, fun hw => (by simp [Region.wanted] at hw)⟩
              clear hI
              generalize aq.eval = ρ at *
              simp [go_sem, d4, d5, hk]
            · injection ho with ho
              subst ho
              have d6 : aq.eval (.tmp 31) = .pointer (some ⟨bi, offi + k, none⟩) := hdep ⟨6, .data⟩ (by simp) rfl _ _ rfl rfl
              clear hdep hgd
              have x0 := (hI.cell (p := ⟨bi, offi + k, none⟩) hbi).trans ei
              refine ⟨fun _ => .inl ?_, fun hw => (by simp [Region.wanted] at hw)⟩
              clear hI
              generalize aq.eval = ρ at *
              simp [go_sem, d6, x0]
            · injection ho with ho
              subst ho
              have d3 : aq.eval (.tmp 28) = .slice (some ⟨bl, offl, none⟩) ls.length c := hdep ⟨3, .data⟩ (by simp) rfl _ _ rfl rfl
              have d7 : aq.eval (.tmp 32) = .int .i64 (j : Int) := hdep ⟨7, .data⟩ (by simp) rfl _ _ rfl rfl
              clear hdep hgd
              refine ⟨fun _ => .inl ?_, fun hw => (by simp [Region.wanted] at hw)⟩
              clear hI
              generalize aq.eval = ρ at *
              simp [go_sem, d3, d7, hj]
            · injection ho with ho
              subst ho
              have d8 : aq.eval (.tmp 33) = .pointer (some ⟨bl, offl + j * 4, none⟩) := hdep ⟨8, .data⟩ (by simp) rfl _ _ rfl rfl
              clear hdep hgd
              refine ⟨fun _ => .inl ?_, fun hw => (by simp [Region.wanted] at hw)⟩
              clear hI
              generalize aq.eval = ρ at *
              simp [go_sem, d8]
            · injection ho with ho
              subst ho
              have d9 : aq.eval (.tmp 34) = .pointer (some ⟨bl, offl + j * 4, none⟩) := hdep ⟨9, .data⟩ (by simp) rfl _ _ rfl rfl
              clear hdep hgd
              have x0 := (hI.cell (p := ⟨bl, offl + j * 4, none⟩) hbl).trans f0
              refine ⟨fun _ => .inl ?_, fun hw => (by simp [Region.wanted] at hw)⟩
              clear hI
              generalize aq.eval = ρ at *
              simp [go_sem, d9, x0]
            · injection ho with ho
              subst ho
              clear hdep hgd
              refine ⟨fun _ => .inl ?_, fun hw => (by simp [Region.wanted] at hw)⟩
              clear hI
              generalize aq.eval = ρ at *
              simp [go_sem, r2]
            · injection ho with ho
              subst ho
              have d11 : aq.eval (.tmp 36) = .pointer (some ⟨w.heap.size, 1, none⟩) := hdep ⟨11, .data⟩ (by simp) rfl _ _ rfl rfl
              clear hdep hgd
              have x1 := (hI.cell (p := ⟨w.heap.size, 1, none⟩) hz).trans q1
              refine ⟨fun _ => .inl ?_, fun hw => (by simp [Region.wanted] at hw)⟩
              clear hI
              generalize aq.eval = ρ at *
              simp [go_sem, d11, x1]
            · injection ho with ho
              subst ho
              clear hdep hgd
              refine ⟨fun _ => .inl ?_, fun hw => (by simp [Region.wanted] at hw)⟩
              clear hI
              generalize aq.eval = ρ at *
              simp [go_sem, r8]
            · injection ho with ho
              subst ho
              clear hdep hgd
              refine ⟨fun _ => .inl ?_, fun hw => (by simp [Region.wanted] at hw)⟩
              clear hI
              generalize aq.eval = ρ at *
              simp [go_sem, r9]
            · injection ho with ho
              subst ho
              have d13 : aq.eval (.tmp 38) = .slice (some ⟨bi, offi, none⟩) sv.length ci := hdep ⟨13, .data⟩ (by simp) rfl _ _ rfl rfl
              have d14 : aq.eval (.tmp 39) = .int .i64 (k : Int) := hdep ⟨14, .data⟩ (by simp) rfl _ _ rfl rfl
              clear hdep hgd
              refine ⟨fun _ => .inl ?_, fun hw => (by simp [Region.wanted] at hw)⟩
              clear hI
              generalize aq.eval = ρ at *
              simp [go_sem, d13, d14, hk]
            · injection ho with ho
              subst ho
              have d15 : aq.eval (.tmp 40) = .pointer (some ⟨bi, offi + k, none⟩) := hdep ⟨15, .data⟩ (by simp) rfl _ _ rfl rfl
              clear hdep hgd
              have x0 := (hI.cell (p := ⟨bi, offi + k, none⟩) hbi).trans ei
              refine ⟨fun _ => .inl ?_, fun hw => (by simp [Region.wanted] at hw)⟩
              clear hI
              generalize aq.eval = ρ at *
              simp [go_sem, d15, x0]
            · injection ho with ho
              subst ho
              have d12 : aq.eval (.tmp 37) = .slice (some ⟨bl, offl, none⟩) ls.length c := hdep ⟨12, .data⟩ (by simp) rfl _ _ rfl rfl
              have d16 : aq.eval (.tmp 41) = .int .i64 (j : Int) := hdep ⟨16, .data⟩ (by simp) rfl _ _ rfl rfl
              clear hdep hgd
              refine ⟨fun _ => .inl ?_, fun hw => (by simp [Region.wanted] at hw)⟩
              clear hI
              generalize aq.eval = ρ at *
              simp [go_sem, d12, d16, hj]
            · injection ho with ho
              subst ho
              have d17 : aq.eval (.tmp 42) = .pointer (some ⟨bl, offl + j * 4, none⟩) := hdep ⟨17, .data⟩ (by simp) rfl _ _ rfl rfl
              clear hdep hgd
              refine ⟨fun _ => .inl ?_, fun hw => (by simp [Region.wanted] at hw)⟩
              clear hI
              generalize aq.eval = ρ at *
              simp [go_sem, d17]
            · injection ho with ho
              subst ho
              have d18 : aq.eval (.tmp 43) = .pointer (some ⟨bl, offl + j * 4 + 1, none⟩) := hdep ⟨18, .data⟩ (by simp) rfl _ _ rfl rfl
              clear hdep hgd
              have x0 := (hI.cell (p := ⟨bl, offl + j * 4 + 1, none⟩) hbl).trans f1
              refine ⟨fun _ => .inl ?_, fun hw => (by simp [Region.wanted] at hw)⟩
              clear hI
              generalize aq.eval = ρ at *
              simp [go_sem, d18, x0]
            · injection ho with ho
              subst ho
              have d0 : aq.eval (.tmp 25) = .agg #[.int .i64 nb, .slice (some ⟨bl, offl, none⟩) ls.length c] := hdep ⟨0, .data⟩ (by simp) rfl _ _ rfl rfl
              have d1 : aq.eval (.tmp 26) = .slice X fl.length cx := hdep ⟨1, .data⟩ (by simp) rfl _ _ rfl rfl
              have d10 : aq.eval (.tmp 35) = .int .i64 lf := hdep ⟨10, .data⟩ (by simp) rfl _ _ rfl rfl
              have d19 : aq.eval (.tmp 44) = .int .i64 lt := hdep ⟨19, .data⟩ (by simp) rfl _ _ rfl rfl
              clear hdep hgd
              refine ⟨fun _ => .inr ⟨36, #[.agg #[.int .i64 nb, .slice (some ⟨bl, offl, none⟩) ls.length c], .slice X fl.length cx, .int .i64 lf, .int .i64 lt], ?_, KJ.out W (HLW.out.upto hI) (HX.out.upto hI)⟩, fun hw => (by simp [Region.wanted] at hw)⟩
              clear hI
              generalize aq.eval = ρ at *
              simp [go_sem, d0, d1, d10, d19, hfn]
            · injection ho with ho
              subst ho
              have d20 : aq.eval (.tmp 45) = .bool true := hdep ⟨20, .data⟩ (by simp) rfl _ _ rfl rfl
              clear hdep hgd
              refine ⟨fun _ => .inl ?_, fun hw => (by simp [Region.wanted] at hw)⟩
              clear hI
              generalize aq.eval = ρ at *
              simp [go_sem, d20]
            · simp at ho
          intro wq hb
          simp only [putAll, Act.put, List.setIfInBounds_toArray, List.set_cons_zero, List.set_cons_succ, Nat.reduceAdd]
          go_wp2_with fail
          go_roundg g
          case measure => omega
          case rel => exact ⟨k + 1, by have := HG.out; omega, by go_num, by rw [HST.out]; exact ownsRow_below HROW.out hb, HBW.out.trans (hb.mono HBW.out.size)⟩
        | false =>
          have HST := Lib.hid (hsc.trans (if_neg (by simp)))
          have KJ := Lib.hid kj
          skip
          have HROW0 := Lib.hid hrow
          clear hsc kj hrow
          go_wp2_with fail
          refine region_calls (w0 := wr) (fun jq => match jq with | 0 => .agg #[.int .i64 nb, .slice (some ⟨bl, offl, none⟩) ls.length c] | 1 => .slice X fl.length cx | 2 => .pointer (some ⟨w.heap.size, 1, none⟩) | 3 => .slice (some ⟨bl, offl, none⟩) ls.length c | 4 => .slice (some ⟨bi, offi, none⟩) sv.length ci | 5 => .int .i64 (k : Int) | 6 => .pointer (some ⟨bi, offi + k, none⟩) | 7 => .int .i64 (j : Int) | 8 => .pointer (some ⟨bl, offl + j * 4, none⟩) | 9 => .pointer (some ⟨bl, offl + j * 4, none⟩) | 10 => .int .i64 lf | 11 => .pointer (some ⟨w.heap.size, 1, none⟩) | 12 => .slice (some ⟨bl, offl, none⟩) ls.length c | 13 => .slice (some ⟨bi, offi, none⟩) sv.length ci | 14 => .int .i64 (k : Int) | 15 => .pointer (some ⟨bi, offi + k, none⟩) | 16 => .int .i64 (j : Int) | 17 => .pointer (some ⟨bl, offl + j * 4, none⟩) | 18 => .pointer (some ⟨bl, offl + j * 4 + 1, none⟩) | 19 => .int .i64 lt | 20 => .bool false | 21 => .bool true | _ => undef) (by kernel_rfl) (by kernel_rfl) ?_ ?_
          · intro iq oq ho aq W hI hdep hrest hgd
            have r2 : aq.eval (.tmp 2) = .pointer (some ⟨w.heap.size, 0, none⟩) := hrest 2 (apart_of (by kernel_rfl))
            have r7 : aq.eval (.tmp 7) = .slice X fl.length cx := hrest 7 (apart_of (by kernel_rfl))
            have r8 : aq.eval (.tmp 8) = .slice (some ⟨bi, offi, none⟩) sv.length ci := hrest 8 (apart_of (by kernel_rfl))
            have r9 : aq.eval (.tmp 9) = .int .i64 (k : Int) := hrest 9 (apart_of (by kernel_rfl))
            have hc : ∀ v, aq.eval (.const v) = v := fun _ => rfl
            have hfn : ∀ f, aq.eval (.func f) = .func (.func f) #[] #[] := fun _ => rfl
            clear hrest
            rcases iq with _ | _ | _ | _ | _ | _ | _ | _ | _ | _ | _ | _ | _ | _ | _ | _ | _ | _ | _ | _ | _ | _ | iq
            · injection ho with ho
              subst ho
              clear hdep hgd
              have x0 := (hI.cell (p := ⟨w.heap.size, 0, none⟩) hz).trans q0
              have x1 := (hI.cell (p := ⟨w.heap.size, 1, none⟩) hz).trans q1
              refine ⟨fun _ => .inl ?_, fun hw => (by simp [Region.wanted] at hw)⟩
              clear hI
              generalize aq.eval = ρ at *
              simp [go_sem, r2, x0, x1]
            · injection ho with ho
              subst ho
              clear hdep hgd
              refine ⟨fun _ => .inl ?_, fun hw => (by simp [Region.wanted] at hw)⟩
              clear hI
              generalize aq.eval = ρ at *
              simp [go_sem, r7]
            · injection ho with ho
              subst ho
              clear hdep hgd
              refine ⟨fun _ => .inl ?_, fun hw => (by simp [Region.wanted] at hw)⟩
              clear hI
              generalize aq.eval = ρ at *
              simp [go_sem, r2]
            · injection ho with ho
              subst ho
              have d2 : aq.eval (.tmp 27) = .pointer (some ⟨w.heap.size, 1, none⟩) := hdep ⟨2, .data⟩ (by simp) rfl _ _ rfl rfl
              clear hdep hgd
              have x1 := (hI.cell (p := ⟨w.heap.size, 1, none⟩) hz).trans q1
              refine ⟨fun _ => .inl ?_, fun hw => (by simp [Region.wanted] at hw)⟩
              clear hI
              generalize aq.eval = ρ at *
              simp [go_sem, d2, x1]
            · injection ho with ho
              subst ho
              clear hdep hgd
              refine ⟨fun _ => .inl ?_, fun hw => (by simp [Region.wanted] at hw)⟩
              clear hI
              generalize aq.eval = ρ at *
              simp [go_sem, r8]
            · injection ho with ho
              subst ho
              clear hdep hgd
              refine ⟨fun _ => .inl ?_, fun hw => (by simp [Region.wanted] at hw)⟩
              clear hI
              generalize aq.eval = ρ at *
              simp [go_sem, r9]
            · injection ho with ho
              subst ho
              have d4 : aq.eval (.tmp 29) = .slice (some ⟨bi, offi, none⟩) sv.length ci := hdep ⟨4, .data⟩ (by simp) rfl _ _ rfl rfl
              have d5 : aq.eval (.tmp 30) = .int .i64 (k : Int) := hdep ⟨5, .data⟩ (by simp) rfl _ _ rfl rfl
              clear hdep hgd
              refine ⟨fun _ => .inl ?_, fun hw => (by simp [Region.wanted] at hw)⟩
              clear hI
              generalize aq.eval = ρ at *
              simp [go_sem, d4, d5, hk]
            · injection ho with ho
              subst ho
              have d6 : aq.eval (.tmp 31) = .pointer (some ⟨bi, offi + k, none⟩) := hdep ⟨6, .data⟩ (by simp) rfl _ _ rfl rfl
              clear hdep hgd
              have x0 := (hI.cell (p := ⟨bi, offi + k, none⟩) hbi).trans ei
              refine ⟨fun _ => .inl ?_, fun hw => (by simp [Region.wanted] at hw)⟩
              clear hI
              generalize aq.eval = ρ at *
              simp [go_sem, d6, x0]
            · injection ho with ho
              subst ho
              have d3 : aq.eval (.tmp 28) = .slice (some ⟨bl, offl, none⟩) ls.length c := hdep ⟨3, .data⟩ (by simp) rfl _ _ rfl rfl
              have d7 : aq.eval (.tmp 32) = .int .i64 (j : Int) := hdep ⟨7, .data⟩ (by simp) rfl _ _ rfl rfl
              clear hdep hgd
              refine ⟨fun _ => .inl ?_, fun hw => (by simp [Region.wanted] at hw)⟩
              clear hI
              generalize aq.eval = ρ at *
              simp [go_sem, d3, d7, hj]
            · injection ho with ho
              subst ho
              have d8 : aq.eval (.tmp 33) = .pointer (some ⟨bl, offl + j * 4, none⟩) := hdep ⟨8, .data⟩ (by simp) rfl _ _ rfl rfl
              clear hdep hgd
              refine ⟨fun _ => .inl ?_, fun hw => (by simp [Region.wanted] at hw)⟩
              clear hI
              generalize aq.eval = ρ at *
              simp [go_sem, d8]
            · injection ho with ho
              subst ho
              have d9 : aq.eval (.tmp 34) = .pointer (some ⟨bl, offl + j * 4, none⟩) := hdep ⟨9, .data⟩ (by simp) rfl _ _ rfl rfl
              clear hdep hgd
              have x0 := (hI.cell (p := ⟨bl, offl + j * 4, none⟩) hbl).trans f0
              refine ⟨fun _ => .inl ?_, fun hw => (by simp [Region.wanted] at hw)⟩
              clear hI
              generalize aq.eval = ρ at *
              simp [go_sem, d9, x0]
            · injection ho with ho
              subst ho
              clear hdep hgd
              refine ⟨fun _ => .inl ?_, fun hw => (by simp [Region.wanted] at hw)⟩
              clear hI
              generalize aq.eval = ρ at *
              simp [go_sem, r2]
            · injection ho with ho
              subst ho
              have d11 : aq.eval (.tmp 36) = .pointer (some ⟨w.heap.size, 1, none⟩) := hdep ⟨11, .data⟩ (by simp) rfl _ _ rfl rfl
              clear hdep hgd
              have x1 := (hI.cell (p := ⟨w.heap.size, 1, none⟩) hz).trans q1
              refine ⟨fun _ => .inl ?_, fun hw => (by simp [Region.wanted] at hw)⟩
              clear hI
              generalize aq.eval = ρ at *
              simp [go_sem, d11, x1]
            · injection ho with ho
              subst ho
              clear hdep hgd
              refine ⟨fun _ => .inl ?_, fun hw => (by simp [Region.wanted] at hw)⟩
              clear hI
              generalize aq.eval = ρ at *
              simp [go_sem, r8]
            · injection ho with ho
              subst ho
              clear hdep hgd
              refine ⟨fun _ => .inl ?_, fun hw => (by simp [Region.wanted] at hw)⟩
              clear hI
              generalize aq.eval = ρ at *
              simp [go_sem, r9]
            · injection ho with ho
              subst ho
              have d13 : aq.eval (.tmp 38) = .slice (some ⟨bi, offi, none⟩) sv.length ci := hdep ⟨13, .data⟩ (by simp) rfl _ _ rfl rfl
              have d14 : aq.eval (.tmp 39) = .int .i64 (k : Int) := hdep ⟨14, .data⟩ (by simp) rfl _ _ rfl rfl
              clear hdep hgd
              refine ⟨fun _ => .inl ?_, fun hw => (by simp [Region.wanted] at hw)⟩
              clear hI
              generalize aq.eval = ρ at *
              simp [go_sem, d13, d14, hk]
            · injection ho with ho
              subst ho
              have d15 : aq.eval (.tmp 40) = .pointer (some ⟨bi, offi + k, none⟩) := hdep ⟨15, .data⟩ (by simp) rfl _ _ rfl rfl
              clear hdep hgd
              have x0 := (hI.cell (p := ⟨bi, offi + k, none⟩) hbi).trans ei
              refine ⟨fun _ => .inl ?_, fun hw => (by simp [Region.wanted] at hw)⟩
              clear hI
              generalize aq.eval = ρ at *
              simp [go_sem, d15, x0]
            · injection ho with ho
              subst ho
              have d12 : aq.eval (.tmp 37) = .slice (some ⟨bl, offl, none⟩) ls.length c := hdep ⟨12, .data⟩ (by simp) rfl _ _ rfl rfl
              have d16 : aq.eval (.tmp 41) = .int .i64 (j : Int) := hdep ⟨16, .data⟩ (by simp) rfl _ _ rfl rfl
              clear hdep hgd
              refine ⟨fun _ => .inl ?_, fun hw => (by simp [Region.wanted] at hw)⟩
              clear hI
              generalize aq.eval = ρ at *
              simp [go_sem, d12, d16, hj]
            · injection ho with ho
              subst ho
              have d17 : aq.eval (.tmp 42) = .pointer (some ⟨bl, offl + j * 4, none⟩) := hdep ⟨17, .data⟩ (by simp) rfl _ _ rfl rfl
              clear hdep hgd
              refine ⟨fun _ => .inl ?_, fun hw => (by simp [Region.wanted] at hw)⟩
              clear hI
              generalize aq.eval = ρ at *
              simp [go_sem, d17]
            · injection ho with ho
              subst ho
              have d18 : aq.eval (.tmp 43) = .pointer (some ⟨bl, offl + j * 4 + 1, none⟩) := hdep ⟨18, .data⟩ (by simp) rfl _ _ rfl rfl
              clear hdep hgd
              have x0 := (hI.cell (p := ⟨bl, offl + j * 4 + 1, none⟩) hbl).trans f1
              refine ⟨fun _ => .inl ?_, fun hw => (by simp [Region.wanted] at hw)⟩
              clear hI
              generalize aq.eval = ρ at *
              simp [go_sem, d18, x0]
            · injection ho with ho
              subst ho
              have d0 : aq.eval (.tmp 25) = .agg #[.int .i64 nb, .slice (some ⟨bl, offl, none⟩) ls.length c] := hdep ⟨0, .data⟩ (by simp) rfl _ _ rfl rfl
              have d1 : aq.eval (.tmp 26) = .slice X fl.length cx := hdep ⟨1, .data⟩ (by simp) rfl _ _ rfl rfl
              have d10 : aq.eval (.tmp 35) = .int .i64 lf := hdep ⟨10, .data⟩ (by simp) rfl _ _ rfl rfl
              have d19 : aq.eval (.tmp 44) = .int .i64 lt := hdep ⟨19, .data⟩ (by simp) rfl _ _ rfl rfl
              clear hdep hgd
              refine ⟨fun _ => .inr ⟨36, #[.agg #[.int .i64 nb, .slice (some ⟨bl, offl, none⟩) ls.length c], .slice X fl.length cx, .int .i64 lf, .int .i64 lt], ?_, KJ.out W (HLW.out.upto hI) (HX.out.upto hI)⟩, fun hw => (by simp [Region.wanted] at hw)⟩
              clear hI
              generalize aq.eval = ρ at *
              simp [go_sem, d0, d1, d10, d19, hfn]
            · injection ho with ho
              subst ho
              have d20 : aq.eval (.tmp 45) = .bool false := hdep ⟨20, .data⟩ (by simp) rfl _ _ rfl rfl
              clear hdep hgd
              refine ⟨fun _ => .inl ?_, fun hw => (by simp [Region.wanted] at hw)⟩
              clear hI
              generalize aq.eval = ρ at *
              simp [go_sem, d20]
            · simp at ho
          intro wq hb
          simp only [putAll, Act.put, List.setIfInBounds_toArray, List.set_cons_zero, List.set_cons_succ, Nat.reduceAdd]
          have hrow := ownsRow_below HROW0.out hb
          have hbs := hb.size
          have ei := (hb.cell (p := ⟨bi, offi + k, none⟩) hbi).trans ei
          have HBQ := Lib.hid (HBW.out.trans (hb.mono HBW.out.size))
          have hzq : w2.heap.size ≤ wq.heap.size := HBQ.out.size
          clear hb
          go_wp2_with (at_builtin; refine wpList_append_own _ rfl _ _ 25 rfl w2.heap.size 3 i0 (.int .i64 0) 1 8 Try.underlying25 hi0 hz0 hz1 hz2 rfl (by decide) _ _ _ rfl (hrow.alloc _) ⟨wq.heap.size, 0, none⟩ 1 1 [.int .i64 (j : Int)] rfl rfl (cell_one_new _ _ _) (by simp [Value.oneCell']) (by unfold maxLen; omega) (by omega) (by simp; omega) ?_; intro v' w9 hown' hgrow _)
          have hb2 := below_append hrow hzq hgrow
          have HOWN := Lib.hid hown'
          clear hgrow hrow hown'
          go_wp2_with fail
          go_roundg g
          case measure => omega
          case rel => exact ⟨k + 1, by have := HG.out; omega, by go_num, by rw [HST.out]; simpa using HOWN.out, HBQ.out.trans hb2⟩
  · have b1 : (outsE nb ls out != 0) = true := by rw [bne_iff_ne]; exact he
    rw [treeL, if_neg he]
    generalize outsE nb ls out = er at *
    have KO := Lib.hid ko
    clear ko he
    go_enter Try.func14, Try.ntmps14
    go_wp2_with fail
    refine (KO.out _ HL.out HO.out).mono ?_
    rintro e w1 ⟨rfl, hb⟩
    have HB1 := Lib.hid (HB0.out.trans (hb.mono HB0.out.size))
    clear hb HB0
    go_wp2_with fail
    go_ret2
    exact ⟨_, rfl, World.ownsRow_nil _ _ _ _, HB1.out⟩

set_option maxRecDepth 100000 in
set_option maxHeartbeats 4000000 in
theorem refbrg_any (nb : Int) (A O : Option Addr) (c co : Nat) (ls : List Ln) (out : List Int) (w : World) (hl : LinesR w w.heap.size A ls) (ho : IntsR w w.heap.size O out) (hm : ls.length ≤ 1000000) (hn : out.length ≤ 1000000) :
    Calls Try.prog 13 #[.agg #[.int .i64 nb, .slice A ls.length c], .slice O out.length co] w (IntsE w (brgL nb ls out) (outsE nb ls out)) := by
  obtain ⟨i0, hi0, hz0, hz1, hz2⟩ := info_parts info_int
  have ko := fun W hl ho => refouts_any nb A O c co ls out W hl ho hm hn
  have hb := (Below.refl w.heap.size w).alloc (Nat.le_refl _) (.cells #[.int .i64 nb, .slice A ls.length c] 24)
  have q0 : (w.alloc (.cells #[.int .i64 nb, .slice A ls.length c] 24)).cell? ⟨w.heap.size, 0, none⟩ = some (.int .i64 nb) := by simp
  have q1 : (w.alloc (.cells #[.int .i64 nb, .slice A ls.length c] 24)).cell? ⟨w.heap.size, 1, none⟩ = some (.slice A ls.length c) := by simp
  have hz : w.heap.size < (w.alloc (.cells #[.int .i64 nb, .slice A ls.length c] 24)).heap.size := by simp
  have HL := Lib.hid (hl.upto hb)
  have HO := Lib.hid (ho.upto hb)
  have HB0 := Lib.hid hb
  clear hl ho hb
  by_cases he : outsE nb ls out = 0
  · have ki := fun W ho => refin_any (.int .i64 nb) A O c co ls.length out W ho hm hn
    rw [← svcL_eq (check_of_outs he).2] at ki
    have hsl := svcL_le out ls.length
    have hvv := valid_of_check (check_of_outs he).1
    rw [he] at ko ⊢
    have hres : brgL nb ls out = brgTo nb ls out (svcL out ls.length) (svcL out ls.length).length := by rw [brgL, if_pos he]
    rw [hres]
    have hrd : ∀ k, k < (svcL out ls.length).length → ∃ j : Nat, (svcL out ls.length).getD k 0 = (j : Int) ∧ j < ls.length ∧ ((brgTo nb ls out (svcL out ls.length) k).length ≤ 1000000 ∧ (woL (svcL out ls.length) j).length ≤ 1000000) ∧ connB nb ls (notIn (woL (svcL out ls.length) j) ls.length) (ls.getD j (0, 0, 0, 0)).1 (ls.getD j (0, 0, 0, 0)).2.1 = (!decide (cntL nb ls out < cntL nb ls (unionL out [(j : Int)]))) ∧ brgTo nb ls out (svcL out ls.length) (k + 1) = if cntL nb ls out < cntL nb ls (unionL out [(j : Int)]) then brgTo nb ls out (svcL out ls.length) k ++ [(j : Int)] else brgTo nb ls out (svcL out ls.length) k := fun k hk => by
      have hm0 : (svcL out ls.length).getD k 0 ∈ svcL out ls.length := by rw [getD_eq _ _ _ hk]; exact List.getElem_mem hk
      have hx := svc_in he hm0
      obtain ⟨j, ej⟩ := Int.eq_ofNat_of_zero_le hx.1
      have hsc := brgTo_succ nb ls out (svcL out ls.length) k hk
      rw [ej] at hm0 hx hsc ⊢
      have h1 : (brgTo nb ls out (svcL out ls.length) k).length ≤ 1000000 := by
        have h := List.length_filter_le (fun x => decide (cntL nb ls out < cntL nb ls (unionL out [x]))) ((svcL out ls.length).take k)
        rw [List.length_take] at h
        unfold brgTo
        omega
      have h2 : (woL (svcL out ls.length) j).length ≤ 1000000 := by
        have h := List.length_filter_le (fun y => decide (y ≠ (j : Int))) (svcL out ls.length)
        unfold woL
        omega
      exact ⟨j, rfl, by omega, ⟨h1, h2⟩, brg_join he hm0, hsc⟩
    have KO := Lib.hid ko
    have KI := Lib.hid ki
    have HRD := Lib.hid hrd
    clear ko ki hrd hres hvv
    go_enter Try.func13, Try.ntmps13
    go_wp2_with fail
    refine (KO.out _ HL.out HO.out).mono ?_
    rintro e w1 ⟨rfl, hb⟩
    replace HL := Lib.hid (HL.out.upto hb)
    replace HO := Lib.hid (HO.out.upto hb)
    replace q0 := (hb.cell (p := ⟨w.heap.size, 0, none⟩) hz).trans q0
    replace q1 := (hb.cell (p := ⟨w.heap.size, 1, none⟩) hz).trans q1
    replace hz : w.heap.size < w1.heap.size := Nat.lt_of_lt_of_le hz hb.size
    have HB1 := Lib.hid (HB0.out.trans (hb.mono HB0.out.size))
    clear hb HB0
    go_wp2_with fail
    refine (KI.out _ HO.out).mono ?_
    rintro e w2 ⟨v, rfl, hown, hb⟩
    obtain ⟨Ai, ci, rfl, hI⟩ := ownsRow_ints hown
    have HI := Lib.hid hI
    replace HL := Lib.hid (HL.out.upto hb)
    replace q0 := (hb.cell (p := ⟨w.heap.size, 0, none⟩) hz).trans q0
    replace q1 := (hb.cell (p := ⟨w.heap.size, 1, none⟩) hz).trans q1
    replace hz : w.heap.size < w2.heap.size := Nat.lt_of_lt_of_le hz hb.size
    have HB2 := Lib.hid (HB1.out.trans (hb.mono HB1.out.size))
    clear hb HB1 hown hI HO
    generalize svcL out ls.length = sv at *
    go_wp2_with fail
    go_loopg [7, 9] sv.length (fun g s i wr => ∃ k : Nat, k + g = sv.length ∧ i = .int .i64 k ∧ wr.ownsRow w2.heap.size 3 1 s (brgTo nb ls out sv k).length ((brgTo nb ls out sv k).map (Value.int .i64)) ∧ Below w2.heap.size w2 wr)
    case atStart => exact ⟨0, by omega, rfl, World.ownsRow_nil _ _ _ _, Below.refl _ _⟩
    case round =>
      obtain ⟨k, hkg, rfl, hrow, hbw⟩ := hrel
      have HBW := Lib.hid hbw
      have hzz := hbw.size
      clear hbw
      cases gk with
      | zero =>
        obtain rfl : k = sv.length := by omega
        clear hkg
        have HROW := Lib.hid hrow
        clear hrow
        go_wp2_with fail
        go_ret2
        exact ⟨_, rfl, ownsRow_base HROW.out HB2.out.size, HB2.out.trans (HBW.out.mono HB2.out.size)⟩
      | succ g =>
        have hk : k < sv.length := by omega
        have HG := Lib.hid hkg
        clear hkg
        obtain ⟨j, hj1, hj, hle, hjn, hsc⟩ := HRD.out k hk
        obtain ⟨bi, offi, hAi, hbi, hci⟩ := HI.out (by omega)
        subst hAi
        have ei := (HBW.out.cell (p := ⟨bi, offi + k, none⟩) hbi).trans (hci k hk)
        rw [hj1] at ei
        replace hbi : bi < wr.heap.size := Nat.lt_of_lt_of_le hbi hzz
        replace q0 := (HBW.out.cell (p := ⟨w.heap.size, 0, none⟩) hz).trans q0
        replace q1 := (HBW.out.cell (p := ⟨w.heap.size, 1, none⟩) hz).trans q1
        replace hz : w.heap.size < wr.heap.size := Nat.lt_of_lt_of_le hz hzz
        have HIW := Lib.hid (HI.out.upto HBW.out)
        obtain ⟨bl, offl, hAl, hbl, hcl⟩ := (HL.out.upto HBW.out) (by omega)
        subst hAl
        obtain ⟨f0, f1, _, _⟩ := hcl j hj
        have HLW := Lib.hid (HL.out.upto HBW.out)
        obtain ⟨hle, hwl⟩ := hle
        obtain ⟨X, cx, rfl, hIX⟩ := ownsRow_ints hrow
        have kw := fun W hi => without_any (some ⟨bi, offi, none⟩) ci sv (j : Int) W hi (by omega)
        have kj := fun X cx W hl hx => joined16_any nb (some ⟨bl, offl, none⟩) X c cx ls (woL sv j) (ls.getD j (0, 0, 0, 0)).1 (ls.getD j (0, 0, 0, 0)).2.1 W hl hx hm (by omega)
        rw [hjn] at kj
        obtain ⟨jb, hjb⟩ : ∃ jb, (!decide (cntL nb ls out < cntL nb ls (unionL out [(j : Int)]))) = jb := ⟨_, rfl⟩
        rw [hjb] at kj
        clear hjn hIX
        generalize woL sv j = wl at *
        generalize (ls.getD j (0, 0, 0, 0)).1 = lf at *
        generalize (ls.getD j (0, 0, 0, 0)).2.1 = lt at *
        generalize brgTo nb ls out sv k = fl at *
        have hbl2 : bl < wr.heap.size := hbl
        clear hcl hci hbl HL
        have hbl := hbl2
        cases jb with
        | true =>
          have HST := Lib.hid (hsc.trans (if_neg (by simpa using hjb)))
          have HROW := Lib.hid hrow
          have KJ := Lib.hid kj
          have KW := Lib.hid kw; clear kw
          clear hsc hrow kj hjb
          go_wp2_with fail
          refine region_K (w0 := wr) (fun jq => match jq with | 0 => .inl (.agg #[.int .i64 nb, .slice (some ⟨bl, offl, none⟩) ls.length c]) | 1 => .inl (.slice (some ⟨bi, offi, none⟩) sv.length ci) | 2 => .inl (.slice (some ⟨bi, offi, none⟩) sv.length ci) | 3 => .inl (.int .i64 (k : Int)) | 4 => .inl (.pointer (some ⟨bi, offi + k, none⟩)) | 5 => .inl (.int .i64 (j : Int)) | 6 => .inr (0, fun g => g) | 7 => .inl (.pointer (some ⟨w.heap.size, 1, none⟩)) | 8 => .inl (.slice (some ⟨bl, offl, none⟩) ls.length c) | 9 => .inl (.slice (some ⟨bi, offi, none⟩) sv.length ci) | 10 => .inl (.int .i64 (k : Int)) | 11 => .inl (.pointer (some ⟨bi, offi + k, none⟩)) | 12 => .inl (.int .i64 (j : Int)) | 13 => .inl (.pointer (some ⟨bl, offl + j * 4, none⟩)) | 14 => .inl (.pointer (some ⟨bl, offl + j * 4, none⟩)) | 15 => .inl (.int .i64 lf) | 16 => .inl (.pointer (some ⟨w.heap.size, 1, none⟩)) | 17 => .inl (.slice (some ⟨bl, offl, none⟩) ls.length c) | 18 => .inl (.slice (some ⟨bi, offi, none⟩) sv.length ci) | 19 => .inl (.int .i64 (k : Int)) | 20 => .inl (.pointer (some ⟨bi, offi + k, none⟩)) | 21 => .inl (.int .i64 (j : Int)) | 22 => .inl (.pointer (some ⟨bl, offl + j * 4, none⟩)) | 23 => .inl (.pointer (some ⟨bl, offl + j * 4 + 1, none⟩)) | 24 => .inl (.int .i64 lt) | 25 => .inl (.bool true) | 26 => .inl (.bool false) | _ => .inl undef) (fun _ => rowR wl) (fun _ => rowR_up) (by kernel_rfl) (by kernel_rfl) ?_ ?_
          · intro iq oq ho aq W hI hdep hrest hgd
            have hc : ∀ v, aq.eval (.const v) = v := fun _ => rfl
            have hfn : ∀ f, aq.eval (.func f) = .func (.func f) #[] #[] := fun _ => rfl
            rcases iq with _ | _ | _ | _ | _ | _ | _ | _ | _ | _ | _ | _ | _ | _ | _ | _ | _ | _ | _ | _ | _ | _ | _ | _ | _ | _ | _ | iq
            · injection ho with ho
              subst ho
              have r2 : aq.eval (.tmp 2) = .pointer (some ⟨w.heap.size, 0, none⟩) := hrest 2 (by kernel_rfl)
              clear hrest
              clear hdep hgd
              have x0 := (hI.cell (p := ⟨w.heap.size, 0, none⟩) hz).trans q0
              have x1 := (hI.cell (p := ⟨w.heap.size, 1, none⟩) hz).trans q1
              refine ⟨fun _ => .inl ⟨.agg #[.int .i64 nb, .slice (some ⟨bl, offl, none⟩) ls.length c], ?_, rfl⟩, fun hw => (by simp [Region.wanted] at hw)⟩
              clear hI
              generalize aq.eval = ρ at *
              simp [go_sem, r2, x0, x1]
            · injection ho with ho
              subst ho
              have r8 : aq.eval (.tmp 8) = .slice (some ⟨bi, offi, none⟩) sv.length ci := hrest 8 (by kernel_rfl)
              clear hrest
              clear hdep hgd
              refine ⟨fun _ => .inl ⟨.slice (some ⟨bi, offi, none⟩) sv.length ci, ?_, rfl⟩, fun hw => (by simp [Region.wanted] at hw)⟩
              clear hI
              generalize aq.eval = ρ at *
              simp [go_sem, r8]
            · injection ho with ho
              subst ho
              have r8 : aq.eval (.tmp 8) = .slice (some ⟨bi, offi, none⟩) sv.length ci := hrest 8 (by kernel_rfl)
              clear hrest
              clear hdep hgd
              refine ⟨fun _ => .inl ⟨.slice (some ⟨bi, offi, none⟩) sv.length ci, ?_, rfl⟩, fun hw => (by simp [Region.wanted] at hw)⟩
              clear hI
              generalize aq.eval = ρ at *
              simp [go_sem, r8]
            · injection ho with ho
              subst ho
              have r9 : aq.eval (.tmp 9) = .int .i64 (k : Int) := hrest 9 (by kernel_rfl)
              clear hrest
              clear hdep hgd
              refine ⟨fun _ => .inl ⟨.int .i64 (k : Int), ?_, rfl⟩, fun hw => (by simp [Region.wanted] at hw)⟩
              clear hI
              generalize aq.eval = ρ at *
              simp [go_sem, r9]
            · injection ho with ho
              subst ho
              clear hrest
              have d2 : aq.eval (.tmp 27) = .slice (some ⟨bi, offi, none⟩) sv.length ci := hdep ⟨2, .data⟩ (by simp) rfl _ _ rfl rfl
              have d3 : aq.eval (.tmp 28) = .int .i64 (k : Int) := hdep ⟨3, .data⟩ (by simp) rfl _ _ rfl rfl
              clear hdep hgd
              refine ⟨fun _ => .inl ⟨.pointer (some ⟨bi, offi + k, none⟩), ?_, rfl⟩, fun hw => (by simp [Region.wanted] at hw)⟩
              clear hI
              generalize aq.eval = ρ at *
              simp [go_sem, d2, d3, hk]
            · injection ho with ho
              subst ho
              clear hrest
              have d4 : aq.eval (.tmp 29) = .pointer (some ⟨bi, offi + k, none⟩) := hdep ⟨4, .data⟩ (by simp) rfl _ _ rfl rfl
              clear hdep hgd
              have x0 := (hI.cell (p := ⟨bi, offi + k, none⟩) hbi).trans ei
              refine ⟨fun _ => .inl ⟨.int .i64 (j : Int), ?_, rfl⟩, fun hw => (by simp [Region.wanted] at hw)⟩
              clear hI
              generalize aq.eval = ρ at *
              simp [go_sem, d4, x0]
            · injection ho with ho
              subst ho
              clear hrest
              have d1 : aq.eval (.tmp 26) = .slice (some ⟨bi, offi, none⟩) sv.length ci := hdep ⟨1, .data⟩ (by simp) rfl _ _ rfl rfl
              have d5 : aq.eval (.tmp 30) = .int .i64 (j : Int) := hdep ⟨5, .data⟩ (by simp) rfl _ _ rfl rfl
              clear hdep hgd
              refine ⟨fun _ => .inr ⟨37, #[.slice (some ⟨bi, offi, none⟩) sv.length ci, .int .i64 (j : Int)], ?_, (KW.out W (HIW.out.upto hI)).mono fun e w' ⟨v, he, ho, hb⟩ => ⟨v, he, ⟨v, rfl, rowR_own ho⟩, hb⟩⟩, fun hw => (by simp [Region.wanted] at hw)⟩
              clear hI
              generalize aq.eval = ρ at *
              simp [go_sem, d1, d5, hfn]
            · injection ho with ho
              subst ho
              have r2 : aq.eval (.tmp 2) = .pointer (some ⟨w.heap.size, 0, none⟩) := hrest 2 (by kernel_rfl)
              clear hrest
              clear hdep hgd
              refine ⟨fun _ => .inl ⟨.pointer (some ⟨w.heap.size, 1, none⟩), ?_, rfl⟩, fun hw => (by simp [Region.wanted] at hw)⟩
              clear hI
              generalize aq.eval = ρ at *
              simp [go_sem, r2]
            · injection ho with ho
              subst ho
              clear hrest
              have d7 : aq.eval (.tmp 32) = .pointer (some ⟨w.heap.size, 1, none⟩) := hdep ⟨7, .data⟩ (by simp) rfl _ _ rfl rfl
              clear hdep hgd
              have x1 := (hI.cell (p := ⟨w.heap.size, 1, none⟩) hz).trans q1
              refine ⟨fun _ => .inl ⟨.slice (some ⟨bl, offl, none⟩) ls.length c, ?_, rfl⟩, fun hw => (by simp [Region.wanted] at hw)⟩
              clear hI
              generalize aq.eval = ρ at *
              simp [go_sem, d7, x1]
            · injection ho with ho
              subst ho
              have r8 : aq.eval (.tmp 8) = .slice (some ⟨bi, offi, none⟩) sv.length ci := hrest 8 (by kernel_rfl)
              clear hrest
              clear hdep hgd
              refine ⟨fun _ => .inl ⟨.slice (some ⟨bi, offi, none⟩) sv.length ci, ?_, rfl⟩, fun hw => (by simp [Region.wanted] at hw)⟩
              clear hI
              generalize aq.eval = ρ at *
              simp [go_sem, r8]
            · injection ho with ho
              subst ho
              have r9 : aq.eval (.tmp 9) = .int .i64 (k : Int) := hrest 9 (by kernel_rfl)
              clear hrest
              clear hdep hgd
              refine ⟨fun _ => .inl ⟨.int .i64 (k : Int), ?_, rfl⟩, fun hw => (by simp [Region.wanted] at hw)⟩
              clear hI
              generalize aq.eval = ρ at *
              simp [go_sem, r9]
            · injection ho with ho
              subst ho
              clear hrest
              have d9 : aq.eval (.tmp 34) = .slice (some ⟨bi, offi, none⟩) sv.length ci := hdep ⟨9, .data⟩ (by simp) rfl _ _ rfl rfl
              have d10 : aq.eval (.tmp 35) = .int .i64 (k : Int) := hdep ⟨10, .data⟩ (by simp) rfl _ _ rfl rfl
              clear hdep hgd
              refine ⟨fun _ => .inl ⟨.pointer (some ⟨bi, offi + k, none⟩), ?_, rfl⟩, fun hw => (by simp [Region.wanted] at hw)⟩
              clear hI
              generalize aq.eval = ρ at *
              simp [go_sem, d9, d10, hk]
            · injection ho with ho
              subst ho
              clear hrest
              have d11 : aq.eval (.tmp 36) = .pointer (some ⟨bi, offi + k, none⟩) := hdep ⟨11, .data⟩ (by simp) rfl _ _ rfl rfl
              clear hdep hgd
              have x0 := (hI.cell (p := ⟨bi, offi + k, none⟩) hbi).trans ei
              refine ⟨fun _ => .inl ⟨.int .i64 (j : Int), ?_, rfl⟩, fun hw => (by simp [Region.wanted] at hw)⟩
              clear hI
              generalize aq.eval = ρ at *
              simp [go_sem, d11, x0]
            · injection ho with ho
              subst ho
              clear hrest
              have d8 : aq.eval (.tmp 33) = .slice (some ⟨bl, offl, none⟩) ls.length c := hdep ⟨8, .data⟩ (by simp) rfl _ _ rfl rfl
              have d12 : aq.eval (.tmp 37) = .int .i64 (j : Int) := hdep ⟨12, .data⟩ (by simp) rfl _ _ rfl rfl
              clear hdep hgd
              refine ⟨fun _ => .inl ⟨.pointer (some ⟨bl, offl + j * 4, none⟩), ?_, rfl⟩, fun hw => (by simp [Region.wanted] at hw)⟩
              clear hI
              generalize aq.eval = ρ at *
              simp [go_sem, d8, d12, hj]
            · injection ho with ho
              subst ho
              clear hrest
              have d13 : aq.eval (.tmp 38) = .pointer (some ⟨bl, offl + j * 4, none⟩) := hdep ⟨13, .data⟩ (by simp) rfl _ _ rfl rfl
              clear hdep hgd
              refine ⟨fun _ => .inl ⟨.pointer (some ⟨bl, offl + j * 4, none⟩), ?_, rfl⟩, fun hw => (by simp [Region.wanted] at hw)⟩
              clear hI
              generalize aq.eval = ρ at *
              simp [go_sem, d13]
            · injection ho with ho
              subst ho
              clear hrest
              have d14 : aq.eval (.tmp 39) = .pointer (some ⟨bl, offl + j * 4, none⟩) := hdep ⟨14, .data⟩ (by simp) rfl _ _ rfl rfl
              clear hdep hgd
              have x0 := (hI.cell (p := ⟨bl, offl + j * 4, none⟩) hbl).trans f0
              refine ⟨fun _ => .inl ⟨.int .i64 lf, ?_, rfl⟩, fun hw => (by simp [Region.wanted] at hw)⟩
              clear hI
              generalize aq.eval = ρ at *
              simp [go_sem, d14, x0]
            · injection ho with ho
              subst ho
              have r2 : aq.eval (.tmp 2) = .pointer (some ⟨w.heap.size, 0, none⟩) := hrest 2 (by kernel_rfl)
              clear hrest
              clear hdep hgd
              refine ⟨fun _ => .inl ⟨.pointer (some ⟨w.heap.size, 1, none⟩), ?_, rfl⟩, fun hw => (by simp [Region.wanted] at hw)⟩
              clear hI
              generalize aq.eval = ρ at *
              simp [go_sem, r2]
            · injection ho with ho
              subst ho
              clear hrest
              have d16 : aq.eval (.tmp 41) = .pointer (some ⟨w.heap.size, 1, none⟩) := hdep ⟨16, .data⟩ (by simp) rfl _ _ rfl rfl
              clear hdep hgd
              have x1 := (hI.cell (p := ⟨w.heap.size, 1, none⟩) hz).trans q1
              refine ⟨fun _ => .inl ⟨.slice (some ⟨bl, offl, none⟩) ls.length c, ?_, rfl⟩, fun hw => (by simp [Region.wanted] at hw)⟩
              clear hI
              generalize aq.eval = ρ at *
              simp [go_sem, d16, x1]
            · injection ho with ho
              subst ho
              have r8 : aq.eval (.tmp 8) = .slice (some ⟨bi, offi, none⟩) sv.length ci := hrest 8 (by kernel_rfl)
              clear hrest
              clear hdep hgd
              refine ⟨fun _ => .inl ⟨.slice (some ⟨bi, offi, none⟩) sv.length ci, ?_, rfl⟩, fun hw => (by simp [Region.wanted] at hw)⟩
              clear hI
              generalize aq.eval = ρ at *
              simp [go_sem, r8]
            · injection ho with ho
              subst ho
              have r9 : aq.eval (.tmp 9) = .int .i64 (k : Int) := hrest 9 (by kernel_rfl)
              clear hrest
              clear hdep hgd
              refine ⟨fun _ => .inl ⟨.int .i64 (k : Int), ?_, rfl⟩, fun hw => (by simp [Region.wanted] at hw)⟩
              clear hI
              generalize aq.eval = ρ at *
              simp [go_sem, r9]
            · injection ho with ho
              subst ho
              clear hrest
              have d18 : aq.eval (.tmp 43) = .slice (some ⟨bi, offi, none⟩) sv.length ci := hdep ⟨18, .data⟩ (by simp) rfl _ _ rfl rfl
              have d19 : aq.eval (.tmp 44) = .int .i64 (k : Int) := hdep ⟨19, .data⟩ (by simp) rfl _ _ rfl rfl
              clear hdep hgd
              refine ⟨fun _ => .inl ⟨.pointer (some ⟨bi, offi + k, none⟩), ?_, rfl⟩, fun hw => (by simp [Region.wanted] at hw)⟩
              clear hI
              generalize aq.eval = ρ at *
              simp [go_sem, d18, d19, hk]
            · injection ho with ho
              subst ho
              clear hrest
              have d20 : aq.eval (.tmp 45) = .pointer (some ⟨bi, offi + k, none⟩) := hdep ⟨20, .data⟩ (by simp) rfl _ _ rfl rfl
              clear hdep hgd
              have x0 := (hI.cell (p := ⟨bi, offi + k, none⟩) hbi).trans ei
              refine ⟨fun _ => .inl ⟨.int .i64 (j : Int), ?_, rfl⟩, fun hw => (by simp [Region.wanted] at hw)⟩
              clear hI
              generalize aq.eval = ρ at *
              simp [go_sem, d20, x0]
            · injection ho with ho
              subst ho
              clear hrest
              have d17 : aq.eval (.tmp 42) = .slice (some ⟨bl, offl, none⟩) ls.length c := hdep ⟨17, .data⟩ (by simp) rfl _ _ rfl rfl
              have d21 : aq.eval (.tmp 46) = .int .i64 (j : Int) := hdep ⟨21, .data⟩ (by simp) rfl _ _ rfl rfl
              clear hdep hgd
              refine ⟨fun _ => .inl ⟨.pointer (some ⟨bl, offl + j * 4, none⟩), ?_, rfl⟩, fun hw => (by simp [Region.wanted] at hw)⟩
              clear hI
              generalize aq.eval = ρ at *
              simp [go_sem, d17, d21, hj]
            · injection ho with ho
              subst ho
              clear hrest
              have d22 : aq.eval (.tmp 47) = .pointer (some ⟨bl, offl + j * 4, none⟩) := hdep ⟨22, .data⟩ (by simp) rfl _ _ rfl rfl
              clear hdep hgd
              refine ⟨fun _ => .inl ⟨.pointer (some ⟨bl, offl + j * 4 + 1, none⟩), ?_, rfl⟩, fun hw => (by simp [Region.wanted] at hw)⟩
              clear hI
              generalize aq.eval = ρ at *
              simp [go_sem, d22]
            · injection ho with ho
              subst ho
              clear hrest
              have d23 : aq.eval (.tmp 48) = .pointer (some ⟨bl, offl + j * 4 + 1, none⟩) := hdep ⟨23, .data⟩ (by simp) rfl _ _ rfl rfl
              clear hdep hgd
              have x0 := (hI.cell (p := ⟨bl, offl + j * 4 + 1, none⟩) hbl).trans f1
              refine ⟨fun _ => .inl ⟨.int .i64 lt, ?_, rfl⟩, fun hw => (by simp [Region.wanted] at hw)⟩
              clear hI
              generalize aq.eval = ρ at *
              simp [go_sem, d23, x0]
            · injection ho with ho
              subst ho
              clear hrest
              have d0 : aq.eval (.tmp 25) = .agg #[.int .i64 nb, .slice (some ⟨bl, offl, none⟩) ls.length c] := hdep ⟨0, .data⟩ (by simp) rfl _ _ rfl rfl
              obtain ⟨g6, d6, hR6⟩ : ∃ g, aq.eval (.tmp 31) = g ∧ (fun _ => rowR wl) 0 g W := hdep ⟨6, .data⟩ (by simp) rfl _ _ rfl rfl
              have d15 : aq.eval (.tmp 40) = .int .i64 lf := hdep ⟨15, .data⟩ (by simp) rfl _ _ rfl rfl
              have d24 : aq.eval (.tmp 49) = .int .i64 lt := hdep ⟨24, .data⟩ (by simp) rfl _ _ rfl rfl
              clear hdep hgd
              refine ⟨fun _ => .inr ⟨36, #[.agg #[.int .i64 nb, .slice (some ⟨bl, offl, none⟩) ls.length c], g6, .int .i64 lf, .int .i64 lt], ?_, (by obtain ⟨Y, cy, rfl, hi⟩ := hR6; exact (KJ.out _ _ W (HLW.out.upto hI) hi).mono fun e w' h => ⟨_, h.1, rfl, h.2⟩)⟩, fun hw => (by simp [Region.wanted] at hw)⟩
              clear hI
              generalize aq.eval = ρ at *
              simp [go_sem, d0, d6, d15, d24, hfn]
            · injection ho with ho
              subst ho
              clear hrest
              have d25 : aq.eval (.tmp 50) = .bool true := hdep ⟨25, .data⟩ (by simp) rfl _ _ rfl rfl
              clear hdep hgd
              refine ⟨fun _ => .inl ⟨.bool false, ?_, rfl⟩, fun hw => (by simp [Region.wanted] at hw)⟩
              clear hI
              generalize aq.eval = ρ at *
              simp [go_sem, d25]
            · simp at ho
          intro vs wq hb hF
          have hv0 : vs 0 = .agg #[.int .i64 nb, .slice (some ⟨bl, offl, none⟩) ls.length c] := hF 0 (by decide)
          have hv1 : vs 1 = .slice (some ⟨bi, offi, none⟩) sv.length ci := hF 1 (by decide)
          have hv2 : vs 2 = .slice (some ⟨bi, offi, none⟩) sv.length ci := hF 2 (by decide)
          have hv3 : vs 3 = .int .i64 (k : Int) := hF 3 (by decide)
          have hv4 : vs 4 = .pointer (some ⟨bi, offi + k, none⟩) := hF 4 (by decide)
          have hv5 : vs 5 = .int .i64 (j : Int) := hF 5 (by decide)
          obtain ⟨gg6, hv6, hR6⟩ : ∃ g, vs 6 = g ∧ (fun _ => rowR wl) 0 g wq := hF 6 (by decide)
          have hv7 : vs 7 = .pointer (some ⟨w.heap.size, 1, none⟩) := hF 7 (by decide)
          have hv8 : vs 8 = .slice (some ⟨bl, offl, none⟩) ls.length c := hF 8 (by decide)
          have hv9 : vs 9 = .slice (some ⟨bi, offi, none⟩) sv.length ci := hF 9 (by decide)
          have hv10 : vs 10 = .int .i64 (k : Int) := hF 10 (by decide)
          have hv11 : vs 11 = .pointer (some ⟨bi, offi + k, none⟩) := hF 11 (by decide)
          have hv12 : vs 12 = .int .i64 (j : Int) := hF 12 (by decide)
          have hv13 : vs 13 = .pointer (some ⟨bl, offl + j * 4, none⟩) := hF 13 (by decide)
          have hv14 : vs 14 = .pointer (some ⟨bl, offl + j * 4, none⟩) := hF 14 (by decide)
          have hv15 : vs 15 = .int .i64 lf := hF 15 (by decide)
          have hv16 : vs 16 = .pointer (some ⟨w.heap.size, 1, none⟩) := hF 16 (by decide)
          have hv17 : vs 17 = .slice (some ⟨bl, offl, none⟩) ls.length c := hF 17 (by decide)
          have hv18 : vs 18 = .slice (some ⟨bi, offi, none⟩) sv.length ci := hF 18 (by decide)
          have hv19 : vs 19 = .int .i64 (k : Int) := hF 19 (by decide)
          have hv20 : vs 20 = .pointer (some ⟨bi, offi + k, none⟩) := hF 20 (by decide)
          have hv21 : vs 21 = .int .i64 (j : Int) := hF 21 (by decide)
          have hv22 : vs 22 = .pointer (some ⟨bl, offl + j * 4, none⟩) := hF 22 (by decide)
          have hv23 : vs 23 = .pointer (some ⟨bl, offl + j * 4 + 1, none⟩) := hF 23 (by decide)
          have hv24 : vs 24 = .int .i64 lt := hF 24 (by decide)
          have hv25 : vs 25 = .bool true := hF 25 (by decide)
          have hv26 : vs 26 = .bool false := hF 26 (by decide)
          clear hF
          simp only [putAll, Act.put, List.setIfInBounds_toArray, List.set_cons_zero, List.set_cons_succ, Nat.reduceAdd, hv0, hv1, hv2, hv3, hv4, hv5, hv6, hv7, hv8, hv9, hv10, hv11, hv12, hv13, hv14, hv15, hv16, hv17, hv18, hv19, hv20, hv21, hv22, hv23, hv24, hv25, hv26]
          clear hv0 hv1 hv2 hv3 hv4 hv5 hv6 hv7 hv8 hv9 hv10 hv11 hv12 hv13 hv14 hv15 hv16 hv17 hv18 hv19 hv20 hv21 hv22 hv23 hv24 hv25 hv26
          go_wp2_with fail
          go_roundg g
          case measure => omega
          case rel => exact ⟨k + 1, by have := HG.out; omega, by go_num, by rw [HST.out]; exact ownsRow_below HROW.out hb, HBW.out.trans (hb.mono HBW.out.size)⟩
        | false =>
          have HST := Lib.hid (hsc.trans (if_pos (by simpa using hjb)))
          have KJ := Lib.hid kj
          have KW := Lib.hid kw; clear kw
          have HROW0 := Lib.hid hrow
          clear hsc kj hrow hjb
          go_wp2_with fail
          refine region_K (w0 := wr) (fun jq => match jq with | 0 => .inl (.agg #[.int .i64 nb, .slice (some ⟨bl, offl, none⟩) ls.length c]) | 1 => .inl (.slice (some ⟨bi, offi, none⟩) sv.length ci) | 2 => .inl (.slice (some ⟨bi, offi, none⟩) sv.length ci) | 3 => .inl (.int .i64 (k : Int)) | 4 => .inl (.pointer (some ⟨bi, offi + k, none⟩)) | 5 => .inl (.int .i64 (j : Int)) | 6 => .inr (0, fun g => g) | 7 => .inl (.pointer (some ⟨w.heap.size, 1, none⟩)) | 8 => .inl (.slice (some ⟨bl, offl, none⟩) ls.length c) | 9 => .inl (.slice (some ⟨bi, offi, none⟩) sv.length ci) | 10 => .inl (.int .i64 (k : Int)) | 11 => .inl (.pointer (some ⟨bi, offi + k, none⟩)) | 12 => .inl (.int .i64 (j : Int)) | 13 => .inl (.pointer (some ⟨bl, offl + j * 4, none⟩)) | 14 => .inl (.pointer (some ⟨bl, offl + j * 4, none⟩)) | 15 => .inl (.int .i64 lf) | 16 => .inl (.pointer (some ⟨w.heap.size, 1, none⟩)) | 17 => .inl (.slice (some ⟨bl, offl, none⟩) ls.length c) | 18 => .inl (.slice (some ⟨bi, offi, none⟩) sv.length ci) | 19 => .inl (.int .i64 (k : Int)) | 20 => .inl (.pointer (some ⟨bi, offi + k, none⟩)) | 21 => .inl (.int .i64 (j : Int)) | 22 => .inl (.pointer (some ⟨bl, offl + j * 4, none⟩)) | 23 => .inl (.pointer (some ⟨bl, offl + j * 4 + 1, none⟩)) | 24 => .inl (.int .i64 lt) | 25 => .inl (.bool false) | 26 => .inl (.bool true) | _ => .inl undef) (fun _ => rowR wl) (fun _ => rowR_up) (by kernel_rfl) (by kernel_rfl) ?_ ?_
          · intro iq oq ho aq W hI hdep hrest hgd
            have hc : ∀ v, aq.eval (.const v) = v := fun _ => rfl
            have hfn : ∀ f, aq.eval (.func f) = .func (.func f) #[] #[] := fun _ => rfl
            rcases iq with _ | _ | _ | _ | _ | _ | _ | _ | _ | _ | _ | _ | _ | _ | _ | _ | _ | _ | _ | _ | _ | _ | _ | _ | _ | _ | _ | iq
            · injection ho with ho
              subst ho
              have r2 : aq.eval (.tmp 2) = .pointer (some ⟨w.heap.size, 0, none⟩) := hrest 2 (by kernel_rfl)
              clear hrest
              clear hdep hgd
              have x0 := (hI.cell (p := ⟨w.heap.size, 0, none⟩) hz).trans q0
              have x1 := (hI.cell (p := ⟨w.heap.size, 1, none⟩) hz).trans q1
              refine ⟨fun _ => .inl ⟨.agg #[.int .i64 nb, .slice (some ⟨bl, offl, none⟩) ls.length c], ?_, rfl⟩, fun hw => (by simp [Region.wanted] at hw)⟩
              clear hI
              generalize aq.eval = ρ at *
              simp [go_sem, r2, x0, x1]
            · injection ho with ho
              subst ho
              have r8 : aq.eval (.tmp 8) = .slice (some ⟨bi, offi, none⟩) sv.length ci := hrest 8 (by kernel_rfl)
              clear hrest
              clear hdep hgd
              refine ⟨fun _ => .inl ⟨.slice (some ⟨bi, offi, none⟩) sv.length ci, ?_, rfl⟩, fun hw => (by simp [Region.wanted] at hw)⟩
              clear hI
              generalize aq.eval = ρ at *
              simp [go_sem, r8]
            · injection ho with ho
              subst ho
              have r8 : aq.eval (.tmp 8) = .slice (some ⟨bi, offi, none⟩) sv.length ci := hrest 8 (by kernel_rfl)
              clear hrest
              clear hdep hgd
              refine ⟨fun _ => .inl ⟨.slice (some ⟨bi, offi, none⟩) sv.length ci, ?_, rfl⟩, fun hw => (by simp [Region.wanted] at hw)⟩
              clear hI
              generalize aq.eval = ρ at *
              simp [go_sem, r8]
            · injection ho with ho
              subst ho
              have r9 : aq.eval (.tmp 9) = .int .i64 (k : Int) := hrest 9 (by kernel_rfl)
              clear hrest
              clear hdep hgd
              refine ⟨fun _ => .inl ⟨.int .i64 (k : Int), ?_, rfl⟩, fun hw => (by simp [Region.wanted] at hw)⟩
              clear hI
              generalize aq.eval = ρ at *
              simp [go_sem, r9]
            · injection ho with ho
              subst ho
              clear hrest
              have d2 : aq.eval (.tmp 27) = .slice (some ⟨bi, offi, none⟩) sv.length ci := hdep ⟨2, .data⟩ (by simp) rfl _ _ rfl rfl
              have d3 : aq.eval (.tmp 28) = .int .i64 (k : Int) := hdep ⟨3, .data⟩ (by simp) rfl _ _ rfl rfl
              clear hdep hgd
              refine ⟨fun _ => .inl ⟨.pointer (some ⟨bi, offi + k, none⟩), ?_, rfl⟩, fun hw => (by simp [Region.wanted] at hw)⟩
              clear hI
              generalize aq.eval = ρ at *
              simp [go_sem, d2, d3, hk]
            · injection ho with ho
              subst ho
              clear hrest
              have d4 : aq.eval (.tmp 29) = .pointer (some ⟨bi, offi + k, none⟩) := hdep ⟨4, .data⟩ (by simp) rfl _ _ rfl rfl
              clear hdep hgd
              have x0 := (hI.cell (p := ⟨bi, offi + k, none⟩) hbi).trans ei
              refine ⟨fun _ => .inl ⟨.int .i64 (j : Int), ?_, rfl⟩, fun hw => (by simp [Region.wanted] at hw)⟩
              clear hI
              generalize aq.eval = ρ at *
              simp [go_sem, d4, x0]
            · injection ho with ho
              subst ho
              clear hrest
              have d1 : aq.eval (.tmp 26) = .slice (some ⟨bi, offi, none⟩) sv.length ci := hdep ⟨1, .data⟩ (by simp) rfl _ _ rfl rfl
              have d5 : aq.eval (.tmp 30) = .int .i64 (j : Int) := hdep ⟨5, .data⟩ (by simp) rfl _ _ rfl rfl
              clear hdep hgd
              refine ⟨fun _ => .inr ⟨37, #[.slice (some ⟨bi, offi, none⟩) sv.length ci, .int .i64 (j : Int)], ?_, (KW.out W (HIW.out.upto hI)).mono fun e w' ⟨v, he, ho, hb⟩ => ⟨v, he, ⟨v, rfl, rowR_own ho⟩, hb⟩⟩, fun hw => (by simp [Region.wanted] at hw)⟩
              clear hI
              generalize aq.eval = ρ at *
              simp [go_sem, d1, d5, hfn]
            · injection ho with ho
              subst ho
              have r2 : aq.eval (.tmp 2) = .pointer (some ⟨w.heap.size, 0, none⟩) := hrest 2 (by kernel_rfl)
              clear hrest
              clear hdep hgd
              refine ⟨fun _ => .inl ⟨.pointer (some ⟨w.heap.size, 1, none⟩), ?_, rfl⟩, fun hw => (by simp [Region.wanted] at hw)⟩
              clear hI
              generalize aq.eval = ρ at *
              simp [go_sem, r2]
            · injection ho with ho
              subst ho
              clear hrest
              have d7 : aq.eval (.tmp 32) = .pointer (some ⟨w.heap.size, 1, none⟩) := hdep ⟨7, .data⟩ (by simp) rfl _ _ rfl rfl
              clear hdep hgd
              have x1 := (hI.cell (p := ⟨w.heap.size, 1, none⟩) hz).trans q1
              refine ⟨fun _ => .inl ⟨.slice (some ⟨bl, offl, none⟩) ls.length c, ?_, rfl⟩, fun hw => (by simp [Region.wanted] at hw)⟩
              clear hI
              generalize aq.eval = ρ at *
              simp [go_sem, d7, x1]
            · injection ho with ho
              subst ho
              have r8 : aq.eval (.tmp 8) = .slice (some ⟨bi, offi, none⟩) sv.length ci := hrest 8 (by kernel_rfl)
              clear hrest
              clear hdep hgd
              refine ⟨fun _ => .inl ⟨.slice (some ⟨bi, offi, none⟩) sv.length ci, ?_, rfl⟩, fun hw => (by simp [Region.wanted] at hw)⟩
              clear hI
              generalize aq.eval = ρ at *
              simp [go_sem, r8]
            · injection ho with ho
              subst ho
              have r9 : aq.eval (.tmp 9) = .int .i64 (k : Int) := hrest 9 (by kernel_rfl)
              clear hrest
              clear hdep hgd
              refine ⟨fun _ => .inl ⟨.int .i64 (k : Int), ?_, rfl⟩, fun hw => (by simp [Region.wanted] at hw)⟩
              clear hI
              generalize aq.eval = ρ at *
              simp [go_sem, r9]
            · injection ho with ho
              subst ho
              clear hrest
              have d9 : aq.eval (.tmp 34) = .slice (some ⟨bi, offi, none⟩) sv.length ci := hdep ⟨9, .data⟩ (by simp) rfl _ _ rfl rfl
              have d10 : aq.eval (.tmp 35) = .int .i64 (k : Int) := hdep ⟨10, .data⟩ (by simp) rfl _ _ rfl rfl
              clear hdep hgd
              refine ⟨fun _ => .inl ⟨.pointer (some ⟨bi, offi + k, none⟩), ?_, rfl⟩, fun hw => (by simp [Region.wanted] at hw)⟩
              clear hI
              generalize aq.eval = ρ at *
              simp [go_sem, d9, d10, hk]
            · injection ho with ho
              subst ho
              clear hrest
              have d11 : aq.eval (.tmp 36) = .pointer (some ⟨bi, offi + k, none⟩) := hdep ⟨11, .data⟩ (by simp) rfl _ _ rfl rfl
              clear hdep hgd
              have x0 := (hI.cell (p := ⟨bi, offi + k, none⟩) hbi).trans ei
              refine ⟨fun _ => .inl ⟨.int .i64 (j : Int), ?_, rfl⟩, fun hw => (by simp [Region.wanted] at hw)⟩
              clear hI
              generalize aq.eval = ρ at *
              simp [go_sem, d11, x0]
            · injection ho with ho
              subst ho
              clear hrest
              have d8 : aq.eval (.tmp 33) = .slice (some ⟨bl, offl, none⟩) ls.length c := hdep ⟨8, .data⟩ (by simp) rfl _ _ rfl rfl
              have d12 : aq.eval (.tmp 37) = .int .i64 (j : Int) := hdep ⟨12, .data⟩ (by simp) rfl _ _ rfl rfl
              clear hdep hgd
              refine ⟨fun _ => .inl ⟨.pointer (some ⟨bl, offl + j * 4, none⟩), ?_, rfl⟩, fun hw => (by simp [Region.wanted] at hw)⟩
              clear hI
              generalize aq.eval = ρ at *
              simp [go_sem, d8, d12, hj]
            · injection ho with ho
              subst ho
              clear hrest
              have d13 : aq.eval (.tmp 38) = .pointer (some ⟨bl, offl + j * 4, none⟩) := hdep ⟨13, .data⟩ (by simp) rfl _ _ rfl rfl
              clear hdep hgd
              refine ⟨fun _ => .inl ⟨.pointer (some ⟨bl, offl + j * 4, none⟩), ?_, rfl⟩, fun hw => (by simp [Region.wanted] at hw)⟩
              clear hI
              generalize aq.eval = ρ at *
              simp [go_sem, d13]
            · injection ho with ho
              subst ho
              clear hrest
              have d14 : aq.eval (.tmp 39) = .pointer (some ⟨bl, offl + j * 4, none⟩) := hdep ⟨14, .data⟩ (by simp) rfl _ _ rfl rfl
              clear hdep hgd
              have x0 := (hI.cell (p := ⟨bl, offl + j * 4, none⟩) hbl).trans f0
              refine ⟨fun _ => .inl ⟨.int .i64 lf, ?_, rfl⟩, fun hw => (by simp [Region.wanted] at hw)⟩
              clear hI
              generalize aq.eval = ρ at *
              simp [go_sem, d14, x0]
            · injection ho with ho
              subst ho
              have r2 : aq.eval (.tmp 2) = .pointer (some ⟨w.heap.size, 0, none⟩) := hrest 2 (by kernel_rfl)
              clear hrest
              clear hdep hgd
              refine ⟨fun _ => .inl ⟨.pointer (some ⟨w.heap.size, 1, none⟩), ?_, rfl⟩, fun hw => (by simp [Region.wanted] at hw)⟩
              clear hI
              generalize aq.eval = ρ at *
              simp [go_sem, r2]
            · injection ho with ho
              subst ho
              clear hrest
              have d16 : aq.eval (.tmp 41) = .pointer (some ⟨w.heap.size, 1, none⟩) := hdep ⟨16, .data⟩ (by simp) rfl _ _ rfl rfl
              clear hdep hgd
              have x1 := (hI.cell (p := ⟨w.heap.size, 1, none⟩) hz).trans q1
              refine ⟨fun _ => .inl ⟨.slice (some ⟨bl, offl, none⟩) ls.length c, ?_, rfl⟩, fun hw => (by simp [Region.wanted] at hw)⟩
              clear hI
              generalize aq.eval = ρ at *
              simp [go_sem, d16, x1]
            · injection ho with ho
              subst ho
              have r8 : aq.eval (.tmp 8) = .slice (some ⟨bi, offi, none⟩) sv.length ci := hrest 8 (by kernel_rfl)
              clear hrest
              clear hdep hgd
              refine ⟨fun _ => .inl ⟨.slice (some ⟨bi, offi, none⟩) sv.length ci, ?_, rfl⟩, fun hw => (by simp [Region.wanted] at hw)⟩
              clear hI
              generalize aq.eval = ρ at *
              simp [go_sem, r8]
            · injection ho with ho
              subst ho
              have r9 : aq.eval (.tmp 9) = .int .i64 (k : Int) := hrest 9 (by kernel_rfl)
              clear hrest
              clear hdep hgd
              refine ⟨fun _ => .inl ⟨.int .i64 (k : Int), ?_, rfl⟩, fun hw => (by simp [Region.wanted] at hw)⟩
              clear hI
              generalize aq.eval = ρ at *
              simp [go_sem, r9]
            · injection ho with ho
              subst ho
              clear hrest
              have d18 : aq.eval (.tmp 43) = .slice (some ⟨bi, offi, none⟩) sv.length ci := hdep ⟨18, .data⟩ (by simp) rfl _ _ rfl rfl
              have d19 : aq.eval (.tmp 44) = .int .i64 (k : Int) := hdep ⟨19, .data⟩ (by simp) rfl _ _ rfl rfl
              clear hdep hgd
              refine ⟨fun _ => .inl ⟨.pointer (some ⟨bi, offi + k, none⟩), ?_, rfl⟩, fun hw => (by simp [Region.wanted] at hw)⟩
              clear hI
              generalize aq.eval = ρ at *
              simp [go_sem, d18, d19, hk]
            · injection ho with ho
              subst ho
              clear hrest
              have d20 : aq.eval (.tmp 45) = .pointer (some ⟨bi, offi + k, none⟩) := hdep ⟨20, .data⟩ (by simp) rfl _ _ rfl rfl
              clear hdep hgd
              have x0 := (hI.cell (p := ⟨bi, offi + k, none⟩) hbi).trans ei
              refine ⟨fun _ => .inl ⟨.int .i64 (j : Int), ?_, rfl⟩, fun hw => (by simp [Region.wanted] at hw)⟩
              clear hI
              generalize aq.eval = ρ at *
              simp [go_sem, d20, x0]
            · injection ho with ho
              subst ho
              clear hrest
              have d17 : aq.eval (.tmp 42) = .slice (some ⟨bl, offl, none⟩) ls.length c := hdep ⟨17, .data⟩ (by simp) rfl _ _ rfl rfl
              have d21 : aq.eval (.tmp 46) = .int .i64 (j : Int) := hdep ⟨21, .data⟩ (by simp) rfl _ _ rfl rfl
              clear hdep hgd
              refine ⟨fun _ => .inl ⟨.pointer (some ⟨bl, offl + j * 4, none⟩), ?_, rfl⟩, fun hw => (by simp [Region.wanted] at hw)⟩
              clear hI
              generalize aq.eval = ρ at *
              simp [go_sem, d17, d21, hj]
            · injection ho with ho
              subst ho
              clear hrest
              have d22 : aq.eval (.tmp 47) = .pointer (some ⟨bl, offl + j * 4, none⟩) := hdep ⟨22, .data⟩ (by simp) rfl _ _ rfl rfl
              clear hdep hgd
              refine ⟨fun _ => .inl ⟨.pointer (some ⟨bl, offl + j * 4 + 1, none⟩), ?_, rfl⟩, fun hw => (by simp [Region.wanted] at hw)⟩
              clear hI
              generalize aq.eval = ρ at *
              simp [go_sem, d22]
            · injection ho with ho
              subst ho
              clear hrest
              have d23 : aq.eval (.tmp 48) = .pointer (some ⟨bl, offl + j * 4 + 1, none⟩) := hdep ⟨23, .data⟩ (by simp) rfl _ _ rfl rfl
              clear hdep hgd
              have x0 := (hI.cell (p := ⟨bl, offl + j * 4 + 1, none⟩) hbl).trans f1
              refine ⟨fun _ => .inl ⟨.int .i64 lt, ?_, rfl⟩, fun hw => (by simp [Region.wanted] at hw)⟩
              clear hI
              generalize aq.eval = ρ at *
              simp [go_sem, d23, x0]
            · injection ho with ho
              subst ho
              clear hrest
              have d0 : aq.eval (.tmp 25) = .agg #[.int .i64 nb, .slice (some ⟨bl, offl, none⟩) ls.length c] := hdep ⟨0, .data⟩ (by simp) rfl _ _ rfl rfl
              obtain ⟨g6, d6, hR6⟩ : ∃ g, aq.eval (.tmp 31) = g ∧ (fun _ => rowR wl) 0 g W := hdep ⟨6, .data⟩ (by simp) rfl _ _ rfl rfl
              have d15 : aq.eval (.tmp 40) = .int .i64 lf := hdep ⟨15, .data⟩ (by simp) rfl _ _ rfl rfl
              have d24 : aq.eval (.tmp 49) = .int .i64 lt := hdep ⟨24, .data⟩ (by simp) rfl _ _ rfl rfl
              clear hdep hgd
              refine ⟨fun _ => .inr ⟨36, #[.agg #[.int .i64 nb, .slice (some ⟨bl, offl, none⟩) ls.length c], g6, .int .i64 lf, .int .i64 lt], ?_, (by obtain ⟨Y, cy, rfl, hi⟩ := hR6; exact (KJ.out _ _ W (HLW.out.upto hI) hi).mono fun e w' h => ⟨_, h.1, rfl, h.2⟩)⟩, fun hw => (by simp [Region.wanted] at hw)⟩
              clear hI
              generalize aq.eval = ρ at *
              simp [go_sem, d0, d6, d15, d24, hfn]
            · injection ho with ho
              subst ho
              clear hrest
              have d25 : aq.eval (.tmp 50) = .bool false := hdep ⟨25, .data⟩ (by simp) rfl _ _ rfl rfl
              clear hdep hgd
              refine ⟨fun _ => .inl ⟨.bool true, ?_, rfl⟩, fun hw => (by simp [Region.wanted] at hw)⟩
              clear hI
              generalize aq.eval = ρ at *
              simp [go_sem, d25]
            · simp at ho
          intro vs wq hb hF
          have hv0 : vs 0 = .agg #[.int .i64 nb, .slice (some ⟨bl, offl, none⟩) ls.length c] := hF 0 (by decide)
          have hv1 : vs 1 = .slice (some ⟨bi, offi, none⟩) sv.length ci := hF 1 (by decide)
          have hv2 : vs 2 = .slice (some ⟨bi, offi, none⟩) sv.length ci := hF 2 (by decide)
          have hv3 : vs 3 = .int .i64 (k : Int) := hF 3 (by decide)
          have hv4 : vs 4 = .pointer (some ⟨bi, offi + k, none⟩) := hF 4 (by decide)
          have hv5 : vs 5 = .int .i64 (j : Int) := hF 5 (by decide)
          obtain ⟨gg6, hv6, hR6⟩ : ∃ g, vs 6 = g ∧ (fun _ => rowR wl) 0 g wq := hF 6 (by decide)
          have hv7 : vs 7 = .pointer (some ⟨w.heap.size, 1, none⟩) := hF 7 (by decide)
          have hv8 : vs 8 = .slice (some ⟨bl, offl, none⟩) ls.length c := hF 8 (by decide)
          have hv9 : vs 9 = .slice (some ⟨bi, offi, none⟩) sv.length ci := hF 9 (by decide)
          have hv10 : vs 10 = .int .i64 (k : Int) := hF 10 (by decide)
          have hv11 : vs 11 = .pointer (some ⟨bi, offi + k, none⟩) := hF 11 (by decide)
          have hv12 : vs 12 = .int .i64 (j : Int) := hF 12 (by decide)
          have hv13 : vs 13 = .pointer (some ⟨bl, offl + j * 4, none⟩) := hF 13 (by decide)
          have hv14 : vs 14 = .pointer (some ⟨bl, offl + j * 4, none⟩) := hF 14 (by decide)
          have hv15 : vs 15 = .int .i64 lf := hF 15 (by decide)
          have hv16 : vs 16 = .pointer (some ⟨w.heap.size, 1, none⟩) := hF 16 (by decide)
          have hv17 : vs 17 = .slice (some ⟨bl, offl, none⟩) ls.length c := hF 17 (by decide)
          have hv18 : vs 18 = .slice (some ⟨bi, offi, none⟩) sv.length ci := hF 18 (by decide)
          have hv19 : vs 19 = .int .i64 (k : Int) := hF 19 (by decide)
          have hv20 : vs 20 = .pointer (some ⟨bi, offi + k, none⟩) := hF 20 (by decide)
          have hv21 : vs 21 = .int .i64 (j : Int) := hF 21 (by decide)
          have hv22 : vs 22 = .pointer (some ⟨bl, offl + j * 4, none⟩) := hF 22 (by decide)
          have hv23 : vs 23 = .pointer (some ⟨bl, offl + j * 4 + 1, none⟩) := hF 23 (by decide)
          have hv24 : vs 24 = .int .i64 lt := hF 24 (by decide)
          have hv25 : vs 25 = .bool false := hF 25 (by decide)
          have hv26 : vs 26 = .bool true := hF 26 (by decide)
          clear hF
          simp only [putAll, Act.put, List.setIfInBounds_toArray, List.set_cons_zero, List.set_cons_succ, Nat.reduceAdd, hv0, hv1, hv2, hv3, hv4, hv5, hv6, hv7, hv8, hv9, hv10, hv11, hv12, hv13, hv14, hv15, hv16, hv17, hv18, hv19, hv20, hv21, hv22, hv23, hv24, hv25, hv26]
          clear hv0 hv1 hv2 hv3 hv4 hv5 hv6 hv7 hv8 hv9 hv10 hv11 hv12 hv13 hv14 hv15 hv16 hv17 hv18 hv19 hv20 hv21 hv22 hv23 hv24 hv25 hv26
          have hrow := ownsRow_below HROW0.out hb
          have hbs := hb.size
          have ei := (hb.cell (p := ⟨bi, offi + k, none⟩) hbi).trans ei
          have HBQ := Lib.hid (HBW.out.trans (hb.mono HBW.out.size))
          have hzq : w2.heap.size ≤ wq.heap.size := HBQ.out.size
          clear hb
          go_wp2_with (at_builtin; refine wpList_append_own _ rfl _ _ 25 rfl w2.heap.size 3 i0 (.int .i64 0) 1 8 Try.underlying25 hi0 hz0 hz1 hz2 rfl (by decide) _ _ _ rfl (hrow.alloc _) ⟨wq.heap.size, 0, none⟩ 1 1 [.int .i64 (j : Int)] rfl rfl (cell_one_new _ _ _) (by simp [Value.oneCell']) (by unfold maxLen; omega) (by omega) (by simp; omega) ?_; intro v' w9 hown' hgrow _)
          have hb2 := below_append hrow hzq hgrow
          have HOWN := Lib.hid hown'
          clear hgrow hrow hown'
          go_wp2_with fail
          go_roundg g
          case measure => omega
          case rel => exact ⟨k + 1, by have := HG.out; omega, by go_num, by rw [HST.out]; simpa using HOWN.out, HBQ.out.trans hb2⟩
  · have b1 : (outsE nb ls out != 0) = true := by rw [bne_iff_ne]; exact he
    rw [brgL, if_neg he]
    generalize outsE nb ls out = er at *
    have KO := Lib.hid ko
    clear ko he
    go_enter Try.func13, Try.ntmps13
    go_wp2_with fail
    refine (KO.out _ HL.out HO.out).mono ?_
    rintro e w1 ⟨rfl, hb⟩
    have HB1 := Lib.hid (HB0.out.trans (hb.mono HB0.out.size))
    clear hb HB0
    go_wp2_with fail
    go_ret2
    exact ⟨_, rfl, World.ownsRow_nil _ _ _ _, HB1.out⟩
end Go.Proofs.Ytmojjfdamdgegaa
