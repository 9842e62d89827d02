/- The text TreA. -/
import Derived.Deep.DeepCutAuto
import Derived.Test.YtmojjfdamdgegaaMg22
import Derived.Test.YtmojjfdamdgegaaMg24
import Derived.Test.YtmojjfdamdgegaaMg28
/- tree.Tree. -/
namespace Go.Proofs.Ytmojjfdamdgegaa
open Go.RowKit
set_option linter.unusedVariables false

set_option maxRecDepth 100000 in
set_option maxHeartbeats 8000000 in
theorem tree_ok (nb : Int) (A A' : Option Addr) (c c' : Nat) (ls : List Ln) (out : List Int) (w : World) (hl : LinesR w w.heap.size A ls) (ho : IntsR w w.heap.size A' out) (hm : ls.length ≤ 1000000) (hn : out.length ≤ 1000000) (he : outsE nb ls out = 0) :
    Calls Try.prog 17 #[.agg #[.int .i64 nb, .slice A ls.length c], .slice A' out.length c'] w (IntsE w (treeTo nb ls (svcL out ls.length) (svcL out ls.length).length) 0) := by
  obtain ⟨i0, hi0, hz0, hz1, hz2'⟩ := info_parts info_int
  have hv := valid_of_check (check_of_outs he).1
  have ki := fun W hl ho => in_any nb A A' c c' ls out W hl ho hm hn
  rw [inL, if_pos he, he] at ki
  have hsl := svcL_le out ls.length
  have hsv : ∀ k, k < (svcL out ls.length).length → ∃ j : Nat, (svcL out ls.length).getD k 0 = (j : Int) ∧ j < ls.length := fun k hk => by
    have hmm := (svc_mem (check_of_outs he).2 ((svcL out ls.length).getD k 0)).1 (by rw [getD_eq _ _ _ hk]; exact List.getElem_mem hk)
    exact ⟨((svcL out ls.length).getD k 0).toNat, by omega, by omega⟩
  have hto := fun k => tree_outsE he k
  have hro := fun k => rest_outsE he k
  have hlen : ∀ k, (treeTo nb ls (svcL out ls.length) k).length ≤ ls.length := fun k => by
    have := ((treeTo_sub nb ls (svcL out ls.length) k).trans (List.take_sublist _ _)).length_le
    omega
  clear he
  generalize svcL out ls.length = sv at *
  have KI := Lib.hid ki
  have HSV := Lib.hid hsv
  have HTO := Lib.hid hto
  have HRO := Lib.hid hro
  have HLEN := Lib.hid hlen
  have HV := Lib.hid hv
  have HL := Lib.hid hl
  have HO := Lib.hid ho
  clear ki hsv hto hro hlen hv hl ho
  go_enter Try.func17, Try.ntmps17
  go_wp2_with fail
  have hb0 : Below w.heap.size w (w.alloc (.cells #[.int .i64 nb, .slice A ls.length c] 24)) := (Below.refl _ _).alloc (Nat.le_refl _) _
  refine (KI.out _ (HL.out.upto hb0) (HO.out.upto hb0)).mono ?_
  rintro e w1 ⟨v, rfl, hown, hb⟩
  obtain ⟨Ai, ci, rfl, hI⟩ := ownsRow_ints hown
  have q0 : w1.cell? ⟨w.heap.size, 0, none⟩ = some (.int .i64 nb) := (hb.cell (by simp)).trans (by simp)
  have q1 : w1.cell? ⟨w.heap.size, 1, none⟩ = some (.slice A ls.length c) := (hb.cell (by simp)).trans (by simp)
  have hz : w.heap.size < w1.heap.size := by have := hb.size; simp at this; omega
  have hbt := hb0.trans (hb.mono hb0.size)
  have HIi := Lib.hid hI
  have HL1 := Lib.hid (HL.out.upto hbt)
  have HB1 := Lib.hid hbt
  have HQ := Lib.hid (And.intro q0 q1)
  clear hown hI hb hb0 hbt HL HO KI q0 q1
  go_wp2_with fail
  go_loopg [8, 10, 11, 12, 13, 25] sv.length (fun g s8 s10 s11 s12 s13 i wr => ∃ k : Nat, k + g = sv.length ∧ i = .int .i64 k ∧ wr.ownsRow w1.heap.size 3 1 s8 (treeTo nb ls sv k).length ((treeTo nb ls sv k).map (Value.int .i64)) ∧ Below w1.heap.size w1 wr)
  case atStart => exact ⟨0, by omega, rfl, World.ownsRow_nil _ _ _ _, Below.refl _ _⟩
  case round =>
    obtain ⟨k, hkg, rfl, hrow, hbel⟩ := hrel
    have HBW := Lib.hid hbel
    clear hbel
    cases gk with
    | zero =>
      obtain rfl : k = sv.length := by omega
      clear hkg
      have HROW := Lib.hid hrow
      clear hrow
      go_wp2_with fail
      go_ret2
      exact ⟨_, rfl, ownsRow_base HROW.out (by omega), HB1.out.trans (HBW.out.mono (by omega))⟩
    | succ g =>
      have hk : k < sv.length := by omega
      have HG := Lib.hid hkg
      clear hkg
      obtain ⟨bi, offi, rfl, hbi, hci⟩ := HIi.out (by omega)
      obtain ⟨j, hj1, hj⟩ := HSV.out k hk
      have ei := (HBW.out.cell (p := ⟨bi, offi + k, none⟩) hbi).trans (hci k hk)
      rw [hj1] at ei
      have HSTEP := Lib.hid ((treeTo_succ nb ls sv k hk).trans (by rw [hj1]))
      have hto := HTO.out k
      have hro := HRO.out k
      have hlen := HLEN.out k
      obtain ⟨A8, c8, rfl, hI8⟩ := ownsRow_ints hrow
      have hv := HV.out.ok j hj
      generalize treeTo nb ls sv k = ch at *
      have ki := fun W hl ho => in_any nb A A8 c c8 ls ch W hl ho hm (by omega)
      rw [inL, if_pos hto, hto] at ki
      have hsl := svcL_le ch ls.length
      have kc := fun X cx W hl ho => conn_any nb A X c cx ls (svcL ch ls.length) (ls.getD j (0, 0, 0, 0)).1 (ls.getD j (0, 0, 0, 0)).2.1 W hl ho hm (by omega)
      rw [connE, if_pos hro, if_neg (by omega)] at kc
      have HST : Hid (treeTo nb ls sv (k + 1) = if connB nb ls (svcL ch ls.length) (ls.getD j (0, 0, 0, 0)).1 (ls.getD j (0, 0, 0, 0)).2.1 = true then ch else ch ++ [(j : Int)]) := by
        show _ = _
        have := HSTEP.out
        unfold treeStep at this
        rw [Int.toNat_natCast] at this
        exact this
      clear HSTEP
      obtain ⟨bl, offl, rfl, hbl, hcl⟩ := HL1.out (by omega)
      obtain ⟨f0, f1, _, _⟩ := hcl j hj
      generalize svcL ch ls.length = rl at *
      generalize connB nb ls rl (ls.getD j (0, 0, 0, 0)).1 (ls.getD j (0, 0, 0, 0)).2.1 = bb at *
      generalize (ls.getD j (0, 0, 0, 0)).1 = lf at *
      generalize (ls.getD j (0, 0, 0, 0)).2.1 = lt at *
      have KI := Lib.hid ki
      have KC := Lib.hid kc
      have q0 := (HBW.out.cell (p := ⟨w.heap.size, 0, none⟩) hz).trans HQ.out.1
      have q1 := (HBW.out.cell (p := ⟨w.heap.size, 1, none⟩) hz).trans HQ.out.2
      have HIc := Lib.hid hI8
      have HROW := Lib.hid hrow
      have HLW := Lib.hid (HL1.out.upto HBW.out)
      have HF := Lib.hid (And.intro f0 (And.intro f1 hbl))
      clear ki kc hI8 hto hro hci hcl hj1 hv f0 f1 hbl hrow
      go_wp2_with fail
      refine (KI.out _ HLW.out HIc.out).mono ?_
      rintro e w2 ⟨v, rfl, hown, hb⟩
      obtain ⟨Ar, cr, rfl, hIr⟩ := ownsRow_ints hown
      have HIr := Lib.hid hIr
      have HB2 := Lib.hid (HBW.out.trans (hb.mono HBW.out.size))
      have HROW2 := Lib.hid (ownsRow_below HROW.out hb)
      have HL2 := Lib.hid (HLW.out.upto hb)
      have hsz2 := HB2.out.size
      have hz2 : w.heap.size < w2.heap.size := by omega
      have hbl2 : bl < w2.heap.size := Nat.lt_of_lt_of_le HF.out.2.2 hsz2
      have p0 := (HB2.out.cell (p := ⟨w.heap.size, 0, none⟩) hz).trans HQ.out.1
      have p1 := (HB2.out.cell (p := ⟨w.heap.size, 1, none⟩) hz).trans HQ.out.2
      have f0 := (HB2.out.cell (p := ⟨bl, offl + j * 4, none⟩) HF.out.2.2).trans HF.out.1
      have f1 := (HB2.out.cell (p := ⟨bl, offl + j * 4 + 1, none⟩) HF.out.2.2).trans HF.out.2.1
      clear hown hIr hb q0 q1 ei HLW HIc HROW HBW KI
      go_wp2_with fail
      refine region_calls (w0 := w2) (fun jq => match jq with | 0 => .agg #[.int .i64 nb, .slice (some ⟨bl, offl, none⟩) ls.length c] | 1 => .slice Ar rl.length cr | 2 => .pointer (some ⟨w.heap.size, 1, none⟩) | 3 => .slice (some ⟨bl, offl, none⟩) ls.length c | 4 => .int .i64 (j : Int) | 5 => .pointer (some ⟨bl, offl + j * 4, none⟩) | 6 => .pointer (some ⟨bl, offl + j * 4, none⟩) | 7 => .int .i64 lf | 8 => .pointer (some ⟨w.heap.size, 1, none⟩) | 9 => .slice (some ⟨bl, offl, none⟩) ls.length c | 10 => .int .i64 (j : Int) | 11 => .pointer (some ⟨bl, offl + j * 4, none⟩) | 12 => .pointer (some ⟨bl, offl + j * 4 + 1, none⟩) | 13 => .int .i64 lt | 14 => .tuple #[.bool bb, .int .i64 0] | 15 => .tuple #[.bool bb, .int .i64 0] | 16 => .bool bb | 17 => .int .i64 0 | 18 => .bool bb | 19 => .int .i64 0 | _ => undef) (by kernel_rfl) (by kernel_rfl) ?_ ?_
      · intro i o ho a W hI hdep hrest hgd
        have r2 : a.eval (.tmp 2) = .pointer (some ⟨w.heap.size, 0, none⟩) := hrest 2 (apart_of (by kernel_rfl))
        have r10 : a.eval (.tmp 10) = .int .i64 (j : Int) := hrest 10 (apart_of (by kernel_rfl))
        have r11 : a.eval (.tmp 11) = .slice Ar rl.length cr := hrest 11 (apart_of (by kernel_rfl))
        have hc : ∀ v, a.eval (.const v) = v := fun _ => rfl
        have hfn : ∀ f, a.eval (.func f) = .func (.func f) #[] #[] := fun _ => rfl
        clear hrest
        rcases i with _ | _ | _ | _ | _ | _ | _ | _ | _ | _ | _ | _ | _ | _ | _ | _ | _ | _ | _ | _ | i
        · injection ho with ho
          subst ho
          clear hdep hgd
          have x0 := (hI.cell (p := ⟨w.heap.size, 0, none⟩) hz2).trans p0
          have x1 := (hI.cell (p := ⟨w.heap.size, 1, none⟩) hz2).trans p1
          refine ⟨fun _ => .inl ?_, fun hw => (by simp [Region.wanted] at hw)⟩
          clear hI
          generalize a.eval = ρ at *
          simp [go_sem, r2, x0, x1]
        · injection ho with ho
          subst ho
          clear hdep hgd
          refine ⟨fun _ => .inl ?_, fun hw => (by simp [Region.wanted] at hw)⟩
          clear hI
          generalize a.eval = ρ at *
          simp [go_sem, r11]
        · injection ho with ho
          subst ho
          clear hdep hgd
          refine ⟨fun _ => .inl ?_, fun hw => (by simp [Region.wanted] at hw)⟩
          clear hI
          generalize a.eval = ρ at *
          simp [go_sem, r2]
        · injection ho with ho
          subst ho
          have e2 : a.eval (.tmp 41) = .pointer (some ⟨w.heap.size, 1, none⟩) := hdep ⟨2, .data⟩ (by simp) rfl _ _ rfl rfl
          clear hdep hgd
          have x1 := (hI.cell (p := ⟨w.heap.size, 1, none⟩) hz2).trans p1
          refine ⟨fun _ => .inl ?_, fun hw => (by simp [Region.wanted] at hw)⟩
          clear hI
          generalize a.eval = ρ at *
          simp [go_sem, e2, x1]
        · injection ho with ho
          subst ho
          clear hdep hgd
          refine ⟨fun _ => .inl ?_, fun hw => (by simp [Region.wanted] at hw)⟩
          clear hI
          generalize a.eval = ρ at *
          simp [go_sem, r10]
        · injection ho with ho
          subst ho
          have e3 : a.eval (.tmp 42) = .slice (some ⟨bl, offl, none⟩) ls.length c := hdep ⟨3, .data⟩ (by simp) rfl _ _ rfl rfl
          have e4 : a.eval (.tmp 43) = .int .i64 (j : Int) := hdep ⟨4, .data⟩ (by simp) rfl _ _ rfl rfl
          clear hdep hgd
          refine ⟨fun _ => .inl ?_, fun hw => (by simp [Region.wanted] at hw)⟩
          clear hI
          generalize a.eval = ρ at *
          simp [go_sem, e3, e4, hj]
        · injection ho with ho
          subst ho
          have e5 : a.eval (.tmp 44) = .pointer (some ⟨bl, offl + j * 4, none⟩) := hdep ⟨5, .data⟩ (by simp) rfl _ _ rfl rfl
          clear hdep hgd
          refine ⟨fun _ => .inl ?_, fun hw => (by simp [Region.wanted] at hw)⟩
          clear hI
          generalize a.eval = ρ at *
          simp [go_sem, e5]
        · injection ho with ho
          subst ho
          have e6 : a.eval (.tmp 45) = .pointer (some ⟨bl, offl + j * 4, none⟩) := hdep ⟨6, .data⟩ (by simp) rfl _ _ rfl rfl
          clear hdep hgd
          have x3 := (hI.cell (p := ⟨bl, offl + j * 4, none⟩) hbl2).trans f0
          refine ⟨fun _ => .inl ?_, fun hw => (by simp [Region.wanted] at hw)⟩
          clear hI
          generalize a.eval = ρ at *
          simp [go_sem, e6, x3]
        · injection ho with ho
          subst ho
          clear hdep hgd
          refine ⟨fun _ => .inl ?_, fun hw => (by simp [Region.wanted] at hw)⟩
          clear hI
          generalize a.eval = ρ at *
          simp [go_sem, r2]
        · injection ho with ho
          subst ho
          have e8 : a.eval (.tmp 47) = .pointer (some ⟨w.heap.size, 1, none⟩) := hdep ⟨8, .data⟩ (by simp) rfl _ _ rfl rfl
          clear hdep hgd
          have x1 := (hI.cell (p := ⟨w.heap.size, 1, none⟩) hz2).trans p1
          refine ⟨fun _ => .inl ?_, fun hw => (by simp [Region.wanted] at hw)⟩
          clear hI
          generalize a.eval = ρ at *
          simp [go_sem, e8, x1]
        · injection ho with ho
          subst ho
          clear hdep hgd
          refine ⟨fun _ => .inl ?_, fun hw => (by simp [Region.wanted] at hw)⟩
          clear hI
          generalize a.eval = ρ at *
          simp [go_sem, r10]
        · injection ho with ho
          subst ho
          have e9 : a.eval (.tmp 48) = .slice (some ⟨bl, offl, none⟩) ls.length c := hdep ⟨9, .data⟩ (by simp) rfl _ _ rfl rfl
          have e10 : a.eval (.tmp 49) = .int .i64 (j : Int) := hdep ⟨10, .data⟩ (by simp) rfl _ _ rfl rfl
          clear hdep hgd
          refine ⟨fun _ => .inl ?_, fun hw => (by simp [Region.wanted] at hw)⟩
          clear hI
          generalize a.eval = ρ at *
          simp [go_sem, e9, e10, hj]
        · injection ho with ho
          subst ho
          have e11 : a.eval (.tmp 50) = .pointer (some ⟨bl, offl + j * 4, none⟩) := hdep ⟨11, .data⟩ (by simp) rfl _ _ rfl rfl
          clear hdep hgd
          refine ⟨fun _ => .inl ?_, fun hw => (by simp [Region.wanted] at hw)⟩
          clear hI
          generalize a.eval = ρ at *
          simp [go_sem, e11]
        · injection ho with ho
          subst ho
          have e12 : a.eval (.tmp 51) = .pointer (some ⟨bl, offl + j * 4 + 1, none⟩) := hdep ⟨12, .data⟩ (by simp) rfl _ _ rfl rfl
          clear hdep hgd
          have x3 := (hI.cell (p := ⟨bl, offl + j * 4 + 1, none⟩) hbl2).trans f1
          refine ⟨fun _ => .inl ?_, fun hw => (by simp [Region.wanted] at hw)⟩
          clear hI
          generalize a.eval = ρ at *
          simp [go_sem, e12, x3]
        · injection ho with ho
          subst ho
          have e0 : a.eval (.tmp 39) = .agg #[.int .i64 nb, .slice (some ⟨bl, offl, none⟩) ls.length c] := hdep ⟨0, .data⟩ (by simp) rfl _ _ rfl rfl
          have e1 : a.eval (.tmp 40) = .slice Ar rl.length cr := hdep ⟨1, .data⟩ (by simp) rfl _ _ rfl rfl
          have e7 : a.eval (.tmp 46) = .int .i64 lf := hdep ⟨7, .data⟩ (by simp) rfl _ _ rfl rfl
          have e13 : a.eval (.tmp 52) = .int .i64 lt := hdep ⟨13, .data⟩ (by simp) rfl _ _ rfl rfl
          clear hdep hgd
          refine ⟨fun _ => .inr ⟨31, #[.agg #[.int .i64 nb, .slice (some ⟨bl, offl, none⟩) ls.length c], .slice Ar rl.length cr, .int .i64 lf, .int .i64 lt], ?_, KC.out _ _ W (HL2.out.upto hI) (HIr.out.upto hI)⟩, fun hw => (by simp [Region.wanted] at hw)⟩
          clear hI
          generalize a.eval = ρ at *
          simp [go_sem, e0, e1, e7, e13, hfn]
        · injection ho with ho
          subst ho
          have e14 : a.eval (.tmp 53) = .tuple #[.bool bb, .int .i64 0] := hdep ⟨14, .data⟩ (by simp) rfl _ _ rfl rfl
          clear hdep hgd
          refine ⟨fun _ => .inl ?_, fun hw => (by simp [Region.wanted] at hw)⟩
          clear hI
          generalize a.eval = ρ at *
          simp [go_sem, e14]
        · injection ho with ho
          subst ho
          have e15 : a.eval (.tmp 38) = .tuple #[.bool bb, .int .i64 0] := hdep ⟨15, .data⟩ (by simp) rfl _ _ rfl rfl
          clear hdep hgd
          refine ⟨fun _ => .inl ?_, fun hw => (by simp [Region.wanted] at hw)⟩
          clear hI
          generalize a.eval = ρ at *
          simp [go_sem, e15]
        · injection ho with ho
          subst ho
          have e15 : a.eval (.tmp 38) = .tuple #[.bool bb, .int .i64 0] := hdep ⟨15, .data⟩ (by simp) rfl _ _ rfl rfl
          clear hdep hgd
          refine ⟨fun _ => .inl ?_, fun hw => (by simp [Region.wanted] at hw)⟩
          clear hI
          generalize a.eval = ρ at *
          simp [go_sem, e15]
        · injection ho with ho
          subst ho
          have e16 : a.eval (.tmp 54) = .bool bb := hdep ⟨16, .data⟩ (by simp) rfl _ _ rfl rfl
          clear hdep hgd
          refine ⟨fun _ => .inl ?_, fun hw => (by simp [Region.wanted] at hw)⟩
          clear hI
          generalize a.eval = ρ at *
          simp [go_sem, e16]
        · injection ho with ho
          subst ho
          have e17 : a.eval (.tmp 55) = .int .i64 0 := hdep ⟨17, .data⟩ (by simp) rfl _ _ rfl rfl
          clear hdep hgd
          refine ⟨fun _ => .inl ?_, fun hw => (by simp [Region.wanted] at hw)⟩
          clear hI
          generalize a.eval = ρ at *
          simp [go_sem, e17]
        · simp at ho
      · intro w3 hb
        simp only [putAll, Act.put, List.setIfInBounds_toArray, List.set_cons_zero, List.set_cons_succ, Nat.reduceAdd]
        have HB3 := Lib.hid (HB2.out.trans (hb.mono HB2.out.size))
        have hrow := ownsRow_below HROW2.out hb
        have hsz := HB3.out.size
        clear hb p0 p1 f0 f1 HROW2 HB2
        cases hbb : bb with
        | true =>
          have HST' := Lib.hid (HST.out.trans (by rw [if_pos hbb]))
          have HROW := Lib.hid hrow
          clear hbb hrow HST
          go_wp2_with fail
          go_roundg g
          case measure => omega
          case rel => exact ⟨k + 1, by have := HG.out; omega, by go_num, by rw [HST'.out]; exact HROW.out, HB3.out⟩
        | false =>
          have HST' := Lib.hid (HST.out.trans (by rw [if_neg (by rw [hbb]; simp)]))
          clear hbb HST
          go_wp2_with (at_builtin; refine wpList_append_own _ rfl _ _ 25 rfl w1.heap.size 3 i0 (.int .i64 0) 1 8 Try.underlying25 hi0 hz0 hz1 hz2' rfl (by decide) _ _ _ rfl (hrow.alloc _) ⟨w3.heap.size, 0, none⟩ 1 1 [.int .i64 (j : Int)] rfl rfl (cell_one_new _ _ _) (by simp [Value.oneCell']) (by unfold maxLen; omega) (by omega) (by simp; omega) ?_; intro v' w4 hown' hgrow _)
          have hb2 := below_append hrow hsz hgrow
          have HOWN := Lib.hid hown'
          clear hgrow hrow hown'
          go_wp2_with fail
          go_roundg g
          case measure => omega
          case rel => exact ⟨k + 1, by have := HG.out; omega, by go_num, by rw [HST'.out]; simpa using HOWN.out, HB3.out.trans hb2⟩
end Go.Proofs.Ytmojjfdamdgegaa
