/- pylonref14.At. -/
import Derived.Test.YtcacaiakkfgdpaaRefC
import Derived.Test.YtcacaiakkfgdpaaAtA
import Derived.Test.YtcacaiakkfgdpaaSvcP
import Derived.Test.YtcacaiakkfgdpaaAnyG
import Derived.Deep.DeepCutAuto
namespace Go.Proofs.Ytcacaiakkfgdpaa
open Go.RowKit
set_option linter.unusedVariables false

set_option maxRecDepth 100000 in
set_option maxHeartbeats 8000000 in
theorem refat_any (nb : Int) (A A' : Option Addr) (c c' : Nat) (ls : List Ln) (out : List Int) (bus : Int) (w : World) (hl : LinesR w w.heap.size A ls) (ho : IntsR w w.heap.size A' out) (hm : ls.length ≤ 1000000) (hn : out.length ≤ 1000000) :
    Calls Try.prog 25 #[.agg #[.int .i64 nb, .slice A ls.length c], .slice A' out.length c', .int .i64 bus] w (IntsV w (atF ls bus (notIn out ls.length))) := by
  obtain ⟨i0, hi0, hz0, hz1, hz2⟩ := info_parts info_int
  have ki := fun W ho => refin_any (.int .i64 nb) A A' c c' ls.length out W ho hm hn
  have hle := notIn_le out ls.length
  have hsv : ∀ k, k < (notIn out ls.length).length → ∃ j : Nat, (notIn out ls.length).getD k 0 = (j : Int) ∧ j < ls.length := fun k hk => by
    have hmm := (mem_notIn out ls.length ((notIn out ls.length).getD k 0)).1 (by rw [getD_eq _ _ _ hk]; exact List.getElem_mem hk)
    exact ⟨((notIn out ls.length).getD k 0).toNat, by omega, by omega⟩
  generalize notIn out ls.length = sv at *
  have KI := Lib.hid ki
  have HSV := Lib.hid hsv
  have HL := Lib.hid hl
  have HO := Lib.hid ho
  clear ki hsv hl ho
  go_enter Try.func25, Try.ntmps25
  go_wp2_with fail
  have hb0 : Below w.heap.size w (w.alloc (.cells #[.int .i64 nb, .slice A ls.length c] 24)) := (Below.refl _ _).alloc (Nat.le_refl _) _
  refine (KI.out _ (HO.out.upto hb0)).mono ?_
  rintro e w1 ⟨v, rfl, hown, hb⟩
  obtain ⟨Ai, ci, rfl, hI⟩ := ownsRow_ints hown
  have q1 : w1.cell? ⟨w.heap.size, 1, none⟩ = some (.slice A ls.length c) := (hb.cell (by simp)).trans (by simp)
  have hz : w.heap.size < w1.heap.size := by have := hb.size; simp at this; omega
  have hbt := hb0.trans (hb.mono hb0.size)
  have HIi := Lib.hid hI
  have HL1 := Lib.hid (HL.out.upto hbt)
  have HB1 := Lib.hid hbt
  clear hown hI hb hb0 hbt HL HO KI
  go_wp2_with fail
  go_loopg [7, 9] sv.length (fun g s7 i wr => ∃ k : Nat, k + g = sv.length ∧ i = .int .i64 k ∧ wr.ownsRow w1.heap.size 3 1 s7 (atF ls bus (sv.take k)).length ((atF ls bus (sv.take k)).map (Value.int .i64)) ∧ Below w1.heap.size w1 wr)
  case atStart => exact ⟨0, by omega, rfl, World.ownsRow_nil _ _ _ _, Below.refl _ _⟩
  case round =>
    obtain ⟨k, hkg, rfl, hrow, hbel⟩ := hrel
    have HBW := Lib.hid hbel
    clear hbel
    cases gk with
    | zero =>
      obtain rfl : k = sv.length := by omega
      clear hkg
      rw [List.take_length] at hrow
      have HROW := Lib.hid hrow
      clear hrow
      go_wp2_with fail
      go_ret
      exact ⟨_, rfl, ownsRow_base HROW.out (by omega), HB1.out.trans (HBW.out.mono (by omega))⟩
    | succ g =>
      have hk : k < sv.length := by omega
      have HG := Lib.hid hkg
      clear hkg
      obtain ⟨bi, offi, rfl, hbi, hci⟩ := HIi.out (by omega)
      obtain ⟨j, hj1, hj⟩ := HSV.out k hk
      have ei := (HBW.out.cell (p := ⟨bi, offi + k, none⟩) hbi).trans (hci k hk)
      rw [hj1] at ei
      obtain ⟨bl, offl, rfl, hbl, hcl⟩ := HL1.out (by omega)
      obtain ⟨f0, f1, _, _⟩ := hcl j hj
      replace f0 := (HBW.out.cell (p := ⟨bl, offl + j * 4, none⟩) hbl).trans f0
      replace f1 := (HBW.out.cell (p := ⟨bl, offl + j * 4 + 1, none⟩) hbl).trans f1
      have p1 := (HBW.out.cell (p := ⟨w.heap.size, 1, none⟩) hz).trans q1
      have HTK := Lib.hid (show sv.take (k + 1) = sv.take k ++ [(j : Int)] by rw [List.take_succ_eq_append_getElem hk, ← hj1, getD_eq _ _ _ hk])
      have hal : (atF ls bus (sv.take k)).length ≤ 1000000 := by have := atF_le ls bus (sv.take k); simp at this; omega
      obtain ⟨l, hgl⟩ : ∃ l, ls.getD j (0, 0, 0, 0) = l := ⟨_, rfl⟩
      obtain ⟨lf, lt, lx, lc⟩ := l
      rw [hgl] at f0 f1
      have HGL := Lib.hid hgl
      clear hci hcl hj1 hgl
      by_cases t1 : lf = bus
      · have T1 := Lib.hid t1
        go_wp2_with fail
        refine region_quiet (fun jq => match jq with | 0 => .pointer (some ⟨w.heap.size, 1, none⟩) | 1 => .slice (some ⟨bl, offl, none⟩) ls.length c | 2 => .slice (some ⟨bi, offi, none⟩) sv.length ci | 3 => .int .i64 (k : Int) | 4 => .pointer (some ⟨bi, offi + k, none⟩) | 5 => .int .i64 (j : Int) | 6 => .pointer (some ⟨bl, offl + j * 4, none⟩) | 7 => .pointer (some ⟨bl, offl + j * 4, none⟩) | 8 => .int .i64 lf | 9 => .int .i64 bus | 10 => .bool true | 11 => .bool true | 12 => undef | 13 => undef | 14 => undef | 15 => undef | 16 => undef | 17 => undef | 18 => undef | 19 => undef | 20 => undef | 21 => undef | 22 => undef | 23 => .bool true | _ => undef) (by kernel_rfl) (by kernel_rfl) ?_ ?_
        · intro i o ho a hdep hrest hgd
          have r2 : a.eval (.tmp 2) = .int .i64 bus := hrest 2 (apart_of (by kernel_rfl))
          have r3 : a.eval (.tmp 3) = .pointer (some ⟨w.heap.size, 0, none⟩) := hrest 3 (apart_of (by kernel_rfl))
          have r8 : a.eval (.tmp 8) = .slice (some ⟨bi, offi, none⟩) sv.length ci := hrest 8 (apart_of (by kernel_rfl))
          have r9 : a.eval (.tmp 9) = .int .i64 (k : Int) := hrest 9 (apart_of (by kernel_rfl))
          have hc : ∀ v, a.eval (.const v) = v := fun _ => rfl
          clear hrest
          rcases i with _ | _ | _ | _ | _ | _ | _ | _ | _ | _ | _ | _ | _ | _ | _ | _ | _ | _ | _ | _ | _ | _ | _ | _ | i
          · injection ho with ho
            subst ho
            clear hdep hgd
            refine ⟨fun _ => ?_, fun hw => by simp [Region.wanted] at hw⟩
            generalize a.eval = ρ at *
            simp [go_sem, r3]
          · injection ho with ho
            subst ho
            have e0 : a.eval (.tmp 19) = .pointer (some ⟨w.heap.size, 1, none⟩) := hdep ⟨0, .data⟩ (by simp) rfl _ _ rfl rfl
            clear hdep hgd
            refine ⟨fun _ => ?_, fun hw => by simp [Region.wanted] at hw⟩
            generalize a.eval = ρ at *
            simp [go_sem, e0, p1]
          · injection ho with ho
            subst ho
            clear hdep hgd
            refine ⟨fun _ => ?_, fun hw => by simp [Region.wanted] at hw⟩
            generalize a.eval = ρ at *
            simp [go_sem, r8]
          · injection ho with ho
            subst ho
            clear hdep hgd
            refine ⟨fun _ => ?_, fun hw => by simp [Region.wanted] at hw⟩
            generalize a.eval = ρ at *
            simp [go_sem, r9]
          · injection ho with ho
            subst ho
            have e2 : a.eval (.tmp 21) = .slice (some ⟨bi, offi, none⟩) sv.length ci := hdep ⟨2, .data⟩ (by simp) rfl _ _ rfl rfl
            have e3 : a.eval (.tmp 22) = .int .i64 (k : Int) := hdep ⟨3, .data⟩ (by simp) rfl _ _ rfl rfl
            clear hdep hgd
            refine ⟨fun _ => ?_, fun hw => by simp [Region.wanted] at hw⟩
            generalize a.eval = ρ at *
            simp [go_sem, e2, e3, hk]
          · injection ho with ho
            subst ho
            have e4 : a.eval (.tmp 23) = .pointer (some ⟨bi, offi + k, none⟩) := hdep ⟨4, .data⟩ (by simp) rfl _ _ rfl rfl
            clear hdep hgd
            refine ⟨fun _ => ?_, fun hw => by simp [Region.wanted] at hw⟩
            generalize a.eval = ρ at *
            simp [go_sem, e4, ei]
          · injection ho with ho
            subst ho
            have e1 : a.eval (.tmp 20) = .slice (some ⟨bl, offl, none⟩) ls.length c := hdep ⟨1, .data⟩ (by simp) rfl _ _ rfl rfl
            have e5 : a.eval (.tmp 24) = .int .i64 (j : Int) := hdep ⟨5, .data⟩ (by simp) rfl _ _ rfl rfl
            clear hdep hgd
            refine ⟨fun _ => ?_, fun hw => by simp [Region.wanted] at hw⟩
            generalize a.eval = ρ at *
            simp [go_sem, e1, e5, hj]
          · injection ho with ho
            subst ho
            have e6 : a.eval (.tmp 25) = .pointer (some ⟨bl, offl + j * 4, none⟩) := hdep ⟨6, .data⟩ (by simp) rfl _ _ rfl rfl
            clear hdep hgd
            refine ⟨fun _ => ?_, fun hw => by simp [Region.wanted] at hw⟩
            generalize a.eval = ρ at *
            simp [go_sem, e6]
          · injection ho with ho
            subst ho
            have e7 : a.eval (.tmp 26) = .pointer (some ⟨bl, offl + j * 4, none⟩) := hdep ⟨7, .data⟩ (by simp) rfl _ _ rfl rfl
            clear hdep hgd
            refine ⟨fun _ => ?_, fun hw => by simp [Region.wanted] at hw⟩
            generalize a.eval = ρ at *
            simp [go_sem, e7, f0]
          · injection ho with ho
            subst ho
            clear hdep hgd
            refine ⟨fun _ => ?_, fun hw => by simp [Region.wanted] at hw⟩
            generalize a.eval = ρ at *
            simp [go_sem, r2]
          · injection ho with ho
            subst ho
            have e8 : a.eval (.tmp 27) = .int .i64 lf := hdep ⟨8, .data⟩ (by simp) rfl _ _ rfl rfl
            have e9 : a.eval (.tmp 28) = .int .i64 bus := hdep ⟨9, .data⟩ (by simp) rfl _ _ rfl rfl
            clear hdep hgd
            refine ⟨fun _ => ?_, fun hw => by simp [Region.wanted] at hw⟩
            generalize a.eval = ρ at *
            simp [go_sem, e8, e9, t1]
          · injection ho with ho
            subst ho
            have e10 : a.eval (.tmp 29) = .bool true := hdep ⟨10, .data⟩ (by simp) rfl _ _ rfl rfl
            clear hdep hgd
            refine ⟨fun _ => ?_, fun hw => by simp [Region.wanted] at hw⟩
            generalize a.eval = ρ at *
            simp [go_sem, e10]
          · injection ho with ho
            subst ho
            have h8 : a.tmps.getD 30 undef = .bool true := hdep ⟨11, .guard⟩ (by simp) rfl _ _ rfl rfl
            have hwd := hgd 11 false rfl _ _ rfl rfl true h8
            clear hdep hgd
            exact ⟨fun hw => (by rw [hwd] at hw; cases hw), fun _ => rfl⟩
          · injection ho with ho
            subst ho
            have e12 : a.eval (.tmp 31) = undef := hdep ⟨12, .data⟩ (by simp) rfl _ _ rfl rfl
            have h8 : a.tmps.getD 30 undef = .bool true := hdep ⟨11, .guard⟩ (by simp) rfl _ _ rfl rfl
            have hwd := hgd 11 false rfl _ _ rfl rfl true h8
            clear hdep hgd
            exact ⟨fun hw => (by rw [hwd] at hw; cases hw), fun _ => rfl⟩
          · injection ho with ho
            subst ho
            have h8 : a.tmps.getD 30 undef = .bool true := hdep ⟨11, .guard⟩ (by simp) rfl _ _ rfl rfl
            have hwd := hgd 11 false rfl _ _ rfl rfl true h8
            clear hdep hgd
            exact ⟨fun hw => (by rw [hwd] at hw; cases hw), fun _ => rfl⟩
          · injection ho with ho
            subst ho
            have h8 : a.tmps.getD 30 undef = .bool true := hdep ⟨11, .guard⟩ (by simp) rfl _ _ rfl rfl
            have hwd := hgd 11 false rfl _ _ rfl rfl true h8
            clear hdep hgd
            exact ⟨fun hw => (by rw [hwd] at hw; cases hw), fun _ => rfl⟩
          · injection ho with ho
            subst ho
            have e14 : a.eval (.tmp 33) = undef := hdep ⟨14, .data⟩ (by simp) rfl _ _ rfl rfl
            have e15 : a.eval (.tmp 34) = undef := hdep ⟨15, .data⟩ (by simp) rfl _ _ rfl rfl
            have h8 : a.tmps.getD 30 undef = .bool true := hdep ⟨11, .guard⟩ (by simp) rfl _ _ rfl rfl
            have hwd := hgd 11 false rfl _ _ rfl rfl true h8
            clear hdep hgd
            exact ⟨fun hw => (by rw [hwd] at hw; cases hw), fun _ => rfl⟩
          · injection ho with ho
            subst ho
            have e16 : a.eval (.tmp 35) = undef := hdep ⟨16, .data⟩ (by simp) rfl _ _ rfl rfl
            have h8 : a.tmps.getD 30 undef = .bool true := hdep ⟨11, .guard⟩ (by simp) rfl _ _ rfl rfl
            have hwd := hgd 11 false rfl _ _ rfl rfl true h8
            clear hdep hgd
            exact ⟨fun hw => (by rw [hwd] at hw; cases hw), fun _ => rfl⟩
          · injection ho with ho
            subst ho
            have e13 : a.eval (.tmp 32) = undef := hdep ⟨13, .data⟩ (by simp) rfl _ _ rfl rfl
            have e17 : a.eval (.tmp 36) = undef := hdep ⟨17, .data⟩ (by simp) rfl _ _ rfl rfl
            have h8 : a.tmps.getD 30 undef = .bool true := hdep ⟨11, .guard⟩ (by simp) rfl _ _ rfl rfl
            have hwd := hgd 11 false rfl _ _ rfl rfl true h8
            clear hdep hgd
            exact ⟨fun hw => (by rw [hwd] at hw; cases hw), fun _ => rfl⟩
          · injection ho with ho
            subst ho
            have e18 : a.eval (.tmp 37) = undef := hdep ⟨18, .data⟩ (by simp) rfl _ _ rfl rfl
            have h8 : a.tmps.getD 30 undef = .bool true := hdep ⟨11, .guard⟩ (by simp) rfl _ _ rfl rfl
            have hwd := hgd 11 false rfl _ _ rfl rfl true h8
            clear hdep hgd
            exact ⟨fun hw => (by rw [hwd] at hw; cases hw), fun _ => rfl⟩
          · injection ho with ho
            subst ho
            have e19 : a.eval (.tmp 38) = undef := hdep ⟨19, .data⟩ (by simp) rfl _ _ rfl rfl
            have h8 : a.tmps.getD 30 undef = .bool true := hdep ⟨11, .guard⟩ (by simp) rfl _ _ rfl rfl
            have hwd := hgd 11 false rfl _ _ rfl rfl true h8
            clear hdep hgd
            exact ⟨fun hw => (by rw [hwd] at hw; cases hw), fun _ => rfl⟩
          · injection ho with ho
            subst ho
            have h8 : a.tmps.getD 30 undef = .bool true := hdep ⟨11, .guard⟩ (by simp) rfl _ _ rfl rfl
            have hwd := hgd 11 false rfl _ _ rfl rfl true h8
            clear hdep hgd
            exact ⟨fun hw => (by rw [hwd] at hw; cases hw), fun _ => rfl⟩
          · injection ho with ho
            subst ho
            have e20 : a.eval (.tmp 39) = undef := hdep ⟨20, .data⟩ (by simp) rfl _ _ rfl rfl
            have e21 : a.eval (.tmp 40) = undef := hdep ⟨21, .data⟩ (by simp) rfl _ _ rfl rfl
            have h8 : a.tmps.getD 30 undef = .bool true := hdep ⟨11, .guard⟩ (by simp) rfl _ _ rfl rfl
            have hwd := hgd 11 false rfl _ _ rfl rfl true h8
            clear hdep hgd
            exact ⟨fun hw => (by rw [hwd] at hw; cases hw), fun _ => rfl⟩
          · injection ho with ho
            subst ho
            have e11 : a.eval (.tmp 30) = .bool true := hdep ⟨11, .data⟩ (by simp) rfl _ _ rfl rfl
            clear hdep hgd
            refine ⟨fun _ => ?_, fun hw => by simp [Region.wanted] at hw⟩
            generalize a.eval = ρ at *
            simp [go_sem, e11, hc]
          · simp at ho
        simp only [putAll, Act.put, List.setIfInBounds_toArray, List.set_cons_zero, List.set_cons_succ, Nat.reduceAdd]
        clear t1
        have hat : lnAt (ls.getD j (0, 0, 0, 0)) bus = true := by rw [HGL.out]; simp [lnAt, T1.out]
        have HAT := Lib.hid (show atF ls bus (sv.take (k + 1)) = atF ls bus (sv.take k) ++ [(j : Int)] by rw [HTK.out]; exact atF_yes hat)
        clear hat
        have hrow1 : wr.drew.ownsRow w1.heap.size 3 1 u7 (atF ls bus (sv.take k)).length ((atF ls bus (sv.take k)).map (Value.int .i64)) := hrow
        have HBD := Lib.hid (show Below w1.heap.size w1 wr.drew from HBW.out.drew)
        replace ei : wr.drew.cell? ⟨bi, offi + k, none⟩ = some (.int .i64 (j : Int)) := ei
        clear hrow HBW p1 f0 f1
        generalize wr.drew = wd at *
        have hsz := HBD.out.size
        go_wp2_with (at_builtin; refine wpList_append_own _ rfl _ _ 25 rfl w1.heap.size 3 i0 (.int .i64 0) 1 8 Try.underlying25 hi0 hz0 hz1 hz2 rfl (by decide) _ _ _ rfl (hrow1.alloc _) ⟨wd.heap.size, 0, none⟩ 1 1 [.int .i64 (j : Int)] rfl rfl (cell_one_new _ _ _) (by simp [Value.oneCell']) (by unfold maxLen; omega) (by omega) (by simp; omega) ?_; intro v' w2 hown' hgrow _)
        have hb2 := below_append hrow1 hsz hgrow
        have HOWN := Lib.hid hown'
        clear hgrow hrow1 hown'
        go_wp2_with fail
        go_roundg g
        case measure => omega
        case rel => exact ⟨k + 1, by have := HG.out; omega, by go_num, by rw [HAT.out]; simpa using HOWN.out, HBD.out.trans hb2⟩
      · by_cases t2 : lt = bus
        · have T1 := Lib.hid t1
          have T2 := Lib.hid t2
          go_wp2_with fail
          refine region_quiet (fun jq => match jq with | 0 => .pointer (some ⟨w.heap.size, 1, none⟩) | 1 => .slice (some ⟨bl, offl, none⟩) ls.length c | 2 => .slice (some ⟨bi, offi, none⟩) sv.length ci | 3 => .int .i64 (k : Int) | 4 => .pointer (some ⟨bi, offi + k, none⟩) | 5 => .int .i64 (j : Int) | 6 => .pointer (some ⟨bl, offl + j * 4, none⟩) | 7 => .pointer (some ⟨bl, offl + j * 4, none⟩) | 8 => .int .i64 lf | 9 => .int .i64 bus | 10 => .bool false | 11 => .bool false | 12 => .pointer (some ⟨w.heap.size, 1, none⟩) | 13 => .slice (some ⟨bl, offl, none⟩) ls.length c | 14 => .slice (some ⟨bi, offi, none⟩) sv.length ci | 15 => .int .i64 (k : Int) | 16 => .pointer (some ⟨bi, offi + k, none⟩) | 17 => .int .i64 (j : Int) | 18 => .pointer (some ⟨bl, offl + j * 4, none⟩) | 19 => .pointer (some ⟨bl, offl + j * 4 + 1, none⟩) | 20 => .int .i64 lt | 21 => .int .i64 bus | 22 => .bool true | 23 => .bool true | _ => undef) (by kernel_rfl) (by kernel_rfl) ?_ ?_
          · intro i o ho a hdep hrest hgd
            have r2 : a.eval (.tmp 2) = .int .i64 bus := hrest 2 (apart_of (by kernel_rfl))
            have r3 : a.eval (.tmp 3) = .pointer (some ⟨w.heap.size, 0, none⟩) := hrest 3 (apart_of (by kernel_rfl))
            have r8 : a.eval (.tmp 8) = .slice (some ⟨bi, offi, none⟩) sv.length ci := hrest 8 (apart_of (by kernel_rfl))
            have r9 : a.eval (.tmp 9) = .int .i64 (k : Int) := hrest 9 (apart_of (by kernel_rfl))
            have hc : ∀ v, a.eval (.const v) = v := fun _ => rfl
            clear hrest
            rcases i with _ | _ | _ | _ | _ | _ | _ | _ | _ | _ | _ | _ | _ | _ | _ | _ | _ | _ | _ | _ | _ | _ | _ | _ | i
            · injection ho with ho
              subst ho
              clear hdep hgd
              refine ⟨fun _ => ?_, fun hw => by simp [Region.wanted] at hw⟩
              generalize a.eval = ρ at *
              simp [go_sem, r3]
            · injection ho with ho
              subst ho
              have e0 : a.eval (.tmp 19) = .pointer (some ⟨w.heap.size, 1, none⟩) := hdep ⟨0, .data⟩ (by simp) rfl _ _ rfl rfl
              clear hdep hgd
              refine ⟨fun _ => ?_, fun hw => by simp [Region.wanted] at hw⟩
              generalize a.eval = ρ at *
              simp [go_sem, e0, p1]
            · injection ho with ho
              subst ho
              clear hdep hgd
              refine ⟨fun _ => ?_, fun hw => by simp [Region.wanted] at hw⟩
              generalize a.eval = ρ at *
              simp [go_sem, r8]
            · injection ho with ho
              subst ho
              clear hdep hgd
              refine ⟨fun _ => ?_, fun hw => by simp [Region.wanted] at hw⟩
              generalize a.eval = ρ at *
              simp [go_sem, r9]
            · injection ho with ho
              subst ho
              have e2 : a.eval (.tmp 21) = .slice (some ⟨bi, offi, none⟩) sv.length ci := hdep ⟨2, .data⟩ (by simp) rfl _ _ rfl rfl
              have e3 : a.eval (.tmp 22) = .int .i64 (k : Int) := hdep ⟨3, .data⟩ (by simp) rfl _ _ rfl rfl
              clear hdep hgd
              refine ⟨fun _ => ?_, fun hw => by simp [Region.wanted] at hw⟩
              generalize a.eval = ρ at *
              simp [go_sem, e2, e3, hk]
            · injection ho with ho
              subst ho
              have e4 : a.eval (.tmp 23) = .pointer (some ⟨bi, offi + k, none⟩) := hdep ⟨4, .data⟩ (by simp) rfl _ _ rfl rfl
              clear hdep hgd
              refine ⟨fun _ => ?_, fun hw => by simp [Region.wanted] at hw⟩
              generalize a.eval = ρ at *
              simp [go_sem, e4, ei]
            · injection ho with ho
              subst ho
              have e1 : a.eval (.tmp 20) = .slice (some ⟨bl, offl, none⟩) ls.length c := hdep ⟨1, .data⟩ (by simp) rfl _ _ rfl rfl
              have e5 : a.eval (.tmp 24) = .int .i64 (j : Int) := hdep ⟨5, .data⟩ (by simp) rfl _ _ rfl rfl
              clear hdep hgd
              refine ⟨fun _ => ?_, fun hw => by simp [Region.wanted] at hw⟩
              generalize a.eval = ρ at *
              simp [go_sem, e1, e5, hj]
            · injection ho with ho
              subst ho
              have e6 : a.eval (.tmp 25) = .pointer (some ⟨bl, offl + j * 4, none⟩) := hdep ⟨6, .data⟩ (by simp) rfl _ _ rfl rfl
              clear hdep hgd
              refine ⟨fun _ => ?_, fun hw => by simp [Region.wanted] at hw⟩
              generalize a.eval = ρ at *
              simp [go_sem, e6]
            · injection ho with ho
              subst ho
              have e7 : a.eval (.tmp 26) = .pointer (some ⟨bl, offl + j * 4, none⟩) := hdep ⟨7, .data⟩ (by simp) rfl _ _ rfl rfl
              clear hdep hgd
              refine ⟨fun _ => ?_, fun hw => by simp [Region.wanted] at hw⟩
              generalize a.eval = ρ at *
              simp [go_sem, e7, f0]
            · injection ho with ho
              subst ho
              clear hdep hgd
              refine ⟨fun _ => ?_, fun hw => by simp [Region.wanted] at hw⟩
              generalize a.eval = ρ at *
              simp [go_sem, r2]
            · injection ho with ho
              subst ho
              have e8 : a.eval (.tmp 27) = .int .i64 lf := hdep ⟨8, .data⟩ (by simp) rfl _ _ rfl rfl
              have e9 : a.eval (.tmp 28) = .int .i64 bus := hdep ⟨9, .data⟩ (by simp) rfl _ _ rfl rfl
              clear hdep hgd
              refine ⟨fun _ => ?_, fun hw => by simp [Region.wanted] at hw⟩
              generalize a.eval = ρ at *
              simp [go_sem, e8, e9, t1]
            · injection ho with ho
              subst ho
              have e10 : a.eval (.tmp 29) = .bool false := hdep ⟨10, .data⟩ (by simp) rfl _ _ rfl rfl
              clear hdep hgd
              refine ⟨fun _ => ?_, fun hw => by simp [Region.wanted] at hw⟩
              generalize a.eval = ρ at *
              simp [go_sem, e10]
            · injection ho with ho
              subst ho
              have h8 : a.tmps.getD 30 undef = .bool false := hdep ⟨11, .guard⟩ (by simp) rfl _ _ rfl rfl
              have hwd := hgd 11 false rfl _ _ rfl rfl false h8
              clear hdep hgd
              refine ⟨fun _ => ?_, fun hw => (by rw [hwd] at hw; cases hw)⟩
              clear h8 hwd
              generalize a.eval = ρ at *
              simp [go_sem, r3]
            · injection ho with ho
              subst ho
              have e12 : a.eval (.tmp 31) = .pointer (some ⟨w.heap.size, 1, none⟩) := hdep ⟨12, .data⟩ (by simp) rfl _ _ rfl rfl
              have h8 : a.tmps.getD 30 undef = .bool false := hdep ⟨11, .guard⟩ (by simp) rfl _ _ rfl rfl
              have hwd := hgd 11 false rfl _ _ rfl rfl false h8
              clear hdep hgd
              refine ⟨fun _ => ?_, fun hw => (by rw [hwd] at hw; cases hw)⟩
              clear h8 hwd
              generalize a.eval = ρ at *
              simp [go_sem, e12, p1]
            · injection ho with ho
              subst ho
              have h8 : a.tmps.getD 30 undef = .bool false := hdep ⟨11, .guard⟩ (by simp) rfl _ _ rfl rfl
              have hwd := hgd 11 false rfl _ _ rfl rfl false h8
              clear hdep hgd
              refine ⟨fun _ => ?_, fun hw => (by rw [hwd] at hw; cases hw)⟩
              clear h8 hwd
              generalize a.eval = ρ at *
              simp [go_sem, r8]
            · injection ho with ho
              subst ho
              have h8 : a.tmps.getD 30 undef = .bool false := hdep ⟨11, .guard⟩ (by simp) rfl _ _ rfl rfl
              have hwd := hgd 11 false rfl _ _ rfl rfl false h8
              clear hdep hgd
              refine ⟨fun _ => ?_, fun hw => (by rw [hwd] at hw; cases hw)⟩
              clear h8 hwd
              generalize a.eval = ρ at *
              simp [go_sem, r9]
            · injection ho with ho
              subst ho
              have e14 : a.eval (.tmp 33) = .slice (some ⟨bi, offi, none⟩) sv.length ci := hdep ⟨14, .data⟩ (by simp) rfl _ _ rfl rfl
              have e15 : a.eval (.tmp 34) = .int .i64 (k : Int) := hdep ⟨15, .data⟩ (by simp) rfl _ _ rfl rfl
              have h8 : a.tmps.getD 30 undef = .bool false := hdep ⟨11, .guard⟩ (by simp) rfl _ _ rfl rfl
              have hwd := hgd 11 false rfl _ _ rfl rfl false h8
              clear hdep hgd
              refine ⟨fun _ => ?_, fun hw => (by rw [hwd] at hw; cases hw)⟩
              clear h8 hwd
              generalize a.eval = ρ at *
              simp [go_sem, e14, e15, hk]
            · injection ho with ho
              subst ho
              have e16 : a.eval (.tmp 35) = .pointer (some ⟨bi, offi + k, none⟩) := hdep ⟨16, .data⟩ (by simp) rfl _ _ rfl rfl
              have h8 : a.tmps.getD 30 undef = .bool false := hdep ⟨11, .guard⟩ (by simp) rfl _ _ rfl rfl
              have hwd := hgd 11 false rfl _ _ rfl rfl false h8
              clear hdep hgd
              refine ⟨fun _ => ?_, fun hw => (by rw [hwd] at hw; cases hw)⟩
              clear h8 hwd
              generalize a.eval = ρ at *
              simp [go_sem, e16, ei]
            · injection ho with ho
              subst ho
              have e13 : a.eval (.tmp 32) = .slice (some ⟨bl, offl, none⟩) ls.length c := hdep ⟨13, .data⟩ (by simp) rfl _ _ rfl rfl
              have e17 : a.eval (.tmp 36) = .int .i64 (j : Int) := hdep ⟨17, .data⟩ (by simp) rfl _ _ rfl rfl
              have h8 : a.tmps.getD 30 undef = .bool false := hdep ⟨11, .guard⟩ (by simp) rfl _ _ rfl rfl
              have hwd := hgd 11 false rfl _ _ rfl rfl false h8
              clear hdep hgd
              refine ⟨fun _ => ?_, fun hw => (by rw [hwd] at hw; cases hw)⟩
              clear h8 hwd
              generalize a.eval = ρ at *
              simp [go_sem, e13, e17, hj]
            · injection ho with ho
              subst ho
              have e18 : a.eval (.tmp 37) = .pointer (some ⟨bl, offl + j * 4, none⟩) := hdep ⟨18, .data⟩ (by simp) rfl _ _ rfl rfl
              have h8 : a.tmps.getD 30 undef = .bool false := hdep ⟨11, .guard⟩ (by simp) rfl _ _ rfl rfl
              have hwd := hgd 11 false rfl _ _ rfl rfl false h8
              clear hdep hgd
              refine ⟨fun _ => ?_, fun hw => (by rw [hwd] at hw; cases hw)⟩
              clear h8 hwd
              generalize a.eval = ρ at *
              simp [go_sem, e18]
            · injection ho with ho
              subst ho
              have e19 : a.eval (.tmp 38) = .pointer (some ⟨bl, offl + j * 4 + 1, none⟩) := hdep ⟨19, .data⟩ (by simp) rfl _ _ rfl rfl
              have h8 : a.tmps.getD 30 undef = .bool false := hdep ⟨11, .guard⟩ (by simp) rfl _ _ rfl rfl
              have hwd := hgd 11 false rfl _ _ rfl rfl false h8
              clear hdep hgd
              refine ⟨fun _ => ?_, fun hw => (by rw [hwd] at hw; cases hw)⟩
              clear h8 hwd
              generalize a.eval = ρ at *
              simp [go_sem, e19, f1]
            · injection ho with ho
              subst ho
              have h8 : a.tmps.getD 30 undef = .bool false := hdep ⟨11, .guard⟩ (by simp) rfl _ _ rfl rfl
              have hwd := hgd 11 false rfl _ _ rfl rfl false h8
              clear hdep hgd
              refine ⟨fun _ => ?_, fun hw => (by rw [hwd] at hw; cases hw)⟩
              clear h8 hwd
              generalize a.eval = ρ at *
              simp [go_sem, r2]
            · injection ho with ho
              subst ho
              have e20 : a.eval (.tmp 39) = .int .i64 lt := hdep ⟨20, .data⟩ (by simp) rfl _ _ rfl rfl
              have e21 : a.eval (.tmp 40) = .int .i64 bus := hdep ⟨21, .data⟩ (by simp) rfl _ _ rfl rfl
              have h8 : a.tmps.getD 30 undef = .bool false := hdep ⟨11, .guard⟩ (by simp) rfl _ _ rfl rfl
              have hwd := hgd 11 false rfl _ _ rfl rfl false h8
              clear hdep hgd
              refine ⟨fun _ => ?_, fun hw => (by rw [hwd] at hw; cases hw)⟩
              clear h8 hwd
              generalize a.eval = ρ at *
              simp [go_sem, e20, e21, t2]
            · injection ho with ho
              subst ho
              have e11 : a.eval (.tmp 30) = .bool false := hdep ⟨11, .data⟩ (by simp) rfl _ _ rfl rfl
              have e22 : a.eval (.tmp 41) = .bool true := hdep ⟨22, .data⟩ (by simp) rfl _ _ rfl rfl
              clear hdep hgd
              refine ⟨fun _ => ?_, fun hw => by simp [Region.wanted] at hw⟩
              generalize a.eval = ρ at *
              simp [go_sem, e11, e22, hc]
            · simp at ho
          simp only [putAll, Act.put, List.setIfInBounds_toArray, List.set_cons_zero, List.set_cons_succ, Nat.reduceAdd]
          clear t1 t2
          have hat : lnAt (ls.getD j (0, 0, 0, 0)) bus = true := by rw [HGL.out]; simp [lnAt, T2.out]
          have HAT := Lib.hid (show atF ls bus (sv.take (k + 1)) = atF ls bus (sv.take k) ++ [(j : Int)] by rw [HTK.out]; exact atF_yes hat)
          clear hat
          have hrow1 : wr.drew.ownsRow w1.heap.size 3 1 u7 (atF ls bus (sv.take k)).length ((atF ls bus (sv.take k)).map (Value.int .i64)) := hrow
          have HBD := Lib.hid (show Below w1.heap.size w1 wr.drew from HBW.out.drew)
          replace ei : wr.drew.cell? ⟨bi, offi + k, none⟩ = some (.int .i64 (j : Int)) := ei
          clear hrow HBW p1 f0 f1
          generalize wr.drew = wd at *
          have hsz := HBD.out.size
          go_wp2_with (at_builtin; refine wpList_append_own _ rfl _ _ 25 rfl w1.heap.size 3 i0 (.int .i64 0) 1 8 Try.underlying25 hi0 hz0 hz1 hz2 rfl (by decide) _ _ _ rfl (hrow1.alloc _) ⟨wd.heap.size, 0, none⟩ 1 1 [.int .i64 (j : Int)] rfl rfl (cell_one_new _ _ _) (by simp [Value.oneCell']) (by unfold maxLen; omega) (by omega) (by simp; omega) ?_; intro v' w2 hown' hgrow _)
          have hb2 := below_append hrow1 hsz hgrow
          have HOWN := Lib.hid hown'
          clear hgrow hrow1 hown'
          go_wp2_with fail
          go_roundg g
          case measure => omega
          case rel => exact ⟨k + 1, by have := HG.out; omega, by go_num, by rw [HAT.out]; simpa using HOWN.out, HBD.out.trans hb2⟩
        · have T1 := Lib.hid t1
          have T2 := Lib.hid t2
          go_wp2_with fail
          refine region_quiet (fun jq => match jq with | 0 => .pointer (some ⟨w.heap.size, 1, none⟩) | 1 => .slice (some ⟨bl, offl, none⟩) ls.length c | 2 => .slice (some ⟨bi, offi, none⟩) sv.length ci | 3 => .int .i64 (k : Int) | 4 => .pointer (some ⟨bi, offi + k, none⟩) | 5 => .int .i64 (j : Int) | 6 => .pointer (some ⟨bl, offl + j * 4, none⟩) | 7 => .pointer (some ⟨bl, offl + j * 4, none⟩) | 8 => .int .i64 lf | 9 => .int .i64 bus | 10 => .bool false | 11 => .bool false | 12 => .pointer (some ⟨w.heap.size, 1, none⟩) | 13 => .slice (some ⟨bl, offl, none⟩) ls.length c | 14 => .slice (some ⟨bi, offi, none⟩) sv.length ci | 15 => .int .i64 (k : Int) | 16 => .pointer (some ⟨bi, offi + k, none⟩) | 17 => .int .i64 (j : Int) | 18 => .pointer (some ⟨bl, offl + j * 4, none⟩) | 19 => .pointer (some ⟨bl, offl + j * 4 + 1, none⟩) | 20 => .int .i64 lt | 21 => .int .i64 bus | 22 => .bool false | 23 => .bool false | _ => undef) (by kernel_rfl) (by kernel_rfl) ?_ ?_
          · intro i o ho a hdep hrest hgd
            have r2 : a.eval (.tmp 2) = .int .i64 bus := hrest 2 (apart_of (by kernel_rfl))
            have r3 : a.eval (.tmp 3) = .pointer (some ⟨w.heap.size, 0, none⟩) := hrest 3 (apart_of (by kernel_rfl))
            have r8 : a.eval (.tmp 8) = .slice (some ⟨bi, offi, none⟩) sv.length ci := hrest 8 (apart_of (by kernel_rfl))
            have r9 : a.eval (.tmp 9) = .int .i64 (k : Int) := hrest 9 (apart_of (by kernel_rfl))
            have hc : ∀ v, a.eval (.const v) = v := fun _ => rfl
            clear hrest
            rcases i with _ | _ | _ | _ | _ | _ | _ | _ | _ | _ | _ | _ | _ | _ | _ | _ | _ | _ | _ | _ | _ | _ | _ | _ | i
            · injection ho with ho
              subst ho
              clear hdep hgd
              refine ⟨fun _ => ?_, fun hw => by simp [Region.wanted] at hw⟩
              generalize a.eval = ρ at *
              simp [go_sem, r3]
            · injection ho with ho
              subst ho
              have e0 : a.eval (.tmp 19) = .pointer (some ⟨w.heap.size, 1, none⟩) := hdep ⟨0, .data⟩ (by simp) rfl _ _ rfl rfl
              clear hdep hgd
              refine ⟨fun _ => ?_, fun hw => by simp [Region.wanted] at hw⟩
              generalize a.eval = ρ at *
              simp [go_sem, e0, p1]
            · injection ho with ho
              subst ho
              clear hdep hgd
              refine ⟨fun _ => ?_, fun hw => by simp [Region.wanted] at hw⟩
              generalize a.eval = ρ at *
              simp [go_sem, r8]
            · injection ho with ho
              subst ho
              clear hdep hgd
              refine ⟨fun _ => ?_, fun hw => by simp [Region.wanted] at hw⟩
              generalize a.eval = ρ at *
              simp [go_sem, r9]
            · injection ho with ho
              subst ho
              have e2 : a.eval (.tmp 21) = .slice (some ⟨bi, offi, none⟩) sv.length ci := hdep ⟨2, .data⟩ (by simp) rfl _ _ rfl rfl
              have e3 : a.eval (.tmp 22) = .int .i64 (k : Int) := hdep ⟨3, .data⟩ (by simp) rfl _ _ rfl rfl
              clear hdep hgd
              refine ⟨fun _ => ?_, fun hw => by simp [Region.wanted] at hw⟩
              generalize a.eval = ρ at *
              simp [go_sem, e2, e3, hk]
            · injection ho with ho
              subst ho
              have e4 : a.eval (.tmp 23) = .pointer (some ⟨bi, offi + k, none⟩) := hdep ⟨4, .data⟩ (by simp) rfl _ _ rfl rfl
              clear hdep hgd
              refine ⟨fun _ => ?_, fun hw => by simp [Region.wanted] at hw⟩
              generalize a.eval = ρ at *
              simp [go_sem, e4, ei]
            · injection ho with ho
              subst ho
              have e1 : a.eval (.tmp 20) = .slice (some ⟨bl, offl, none⟩) ls.length c := hdep ⟨1, .data⟩ (by simp) rfl _ _ rfl rfl
              have e5 : a.eval (.tmp 24) = .int .i64 (j : Int) := hdep ⟨5, .data⟩ (by simp) rfl _ _ rfl rfl
              clear hdep hgd
              refine ⟨fun _ => ?_, fun hw => by simp [Region.wanted] at hw⟩
              generalize a.eval = ρ at *
              simp [go_sem, e1, e5, hj]
            · injection ho with ho
              subst ho
              have e6 : a.eval (.tmp 25) = .pointer (some ⟨bl, offl + j * 4, none⟩) := hdep ⟨6, .data⟩ (by simp) rfl _ _ rfl rfl
              clear hdep hgd
              refine ⟨fun _ => ?_, fun hw => by simp [Region.wanted] at hw⟩
              generalize a.eval = ρ at *
              simp [go_sem, e6]
            · injection ho with ho
              subst ho
              have e7 : a.eval (.tmp 26) = .pointer (some ⟨bl, offl + j * 4, none⟩) := hdep ⟨7, .data⟩ (by simp) rfl _ _ rfl rfl
              clear hdep hgd
              refine ⟨fun _ => ?_, fun hw => by simp [Region.wanted] at hw⟩
              generalize a.eval = ρ at *
              simp [go_sem, e7, f0]
            · injection ho with ho
              subst ho
              clear hdep hgd
              refine ⟨fun _ => ?_, fun hw => by simp [Region.wanted] at hw⟩
              generalize a.eval = ρ at *
              simp [go_sem, r2]
            · injection ho with ho
              subst ho
              have e8 : a.eval (.tmp 27) = .int .i64 lf := hdep ⟨8, .data⟩ (by simp) rfl _ _ rfl rfl
              have e9 : a.eval (.tmp 28) = .int .i64 bus := hdep ⟨9, .data⟩ (by simp) rfl _ _ rfl rfl
              clear hdep hgd
              refine ⟨fun _ => ?_, fun hw => by simp [Region.wanted] at hw⟩
              generalize a.eval = ρ at *
              simp [go_sem, e8, e9, t1]
            · injection ho with ho
              subst ho
              have e10 : a.eval (.tmp 29) = .bool false := hdep ⟨10, .data⟩ (by simp) rfl _ _ rfl rfl
              clear hdep hgd
              refine ⟨fun _ => ?_, fun hw => by simp [Region.wanted] at hw⟩
              generalize a.eval = ρ at *
              simp [go_sem, e10]
            · injection ho with ho
              subst ho
              have h8 : a.tmps.getD 30 undef = .bool false := hdep ⟨11, .guard⟩ (by simp) rfl _ _ rfl rfl
              have hwd := hgd 11 false rfl _ _ rfl rfl false h8
              clear hdep hgd
              refine ⟨fun _ => ?_, fun hw => (by rw [hwd] at hw; cases hw)⟩
              clear h8 hwd
              generalize a.eval = ρ at *
              simp [go_sem, r3]
            · injection ho with ho
              subst ho
              have e12 : a.eval (.tmp 31) = .pointer (some ⟨w.heap.size, 1, none⟩) := hdep ⟨12, .data⟩ (by simp) rfl _ _ rfl rfl
              have h8 : a.tmps.getD 30 undef = .bool false := hdep ⟨11, .guard⟩ (by simp) rfl _ _ rfl rfl
              have hwd := hgd 11 false rfl _ _ rfl rfl false h8
              clear hdep hgd
              refine ⟨fun _ => ?_, fun hw => (by rw [hwd] at hw; cases hw)⟩
              clear h8 hwd
              generalize a.eval = ρ at *
              simp [go_sem, e12, p1]
            · injection ho with ho
              subst ho
              have h8 : a.tmps.getD 30 undef = .bool false := hdep ⟨11, .guard⟩ (by simp) rfl _ _ rfl rfl
              have hwd := hgd 11 false rfl _ _ rfl rfl false h8
              clear hdep hgd
              refine ⟨fun _ => ?_, fun hw => (by rw [hwd] at hw; cases hw)⟩
              clear h8 hwd
              generalize a.eval = ρ at *
              simp [go_sem, r8]
            · injection ho with ho
              subst ho
              have h8 : a.tmps.getD 30 undef = .bool false := hdep ⟨11, .guard⟩ (by simp) rfl _ _ rfl rfl
              have hwd := hgd 11 false rfl _ _ rfl rfl false h8
              clear hdep hgd
              refine ⟨fun _ => ?_, fun hw => (by rw [hwd] at hw; cases hw)⟩
              clear h8 hwd
              generalize a.eval = ρ at *
              simp [go_sem, r9]
            · injection ho with ho
              subst ho
              have e14 : a.eval (.tmp 33) = .slice (some ⟨bi, offi, none⟩) sv.length ci := hdep ⟨14, .data⟩ (by simp) rfl _ _ rfl rfl
              have e15 : a.eval (.tmp 34) = .int .i64 (k : Int) := hdep ⟨15, .data⟩ (by simp) rfl _ _ rfl rfl
              have h8 : a.tmps.getD 30 undef = .bool false := hdep ⟨11, .guard⟩ (by simp) rfl _ _ rfl rfl
              have hwd := hgd 11 false rfl _ _ rfl rfl false h8
              clear hdep hgd
              refine ⟨fun _ => ?_, fun hw => (by rw [hwd] at hw; cases hw)⟩
              clear h8 hwd
              generalize a.eval = ρ at *
              simp [go_sem, e14, e15, hk]
            · injection ho with ho
              subst ho
              have e16 : a.eval (.tmp 35) = .pointer (some ⟨bi, offi + k, none⟩) := hdep ⟨16, .data⟩ (by simp) rfl _ _ rfl rfl
              have h8 : a.tmps.getD 30 undef = .bool false := hdep ⟨11, .guard⟩ (by simp) rfl _ _ rfl rfl
              have hwd := hgd 11 false rfl _ _ rfl rfl false h8
              clear hdep hgd
              refine ⟨fun _ => ?_, fun hw => (by rw [hwd] at hw; cases hw)⟩
              clear h8 hwd
              generalize a.eval = ρ at *
              simp [go_sem, e16, ei]
            · injection ho with ho
              subst ho
              have e13 : a.eval (.tmp 32) = .slice (some ⟨bl, offl, none⟩) ls.length c := hdep ⟨13, .data⟩ (by simp) rfl _ _ rfl rfl
              have e17 : a.eval (.tmp 36) = .int .i64 (j : Int) := hdep ⟨17, .data⟩ (by simp) rfl _ _ rfl rfl
              have h8 : a.tmps.getD 30 undef = .bool false := hdep ⟨11, .guard⟩ (by simp) rfl _ _ rfl rfl
              have hwd := hgd 11 false rfl _ _ rfl rfl false h8
              clear hdep hgd
              refine ⟨fun _ => ?_, fun hw => (by rw [hwd] at hw; cases hw)⟩
              clear h8 hwd
              generalize a.eval = ρ at *
              simp [go_sem, e13, e17, hj]
            · injection ho with ho
              subst ho
              have e18 : a.eval (.tmp 37) = .pointer (some ⟨bl, offl + j * 4, none⟩) := hdep ⟨18, .data⟩ (by simp) rfl _ _ rfl rfl
              have h8 : a.tmps.getD 30 undef = .bool false := hdep ⟨11, .guard⟩ (by simp) rfl _ _ rfl rfl
              have hwd := hgd 11 false rfl _ _ rfl rfl false h8
              clear hdep hgd
              refine ⟨fun _ => ?_, fun hw => (by rw [hwd] at hw; cases hw)⟩
              clear h8 hwd
              generalize a.eval = ρ at *
              simp [go_sem, e18]
            · injection ho with ho
              subst ho
              have e19 : a.eval (.tmp 38) = .pointer (some ⟨bl, offl + j * 4 + 1, none⟩) := hdep ⟨19, .data⟩ (by simp) rfl _ _ rfl rfl
              have h8 : a.tmps.getD 30 undef = .bool false := hdep ⟨11, .guard⟩ (by simp) rfl _ _ rfl rfl
              have hwd := hgd 11 false rfl _ _ rfl rfl false h8
              clear hdep hgd
              refine ⟨fun _ => ?_, fun hw => (by rw [hwd] at hw; cases hw)⟩
              clear h8 hwd
              generalize a.eval = ρ at *
              simp [go_sem, e19, f1]
            · injection ho with ho
              subst ho
              have h8 : a.tmps.getD 30 undef = .bool false := hdep ⟨11, .guard⟩ (by simp) rfl _ _ rfl rfl
              have hwd := hgd 11 false rfl _ _ rfl rfl false h8
              clear hdep hgd
              refine ⟨fun _ => ?_, fun hw => (by rw [hwd] at hw; cases hw)⟩
              clear h8 hwd
              generalize a.eval = ρ at *
              simp [go_sem, r2]
            · injection ho with ho
              subst ho
              have e20 : a.eval (.tmp 39) = .int .i64 lt := hdep ⟨20, .data⟩ (by simp) rfl _ _ rfl rfl
              have e21 : a.eval (.tmp 40) = .int .i64 bus := hdep ⟨21, .data⟩ (by simp) rfl _ _ rfl rfl
              have h8 : a.tmps.getD 30 undef = .bool false := hdep ⟨11, .guard⟩ (by simp) rfl _ _ rfl rfl
              have hwd := hgd 11 false rfl _ _ rfl rfl false h8
              clear hdep hgd
              refine ⟨fun _ => ?_, fun hw => (by rw [hwd] at hw; cases hw)⟩
              clear h8 hwd
              generalize a.eval = ρ at *
              simp [go_sem, e20, e21, t2]
            · injection ho with ho
              subst ho
              have e11 : a.eval (.tmp 30) = .bool false := hdep ⟨11, .data⟩ (by simp) rfl _ _ rfl rfl
              have e22 : a.eval (.tmp 41) = .bool false := hdep ⟨22, .data⟩ (by simp) rfl _ _ rfl rfl
              clear hdep hgd
              refine ⟨fun _ => ?_, fun hw => by simp [Region.wanted] at hw⟩
              generalize a.eval = ρ at *
              simp [go_sem, e11, e22, hc]
            · simp at ho
          simp only [putAll, Act.put, List.setIfInBounds_toArray, List.set_cons_zero, List.set_cons_succ, Nat.reduceAdd]
          clear t1 t2
          have hat : lnAt (ls.getD j (0, 0, 0, 0)) bus = false := by rw [HGL.out]; simp [lnAt, T1.out, T2.out]
          have HAT := Lib.hid (show atF ls bus (sv.take (k + 1)) = atF ls bus (sv.take k) by rw [HTK.out]; exact atF_no hat)
          have HROW := Lib.hid hrow
          clear hat hrow
          go_wp2_with fail
          go_roundg g
          case measure => omega
          case rel => exact ⟨k + 1, by have := HG.out; omega, by go_num, by rw [HAT.out]; exact HROW.out, HBW.out.drew⟩
end Go.Proofs.Ytcacaiakkfgdpaa
