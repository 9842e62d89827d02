/- The walk of NetMatches. -/
import Derived.Test.YtcacaiakkfgdpaaAwkN
import Derived.Test.YtcacaiakkfgdpaaLawD
import Derived.Test.YtcacaiakkfgdpaaLawE
import Derived.Test.YtcacaiakkfgdpaaEquB
import Derived.Test.YtcacaiakkfgdpaaNetB
import Derived.Test.YtcacaiakkfgdpaaRvnP
namespace Go.Proofs.Ytcacaiakkfgdpaa
open Go.RowKit
set_option linter.unusedVariables false

set_option maxRecDepth 100000 in
set_option maxHeartbeats 8000000 in
theorem nma_walk (nb : Int) (A : Option Addr) (c : Nat) (ls : List Ln) (O : Option Addr) (co : Nat) (out : List Int) (bus : Int) (w : World) (hl : LinesR w w.heap.size A ls) (ho : IntsR w w.heap.size O out) (hlo : -9223372036854775808 ≤ bus) (hhi : bus ≤ 9223372036854775807) :
    Calls Try.prog 3 #[.agg #[.int .i64 nb, .slice A ls.length c], .slice O out.length co, .int .i64 bus] w fun e w' => e = .returned (.bool true) ∧ Below w.heap.size w w' := by
  have HL := Lib.hid hl
  have HO := Lib.hid ho
  clear hl ho
  have kl := fun W b hb => long_lit1 (.int .i64 nb) A ls.length c 25 W b hb O out.length co
  cases hlong : longB [out.length] ls.length with
  | true =>
    rw [hlong] at kl
    have KL := Lib.hid kl
    clear kl hlong
    have HB0 := Lib.hid (Below.refl w.heap.size w)
    go_enter Try.func3, Try.ntmps3
    go_wp2_with fail
    have hb := below_alloc2 w (.cells #[.int .i64 nb, .slice A ls.length c] 24) (.cells #[.slice O out.length co] 25)
    have q0 : ((w.alloc (.cells #[.int .i64 nb, .slice A ls.length c] 24)).alloc (.cells #[.slice O out.length co] 25)).cell? ⟨w.heap.size, 0, none⟩ = some (.int .i64 nb) := by simp
    have q1 : ((w.alloc (.cells #[.int .i64 nb, .slice A ls.length c] 24)).alloc (.cells #[.slice O out.length co] 25)).cell? ⟨w.heap.size, 1, none⟩ = some (.slice A ls.length c) := by simp
    have hz : w.heap.size < ((w.alloc (.cells #[.int .i64 nb, .slice A ls.length c] 24)).alloc (.cells #[.slice O out.length co] 25)).heap.size := by simp; omega
    have HB1 := Lib.hid (HB0.out.trans (hb.mono HB0.out.size))
    clear HB0
    replace HL := Lib.hid (HL.out.upto hb)
    replace HO := Lib.hid (HO.out.upto hb)
    clear hb
    refine (KL.out (w.alloc (.cells #[.int .i64 nb, .slice A ls.length c] 24)) _ (by simp)).mono ?_
    rintro e w2 ⟨rfl, hb⟩
    rw [← World.size_alloc (w.alloc (.cells #[.int .i64 nb, .slice A ls.length c] 24)) (.cells #[.slice O out.length co] 25)] at hb
    have HB2 := Lib.hid (HB1.out.trans (hb.mono HB1.out.size))
    clear HB1
    replace HL := Lib.hid (HL.out.upto hb)
    replace HO := Lib.hid (HO.out.upto hb)
    replace q0 := (hb.cell (p := ⟨w.heap.size, 0, none⟩) hz).trans q0
    replace q1 := (hb.cell (p := ⟨w.heap.size, 1, none⟩) hz).trans q1
    replace hz : w.heap.size < w2.heap.size := Nat.lt_of_lt_of_le hz hb.size
    clear hb
    go_wp2_with fail
    refine (awake14_any _).mono ?_
    rintro e w3 ⟨rfl, hb⟩
    have HB3 := Lib.hid (HB2.out.trans (hb.mono HB2.out.size))
    clear HB2
    replace HL := Lib.hid (HL.out.upto hb)
    replace HO := Lib.hid (HO.out.upto hb)
    replace q0 := (hb.cell (p := ⟨w.heap.size, 0, none⟩) hz).trans q0
    replace q1 := (hb.cell (p := ⟨w.heap.size, 1, none⟩) hz).trans q1
    replace hz : w.heap.size < w3.heap.size := Nat.lt_of_lt_of_le hz hb.size
    clear hb
    go_wp2_with fail
    go_ret
    exact ⟨rfl, HB3.out⟩
  | false =>
    rw [hlong] at kl
    have hb100 := longB_false hlong
    have h1 : out.length ≤ 100 := hb100.1 _ (by simp)
    have h2 : ls.length ≤ 100 := hb100.2
    have KL := Lib.hid kl
    clear kl hlong hb100
    by_cases he : outsE nb ls out = 0
    · have hob := (check_of_outs he).2
      have kow := fun W h => own_any nb A c ls W h (by omega)
      have kcp := fun W h => copy_any O co out W h (by omega)
      have kro := fun W hl ho => refouts_any nb A O c co ls out W hl ho (by omega) (by omega)
      have kc := fun X cx W hl => check_any nb X cx ls W hl
      have krc := fun W hl => refcheck_any nb A c ls W hl
      have ko := fun X Y cx cy W hl ho => outs_any nb X Y cx cy ls out W hl ho (by omega) (by omega)
      have ki := fun X Y cx cy W hl ho => in_any nb X Y cx cy ls out W hl ho (by omega) (by omega)
      have ka := fun X Y cx cy W hl ho => at_any nb X Y cx cy ls out bus W hl ho (by omega) (by omega)
      have ksm := fun X cx W hx hy => same_any nb nb X A cx c ls ls W hx hy (by omega) (by omega)
      rw [netEq_self] at ksm
      have kio := fun X Y cx cy W hx hy => ints_same X Y cx cy out W hx hy (by omega)
      have b0 : (checkE nb ls != checkE nb ls) = false := by simp
      generalize checkE nb ls = ck at *
      have KOW := Lib.hid kow
      have KCP := Lib.hid kcp
      have KC := Lib.hid kc
      have KRC := Lib.hid krc
      have KSM := Lib.hid ksm
      have KIO := Lib.hid kio
      clear kow kcp kc krc ksm kio
      have kri := fun W ho => refin_any (.int .i64 nb) A O c co ls.length out W ho (by omega) (by omega)
      have hsl := svcL_le out ls.length
      rw [he] at kro ko
      rw [inL, if_pos he, he] at ki
      rw [← svcL_eq hob] at kri
      have ks := fun X Y cx cy W hx hy => ints_same X Y cx cy (svcL out ls.length) W hx hy (by omega)
      have KRO := Lib.hid kro
      have KO := Lib.hid ko
      have KI := Lib.hid ki
      have KRI := Lib.hid kri
      have KS := Lib.hid ks
      clear kro ko ki kri ks
      by_cases hlo' : bus < 0
      · have hbus : ¬ busB nb bus = true := by simp [busB]; omega
        rw [atL, atE, if_neg (fun h => hbus h.2), if_pos he, if_neg hbus] at ka
        have KA := Lib.hid ka
        have i1 : decide (bus < 0) = true := decide_eq_true hlo'
        clear ka hbus he hob hlo'
        generalize svcL out ls.length = sv at *
        have HB0 := Lib.hid (Below.refl w.heap.size w)
        go_enter Try.func3, Try.ntmps3
        go_wp2_with fail
        have hb := below_alloc2 w (.cells #[.int .i64 nb, .slice A ls.length c] 24) (.cells #[.slice O out.length co] 25)
        have q0 : ((w.alloc (.cells #[.int .i64 nb, .slice A ls.length c] 24)).alloc (.cells #[.slice O out.length co] 25)).cell? ⟨w.heap.size, 0, none⟩ = some (.int .i64 nb) := by simp
        have q1 : ((w.alloc (.cells #[.int .i64 nb, .slice A ls.length c] 24)).alloc (.cells #[.slice O out.length co] 25)).cell? ⟨w.heap.size, 1, none⟩ = some (.slice A ls.length c) := by simp
        have hz : w.heap.size < ((w.alloc (.cells #[.int .i64 nb, .slice A ls.length c] 24)).alloc (.cells #[.slice O out.length co] 25)).heap.size := by simp; omega
        have HB1 := Lib.hid (HB0.out.trans (hb.mono HB0.out.size))
        clear HB0
        replace HL := Lib.hid (HL.out.upto hb)
        replace HO := Lib.hid (HO.out.upto hb)
        clear hb
        refine (KL.out (w.alloc (.cells #[.int .i64 nb, .slice A ls.length c] 24)) _ (by simp)).mono ?_
        rintro e w2 ⟨rfl, hb⟩
        rw [← World.size_alloc (w.alloc (.cells #[.int .i64 nb, .slice A ls.length c] 24)) (.cells #[.slice O out.length co] 25)] at hb
        have HB2 := Lib.hid (HB1.out.trans (hb.mono HB1.out.size))
        clear HB1
        replace HL := Lib.hid (HL.out.upto hb)
        replace HO := Lib.hid (HO.out.upto hb)
        replace q0 := (hb.cell (p := ⟨w.heap.size, 0, none⟩) hz).trans q0
        replace q1 := (hb.cell (p := ⟨w.heap.size, 1, none⟩) hz).trans q1
        replace hz : w.heap.size < w2.heap.size := Nat.lt_of_lt_of_le hz hb.size
        clear hb
        go_wp2_with fail
        refine (KOW.out _ HL.out).mono ?_
        rintro e w3 ⟨Am, cm, rfl, hown, hb⟩
        obtain ⟨A2, c2, he2, hI⟩ := ownsRow_linesR hown
        simp only [Value.slice.injEq] at he2
        obtain ⟨rfl, _, rfl⟩ := he2
        have HIm := Lib.hid hI
        clear hown hI
        have HB3 := Lib.hid (HB2.out.trans (hb.mono HB2.out.size))
        clear HB2
        replace HL := Lib.hid (HL.out.upto hb)
        replace HO := Lib.hid (HO.out.upto hb)
        replace q0 := (hb.cell (p := ⟨w.heap.size, 0, none⟩) hz).trans q0
        replace q1 := (hb.cell (p := ⟨w.heap.size, 1, none⟩) hz).trans q1
        replace hz : w.heap.size < w3.heap.size := Nat.lt_of_lt_of_le hz hb.size
        clear hb
        go_wp2_with fail
        refine (KCP.out _ HO.out).mono ?_
        rintro e w4 ⟨v, rfl, hown, hb⟩
        obtain ⟨Ax, cx, rfl, hI⟩ := ownsRow_ints hown
        have HIx := Lib.hid hI
        clear hown hI
        have HB4 := Lib.hid (HB3.out.trans (hb.mono HB3.out.size))
        clear HB3
        replace HL := Lib.hid (HL.out.upto hb)
        replace HO := Lib.hid (HO.out.upto hb)
        replace HIm := Lib.hid (HIm.out.upto hb)
        replace q0 := (hb.cell (p := ⟨w.heap.size, 0, none⟩) hz).trans q0
        replace q1 := (hb.cell (p := ⟨w.heap.size, 1, none⟩) hz).trans q1
        replace hz : w.heap.size < w4.heap.size := Nat.lt_of_lt_of_le hz hb.size
        clear hb
        go_upto_region 4 with fail
        have hb : Below w4.heap.size w4 (w4.alloc (.cells #[.int .i64 nb, .slice Am ls.length cm] 24)) := (Below.refl _ _).alloc (Nat.le_refl _) _
        have bm0 : (w4.alloc (.cells #[.int .i64 nb, .slice Am ls.length cm] 24)).cell? ⟨w4.heap.size, 0, none⟩ = some (.int .i64 nb) := cell_alloc_at _ _ _ _ _ rfl
        have bm1 : (w4.alloc (.cells #[.int .i64 nb, .slice Am ls.length cm] 24)).cell? ⟨w4.heap.size, 1, none⟩ = some (.slice Am ls.length cm) := cell_alloc_at _ _ _ _ _ rfl
        have hzm : w4.heap.size < (w4.alloc (.cells #[.int .i64 nb, .slice Am ls.length cm] 24)).heap.size := by simp
        generalize hX : w4.alloc (.cells #[.int .i64 nb, .slice Am ls.length cm] 24) = w5 at *
        clear hX
        have HB5 := Lib.hid (HB4.out.trans (hb.mono HB4.out.size))
        clear HB4
        replace HL := Lib.hid (HL.out.upto hb)
        replace HO := Lib.hid (HO.out.upto hb)
        replace HIm := Lib.hid (HIm.out.upto hb)
        replace HIx := Lib.hid (HIx.out.upto hb)
        replace q0 := (hb.cell (p := ⟨w.heap.size, 0, none⟩) hz).trans q0
        replace q1 := (hb.cell (p := ⟨w.heap.size, 1, none⟩) hz).trans q1
        replace hz : w.heap.size < w5.heap.size := Nat.lt_of_lt_of_le hz hb.size
        clear hb
        generalize w4.heap.size = Bm at *
        go_wp2_with fail
        refine (KRO.out _ HL.out HO.out).mono ?_
        rintro e w6 ⟨rfl, hb⟩
        have HB6 := Lib.hid (HB5.out.trans (hb.mono HB5.out.size))
        clear HB5
        replace HL := Lib.hid (HL.out.upto hb)
        replace HO := Lib.hid (HO.out.upto hb)
        replace HIm := Lib.hid (HIm.out.upto hb)
        replace HIx := Lib.hid (HIx.out.upto hb)
        replace q0 := (hb.cell (p := ⟨w.heap.size, 0, none⟩) hz).trans q0
        replace q1 := (hb.cell (p := ⟨w.heap.size, 1, none⟩) hz).trans q1
        replace bm0 := (hb.cell (p := ⟨Bm, 0, none⟩) hzm).trans bm0
        replace bm1 := (hb.cell (p := ⟨Bm, 1, none⟩) hzm).trans bm1
        replace hz : w.heap.size < w6.heap.size := Nat.lt_of_lt_of_le hz hb.size
        replace hzm : Bm < w6.heap.size := Nat.lt_of_lt_of_le hzm hb.size
        clear hb
        go_wp2_with fail
        refine region_calls (w0 := w6) (fun jq => match jq with | 0 => .agg #[.int .i64 nb, .slice Am ls.length cm] | 1 => .int .i64 ck | 2 => .agg #[.int .i64 nb, .slice A ls.length c] | 3 => .int .i64 ck | 4 => .bool false | 5 => .bool false | 6 => .agg #[.int .i64 nb, .slice Am ls.length cm] | 7 => .slice Ax out.length cx | 8 => .int .i64 0 | 9 => .int .i64 0 | 10 => .bool false | 11 => .bool false | _ => undef) (by kernel_rfl) (by kernel_rfl) ?_ ?_
        · intro i o ho a W hI hdep hrest hgd
          have r3 : a.eval (.tmp 3) = .pointer (some ⟨w.heap.size, 0, none⟩) := hrest 3 (apart_of (by kernel_rfl))
          have r7 : a.eval (.tmp 7) = .pointer (some ⟨Bm, 0, none⟩) := hrest 7 (apart_of (by kernel_rfl))
          have r8 : a.eval (.tmp 8) = .slice Ax out.length cx := hrest 8 (apart_of (by kernel_rfl))
          have r9 : a.eval (.tmp 9) = .int .i64 0 := hrest 9 (apart_of (by kernel_rfl))
          have hc : ∀ v, a.eval (.const v) = v := fun _ => rfl
          have hfn : ∀ f, a.eval (.func f) = .func (.func f) #[] #[] := fun _ => rfl
          clear hrest
          rcases i with _ | _ | _ | _ | _ | _ | _ | _ | _ | _ | _ | _ | i
          · injection ho with ho
            subst ho
            clear hdep hgd
            have x0 := (hI.cell (p := ⟨Bm, 0, none⟩) hzm).trans bm0
            have x1 := (hI.cell (p := ⟨Bm, 1, none⟩) hzm).trans bm1
            refine ⟨fun _ => .inl ?_, fun hw => (by simp [Region.wanted] at hw)⟩
            clear hI
            generalize a.eval = ρ at *
            simp [go_sem, r7, x0, x1]
          · injection ho with ho
            subst ho
            have e0 : a.eval (.tmp 28) = .agg #[.int .i64 nb, .slice Am ls.length cm] := hdep ⟨0, .data⟩ (by simp) rfl _ _ rfl rfl
            clear hdep hgd
            refine ⟨fun _ => .inr ⟨18, #[.agg #[.int .i64 nb, .slice Am ls.length cm]], ?_, KC.out _ _ W (HIm.out.upto hI)⟩, fun hw => (by simp [Region.wanted] at hw)⟩
            clear hI
            generalize a.eval = ρ at *
            simp [go_sem, e0, hfn]
          · injection ho with ho
            subst ho
            clear hdep hgd
            have x0 := (hI.cell (p := ⟨w.heap.size, 0, none⟩) hz).trans q0
            have x1 := (hI.cell (p := ⟨w.heap.size, 1, none⟩) hz).trans q1
            refine ⟨fun _ => .inl ?_, fun hw => (by simp [Region.wanted] at hw)⟩
            clear hI
            generalize a.eval = ρ at *
            simp [go_sem, r3, x0, x1]
          · injection ho with ho
            subst ho
            have e2 : a.eval (.tmp 30) = .agg #[.int .i64 nb, .slice A ls.length c] := hdep ⟨2, .data⟩ (by simp) rfl _ _ rfl rfl
            clear hdep hgd
            refine ⟨fun _ => .inr ⟨19, #[.agg #[.int .i64 nb, .slice A ls.length c]], ?_, KRC.out W (HL.out.upto hI)⟩, fun hw => (by simp [Region.wanted] at hw)⟩
            clear hI
            generalize a.eval = ρ at *
            simp [go_sem, e2, hfn]
          · injection ho with ho
            subst ho
            have e1 : a.eval (.tmp 29) = .int .i64 ck := hdep ⟨1, .data⟩ (by simp) rfl _ _ rfl rfl
            have e3 : a.eval (.tmp 31) = .int .i64 ck := hdep ⟨3, .data⟩ (by simp) rfl _ _ rfl rfl
            clear hdep hgd
            refine ⟨fun _ => .inl ?_, fun hw => (by simp [Region.wanted] at hw)⟩
            clear hI
            generalize a.eval = ρ at *
            simp [go_sem, e1, e3]
          · injection ho with ho
            subst ho
            have e4 : a.eval (.tmp 32) = .bool false := hdep ⟨4, .data⟩ (by simp) rfl _ _ rfl rfl
            clear hdep hgd
            refine ⟨fun _ => .inl ?_, fun hw => (by simp [Region.wanted] at hw)⟩
            clear hI
            generalize a.eval = ρ at *
            simp [go_sem, e4]
          · injection ho with ho
            subst ho
            have h8 : a.tmps.getD 33 undef = .bool false := hdep ⟨5, .guard⟩ (by simp) rfl _ _ rfl rfl
            have hwd := hgd 5 false rfl _ _ rfl rfl false h8
            clear hdep hgd
            have x0 := (hI.cell (p := ⟨Bm, 0, none⟩) hzm).trans bm0
            have x1 := (hI.cell (p := ⟨Bm, 1, none⟩) hzm).trans bm1
            refine ⟨fun _ => .inl ?_, fun hw => (by rw [hwd] at hw; cases hw)⟩
            clear h8 hwd
            clear hI
            generalize a.eval = ρ at *
            simp [go_sem, r7, x0, x1]
          · injection ho with ho
            subst ho
            have h8 : a.tmps.getD 33 undef = .bool false := hdep ⟨5, .guard⟩ (by simp) rfl _ _ rfl rfl
            have hwd := hgd 5 false rfl _ _ rfl rfl false h8
            clear hdep hgd
            refine ⟨fun _ => .inl ?_, fun hw => (by rw [hwd] at hw; cases hw)⟩
            clear h8 hwd
            clear hI
            generalize a.eval = ρ at *
            simp [go_sem, r8]
          · injection ho with ho
            subst ho
            have e6 : a.eval (.tmp 34) = .agg #[.int .i64 nb, .slice Am ls.length cm] := hdep ⟨6, .data⟩ (by simp) rfl _ _ rfl rfl
            have e7 : a.eval (.tmp 35) = .slice Ax out.length cx := hdep ⟨7, .data⟩ (by simp) rfl _ _ rfl rfl
            have h8 : a.tmps.getD 33 undef = .bool false := hdep ⟨5, .guard⟩ (by simp) rfl _ _ rfl rfl
            have hwd := hgd 5 false rfl _ _ rfl rfl false h8
            clear hdep hgd
            refine ⟨fun _ => .inr ⟨20, #[.agg #[.int .i64 nb, .slice Am ls.length cm], .slice Ax out.length cx], ?_, KO.out _ _ _ _ W (HIm.out.upto hI) (HIx.out.upto hI)⟩, fun hw => (by rw [hwd] at hw; cases hw)⟩
            clear h8 hwd
            clear hI
            generalize a.eval = ρ at *
            simp [go_sem, e6, e7, hfn]
          · injection ho with ho
            subst ho
            have h8 : a.tmps.getD 33 undef = .bool false := hdep ⟨5, .guard⟩ (by simp) rfl _ _ rfl rfl
            have hwd := hgd 5 false rfl _ _ rfl rfl false h8
            clear hdep hgd
            refine ⟨fun _ => .inl ?_, fun hw => (by rw [hwd] at hw; cases hw)⟩
            clear h8 hwd
            clear hI
            generalize a.eval = ρ at *
            simp [go_sem, r9]
          · injection ho with ho
            subst ho
            have e8 : a.eval (.tmp 36) = .int .i64 0 := hdep ⟨8, .data⟩ (by simp) rfl _ _ rfl rfl
            have e9 : a.eval (.tmp 37) = .int .i64 0 := hdep ⟨9, .data⟩ (by simp) rfl _ _ rfl rfl
            have h8 : a.tmps.getD 33 undef = .bool false := hdep ⟨5, .guard⟩ (by simp) rfl _ _ rfl rfl
            have hwd := hgd 5 false rfl _ _ rfl rfl false h8
            clear hdep hgd
            refine ⟨fun _ => .inl ?_, fun hw => (by rw [hwd] at hw; cases hw)⟩
            clear h8 hwd
            clear hI
            generalize a.eval = ρ at *
            simp [go_sem, e8, e9]
          · injection ho with ho
            subst ho
            have e5 : a.eval (.tmp 33) = .bool false := hdep ⟨5, .data⟩ (by simp) rfl _ _ rfl rfl
            have e10 : a.eval (.tmp 38) = .bool false := hdep ⟨10, .data⟩ (by simp) rfl _ _ rfl rfl
            clear hdep hgd
            refine ⟨fun _ => .inl ?_, fun hw => (by simp [Region.wanted] at hw)⟩
            clear hI
            generalize a.eval = ρ at *
            simp [go_sem, e5, e10, hc]
          · simp at ho
        intro w7 hb
        simp only [putAll, Act.put, List.setIfInBounds_toArray, List.set_cons_zero, List.set_cons_succ, Nat.reduceAdd]
        have HB7 := Lib.hid (HB6.out.trans (hb.mono HB6.out.size))
        clear HB6
        replace HL := Lib.hid (HL.out.upto hb)
        replace HO := Lib.hid (HO.out.upto hb)
        replace HIm := Lib.hid (HIm.out.upto hb)
        replace HIx := Lib.hid (HIx.out.upto hb)
        replace q0 := (hb.cell (p := ⟨w.heap.size, 0, none⟩) hz).trans q0
        replace q1 := (hb.cell (p := ⟨w.heap.size, 1, none⟩) hz).trans q1
        replace bm0 := (hb.cell (p := ⟨Bm, 0, none⟩) hzm).trans bm0
        replace bm1 := (hb.cell (p := ⟨Bm, 1, none⟩) hzm).trans bm1
        replace hz : w.heap.size < w7.heap.size := Nat.lt_of_lt_of_le hz hb.size
        replace hzm : Bm < w7.heap.size := Nat.lt_of_lt_of_le hzm hb.size
        clear hb
        go_wp2_with fail
        go_loopg [11, 12, 13, 14, 15] 2 (fun g i s12 s13 s14 s15 wr => ∃ k : Nat, k + g = 2 ∧ i = .int .i64 k ∧ IntsR wr wr.heap.size O out ∧ LinesR wr wr.heap.size A ls ∧ LinesR wr wr.heap.size Am ls ∧ IntsR wr wr.heap.size Ax out ∧ wr.cell? ⟨w.heap.size, 0, none⟩ = some (.int .i64 nb) ∧ wr.cell? ⟨w.heap.size, 1, none⟩ = some (.slice A ls.length c) ∧ wr.cell? ⟨Bm, 0, none⟩ = some (.int .i64 nb) ∧ wr.cell? ⟨Bm, 1, none⟩ = some (.slice Am ls.length cm) ∧ w.heap.size < wr.heap.size ∧ Bm < wr.heap.size ∧ Below w.heap.size w wr)
        case atStart => exact ⟨0, by omega, rfl, HO.out, HL.out, HIm.out, HIx.out, q0, q1, bm0, bm1, hz, hzm, HB7.out⟩
        case round =>
          clear HO HL HIm HIx q0 q1 bm0 bm1 hz hzm HB7
          obtain ⟨k, hkg, rfl, h1, h2, h3, h4, q0, q1, bm0, bm1, hz, hzm, hbel⟩ := hrel
          have HO := Lib.hid h1
          have HO0 := Lib.hid h1
          have HL := Lib.hid h2
          have HL0 := Lib.hid h2
          have HIm := Lib.hid h3
          have HIm0 := Lib.hid h3
          have HIx := Lib.hid h4
          have HIx0 := Lib.hid h4
          have HQ0 := Lib.hid (And.intro q0 (And.intro q1 (And.intro bm0 (And.intro bm1 (And.intro hz hzm)))))
          have HBW := Lib.hid hbel
          clear h1 h2 h3 h4 hbel
          cases gk with
          | zero =>
            obtain rfl : k = 2 := by omega
            clear hkg HO HL HIm HIx HO0 HL0 HIm0 HIx0 HQ0
            go_wp2_with fail
            refine (awake14_any _).mono ?_
            rintro e w50 ⟨rfl, hb⟩
            have HB50 := Lib.hid (HBW.out.trans (hb.mono HBW.out.size))
            clear HBW
            clear hb
            go_wp2_with fail
            go_ret
            exact ⟨rfl, HB50.out⟩
          | succ g =>
            have hk : k < 2 := by omega
            have HG := Lib.hid hkg
            clear hkg
            have HR0 := Lib.hid (Below.refl wr.heap.size wr)
            go_wp2_with fail
            refine (KI.out _ _ _ _ _ HIm.out HIx.out).mono ?_
            rintro e w60 ⟨v, rfl, hown, hb⟩
            obtain ⟨Ai, ci, rfl, hI⟩ := ownsRow_ints hown
            have HIi := Lib.hid hI
            have HSi := Lib.hid (Spoils.own hown HR0.out.size)
            clear hown hI
            have HB60 := Lib.hid (HR0.out.trans (hb.mono HR0.out.size))
            clear HR0
            replace HO := Lib.hid (HO.out.upto hb)
            replace HL := Lib.hid (HL.out.upto hb)
            replace HIm := Lib.hid (HIm.out.upto hb)
            replace HIx := Lib.hid (HIx.out.upto hb)
            replace q0 := (hb.cell (p := ⟨w.heap.size, 0, none⟩) hz).trans q0
            replace q1 := (hb.cell (p := ⟨w.heap.size, 1, none⟩) hz).trans q1
            replace bm0 := (hb.cell (p := ⟨Bm, 0, none⟩) hzm).trans bm0
            replace bm1 := (hb.cell (p := ⟨Bm, 1, none⟩) hzm).trans bm1
            replace hz : w.heap.size < w60.heap.size := Nat.lt_of_lt_of_le hz hb.size
            replace hzm : Bm < w60.heap.size := Nat.lt_of_lt_of_le hzm hb.size
            clear hb
            go_wp2_with fail
            refine (KA.out _ _ _ _ _ HIm.out HIx.out).mono ?_
            rintro e w61 ⟨v, rfl, hown, hb⟩
            obtain ⟨Al, cl, rfl, hI⟩ := ownsRow_ints hown
            have HIl := Lib.hid hI
            have HSl := Lib.hid (Spoils.own hown HB60.out.size)
            clear hown hI
            have HB61 := Lib.hid (HB60.out.trans (hb.mono HB60.out.size))
            clear HB60
            replace HO := Lib.hid (HO.out.upto hb)
            replace HL := Lib.hid (HL.out.upto hb)
            replace HIm := Lib.hid (HIm.out.upto hb)
            replace HIx := Lib.hid (HIx.out.upto hb)
            replace HIi := Lib.hid (HIi.out.upto hb)
            replace HSi := Lib.hid (HSi.out.upto hb)
            replace q0 := (hb.cell (p := ⟨w.heap.size, 0, none⟩) hz).trans q0
            replace q1 := (hb.cell (p := ⟨w.heap.size, 1, none⟩) hz).trans q1
            replace bm0 := (hb.cell (p := ⟨Bm, 0, none⟩) hzm).trans bm0
            replace bm1 := (hb.cell (p := ⟨Bm, 1, none⟩) hzm).trans bm1
            replace hz : w.heap.size < w61.heap.size := Nat.lt_of_lt_of_le hz hb.size
            replace hzm : Bm < w61.heap.size := Nat.lt_of_lt_of_le hzm hb.size
            clear hb
            go_wp2_with fail
            refine (KRI.out _ HO.out).mono ?_
            rintro e w62 ⟨v, rfl, hown, hb⟩
            obtain ⟨At, ct, rfl, hI⟩ := ownsRow_ints hown
            have HIt := Lib.hid hI
            clear hown hI
            have HB62 := Lib.hid (HB61.out.trans (hb.mono HB61.out.size))
            clear HB61
            replace HO := Lib.hid (HO.out.upto hb)
            replace HL := Lib.hid (HL.out.upto hb)
            replace HIm := Lib.hid (HIm.out.upto hb)
            replace HIx := Lib.hid (HIx.out.upto hb)
            replace HIi := Lib.hid (HIi.out.upto hb)
            replace HSi := Lib.hid (HSi.out.upto hb)
            replace HIl := Lib.hid (HIl.out.upto hb)
            replace HSl := Lib.hid (HSl.out.upto hb)
            replace q0 := (hb.cell (p := ⟨w.heap.size, 0, none⟩) hz).trans q0
            replace q1 := (hb.cell (p := ⟨w.heap.size, 1, none⟩) hz).trans q1
            replace bm0 := (hb.cell (p := ⟨Bm, 0, none⟩) hzm).trans bm0
            replace bm1 := (hb.cell (p := ⟨Bm, 1, none⟩) hzm).trans bm1
            replace hz : w.heap.size < w62.heap.size := Nat.lt_of_lt_of_le hz hb.size
            replace hzm : Bm < w62.heap.size := Nat.lt_of_lt_of_le hzm hb.size
            clear hb
            go_wp2_with fail
            refine (KS.out _ _ _ _ _ HIi.out HIt.out).mono ?_
            rintro e w63 ⟨rfl, hb⟩
            have HB63 := Lib.hid (HB62.out.trans (hb.mono HB62.out.size))
            clear HB62
            replace HO := Lib.hid (HO.out.upto hb)
            replace HL := Lib.hid (HL.out.upto hb)
            replace HIm := Lib.hid (HIm.out.upto hb)
            replace HIx := Lib.hid (HIx.out.upto hb)
            replace HIi := Lib.hid (HIi.out.upto hb)
            replace HSi := Lib.hid (HSi.out.upto hb)
            replace HIl := Lib.hid (HIl.out.upto hb)
            replace HSl := Lib.hid (HSl.out.upto hb)
            replace HIt := Lib.hid (HIt.out.upto hb)
            replace q0 := (hb.cell (p := ⟨w.heap.size, 0, none⟩) hz).trans q0
            replace q1 := (hb.cell (p := ⟨w.heap.size, 1, none⟩) hz).trans q1
            replace bm0 := (hb.cell (p := ⟨Bm, 0, none⟩) hzm).trans bm0
            replace bm1 := (hb.cell (p := ⟨Bm, 1, none⟩) hzm).trans bm1
            replace hz : w.heap.size < w63.heap.size := Nat.lt_of_lt_of_le hz hb.size
            replace hzm : Bm < w63.heap.size := Nat.lt_of_lt_of_le hzm hb.size
            clear hb
            go_wp2_with fail
            refine (KSM.out _ _ _ HIm.out HL.out).mono ?_
            rintro e w64 ⟨rfl, hb⟩
            have HB64 := Lib.hid (HB63.out.trans (hb.mono HB63.out.size))
            clear HB63
            replace HO := Lib.hid (HO.out.upto hb)
            replace HL := Lib.hid (HL.out.upto hb)
            replace HIm := Lib.hid (HIm.out.upto hb)
            replace HIx := Lib.hid (HIx.out.upto hb)
            replace HIi := Lib.hid (HIi.out.upto hb)
            replace HSi := Lib.hid (HSi.out.upto hb)
            replace HIl := Lib.hid (HIl.out.upto hb)
            replace HSl := Lib.hid (HSl.out.upto hb)
            replace HIt := Lib.hid (HIt.out.upto hb)
            replace q0 := (hb.cell (p := ⟨w.heap.size, 0, none⟩) hz).trans q0
            replace q1 := (hb.cell (p := ⟨w.heap.size, 1, none⟩) hz).trans q1
            replace bm0 := (hb.cell (p := ⟨Bm, 0, none⟩) hzm).trans bm0
            replace bm1 := (hb.cell (p := ⟨Bm, 1, none⟩) hzm).trans bm1
            replace hz : w.heap.size < w64.heap.size := Nat.lt_of_lt_of_le hz hb.size
            replace hzm : Bm < w64.heap.size := Nat.lt_of_lt_of_le hzm hb.size
            clear hb
            go_wp2_with fail
            refine (KIO.out _ _ _ _ _ HIx.out HO.out).mono ?_
            rintro e w65 ⟨rfl, hb⟩
            have HB65 := Lib.hid (HB64.out.trans (hb.mono HB64.out.size))
            clear HB64
            replace HO := Lib.hid (HO.out.upto hb)
            replace HL := Lib.hid (HL.out.upto hb)
            replace HIm := Lib.hid (HIm.out.upto hb)
            replace HIx := Lib.hid (HIx.out.upto hb)
            replace HIi := Lib.hid (HIi.out.upto hb)
            replace HSi := Lib.hid (HSi.out.upto hb)
            replace HIl := Lib.hid (HIl.out.upto hb)
            replace HSl := Lib.hid (HSl.out.upto hb)
            replace HIt := Lib.hid (HIt.out.upto hb)
            replace q0 := (hb.cell (p := ⟨w.heap.size, 0, none⟩) hz).trans q0
            replace q1 := (hb.cell (p := ⟨w.heap.size, 1, none⟩) hz).trans q1
            replace bm0 := (hb.cell (p := ⟨Bm, 0, none⟩) hzm).trans bm0
            replace bm1 := (hb.cell (p := ⟨Bm, 1, none⟩) hzm).trans bm1
            replace hz : w.heap.size < w65.heap.size := Nat.lt_of_lt_of_le hz hb.size
            replace hzm : Bm < w65.heap.size := Nat.lt_of_lt_of_le hzm hb.size
            clear hb
            go_wp2_with fail
            have hs1 := HSi.out
            have hs2 := HSl.out
            rw [Nat.mul_one] at hs1 hs2
            refine (spoil_two wr.heap.size Ai Al sv.length ci 0 cl 25 w65 hs1 hs2 HB65.out.size (by first | omega | simp) (by first | omega | simp)).mono ?_
            rintro e wS ⟨⟨vS, rfl⟩, hb, _⟩
            have hbt := HB65.out.trans hb
            have HBT := Lib.hid hbt
            clear hb hs1 hs2 HSi HSl hbt
            go_wp2_with fail
            go_roundg g
            case measure => omega
            case rel =>
              obtain ⟨y0, y1, y2, y3, y4, y5⟩ := HQ0.out
              have hbt := HBT.out
              have hsz := hbt.size
              exact ⟨k + 1, by have := HG.out; omega, by go_num, HO0.out.upto hbt, HL0.out.upto hbt, HIm0.out.upto hbt, HIx0.out.upto hbt, (hbt.cell (p := ⟨w.heap.size, 0, none⟩) y4).trans y0, (hbt.cell (p := ⟨w.heap.size, 1, none⟩) y4).trans y1, (hbt.cell (p := ⟨Bm, 0, none⟩) y5).trans y2, (hbt.cell (p := ⟨Bm, 1, none⟩) y5).trans y3, by omega, by omega, HBW.out.trans (hbt.mono HBW.out.size)⟩
      · by_cases hhi' : nb ≤ bus
        · have hbus : ¬ busB nb bus = true := by simp [busB]; omega
          rw [atL, atE, if_neg (fun h => hbus h.2), if_pos he, if_neg hbus] at ka
          have KA := Lib.hid ka
          have i1 : decide (bus < 0) = false := decide_eq_false hlo'
          have i2 : decide (nb ≤ bus) = true := decide_eq_true hhi'
          clear ka hbus he hob hlo' hhi'
          generalize svcL out ls.length = sv at *
          have HB0 := Lib.hid (Below.refl w.heap.size w)
          go_enter Try.func3, Try.ntmps3
          go_wp2_with fail
          have hb := below_alloc2 w (.cells #[.int .i64 nb, .slice A ls.length c] 24) (.cells #[.slice O out.length co] 25)
          have q0 : ((w.alloc (.cells #[.int .i64 nb, .slice A ls.length c] 24)).alloc (.cells #[.slice O out.length co] 25)).cell? ⟨w.heap.size, 0, none⟩ = some (.int .i64 nb) := by simp
          have q1 : ((w.alloc (.cells #[.int .i64 nb, .slice A ls.length c] 24)).alloc (.cells #[.slice O out.length co] 25)).cell? ⟨w.heap.size, 1, none⟩ = some (.slice A ls.length c) := by simp
          have hz : w.heap.size < ((w.alloc (.cells #[.int .i64 nb, .slice A ls.length c] 24)).alloc (.cells #[.slice O out.length co] 25)).heap.size := by simp; omega
          have HB1 := Lib.hid (HB0.out.trans (hb.mono HB0.out.size))
          clear HB0
          replace HL := Lib.hid (HL.out.upto hb)
          replace HO := Lib.hid (HO.out.upto hb)
          clear hb
          refine (KL.out (w.alloc (.cells #[.int .i64 nb, .slice A ls.length c] 24)) _ (by simp)).mono ?_
          rintro e w2 ⟨rfl, hb⟩
          rw [← World.size_alloc (w.alloc (.cells #[.int .i64 nb, .slice A ls.length c] 24)) (.cells #[.slice O out.length co] 25)] at hb
          have HB2 := Lib.hid (HB1.out.trans (hb.mono HB1.out.size))
          clear HB1
          replace HL := Lib.hid (HL.out.upto hb)
          replace HO := Lib.hid (HO.out.upto hb)
          replace q0 := (hb.cell (p := ⟨w.heap.size, 0, none⟩) hz).trans q0
          replace q1 := (hb.cell (p := ⟨w.heap.size, 1, none⟩) hz).trans q1
          replace hz : w.heap.size < w2.heap.size := Nat.lt_of_lt_of_le hz hb.size
          clear hb
          go_wp2_with fail
          refine (KOW.out _ HL.out).mono ?_
          rintro e w3 ⟨Am, cm, rfl, hown, hb⟩
          obtain ⟨A2, c2, he2, hI⟩ := ownsRow_linesR hown
          simp only [Value.slice.injEq] at he2
          obtain ⟨rfl, _, rfl⟩ := he2
          have HIm := Lib.hid hI
          clear hown hI
          have HB3 := Lib.hid (HB2.out.trans (hb.mono HB2.out.size))
          clear HB2
          replace HL := Lib.hid (HL.out.upto hb)
          replace HO := Lib.hid (HO.out.upto hb)
          replace q0 := (hb.cell (p := ⟨w.heap.size, 0, none⟩) hz).trans q0
          replace q1 := (hb.cell (p := ⟨w.heap.size, 1, none⟩) hz).trans q1
          replace hz : w.heap.size < w3.heap.size := Nat.lt_of_lt_of_le hz hb.size
          clear hb
          go_wp2_with fail
          refine (KCP.out _ HO.out).mono ?_
          rintro e w4 ⟨v, rfl, hown, hb⟩
          obtain ⟨Ax, cx, rfl, hI⟩ := ownsRow_ints hown
          have HIx := Lib.hid hI
          clear hown hI
          have HB4 := Lib.hid (HB3.out.trans (hb.mono HB3.out.size))
          clear HB3
          replace HL := Lib.hid (HL.out.upto hb)
          replace HO := Lib.hid (HO.out.upto hb)
          replace HIm := Lib.hid (HIm.out.upto hb)
          replace q0 := (hb.cell (p := ⟨w.heap.size, 0, none⟩) hz).trans q0
          replace q1 := (hb.cell (p := ⟨w.heap.size, 1, none⟩) hz).trans q1
          replace hz : w.heap.size < w4.heap.size := Nat.lt_of_lt_of_le hz hb.size
          clear hb
          go_upto_region 4 with fail
          have hb : Below w4.heap.size w4 (w4.alloc (.cells #[.int .i64 nb, .slice Am ls.length cm] 24)) := (Below.refl _ _).alloc (Nat.le_refl _) _
          have bm0 : (w4.alloc (.cells #[.int .i64 nb, .slice Am ls.length cm] 24)).cell? ⟨w4.heap.size, 0, none⟩ = some (.int .i64 nb) := cell_alloc_at _ _ _ _ _ rfl
          have bm1 : (w4.alloc (.cells #[.int .i64 nb, .slice Am ls.length cm] 24)).cell? ⟨w4.heap.size, 1, none⟩ = some (.slice Am ls.length cm) := cell_alloc_at _ _ _ _ _ rfl
          have hzm : w4.heap.size < (w4.alloc (.cells #[.int .i64 nb, .slice Am ls.length cm] 24)).heap.size := by simp
          generalize hX : w4.alloc (.cells #[.int .i64 nb, .slice Am ls.length cm] 24) = w5 at *
          clear hX
          have HB5 := Lib.hid (HB4.out.trans (hb.mono HB4.out.size))
          clear HB4
          replace HL := Lib.hid (HL.out.upto hb)
          replace HO := Lib.hid (HO.out.upto hb)
          replace HIm := Lib.hid (HIm.out.upto hb)
          replace HIx := Lib.hid (HIx.out.upto hb)
          replace q0 := (hb.cell (p := ⟨w.heap.size, 0, none⟩) hz).trans q0
          replace q1 := (hb.cell (p := ⟨w.heap.size, 1, none⟩) hz).trans q1
          replace hz : w.heap.size < w5.heap.size := Nat.lt_of_lt_of_le hz hb.size
          clear hb
          generalize w4.heap.size = Bm at *
          go_wp2_with fail
          refine (KRO.out _ HL.out HO.out).mono ?_
          rintro e w6 ⟨rfl, hb⟩
          have HB6 := Lib.hid (HB5.out.trans (hb.mono HB5.out.size))
          clear HB5
          replace HL := Lib.hid (HL.out.upto hb)
          replace HO := Lib.hid (HO.out.upto hb)
          replace HIm := Lib.hid (HIm.out.upto hb)
          replace HIx := Lib.hid (HIx.out.upto hb)
          replace q0 := (hb.cell (p := ⟨w.heap.size, 0, none⟩) hz).trans q0
          replace q1 := (hb.cell (p := ⟨w.heap.size, 1, none⟩) hz).trans q1
          replace bm0 := (hb.cell (p := ⟨Bm, 0, none⟩) hzm).trans bm0
          replace bm1 := (hb.cell (p := ⟨Bm, 1, none⟩) hzm).trans bm1
          replace hz : w.heap.size < w6.heap.size := Nat.lt_of_lt_of_le hz hb.size
          replace hzm : Bm < w6.heap.size := Nat.lt_of_lt_of_le hzm hb.size
          clear hb
          go_wp2_with fail
          refine region_calls (w0 := w6) (fun jq => match jq with | 0 => .agg #[.int .i64 nb, .slice Am ls.length cm] | 1 => .int .i64 ck | 2 => .agg #[.int .i64 nb, .slice A ls.length c] | 3 => .int .i64 ck | 4 => .bool false | 5 => .bool false | 6 => .agg #[.int .i64 nb, .slice Am ls.length cm] | 7 => .slice Ax out.length cx | 8 => .int .i64 0 | 9 => .int .i64 0 | 10 => .bool false | 11 => .bool false | _ => undef) (by kernel_rfl) (by kernel_rfl) ?_ ?_
          · intro i o ho a W hI hdep hrest hgd
            have r3 : a.eval (.tmp 3) = .pointer (some ⟨w.heap.size, 0, none⟩) := hrest 3 (apart_of (by kernel_rfl))
            have r7 : a.eval (.tmp 7) = .pointer (some ⟨Bm, 0, none⟩) := hrest 7 (apart_of (by kernel_rfl))
            have r8 : a.eval (.tmp 8) = .slice Ax out.length cx := hrest 8 (apart_of (by kernel_rfl))
            have r9 : a.eval (.tmp 9) = .int .i64 0 := hrest 9 (apart_of (by kernel_rfl))
            have hc : ∀ v, a.eval (.const v) = v := fun _ => rfl
            have hfn : ∀ f, a.eval (.func f) = .func (.func f) #[] #[] := fun _ => rfl
            clear hrest
            rcases i with _ | _ | _ | _ | _ | _ | _ | _ | _ | _ | _ | _ | i
            · injection ho with ho
              subst ho
              clear hdep hgd
              have x0 := (hI.cell (p := ⟨Bm, 0, none⟩) hzm).trans bm0
              have x1 := (hI.cell (p := ⟨Bm, 1, none⟩) hzm).trans bm1
              refine ⟨fun _ => .inl ?_, fun hw => (by simp [Region.wanted] at hw)⟩
              clear hI
              generalize a.eval = ρ at *
              simp [go_sem, r7, x0, x1]
            · injection ho with ho
              subst ho
              have e0 : a.eval (.tmp 28) = .agg #[.int .i64 nb, .slice Am ls.length cm] := hdep ⟨0, .data⟩ (by simp) rfl _ _ rfl rfl
              clear hdep hgd
              refine ⟨fun _ => .inr ⟨18, #[.agg #[.int .i64 nb, .slice Am ls.length cm]], ?_, KC.out _ _ W (HIm.out.upto hI)⟩, fun hw => (by simp [Region.wanted] at hw)⟩
              clear hI
              generalize a.eval = ρ at *
              simp [go_sem, e0, hfn]
            · injection ho with ho
              subst ho
              clear hdep hgd
              have x0 := (hI.cell (p := ⟨w.heap.size, 0, none⟩) hz).trans q0
              have x1 := (hI.cell (p := ⟨w.heap.size, 1, none⟩) hz).trans q1
              refine ⟨fun _ => .inl ?_, fun hw => (by simp [Region.wanted] at hw)⟩
              clear hI
              generalize a.eval = ρ at *
              simp [go_sem, r3, x0, x1]
            · injection ho with ho
              subst ho
              have e2 : a.eval (.tmp 30) = .agg #[.int .i64 nb, .slice A ls.length c] := hdep ⟨2, .data⟩ (by simp) rfl _ _ rfl rfl
              clear hdep hgd
              refine ⟨fun _ => .inr ⟨19, #[.agg #[.int .i64 nb, .slice A ls.length c]], ?_, KRC.out W (HL.out.upto hI)⟩, fun hw => (by simp [Region.wanted] at hw)⟩
              clear hI
              generalize a.eval = ρ at *
              simp [go_sem, e2, hfn]
            · injection ho with ho
              subst ho
              have e1 : a.eval (.tmp 29) = .int .i64 ck := hdep ⟨1, .data⟩ (by simp) rfl _ _ rfl rfl
              have e3 : a.eval (.tmp 31) = .int .i64 ck := hdep ⟨3, .data⟩ (by simp) rfl _ _ rfl rfl
              clear hdep hgd
              refine ⟨fun _ => .inl ?_, fun hw => (by simp [Region.wanted] at hw)⟩
              clear hI
              generalize a.eval = ρ at *
              simp [go_sem, e1, e3]
            · injection ho with ho
              subst ho
              have e4 : a.eval (.tmp 32) = .bool false := hdep ⟨4, .data⟩ (by simp) rfl _ _ rfl rfl
              clear hdep hgd
              refine ⟨fun _ => .inl ?_, fun hw => (by simp [Region.wanted] at hw)⟩
              clear hI
              generalize a.eval = ρ at *
              simp [go_sem, e4]
            · injection ho with ho
              subst ho
              have h8 : a.tmps.getD 33 undef = .bool false := hdep ⟨5, .guard⟩ (by simp) rfl _ _ rfl rfl
              have hwd := hgd 5 false rfl _ _ rfl rfl false h8
              clear hdep hgd
              have x0 := (hI.cell (p := ⟨Bm, 0, none⟩) hzm).trans bm0
              have x1 := (hI.cell (p := ⟨Bm, 1, none⟩) hzm).trans bm1
              refine ⟨fun _ => .inl ?_, fun hw => (by rw [hwd] at hw; cases hw)⟩
              clear h8 hwd
              clear hI
              generalize a.eval = ρ at *
              simp [go_sem, r7, x0, x1]
            · injection ho with ho
              subst ho
              have h8 : a.tmps.getD 33 undef = .bool false := hdep ⟨5, .guard⟩ (by simp) rfl _ _ rfl rfl
              have hwd := hgd 5 false rfl _ _ rfl rfl false h8
              clear hdep hgd
              refine ⟨fun _ => .inl ?_, fun hw => (by rw [hwd] at hw; cases hw)⟩
              clear h8 hwd
              clear hI
              generalize a.eval = ρ at *
              simp [go_sem, r8]
            · injection ho with ho
              subst ho
              have e6 : a.eval (.tmp 34) = .agg #[.int .i64 nb, .slice Am ls.length cm] := hdep ⟨6, .data⟩ (by simp) rfl _ _ rfl rfl
              have e7 : a.eval (.tmp 35) = .slice Ax out.length cx := hdep ⟨7, .data⟩ (by simp) rfl _ _ rfl rfl
              have h8 : a.tmps.getD 33 undef = .bool false := hdep ⟨5, .guard⟩ (by simp) rfl _ _ rfl rfl
              have hwd := hgd 5 false rfl _ _ rfl rfl false h8
              clear hdep hgd
              refine ⟨fun _ => .inr ⟨20, #[.agg #[.int .i64 nb, .slice Am ls.length cm], .slice Ax out.length cx], ?_, KO.out _ _ _ _ W (HIm.out.upto hI) (HIx.out.upto hI)⟩, fun hw => (by rw [hwd] at hw; cases hw)⟩
              clear h8 hwd
              clear hI
              generalize a.eval = ρ at *
              simp [go_sem, e6, e7, hfn]
            · injection ho with ho
              subst ho
              have h8 : a.tmps.getD 33 undef = .bool false := hdep ⟨5, .guard⟩ (by simp) rfl _ _ rfl rfl
              have hwd := hgd 5 false rfl _ _ rfl rfl false h8
              clear hdep hgd
              refine ⟨fun _ => .inl ?_, fun hw => (by rw [hwd] at hw; cases hw)⟩
              clear h8 hwd
              clear hI
              generalize a.eval = ρ at *
              simp [go_sem, r9]
            · injection ho with ho
              subst ho
              have e8 : a.eval (.tmp 36) = .int .i64 0 := hdep ⟨8, .data⟩ (by simp) rfl _ _ rfl rfl
              have e9 : a.eval (.tmp 37) = .int .i64 0 := hdep ⟨9, .data⟩ (by simp) rfl _ _ rfl rfl
              have h8 : a.tmps.getD 33 undef = .bool false := hdep ⟨5, .guard⟩ (by simp) rfl _ _ rfl rfl
              have hwd := hgd 5 false rfl _ _ rfl rfl false h8
              clear hdep hgd
              refine ⟨fun _ => .inl ?_, fun hw => (by rw [hwd] at hw; cases hw)⟩
              clear h8 hwd
              clear hI
              generalize a.eval = ρ at *
              simp [go_sem, e8, e9]
            · injection ho with ho
              subst ho
              have e5 : a.eval (.tmp 33) = .bool false := hdep ⟨5, .data⟩ (by simp) rfl _ _ rfl rfl
              have e10 : a.eval (.tmp 38) = .bool false := hdep ⟨10, .data⟩ (by simp) rfl _ _ rfl rfl
              clear hdep hgd
              refine ⟨fun _ => .inl ?_, fun hw => (by simp [Region.wanted] at hw)⟩
              clear hI
              generalize a.eval = ρ at *
              simp [go_sem, e5, e10, hc]
            · simp at ho
          intro w7 hb
          simp only [putAll, Act.put, List.setIfInBounds_toArray, List.set_cons_zero, List.set_cons_succ, Nat.reduceAdd]
          have HB7 := Lib.hid (HB6.out.trans (hb.mono HB6.out.size))
          clear HB6
          replace HL := Lib.hid (HL.out.upto hb)
          replace HO := Lib.hid (HO.out.upto hb)
          replace HIm := Lib.hid (HIm.out.upto hb)
          replace HIx := Lib.hid (HIx.out.upto hb)
          replace q0 := (hb.cell (p := ⟨w.heap.size, 0, none⟩) hz).trans q0
          replace q1 := (hb.cell (p := ⟨w.heap.size, 1, none⟩) hz).trans q1
          replace bm0 := (hb.cell (p := ⟨Bm, 0, none⟩) hzm).trans bm0
          replace bm1 := (hb.cell (p := ⟨Bm, 1, none⟩) hzm).trans bm1
          replace hz : w.heap.size < w7.heap.size := Nat.lt_of_lt_of_le hz hb.size
          replace hzm : Bm < w7.heap.size := Nat.lt_of_lt_of_le hzm hb.size
          clear hb
          go_wp2_with fail
          go_loopg [11, 12, 13, 14, 15] 2 (fun g i s12 s13 s14 s15 wr => ∃ k : Nat, k + g = 2 ∧ i = .int .i64 k ∧ IntsR wr wr.heap.size O out ∧ LinesR wr wr.heap.size A ls ∧ LinesR wr wr.heap.size Am ls ∧ IntsR wr wr.heap.size Ax out ∧ wr.cell? ⟨w.heap.size, 0, none⟩ = some (.int .i64 nb) ∧ wr.cell? ⟨w.heap.size, 1, none⟩ = some (.slice A ls.length c) ∧ wr.cell? ⟨Bm, 0, none⟩ = some (.int .i64 nb) ∧ wr.cell? ⟨Bm, 1, none⟩ = some (.slice Am ls.length cm) ∧ w.heap.size < wr.heap.size ∧ Bm < wr.heap.size ∧ Below w.heap.size w wr)
          case atStart => exact ⟨0, by omega, rfl, HO.out, HL.out, HIm.out, HIx.out, q0, q1, bm0, bm1, hz, hzm, HB7.out⟩
          case round =>
            clear HO HL HIm HIx q0 q1 bm0 bm1 hz hzm HB7
            obtain ⟨k, hkg, rfl, h1, h2, h3, h4, q0, q1, bm0, bm1, hz, hzm, hbel⟩ := hrel
            have HO := Lib.hid h1
            have HO0 := Lib.hid h1
            have HL := Lib.hid h2
            have HL0 := Lib.hid h2
            have HIm := Lib.hid h3
            have HIm0 := Lib.hid h3
            have HIx := Lib.hid h4
            have HIx0 := Lib.hid h4
            have HQ0 := Lib.hid (And.intro q0 (And.intro q1 (And.intro bm0 (And.intro bm1 (And.intro hz hzm)))))
            have HBW := Lib.hid hbel
            clear h1 h2 h3 h4 hbel
            cases gk with
            | zero =>
              obtain rfl : k = 2 := by omega
              clear hkg HO HL HIm HIx HO0 HL0 HIm0 HIx0 HQ0
              go_wp2_with fail
              refine (awake14_any _).mono ?_
              rintro e w50 ⟨rfl, hb⟩
              have HB50 := Lib.hid (HBW.out.trans (hb.mono HBW.out.size))
              clear HBW
              clear hb
              go_wp2_with fail
              go_ret
              exact ⟨rfl, HB50.out⟩
            | succ g =>
              have hk : k < 2 := by omega
              have HG := Lib.hid hkg
              clear hkg
              have HR0 := Lib.hid (Below.refl wr.heap.size wr)
              go_wp2_with fail
              refine (KI.out _ _ _ _ _ HIm.out HIx.out).mono ?_
              rintro e w60 ⟨v, rfl, hown, hb⟩
              obtain ⟨Ai, ci, rfl, hI⟩ := ownsRow_ints hown
              have HIi := Lib.hid hI
              have HSi := Lib.hid (Spoils.own hown HR0.out.size)
              clear hown hI
              have HB60 := Lib.hid (HR0.out.trans (hb.mono HR0.out.size))
              clear HR0
              replace HO := Lib.hid (HO.out.upto hb)
              replace HL := Lib.hid (HL.out.upto hb)
              replace HIm := Lib.hid (HIm.out.upto hb)
              replace HIx := Lib.hid (HIx.out.upto hb)
              replace q0 := (hb.cell (p := ⟨w.heap.size, 0, none⟩) hz).trans q0
              replace q1 := (hb.cell (p := ⟨w.heap.size, 1, none⟩) hz).trans q1
              replace bm0 := (hb.cell (p := ⟨Bm, 0, none⟩) hzm).trans bm0
              replace bm1 := (hb.cell (p := ⟨Bm, 1, none⟩) hzm).trans bm1
              replace hz : w.heap.size < w60.heap.size := Nat.lt_of_lt_of_le hz hb.size
              replace hzm : Bm < w60.heap.size := Nat.lt_of_lt_of_le hzm hb.size
              clear hb
              go_wp2_with fail
              refine (KA.out _ _ _ _ _ HIm.out HIx.out).mono ?_
              rintro e w61 ⟨v, rfl, hown, hb⟩
              obtain ⟨Al, cl, rfl, hI⟩ := ownsRow_ints hown
              have HIl := Lib.hid hI
              have HSl := Lib.hid (Spoils.own hown HB60.out.size)
              clear hown hI
              have HB61 := Lib.hid (HB60.out.trans (hb.mono HB60.out.size))
              clear HB60
              replace HO := Lib.hid (HO.out.upto hb)
              replace HL := Lib.hid (HL.out.upto hb)
              replace HIm := Lib.hid (HIm.out.upto hb)
              replace HIx := Lib.hid (HIx.out.upto hb)
              replace HIi := Lib.hid (HIi.out.upto hb)
              replace HSi := Lib.hid (HSi.out.upto hb)
              replace q0 := (hb.cell (p := ⟨w.heap.size, 0, none⟩) hz).trans q0
              replace q1 := (hb.cell (p := ⟨w.heap.size, 1, none⟩) hz).trans q1
              replace bm0 := (hb.cell (p := ⟨Bm, 0, none⟩) hzm).trans bm0
              replace bm1 := (hb.cell (p := ⟨Bm, 1, none⟩) hzm).trans bm1
              replace hz : w.heap.size < w61.heap.size := Nat.lt_of_lt_of_le hz hb.size
              replace hzm : Bm < w61.heap.size := Nat.lt_of_lt_of_le hzm hb.size
              clear hb
              go_wp2_with fail
              refine (KRI.out _ HO.out).mono ?_
              rintro e w62 ⟨v, rfl, hown, hb⟩
              obtain ⟨At, ct, rfl, hI⟩ := ownsRow_ints hown
              have HIt := Lib.hid hI
              clear hown hI
              have HB62 := Lib.hid (HB61.out.trans (hb.mono HB61.out.size))
              clear HB61
              replace HO := Lib.hid (HO.out.upto hb)
              replace HL := Lib.hid (HL.out.upto hb)
              replace HIm := Lib.hid (HIm.out.upto hb)
              replace HIx := Lib.hid (HIx.out.upto hb)
              replace HIi := Lib.hid (HIi.out.upto hb)
              replace HSi := Lib.hid (HSi.out.upto hb)
              replace HIl := Lib.hid (HIl.out.upto hb)
              replace HSl := Lib.hid (HSl.out.upto hb)
              replace q0 := (hb.cell (p := ⟨w.heap.size, 0, none⟩) hz).trans q0
              replace q1 := (hb.cell (p := ⟨w.heap.size, 1, none⟩) hz).trans q1
              replace bm0 := (hb.cell (p := ⟨Bm, 0, none⟩) hzm).trans bm0
              replace bm1 := (hb.cell (p := ⟨Bm, 1, none⟩) hzm).trans bm1
              replace hz : w.heap.size < w62.heap.size := Nat.lt_of_lt_of_le hz hb.size
              replace hzm : Bm < w62.heap.size := Nat.lt_of_lt_of_le hzm hb.size
              clear hb
              go_wp2_with fail
              refine (KS.out _ _ _ _ _ HIi.out HIt.out).mono ?_
              rintro e w63 ⟨rfl, hb⟩
              have HB63 := Lib.hid (HB62.out.trans (hb.mono HB62.out.size))
              clear HB62
              replace HO := Lib.hid (HO.out.upto hb)
              replace HL := Lib.hid (HL.out.upto hb)
              replace HIm := Lib.hid (HIm.out.upto hb)
              replace HIx := Lib.hid (HIx.out.upto hb)
              replace HIi := Lib.hid (HIi.out.upto hb)
              replace HSi := Lib.hid (HSi.out.upto hb)
              replace HIl := Lib.hid (HIl.out.upto hb)
              replace HSl := Lib.hid (HSl.out.upto hb)
              replace HIt := Lib.hid (HIt.out.upto hb)
              replace q0 := (hb.cell (p := ⟨w.heap.size, 0, none⟩) hz).trans q0
              replace q1 := (hb.cell (p := ⟨w.heap.size, 1, none⟩) hz).trans q1
              replace bm0 := (hb.cell (p := ⟨Bm, 0, none⟩) hzm).trans bm0
              replace bm1 := (hb.cell (p := ⟨Bm, 1, none⟩) hzm).trans bm1
              replace hz : w.heap.size < w63.heap.size := Nat.lt_of_lt_of_le hz hb.size
              replace hzm : Bm < w63.heap.size := Nat.lt_of_lt_of_le hzm hb.size
              clear hb
              go_wp2_with fail
              refine (KSM.out _ _ _ HIm.out HL.out).mono ?_
              rintro e w64 ⟨rfl, hb⟩
              have HB64 := Lib.hid (HB63.out.trans (hb.mono HB63.out.size))
              clear HB63
              replace HO := Lib.hid (HO.out.upto hb)
              replace HL := Lib.hid (HL.out.upto hb)
              replace HIm := Lib.hid (HIm.out.upto hb)
              replace HIx := Lib.hid (HIx.out.upto hb)
              replace HIi := Lib.hid (HIi.out.upto hb)
              replace HSi := Lib.hid (HSi.out.upto hb)
              replace HIl := Lib.hid (HIl.out.upto hb)
              replace HSl := Lib.hid (HSl.out.upto hb)
              replace HIt := Lib.hid (HIt.out.upto hb)
              replace q0 := (hb.cell (p := ⟨w.heap.size, 0, none⟩) hz).trans q0
              replace q1 := (hb.cell (p := ⟨w.heap.size, 1, none⟩) hz).trans q1
              replace bm0 := (hb.cell (p := ⟨Bm, 0, none⟩) hzm).trans bm0
              replace bm1 := (hb.cell (p := ⟨Bm, 1, none⟩) hzm).trans bm1
              replace hz : w.heap.size < w64.heap.size := Nat.lt_of_lt_of_le hz hb.size
              replace hzm : Bm < w64.heap.size := Nat.lt_of_lt_of_le hzm hb.size
              clear hb
              go_wp2_with fail
              refine (KIO.out _ _ _ _ _ HIx.out HO.out).mono ?_
              rintro e w65 ⟨rfl, hb⟩
              have HB65 := Lib.hid (HB64.out.trans (hb.mono HB64.out.size))
              clear HB64
              replace HO := Lib.hid (HO.out.upto hb)
              replace HL := Lib.hid (HL.out.upto hb)
              replace HIm := Lib.hid (HIm.out.upto hb)
              replace HIx := Lib.hid (HIx.out.upto hb)
              replace HIi := Lib.hid (HIi.out.upto hb)
              replace HSi := Lib.hid (HSi.out.upto hb)
              replace HIl := Lib.hid (HIl.out.upto hb)
              replace HSl := Lib.hid (HSl.out.upto hb)
              replace HIt := Lib.hid (HIt.out.upto hb)
              replace q0 := (hb.cell (p := ⟨w.heap.size, 0, none⟩) hz).trans q0
              replace q1 := (hb.cell (p := ⟨w.heap.size, 1, none⟩) hz).trans q1
              replace bm0 := (hb.cell (p := ⟨Bm, 0, none⟩) hzm).trans bm0
              replace bm1 := (hb.cell (p := ⟨Bm, 1, none⟩) hzm).trans bm1
              replace hz : w.heap.size < w65.heap.size := Nat.lt_of_lt_of_le hz hb.size
              replace hzm : Bm < w65.heap.size := Nat.lt_of_lt_of_le hzm hb.size
              clear hb
              go_wp2_with fail
              have hs1 := HSi.out
              have hs2 := HSl.out
              rw [Nat.mul_one] at hs1 hs2
              refine (spoil_two wr.heap.size Ai Al sv.length ci 0 cl 25 w65 hs1 hs2 HB65.out.size (by first | omega | simp) (by first | omega | simp)).mono ?_
              rintro e wS ⟨⟨vS, rfl⟩, hb, _⟩
              have hbt := HB65.out.trans hb
              have HBT := Lib.hid hbt
              clear hb hs1 hs2 HSi HSl hbt
              go_wp2_with fail
              go_roundg g
              case measure => omega
              case rel =>
                obtain ⟨y0, y1, y2, y3, y4, y5⟩ := HQ0.out
                have hbt := HBT.out
                have hsz := hbt.size
                exact ⟨k + 1, by have := HG.out; omega, by go_num, HO0.out.upto hbt, HL0.out.upto hbt, HIm0.out.upto hbt, HIx0.out.upto hbt, (hbt.cell (p := ⟨w.heap.size, 0, none⟩) y4).trans y0, (hbt.cell (p := ⟨w.heap.size, 1, none⟩) y4).trans y1, (hbt.cell (p := ⟨Bm, 0, none⟩) y5).trans y2, (hbt.cell (p := ⟨Bm, 1, none⟩) y5).trans y3, by omega, by omega, HBW.out.trans (hbt.mono HBW.out.size)⟩
        · have hbus : busB nb bus = true := by simp [busB]; omega
          rw [atL, atE, if_pos ⟨he, hbus⟩, if_pos he, if_pos hbus] at ka
          have kra := fun W hl ho => refat_any nb A O c co ls out bus W hl ho (by omega) (by omega)
          rw [← svcL_eq hob] at kra
          have hal := atF_le ls bus (svcL out ls.length)
          have kt := fun X Y cx cy W hx hy => ints_same X Y cx cy (atF ls bus (svcL out ls.length)) W hx hy (by omega)
          have KA := Lib.hid ka
          have KRA := Lib.hid kra
          have KT := Lib.hid kt
          have i1 : decide (bus < 0) = false := decide_eq_false hlo'
          have i2 : decide (nb ≤ bus) = false := decide_eq_false hhi'
          clear ka kra kt hbus he hob hlo' hhi'
          generalize atF ls bus (svcL out ls.length) = la at *
          generalize svcL out ls.length = sv at *
          have HB0 := Lib.hid (Below.refl w.heap.size w)
          go_enter Try.func3, Try.ntmps3
          go_wp2_with fail
          have hb := below_alloc2 w (.cells #[.int .i64 nb, .slice A ls.length c] 24) (.cells #[.slice O out.length co] 25)
          have q0 : ((w.alloc (.cells #[.int .i64 nb, .slice A ls.length c] 24)).alloc (.cells #[.slice O out.length co] 25)).cell? ⟨w.heap.size, 0, none⟩ = some (.int .i64 nb) := by simp
          have q1 : ((w.alloc (.cells #[.int .i64 nb, .slice A ls.length c] 24)).alloc (.cells #[.slice O out.length co] 25)).cell? ⟨w.heap.size, 1, none⟩ = some (.slice A ls.length c) := by simp
          have hz : w.heap.size < ((w.alloc (.cells #[.int .i64 nb, .slice A ls.length c] 24)).alloc (.cells #[.slice O out.length co] 25)).heap.size := by simp; omega
          have HB1 := Lib.hid (HB0.out.trans (hb.mono HB0.out.size))
          clear HB0
          replace HL := Lib.hid (HL.out.upto hb)
          replace HO := Lib.hid (HO.out.upto hb)
          clear hb
          refine (KL.out (w.alloc (.cells #[.int .i64 nb, .slice A ls.length c] 24)) _ (by simp)).mono ?_
          rintro e w2 ⟨rfl, hb⟩
          rw [← World.size_alloc (w.alloc (.cells #[.int .i64 nb, .slice A ls.length c] 24)) (.cells #[.slice O out.length co] 25)] at hb
          have HB2 := Lib.hid (HB1.out.trans (hb.mono HB1.out.size))
          clear HB1
          replace HL := Lib.hid (HL.out.upto hb)
          replace HO := Lib.hid (HO.out.upto hb)
          replace q0 := (hb.cell (p := ⟨w.heap.size, 0, none⟩) hz).trans q0
          replace q1 := (hb.cell (p := ⟨w.heap.size, 1, none⟩) hz).trans q1
          replace hz : w.heap.size < w2.heap.size := Nat.lt_of_lt_of_le hz hb.size
          clear hb
          go_wp2_with fail
          refine (KOW.out _ HL.out).mono ?_
          rintro e w3 ⟨Am, cm, rfl, hown, hb⟩
          obtain ⟨A2, c2, he2, hI⟩ := ownsRow_linesR hown
          simp only [Value.slice.injEq] at he2
          obtain ⟨rfl, _, rfl⟩ := he2
          have HIm := Lib.hid hI
          clear hown hI
          have HB3 := Lib.hid (HB2.out.trans (hb.mono HB2.out.size))
          clear HB2
          replace HL := Lib.hid (HL.out.upto hb)
          replace HO := Lib.hid (HO.out.upto hb)
          replace q0 := (hb.cell (p := ⟨w.heap.size, 0, none⟩) hz).trans q0
          replace q1 := (hb.cell (p := ⟨w.heap.size, 1, none⟩) hz).trans q1
          replace hz : w.heap.size < w3.heap.size := Nat.lt_of_lt_of_le hz hb.size
          clear hb
          go_wp2_with fail
          refine (KCP.out _ HO.out).mono ?_
          rintro e w4 ⟨v, rfl, hown, hb⟩
          obtain ⟨Ax, cx, rfl, hI⟩ := ownsRow_ints hown
          have HIx := Lib.hid hI
          clear hown hI
          have HB4 := Lib.hid (HB3.out.trans (hb.mono HB3.out.size))
          clear HB3
          replace HL := Lib.hid (HL.out.upto hb)
          replace HO := Lib.hid (HO.out.upto hb)
          replace HIm := Lib.hid (HIm.out.upto hb)
          replace q0 := (hb.cell (p := ⟨w.heap.size, 0, none⟩) hz).trans q0
          replace q1 := (hb.cell (p := ⟨w.heap.size, 1, none⟩) hz).trans q1
          replace hz : w.heap.size < w4.heap.size := Nat.lt_of_lt_of_le hz hb.size
          clear hb
          go_upto_region 4 with fail
          have hb : Below w4.heap.size w4 (w4.alloc (.cells #[.int .i64 nb, .slice Am ls.length cm] 24)) := (Below.refl _ _).alloc (Nat.le_refl _) _
          have bm0 : (w4.alloc (.cells #[.int .i64 nb, .slice Am ls.length cm] 24)).cell? ⟨w4.heap.size, 0, none⟩ = some (.int .i64 nb) := cell_alloc_at _ _ _ _ _ rfl
          have bm1 : (w4.alloc (.cells #[.int .i64 nb, .slice Am ls.length cm] 24)).cell? ⟨w4.heap.size, 1, none⟩ = some (.slice Am ls.length cm) := cell_alloc_at _ _ _ _ _ rfl
          have hzm : w4.heap.size < (w4.alloc (.cells #[.int .i64 nb, .slice Am ls.length cm] 24)).heap.size := by simp
          generalize hX : w4.alloc (.cells #[.int .i64 nb, .slice Am ls.length cm] 24) = w5 at *
          clear hX
          have HB5 := Lib.hid (HB4.out.trans (hb.mono HB4.out.size))
          clear HB4
          replace HL := Lib.hid (HL.out.upto hb)
          replace HO := Lib.hid (HO.out.upto hb)
          replace HIm := Lib.hid (HIm.out.upto hb)
          replace HIx := Lib.hid (HIx.out.upto hb)
          replace q0 := (hb.cell (p := ⟨w.heap.size, 0, none⟩) hz).trans q0
          replace q1 := (hb.cell (p := ⟨w.heap.size, 1, none⟩) hz).trans q1
          replace hz : w.heap.size < w5.heap.size := Nat.lt_of_lt_of_le hz hb.size
          clear hb
          generalize w4.heap.size = Bm at *
          go_wp2_with fail
          refine (KRO.out _ HL.out HO.out).mono ?_
          rintro e w6 ⟨rfl, hb⟩
          have HB6 := Lib.hid (HB5.out.trans (hb.mono HB5.out.size))
          clear HB5
          replace HL := Lib.hid (HL.out.upto hb)
          replace HO := Lib.hid (HO.out.upto hb)
          replace HIm := Lib.hid (HIm.out.upto hb)
          replace HIx := Lib.hid (HIx.out.upto hb)
          replace q0 := (hb.cell (p := ⟨w.heap.size, 0, none⟩) hz).trans q0
          replace q1 := (hb.cell (p := ⟨w.heap.size, 1, none⟩) hz).trans q1
          replace bm0 := (hb.cell (p := ⟨Bm, 0, none⟩) hzm).trans bm0
          replace bm1 := (hb.cell (p := ⟨Bm, 1, none⟩) hzm).trans bm1
          replace hz : w.heap.size < w6.heap.size := Nat.lt_of_lt_of_le hz hb.size
          replace hzm : Bm < w6.heap.size := Nat.lt_of_lt_of_le hzm hb.size
          clear hb
          go_wp2_with fail
          refine region_calls (w0 := w6) (fun jq => match jq with | 0 => .agg #[.int .i64 nb, .slice Am ls.length cm] | 1 => .int .i64 ck | 2 => .agg #[.int .i64 nb, .slice A ls.length c] | 3 => .int .i64 ck | 4 => .bool false | 5 => .bool false | 6 => .agg #[.int .i64 nb, .slice Am ls.length cm] | 7 => .slice Ax out.length cx | 8 => .int .i64 0 | 9 => .int .i64 0 | 10 => .bool false | 11 => .bool false | _ => undef) (by kernel_rfl) (by kernel_rfl) ?_ ?_
          · intro i o ho a W hI hdep hrest hgd
            have r3 : a.eval (.tmp 3) = .pointer (some ⟨w.heap.size, 0, none⟩) := hrest 3 (apart_of (by kernel_rfl))
            have r7 : a.eval (.tmp 7) = .pointer (some ⟨Bm, 0, none⟩) := hrest 7 (apart_of (by kernel_rfl))
            have r8 : a.eval (.tmp 8) = .slice Ax out.length cx := hrest 8 (apart_of (by kernel_rfl))
            have r9 : a.eval (.tmp 9) = .int .i64 0 := hrest 9 (apart_of (by kernel_rfl))
            have hc : ∀ v, a.eval (.const v) = v := fun _ => rfl
            have hfn : ∀ f, a.eval (.func f) = .func (.func f) #[] #[] := fun _ => rfl
            clear hrest
            rcases i with _ | _ | _ | _ | _ | _ | _ | _ | _ | _ | _ | _ | i
            · injection ho with ho
              subst ho
              clear hdep hgd
              have x0 := (hI.cell (p := ⟨Bm, 0, none⟩) hzm).trans bm0
              have x1 := (hI.cell (p := ⟨Bm, 1, none⟩) hzm).trans bm1
              refine ⟨fun _ => .inl ?_, fun hw => (by simp [Region.wanted] at hw)⟩
              clear hI
              generalize a.eval = ρ at *
              simp [go_sem, r7, x0, x1]
            · injection ho with ho
              subst ho
              have e0 : a.eval (.tmp 28) = .agg #[.int .i64 nb, .slice Am ls.length cm] := hdep ⟨0, .data⟩ (by simp) rfl _ _ rfl rfl
              clear hdep hgd
              refine ⟨fun _ => .inr ⟨18, #[.agg #[.int .i64 nb, .slice Am ls.length cm]], ?_, KC.out _ _ W (HIm.out.upto hI)⟩, fun hw => (by simp [Region.wanted] at hw)⟩
              clear hI
              generalize a.eval = ρ at *
              simp [go_sem, e0, hfn]
            · injection ho with ho
              subst ho
              clear hdep hgd
              have x0 := (hI.cell (p := ⟨w.heap.size, 0, none⟩) hz).trans q0
              have x1 := (hI.cell (p := ⟨w.heap.size, 1, none⟩) hz).trans q1
              refine ⟨fun _ => .inl ?_, fun hw => (by simp [Region.wanted] at hw)⟩
              clear hI
              generalize a.eval = ρ at *
              simp [go_sem, r3, x0, x1]
            · injection ho with ho
              subst ho
              have e2 : a.eval (.tmp 30) = .agg #[.int .i64 nb, .slice A ls.length c] := hdep ⟨2, .data⟩ (by simp) rfl _ _ rfl rfl
              clear hdep hgd
              refine ⟨fun _ => .inr ⟨19, #[.agg #[.int .i64 nb, .slice A ls.length c]], ?_, KRC.out W (HL.out.upto hI)⟩, fun hw => (by simp [Region.wanted] at hw)⟩
              clear hI
              generalize a.eval = ρ at *
              simp [go_sem, e2, hfn]
            · injection ho with ho
              subst ho
              have e1 : a.eval (.tmp 29) = .int .i64 ck := hdep ⟨1, .data⟩ (by simp) rfl _ _ rfl rfl
              have e3 : a.eval (.tmp 31) = .int .i64 ck := hdep ⟨3, .data⟩ (by simp) rfl _ _ rfl rfl
              clear hdep hgd
              refine ⟨fun _ => .inl ?_, fun hw => (by simp [Region.wanted] at hw)⟩
              clear hI
              generalize a.eval = ρ at *
              simp [go_sem, e1, e3]
            · injection ho with ho
              subst ho
              have e4 : a.eval (.tmp 32) = .bool false := hdep ⟨4, .data⟩ (by simp) rfl _ _ rfl rfl
              clear hdep hgd
              refine ⟨fun _ => .inl ?_, fun hw => (by simp [Region.wanted] at hw)⟩
              clear hI
              generalize a.eval = ρ at *
              simp [go_sem, e4]
            · injection ho with ho
              subst ho
              have h8 : a.tmps.getD 33 undef = .bool false := hdep ⟨5, .guard⟩ (by simp) rfl _ _ rfl rfl
              have hwd := hgd 5 false rfl _ _ rfl rfl false h8
              clear hdep hgd
              have x0 := (hI.cell (p := ⟨Bm, 0, none⟩) hzm).trans bm0
              have x1 := (hI.cell (p := ⟨Bm, 1, none⟩) hzm).trans bm1
              refine ⟨fun _ => .inl ?_, fun hw => (by rw [hwd] at hw; cases hw)⟩
              clear h8 hwd
              clear hI
              generalize a.eval = ρ at *
              simp [go_sem, r7, x0, x1]
            · injection ho with ho
              subst ho
              have h8 : a.tmps.getD 33 undef = .bool false := hdep ⟨5, .guard⟩ (by simp) rfl _ _ rfl rfl
              have hwd := hgd 5 false rfl _ _ rfl rfl false h8
              clear hdep hgd
              refine ⟨fun _ => .inl ?_, fun hw => (by rw [hwd] at hw; cases hw)⟩
              clear h8 hwd
              clear hI
              generalize a.eval = ρ at *
              simp [go_sem, r8]
            · injection ho with ho
              subst ho
              have e6 : a.eval (.tmp 34) = .agg #[.int .i64 nb, .slice Am ls.length cm] := hdep ⟨6, .data⟩ (by simp) rfl _ _ rfl rfl
              have e7 : a.eval (.tmp 35) = .slice Ax out.length cx := hdep ⟨7, .data⟩ (by simp) rfl _ _ rfl rfl
              have h8 : a.tmps.getD 33 undef = .bool false := hdep ⟨5, .guard⟩ (by simp) rfl _ _ rfl rfl
              have hwd := hgd 5 false rfl _ _ rfl rfl false h8
              clear hdep hgd
              refine ⟨fun _ => .inr ⟨20, #[.agg #[.int .i64 nb, .slice Am ls.length cm], .slice Ax out.length cx], ?_, KO.out _ _ _ _ W (HIm.out.upto hI) (HIx.out.upto hI)⟩, fun hw => (by rw [hwd] at hw; cases hw)⟩
              clear h8 hwd
              clear hI
              generalize a.eval = ρ at *
              simp [go_sem, e6, e7, hfn]
            · injection ho with ho
              subst ho
              have h8 : a.tmps.getD 33 undef = .bool false := hdep ⟨5, .guard⟩ (by simp) rfl _ _ rfl rfl
              have hwd := hgd 5 false rfl _ _ rfl rfl false h8
              clear hdep hgd
              refine ⟨fun _ => .inl ?_, fun hw => (by rw [hwd] at hw; cases hw)⟩
              clear h8 hwd
              clear hI
              generalize a.eval = ρ at *
              simp [go_sem, r9]
            · injection ho with ho
              subst ho
              have e8 : a.eval (.tmp 36) = .int .i64 0 := hdep ⟨8, .data⟩ (by simp) rfl _ _ rfl rfl
              have e9 : a.eval (.tmp 37) = .int .i64 0 := hdep ⟨9, .data⟩ (by simp) rfl _ _ rfl rfl
              have h8 : a.tmps.getD 33 undef = .bool false := hdep ⟨5, .guard⟩ (by simp) rfl _ _ rfl rfl
              have hwd := hgd 5 false rfl _ _ rfl rfl false h8
              clear hdep hgd
              refine ⟨fun _ => .inl ?_, fun hw => (by rw [hwd] at hw; cases hw)⟩
              clear h8 hwd
              clear hI
              generalize a.eval = ρ at *
              simp [go_sem, e8, e9]
            · injection ho with ho
              subst ho
              have e5 : a.eval (.tmp 33) = .bool false := hdep ⟨5, .data⟩ (by simp) rfl _ _ rfl rfl
              have e10 : a.eval (.tmp 38) = .bool false := hdep ⟨10, .data⟩ (by simp) rfl _ _ rfl rfl
              clear hdep hgd
              refine ⟨fun _ => .inl ?_, fun hw => (by simp [Region.wanted] at hw)⟩
              clear hI
              generalize a.eval = ρ at *
              simp [go_sem, e5, e10, hc]
            · simp at ho
          intro w7 hb
          simp only [putAll, Act.put, List.setIfInBounds_toArray, List.set_cons_zero, List.set_cons_succ, Nat.reduceAdd]
          have HB7 := Lib.hid (HB6.out.trans (hb.mono HB6.out.size))
          clear HB6
          replace HL := Lib.hid (HL.out.upto hb)
          replace HO := Lib.hid (HO.out.upto hb)
          replace HIm := Lib.hid (HIm.out.upto hb)
          replace HIx := Lib.hid (HIx.out.upto hb)
          replace q0 := (hb.cell (p := ⟨w.heap.size, 0, none⟩) hz).trans q0
          replace q1 := (hb.cell (p := ⟨w.heap.size, 1, none⟩) hz).trans q1
          replace bm0 := (hb.cell (p := ⟨Bm, 0, none⟩) hzm).trans bm0
          replace bm1 := (hb.cell (p := ⟨Bm, 1, none⟩) hzm).trans bm1
          replace hz : w.heap.size < w7.heap.size := Nat.lt_of_lt_of_le hz hb.size
          replace hzm : Bm < w7.heap.size := Nat.lt_of_lt_of_le hzm hb.size
          clear hb
          go_wp2_with fail
          go_loopg [11, 12, 13, 14, 15] 2 (fun g i s12 s13 s14 s15 wr => ∃ k : Nat, k + g = 2 ∧ i = .int .i64 k ∧ IntsR wr wr.heap.size O out ∧ LinesR wr wr.heap.size A ls ∧ LinesR wr wr.heap.size Am ls ∧ IntsR wr wr.heap.size Ax out ∧ wr.cell? ⟨w.heap.size, 0, none⟩ = some (.int .i64 nb) ∧ wr.cell? ⟨w.heap.size, 1, none⟩ = some (.slice A ls.length c) ∧ wr.cell? ⟨Bm, 0, none⟩ = some (.int .i64 nb) ∧ wr.cell? ⟨Bm, 1, none⟩ = some (.slice Am ls.length cm) ∧ w.heap.size < wr.heap.size ∧ Bm < wr.heap.size ∧ Below w.heap.size w wr)
          case atStart => exact ⟨0, by omega, rfl, HO.out, HL.out, HIm.out, HIx.out, q0, q1, bm0, bm1, hz, hzm, HB7.out⟩
          case round =>
            clear HO HL HIm HIx q0 q1 bm0 bm1 hz hzm HB7
            obtain ⟨k, hkg, rfl, h1, h2, h3, h4, q0, q1, bm0, bm1, hz, hzm, hbel⟩ := hrel
            have HO := Lib.hid h1
            have HO0 := Lib.hid h1
            have HL := Lib.hid h2
            have HL0 := Lib.hid h2
            have HIm := Lib.hid h3
            have HIm0 := Lib.hid h3
            have HIx := Lib.hid h4
            have HIx0 := Lib.hid h4
            have HQ0 := Lib.hid (And.intro q0 (And.intro q1 (And.intro bm0 (And.intro bm1 (And.intro hz hzm)))))
            have HBW := Lib.hid hbel
            clear h1 h2 h3 h4 hbel
            cases gk with
            | zero =>
              obtain rfl : k = 2 := by omega
              clear hkg HO HL HIm HIx HO0 HL0 HIm0 HIx0 HQ0
              go_wp2_with fail
              refine (awake14_any _).mono ?_
              rintro e w50 ⟨rfl, hb⟩
              have HB50 := Lib.hid (HBW.out.trans (hb.mono HBW.out.size))
              clear HBW
              clear hb
              go_wp2_with fail
              go_ret
              exact ⟨rfl, HB50.out⟩
            | succ g =>
              have hk : k < 2 := by omega
              have HG := Lib.hid hkg
              clear hkg
              have HR0 := Lib.hid (Below.refl wr.heap.size wr)
              go_wp2_with fail
              refine (KI.out _ _ _ _ _ HIm.out HIx.out).mono ?_
              rintro e w60 ⟨v, rfl, hown, hb⟩
              obtain ⟨Ai, ci, rfl, hI⟩ := ownsRow_ints hown
              have HIi := Lib.hid hI
              have HSi := Lib.hid (Spoils.own hown HR0.out.size)
              clear hown hI
              have HB60 := Lib.hid (HR0.out.trans (hb.mono HR0.out.size))
              clear HR0
              replace HO := Lib.hid (HO.out.upto hb)
              replace HL := Lib.hid (HL.out.upto hb)
              replace HIm := Lib.hid (HIm.out.upto hb)
              replace HIx := Lib.hid (HIx.out.upto hb)
              replace q0 := (hb.cell (p := ⟨w.heap.size, 0, none⟩) hz).trans q0
              replace q1 := (hb.cell (p := ⟨w.heap.size, 1, none⟩) hz).trans q1
              replace bm0 := (hb.cell (p := ⟨Bm, 0, none⟩) hzm).trans bm0
              replace bm1 := (hb.cell (p := ⟨Bm, 1, none⟩) hzm).trans bm1
              replace hz : w.heap.size < w60.heap.size := Nat.lt_of_lt_of_le hz hb.size
              replace hzm : Bm < w60.heap.size := Nat.lt_of_lt_of_le hzm hb.size
              clear hb
              go_wp2_with fail
              refine (KA.out _ _ _ _ _ HIm.out HIx.out).mono ?_
              rintro e w61 ⟨v, rfl, hown, hb⟩
              obtain ⟨Al, cl, rfl, hI⟩ := ownsRow_ints hown
              have HIl := Lib.hid hI
              have HSl := Lib.hid (Spoils.own hown HB60.out.size)
              clear hown hI
              have HB61 := Lib.hid (HB60.out.trans (hb.mono HB60.out.size))
              clear HB60
              replace HO := Lib.hid (HO.out.upto hb)
              replace HL := Lib.hid (HL.out.upto hb)
              replace HIm := Lib.hid (HIm.out.upto hb)
              replace HIx := Lib.hid (HIx.out.upto hb)
              replace HIi := Lib.hid (HIi.out.upto hb)
              replace HSi := Lib.hid (HSi.out.upto hb)
              replace q0 := (hb.cell (p := ⟨w.heap.size, 0, none⟩) hz).trans q0
              replace q1 := (hb.cell (p := ⟨w.heap.size, 1, none⟩) hz).trans q1
              replace bm0 := (hb.cell (p := ⟨Bm, 0, none⟩) hzm).trans bm0
              replace bm1 := (hb.cell (p := ⟨Bm, 1, none⟩) hzm).trans bm1
              replace hz : w.heap.size < w61.heap.size := Nat.lt_of_lt_of_le hz hb.size
              replace hzm : Bm < w61.heap.size := Nat.lt_of_lt_of_le hzm hb.size
              clear hb
              go_wp2_with fail
              refine (KRI.out _ HO.out).mono ?_
              rintro e w62 ⟨v, rfl, hown, hb⟩
              obtain ⟨At, ct, rfl, hI⟩ := ownsRow_ints hown
              have HIt := Lib.hid hI
              clear hown hI
              have HB62 := Lib.hid (HB61.out.trans (hb.mono HB61.out.size))
              clear HB61
              replace HO := Lib.hid (HO.out.upto hb)
              replace HL := Lib.hid (HL.out.upto hb)
              replace HIm := Lib.hid (HIm.out.upto hb)
              replace HIx := Lib.hid (HIx.out.upto hb)
              replace HIi := Lib.hid (HIi.out.upto hb)
              replace HSi := Lib.hid (HSi.out.upto hb)
              replace HIl := Lib.hid (HIl.out.upto hb)
              replace HSl := Lib.hid (HSl.out.upto hb)
              replace q0 := (hb.cell (p := ⟨w.heap.size, 0, none⟩) hz).trans q0
              replace q1 := (hb.cell (p := ⟨w.heap.size, 1, none⟩) hz).trans q1
              replace bm0 := (hb.cell (p := ⟨Bm, 0, none⟩) hzm).trans bm0
              replace bm1 := (hb.cell (p := ⟨Bm, 1, none⟩) hzm).trans bm1
              replace hz : w.heap.size < w62.heap.size := Nat.lt_of_lt_of_le hz hb.size
              replace hzm : Bm < w62.heap.size := Nat.lt_of_lt_of_le hzm hb.size
              clear hb
              go_wp2_with fail
              refine (KS.out _ _ _ _ _ HIi.out HIt.out).mono ?_
              rintro e w63 ⟨rfl, hb⟩
              have HB63 := Lib.hid (HB62.out.trans (hb.mono HB62.out.size))
              clear HB62
              replace HO := Lib.hid (HO.out.upto hb)
              replace HL := Lib.hid (HL.out.upto hb)
              replace HIm := Lib.hid (HIm.out.upto hb)
              replace HIx := Lib.hid (HIx.out.upto hb)
              replace HIi := Lib.hid (HIi.out.upto hb)
              replace HSi := Lib.hid (HSi.out.upto hb)
              replace HIl := Lib.hid (HIl.out.upto hb)
              replace HSl := Lib.hid (HSl.out.upto hb)
              replace HIt := Lib.hid (HIt.out.upto hb)
              replace q0 := (hb.cell (p := ⟨w.heap.size, 0, none⟩) hz).trans q0
              replace q1 := (hb.cell (p := ⟨w.heap.size, 1, none⟩) hz).trans q1
              replace bm0 := (hb.cell (p := ⟨Bm, 0, none⟩) hzm).trans bm0
              replace bm1 := (hb.cell (p := ⟨Bm, 1, none⟩) hzm).trans bm1
              replace hz : w.heap.size < w63.heap.size := Nat.lt_of_lt_of_le hz hb.size
              replace hzm : Bm < w63.heap.size := Nat.lt_of_lt_of_le hzm hb.size
              clear hb
              go_wp2_with fail
              refine (KRA.out _ HL.out HO.out).mono ?_
              rintro e w64 ⟨v, rfl, hown, hb⟩
              obtain ⟨Au, cu, rfl, hI⟩ := ownsRow_ints hown
              have HIu := Lib.hid hI
              clear hown hI
              have HB64 := Lib.hid (HB63.out.trans (hb.mono HB63.out.size))
              clear HB63
              replace HO := Lib.hid (HO.out.upto hb)
              replace HL := Lib.hid (HL.out.upto hb)
              replace HIm := Lib.hid (HIm.out.upto hb)
              replace HIx := Lib.hid (HIx.out.upto hb)
              replace HIi := Lib.hid (HIi.out.upto hb)
              replace HSi := Lib.hid (HSi.out.upto hb)
              replace HIl := Lib.hid (HIl.out.upto hb)
              replace HSl := Lib.hid (HSl.out.upto hb)
              replace HIt := Lib.hid (HIt.out.upto hb)
              replace q0 := (hb.cell (p := ⟨w.heap.size, 0, none⟩) hz).trans q0
              replace q1 := (hb.cell (p := ⟨w.heap.size, 1, none⟩) hz).trans q1
              replace bm0 := (hb.cell (p := ⟨Bm, 0, none⟩) hzm).trans bm0
              replace bm1 := (hb.cell (p := ⟨Bm, 1, none⟩) hzm).trans bm1
              replace hz : w.heap.size < w64.heap.size := Nat.lt_of_lt_of_le hz hb.size
              replace hzm : Bm < w64.heap.size := Nat.lt_of_lt_of_le hzm hb.size
              clear hb
              go_wp2_with fail
              refine (KT.out _ _ _ _ _ HIl.out HIu.out).mono ?_
              rintro e w65 ⟨rfl, hb⟩
              have HB65 := Lib.hid (HB64.out.trans (hb.mono HB64.out.size))
              clear HB64
              replace HO := Lib.hid (HO.out.upto hb)
              replace HL := Lib.hid (HL.out.upto hb)
              replace HIm := Lib.hid (HIm.out.upto hb)
              replace HIx := Lib.hid (HIx.out.upto hb)
              replace HIi := Lib.hid (HIi.out.upto hb)
              replace HSi := Lib.hid (HSi.out.upto hb)
              replace HIl := Lib.hid (HIl.out.upto hb)
              replace HSl := Lib.hid (HSl.out.upto hb)
              replace HIt := Lib.hid (HIt.out.upto hb)
              replace HIu := Lib.hid (HIu.out.upto hb)
              replace q0 := (hb.cell (p := ⟨w.heap.size, 0, none⟩) hz).trans q0
              replace q1 := (hb.cell (p := ⟨w.heap.size, 1, none⟩) hz).trans q1
              replace bm0 := (hb.cell (p := ⟨Bm, 0, none⟩) hzm).trans bm0
              replace bm1 := (hb.cell (p := ⟨Bm, 1, none⟩) hzm).trans bm1
              replace hz : w.heap.size < w65.heap.size := Nat.lt_of_lt_of_le hz hb.size
              replace hzm : Bm < w65.heap.size := Nat.lt_of_lt_of_le hzm hb.size
              clear hb
              go_wp2_with fail
              refine (KSM.out _ _ _ HIm.out HL.out).mono ?_
              rintro e w66 ⟨rfl, hb⟩
              have HB66 := Lib.hid (HB65.out.trans (hb.mono HB65.out.size))
              clear HB65
              replace HO := Lib.hid (HO.out.upto hb)
              replace HL := Lib.hid (HL.out.upto hb)
              replace HIm := Lib.hid (HIm.out.upto hb)
              replace HIx := Lib.hid (HIx.out.upto hb)
              replace HIi := Lib.hid (HIi.out.upto hb)
              replace HSi := Lib.hid (HSi.out.upto hb)
              replace HIl := Lib.hid (HIl.out.upto hb)
              replace HSl := Lib.hid (HSl.out.upto hb)
              replace HIt := Lib.hid (HIt.out.upto hb)
              replace HIu := Lib.hid (HIu.out.upto hb)
              replace q0 := (hb.cell (p := ⟨w.heap.size, 0, none⟩) hz).trans q0
              replace q1 := (hb.cell (p := ⟨w.heap.size, 1, none⟩) hz).trans q1
              replace bm0 := (hb.cell (p := ⟨Bm, 0, none⟩) hzm).trans bm0
              replace bm1 := (hb.cell (p := ⟨Bm, 1, none⟩) hzm).trans bm1
              replace hz : w.heap.size < w66.heap.size := Nat.lt_of_lt_of_le hz hb.size
              replace hzm : Bm < w66.heap.size := Nat.lt_of_lt_of_le hzm hb.size
              clear hb
              go_wp2_with fail
              refine (KIO.out _ _ _ _ _ HIx.out HO.out).mono ?_
              rintro e w67 ⟨rfl, hb⟩
              have HB67 := Lib.hid (HB66.out.trans (hb.mono HB66.out.size))
              clear HB66
              replace HO := Lib.hid (HO.out.upto hb)
              replace HL := Lib.hid (HL.out.upto hb)
              replace HIm := Lib.hid (HIm.out.upto hb)
              replace HIx := Lib.hid (HIx.out.upto hb)
              replace HIi := Lib.hid (HIi.out.upto hb)
              replace HSi := Lib.hid (HSi.out.upto hb)
              replace HIl := Lib.hid (HIl.out.upto hb)
              replace HSl := Lib.hid (HSl.out.upto hb)
              replace HIt := Lib.hid (HIt.out.upto hb)
              replace HIu := Lib.hid (HIu.out.upto hb)
              replace q0 := (hb.cell (p := ⟨w.heap.size, 0, none⟩) hz).trans q0
              replace q1 := (hb.cell (p := ⟨w.heap.size, 1, none⟩) hz).trans q1
              replace bm0 := (hb.cell (p := ⟨Bm, 0, none⟩) hzm).trans bm0
              replace bm1 := (hb.cell (p := ⟨Bm, 1, none⟩) hzm).trans bm1
              replace hz : w.heap.size < w67.heap.size := Nat.lt_of_lt_of_le hz hb.size
              replace hzm : Bm < w67.heap.size := Nat.lt_of_lt_of_le hzm hb.size
              clear hb
              go_wp2_with fail
              have hs1 := HSi.out
              have hs2 := HSl.out
              rw [Nat.mul_one] at hs1 hs2
              refine (spoil_two wr.heap.size Ai Al sv.length ci la.length cl 25 w67 hs1 hs2 HB67.out.size (by first | omega | simp) (by first | omega | simp)).mono ?_
              rintro e wS ⟨⟨vS, rfl⟩, hb, _⟩
              have hbt := HB67.out.trans hb
              have HBT := Lib.hid hbt
              clear hb hs1 hs2 HSi HSl hbt
              go_wp2_with fail
              go_roundg g
              case measure => omega
              case rel =>
                obtain ⟨y0, y1, y2, y3, y4, y5⟩ := HQ0.out
                have hbt := HBT.out
                have hsz := hbt.size
                exact ⟨k + 1, by have := HG.out; omega, by go_num, HO0.out.upto hbt, HL0.out.upto hbt, HIm0.out.upto hbt, HIx0.out.upto hbt, (hbt.cell (p := ⟨w.heap.size, 0, none⟩) y4).trans y0, (hbt.cell (p := ⟨w.heap.size, 1, none⟩) y4).trans y1, (hbt.cell (p := ⟨Bm, 0, none⟩) y5).trans y2, (hbt.cell (p := ⟨Bm, 1, none⟩) y5).trans y3, by omega, by omega, HBW.out.trans (hbt.mono HBW.out.size)⟩
    · have kow := fun W h => own_any nb A c ls W h (by omega)
      have kcp := fun W h => copy_any O co out W h (by omega)
      have kro := fun W hl ho => refouts_any nb A O c co ls out W hl ho (by omega) (by omega)
      have kc := fun X cx W hl => check_any nb X cx ls W hl
      have krc := fun W hl => refcheck_any nb A c ls W hl
      have ko := fun X Y cx cy W hl ho => outs_any nb X Y cx cy ls out W hl ho (by omega) (by omega)
      have ki := fun X Y cx cy W hl ho => in_any nb X Y cx cy ls out W hl ho (by omega) (by omega)
      have ka := fun X Y cx cy W hl ho => at_any nb X Y cx cy ls out bus W hl ho (by omega) (by omega)
      have ksm := fun X cx W hx hy => same_any nb nb X A cx c ls ls W hx hy (by omega) (by omega)
      rw [netEq_self] at ksm
      have kio := fun X Y cx cy W hx hy => ints_same X Y cx cy out W hx hy (by omega)
      have b0 : (checkE nb ls != checkE nb ls) = false := by simp
      generalize checkE nb ls = ck at *
      have KOW := Lib.hid kow
      have KCP := Lib.hid kcp
      have KC := Lib.hid kc
      have KRC := Lib.hid krc
      have KSM := Lib.hid ksm
      have KIO := Lib.hid kio
      clear kow kcp kc krc ksm kio
      rw [inL, if_neg he] at ki
      rw [atL, atE, if_neg (fun h => he h.1), if_neg he] at ka
      have b1 : (outsE nb ls out == 0) = false := by rw [beq_eq_false_iff_ne]; exact he
      have b2 : (outsE nb ls out != 0) = true := by rw [bne_iff_ne]; exact he
      have b3 : (outsE nb ls out != outsE nb ls out) = false := by simp
      clear he
      generalize outsE nb ls out = er at *
      have KRO := Lib.hid kro
      have KO := Lib.hid ko
      have KI := Lib.hid ki
      have KA := Lib.hid ka
      clear kro ko ki ka
      have HB0 := Lib.hid (Below.refl w.heap.size w)
      go_enter Try.func3, Try.ntmps3
      go_wp2_with fail
      have hb := below_alloc2 w (.cells #[.int .i64 nb, .slice A ls.length c] 24) (.cells #[.slice O out.length co] 25)
      have q0 : ((w.alloc (.cells #[.int .i64 nb, .slice A ls.length c] 24)).alloc (.cells #[.slice O out.length co] 25)).cell? ⟨w.heap.size, 0, none⟩ = some (.int .i64 nb) := by simp
      have q1 : ((w.alloc (.cells #[.int .i64 nb, .slice A ls.length c] 24)).alloc (.cells #[.slice O out.length co] 25)).cell? ⟨w.heap.size, 1, none⟩ = some (.slice A ls.length c) := by simp
      have hz : w.heap.size < ((w.alloc (.cells #[.int .i64 nb, .slice A ls.length c] 24)).alloc (.cells #[.slice O out.length co] 25)).heap.size := by simp; omega
      have HB1 := Lib.hid (HB0.out.trans (hb.mono HB0.out.size))
      clear HB0
      replace HL := Lib.hid (HL.out.upto hb)
      replace HO := Lib.hid (HO.out.upto hb)
      clear hb
      refine (KL.out (w.alloc (.cells #[.int .i64 nb, .slice A ls.length c] 24)) _ (by simp)).mono ?_
      rintro e w2 ⟨rfl, hb⟩
      rw [← World.size_alloc (w.alloc (.cells #[.int .i64 nb, .slice A ls.length c] 24)) (.cells #[.slice O out.length co] 25)] at hb
      have HB2 := Lib.hid (HB1.out.trans (hb.mono HB1.out.size))
      clear HB1
      replace HL := Lib.hid (HL.out.upto hb)
      replace HO := Lib.hid (HO.out.upto hb)
      replace q0 := (hb.cell (p := ⟨w.heap.size, 0, none⟩) hz).trans q0
      replace q1 := (hb.cell (p := ⟨w.heap.size, 1, none⟩) hz).trans q1
      replace hz : w.heap.size < w2.heap.size := Nat.lt_of_lt_of_le hz hb.size
      clear hb
      go_wp2_with fail
      refine (KOW.out _ HL.out).mono ?_
      rintro e w3 ⟨Am, cm, rfl, hown, hb⟩
      obtain ⟨A2, c2, he2, hI⟩ := ownsRow_linesR hown
      simp only [Value.slice.injEq] at he2
      obtain ⟨rfl, _, rfl⟩ := he2
      have HIm := Lib.hid hI
      clear hown hI
      have HB3 := Lib.hid (HB2.out.trans (hb.mono HB2.out.size))
      clear HB2
      replace HL := Lib.hid (HL.out.upto hb)
      replace HO := Lib.hid (HO.out.upto hb)
      replace q0 := (hb.cell (p := ⟨w.heap.size, 0, none⟩) hz).trans q0
      replace q1 := (hb.cell (p := ⟨w.heap.size, 1, none⟩) hz).trans q1
      replace hz : w.heap.size < w3.heap.size := Nat.lt_of_lt_of_le hz hb.size
      clear hb
      go_wp2_with fail
      refine (KCP.out _ HO.out).mono ?_
      rintro e w4 ⟨v, rfl, hown, hb⟩
      obtain ⟨Ax, cx, rfl, hI⟩ := ownsRow_ints hown
      have HIx := Lib.hid hI
      clear hown hI
      have HB4 := Lib.hid (HB3.out.trans (hb.mono HB3.out.size))
      clear HB3
      replace HL := Lib.hid (HL.out.upto hb)
      replace HO := Lib.hid (HO.out.upto hb)
      replace HIm := Lib.hid (HIm.out.upto hb)
      replace q0 := (hb.cell (p := ⟨w.heap.size, 0, none⟩) hz).trans q0
      replace q1 := (hb.cell (p := ⟨w.heap.size, 1, none⟩) hz).trans q1
      replace hz : w.heap.size < w4.heap.size := Nat.lt_of_lt_of_le hz hb.size
      clear hb
      go_upto_region 4 with fail
      have hb : Below w4.heap.size w4 (w4.alloc (.cells #[.int .i64 nb, .slice Am ls.length cm] 24)) := (Below.refl _ _).alloc (Nat.le_refl _) _
      have bm0 : (w4.alloc (.cells #[.int .i64 nb, .slice Am ls.length cm] 24)).cell? ⟨w4.heap.size, 0, none⟩ = some (.int .i64 nb) := cell_alloc_at _ _ _ _ _ rfl
      have bm1 : (w4.alloc (.cells #[.int .i64 nb, .slice Am ls.length cm] 24)).cell? ⟨w4.heap.size, 1, none⟩ = some (.slice Am ls.length cm) := cell_alloc_at _ _ _ _ _ rfl
      have hzm : w4.heap.size < (w4.alloc (.cells #[.int .i64 nb, .slice Am ls.length cm] 24)).heap.size := by simp
      generalize hX : w4.alloc (.cells #[.int .i64 nb, .slice Am ls.length cm] 24) = w5 at *
      clear hX
      have HB5 := Lib.hid (HB4.out.trans (hb.mono HB4.out.size))
      clear HB4
      replace HL := Lib.hid (HL.out.upto hb)
      replace HO := Lib.hid (HO.out.upto hb)
      replace HIm := Lib.hid (HIm.out.upto hb)
      replace HIx := Lib.hid (HIx.out.upto hb)
      replace q0 := (hb.cell (p := ⟨w.heap.size, 0, none⟩) hz).trans q0
      replace q1 := (hb.cell (p := ⟨w.heap.size, 1, none⟩) hz).trans q1
      replace hz : w.heap.size < w5.heap.size := Nat.lt_of_lt_of_le hz hb.size
      clear hb
      generalize w4.heap.size = Bm at *
      go_wp2_with fail
      refine (KRO.out _ HL.out HO.out).mono ?_
      rintro e w6 ⟨rfl, hb⟩
      have HB6 := Lib.hid (HB5.out.trans (hb.mono HB5.out.size))
      clear HB5
      replace HL := Lib.hid (HL.out.upto hb)
      replace HO := Lib.hid (HO.out.upto hb)
      replace HIm := Lib.hid (HIm.out.upto hb)
      replace HIx := Lib.hid (HIx.out.upto hb)
      replace q0 := (hb.cell (p := ⟨w.heap.size, 0, none⟩) hz).trans q0
      replace q1 := (hb.cell (p := ⟨w.heap.size, 1, none⟩) hz).trans q1
      replace bm0 := (hb.cell (p := ⟨Bm, 0, none⟩) hzm).trans bm0
      replace bm1 := (hb.cell (p := ⟨Bm, 1, none⟩) hzm).trans bm1
      replace hz : w.heap.size < w6.heap.size := Nat.lt_of_lt_of_le hz hb.size
      replace hzm : Bm < w6.heap.size := Nat.lt_of_lt_of_le hzm hb.size
      clear hb
      go_wp2_with fail
      refine region_calls (w0 := w6) (fun jq => match jq with | 0 => .agg #[.int .i64 nb, .slice Am ls.length cm] | 1 => .int .i64 ck | 2 => .agg #[.int .i64 nb, .slice A ls.length c] | 3 => .int .i64 ck | 4 => .bool false | 5 => .bool false | 6 => .agg #[.int .i64 nb, .slice Am ls.length cm] | 7 => .slice Ax out.length cx | 8 => .int .i64 er | 9 => .int .i64 er | 10 => .bool false | 11 => .bool false | _ => undef) (by kernel_rfl) (by kernel_rfl) ?_ ?_
      · intro i o ho a W hI hdep hrest hgd
        have r3 : a.eval (.tmp 3) = .pointer (some ⟨w.heap.size, 0, none⟩) := hrest 3 (apart_of (by kernel_rfl))
        have r7 : a.eval (.tmp 7) = .pointer (some ⟨Bm, 0, none⟩) := hrest 7 (apart_of (by kernel_rfl))
        have r8 : a.eval (.tmp 8) = .slice Ax out.length cx := hrest 8 (apart_of (by kernel_rfl))
        have r9 : a.eval (.tmp 9) = .int .i64 er := hrest 9 (apart_of (by kernel_rfl))
        have hc : ∀ v, a.eval (.const v) = v := fun _ => rfl
        have hfn : ∀ f, a.eval (.func f) = .func (.func f) #[] #[] := fun _ => rfl
        clear hrest
        rcases i with _ | _ | _ | _ | _ | _ | _ | _ | _ | _ | _ | _ | i
        · injection ho with ho
          subst ho
          clear hdep hgd
          have x0 := (hI.cell (p := ⟨Bm, 0, none⟩) hzm).trans bm0
          have x1 := (hI.cell (p := ⟨Bm, 1, none⟩) hzm).trans bm1
          refine ⟨fun _ => .inl ?_, fun hw => (by simp [Region.wanted] at hw)⟩
          clear hI
          generalize a.eval = ρ at *
          simp [go_sem, r7, x0, x1]
        · injection ho with ho
          subst ho
          have e0 : a.eval (.tmp 28) = .agg #[.int .i64 nb, .slice Am ls.length cm] := hdep ⟨0, .data⟩ (by simp) rfl _ _ rfl rfl
          clear hdep hgd
          refine ⟨fun _ => .inr ⟨18, #[.agg #[.int .i64 nb, .slice Am ls.length cm]], ?_, KC.out _ _ W (HIm.out.upto hI)⟩, fun hw => (by simp [Region.wanted] at hw)⟩
          clear hI
          generalize a.eval = ρ at *
          simp [go_sem, e0, hfn]
        · injection ho with ho
          subst ho
          clear hdep hgd
          have x0 := (hI.cell (p := ⟨w.heap.size, 0, none⟩) hz).trans q0
          have x1 := (hI.cell (p := ⟨w.heap.size, 1, none⟩) hz).trans q1
          refine ⟨fun _ => .inl ?_, fun hw => (by simp [Region.wanted] at hw)⟩
          clear hI
          generalize a.eval = ρ at *
          simp [go_sem, r3, x0, x1]
        · injection ho with ho
          subst ho
          have e2 : a.eval (.tmp 30) = .agg #[.int .i64 nb, .slice A ls.length c] := hdep ⟨2, .data⟩ (by simp) rfl _ _ rfl rfl
          clear hdep hgd
          refine ⟨fun _ => .inr ⟨19, #[.agg #[.int .i64 nb, .slice A ls.length c]], ?_, KRC.out W (HL.out.upto hI)⟩, fun hw => (by simp [Region.wanted] at hw)⟩
          clear hI
          generalize a.eval = ρ at *
          simp [go_sem, e2, hfn]
        · injection ho with ho
          subst ho
          have e1 : a.eval (.tmp 29) = .int .i64 ck := hdep ⟨1, .data⟩ (by simp) rfl _ _ rfl rfl
          have e3 : a.eval (.tmp 31) = .int .i64 ck := hdep ⟨3, .data⟩ (by simp) rfl _ _ rfl rfl
          clear hdep hgd
          refine ⟨fun _ => .inl ?_, fun hw => (by simp [Region.wanted] at hw)⟩
          clear hI
          generalize a.eval = ρ at *
          simp [go_sem, e1, e3]
        · injection ho with ho
          subst ho
          have e4 : a.eval (.tmp 32) = .bool false := hdep ⟨4, .data⟩ (by simp) rfl _ _ rfl rfl
          clear hdep hgd
          refine ⟨fun _ => .inl ?_, fun hw => (by simp [Region.wanted] at hw)⟩
          clear hI
          generalize a.eval = ρ at *
          simp [go_sem, e4]
        · injection ho with ho
          subst ho
          have h8 : a.tmps.getD 33 undef = .bool false := hdep ⟨5, .guard⟩ (by simp) rfl _ _ rfl rfl
          have hwd := hgd 5 false rfl _ _ rfl rfl false h8
          clear hdep hgd
          have x0 := (hI.cell (p := ⟨Bm, 0, none⟩) hzm).trans bm0
          have x1 := (hI.cell (p := ⟨Bm, 1, none⟩) hzm).trans bm1
          refine ⟨fun _ => .inl ?_, fun hw => (by rw [hwd] at hw; cases hw)⟩
          clear h8 hwd
          clear hI
          generalize a.eval = ρ at *
          simp [go_sem, r7, x0, x1]
        · injection ho with ho
          subst ho
          have h8 : a.tmps.getD 33 undef = .bool false := hdep ⟨5, .guard⟩ (by simp) rfl _ _ rfl rfl
          have hwd := hgd 5 false rfl _ _ rfl rfl false h8
          clear hdep hgd
          refine ⟨fun _ => .inl ?_, fun hw => (by rw [hwd] at hw; cases hw)⟩
          clear h8 hwd
          clear hI
          generalize a.eval = ρ at *
          simp [go_sem, r8]
        · injection ho with ho
          subst ho
          have e6 : a.eval (.tmp 34) = .agg #[.int .i64 nb, .slice Am ls.length cm] := hdep ⟨6, .data⟩ (by simp) rfl _ _ rfl rfl
          have e7 : a.eval (.tmp 35) = .slice Ax out.length cx := hdep ⟨7, .data⟩ (by simp) rfl _ _ rfl rfl
          have h8 : a.tmps.getD 33 undef = .bool false := hdep ⟨5, .guard⟩ (by simp) rfl _ _ rfl rfl
          have hwd := hgd 5 false rfl _ _ rfl rfl false h8
          clear hdep hgd
          refine ⟨fun _ => .inr ⟨20, #[.agg #[.int .i64 nb, .slice Am ls.length cm], .slice Ax out.length cx], ?_, KO.out _ _ _ _ W (HIm.out.upto hI) (HIx.out.upto hI)⟩, fun hw => (by rw [hwd] at hw; cases hw)⟩
          clear h8 hwd
          clear hI
          generalize a.eval = ρ at *
          simp [go_sem, e6, e7, hfn]
        · injection ho with ho
          subst ho
          have h8 : a.tmps.getD 33 undef = .bool false := hdep ⟨5, .guard⟩ (by simp) rfl _ _ rfl rfl
          have hwd := hgd 5 false rfl _ _ rfl rfl false h8
          clear hdep hgd
          refine ⟨fun _ => .inl ?_, fun hw => (by rw [hwd] at hw; cases hw)⟩
          clear h8 hwd
          clear hI
          generalize a.eval = ρ at *
          simp [go_sem, r9]
        · injection ho with ho
          subst ho
          have e8 : a.eval (.tmp 36) = .int .i64 er := hdep ⟨8, .data⟩ (by simp) rfl _ _ rfl rfl
          have e9 : a.eval (.tmp 37) = .int .i64 er := hdep ⟨9, .data⟩ (by simp) rfl _ _ rfl rfl
          have h8 : a.tmps.getD 33 undef = .bool false := hdep ⟨5, .guard⟩ (by simp) rfl _ _ rfl rfl
          have hwd := hgd 5 false rfl _ _ rfl rfl false h8
          clear hdep hgd
          refine ⟨fun _ => .inl ?_, fun hw => (by rw [hwd] at hw; cases hw)⟩
          clear h8 hwd
          clear hI
          generalize a.eval = ρ at *
          simp [go_sem, e8, e9]
        · injection ho with ho
          subst ho
          have e5 : a.eval (.tmp 33) = .bool false := hdep ⟨5, .data⟩ (by simp) rfl _ _ rfl rfl
          have e10 : a.eval (.tmp 38) = .bool false := hdep ⟨10, .data⟩ (by simp) rfl _ _ rfl rfl
          clear hdep hgd
          refine ⟨fun _ => .inl ?_, fun hw => (by simp [Region.wanted] at hw)⟩
          clear hI
          generalize a.eval = ρ at *
          simp [go_sem, e5, e10, hc]
        · simp at ho
      intro w7 hb
      simp only [putAll, Act.put, List.setIfInBounds_toArray, List.set_cons_zero, List.set_cons_succ, Nat.reduceAdd]
      have HB7 := Lib.hid (HB6.out.trans (hb.mono HB6.out.size))
      clear HB6
      replace HL := Lib.hid (HL.out.upto hb)
      replace HO := Lib.hid (HO.out.upto hb)
      replace HIm := Lib.hid (HIm.out.upto hb)
      replace HIx := Lib.hid (HIx.out.upto hb)
      replace q0 := (hb.cell (p := ⟨w.heap.size, 0, none⟩) hz).trans q0
      replace q1 := (hb.cell (p := ⟨w.heap.size, 1, none⟩) hz).trans q1
      replace bm0 := (hb.cell (p := ⟨Bm, 0, none⟩) hzm).trans bm0
      replace bm1 := (hb.cell (p := ⟨Bm, 1, none⟩) hzm).trans bm1
      replace hz : w.heap.size < w7.heap.size := Nat.lt_of_lt_of_le hz hb.size
      replace hzm : Bm < w7.heap.size := Nat.lt_of_lt_of_le hzm hb.size
      clear hb
      go_wp2_with fail
      go_loopg [11, 12, 13, 14, 15] 2 (fun g i s12 s13 s14 s15 wr => ∃ k : Nat, k + g = 2 ∧ i = .int .i64 k ∧ IntsR wr wr.heap.size O out ∧ LinesR wr wr.heap.size A ls ∧ LinesR wr wr.heap.size Am ls ∧ IntsR wr wr.heap.size Ax out ∧ wr.cell? ⟨w.heap.size, 0, none⟩ = some (.int .i64 nb) ∧ wr.cell? ⟨w.heap.size, 1, none⟩ = some (.slice A ls.length c) ∧ wr.cell? ⟨Bm, 0, none⟩ = some (.int .i64 nb) ∧ wr.cell? ⟨Bm, 1, none⟩ = some (.slice Am ls.length cm) ∧ w.heap.size < wr.heap.size ∧ Bm < wr.heap.size ∧ Below w.heap.size w wr)
      case atStart => exact ⟨0, by omega, rfl, HO.out, HL.out, HIm.out, HIx.out, q0, q1, bm0, bm1, hz, hzm, HB7.out⟩
      case round =>
        clear HO HL HIm HIx q0 q1 bm0 bm1 hz hzm HB7
        obtain ⟨k, hkg, rfl, h1, h2, h3, h4, q0, q1, bm0, bm1, hz, hzm, hbel⟩ := hrel
        have HO := Lib.hid h1
        have HO0 := Lib.hid h1
        have HL := Lib.hid h2
        have HL0 := Lib.hid h2
        have HIm := Lib.hid h3
        have HIm0 := Lib.hid h3
        have HIx := Lib.hid h4
        have HIx0 := Lib.hid h4
        have HQ0 := Lib.hid (And.intro q0 (And.intro q1 (And.intro bm0 (And.intro bm1 (And.intro hz hzm)))))
        have HBW := Lib.hid hbel
        clear h1 h2 h3 h4 hbel
        cases gk with
        | zero =>
          obtain rfl : k = 2 := by omega
          clear hkg HO HL HIm HIx HO0 HL0 HIm0 HIx0 HQ0
          go_wp2_with fail
          refine (awake14_any _).mono ?_
          rintro e w50 ⟨rfl, hb⟩
          have HB50 := Lib.hid (HBW.out.trans (hb.mono HBW.out.size))
          clear HBW
          clear hb
          go_wp2_with fail
          go_ret
          exact ⟨rfl, HB50.out⟩
        | succ g =>
          have hk : k < 2 := by omega
          have HG := Lib.hid hkg
          clear hkg
          have HR0 := Lib.hid (Below.refl wr.heap.size wr)
          go_wp2_with fail
          refine (KI.out _ _ _ _ _ HIm.out HIx.out).mono ?_
          rintro e w60 ⟨v, rfl, hown, hb⟩
          obtain ⟨Ai, ci, rfl, hI⟩ := ownsRow_ints hown
          have HIi := Lib.hid hI
          have HSi := Lib.hid (Spoils.own hown HR0.out.size)
          clear hown hI
          have HB60 := Lib.hid (HR0.out.trans (hb.mono HR0.out.size))
          clear HR0
          replace HO := Lib.hid (HO.out.upto hb)
          replace HL := Lib.hid (HL.out.upto hb)
          replace HIm := Lib.hid (HIm.out.upto hb)
          replace HIx := Lib.hid (HIx.out.upto hb)
          replace q0 := (hb.cell (p := ⟨w.heap.size, 0, none⟩) hz).trans q0
          replace q1 := (hb.cell (p := ⟨w.heap.size, 1, none⟩) hz).trans q1
          replace bm0 := (hb.cell (p := ⟨Bm, 0, none⟩) hzm).trans bm0
          replace bm1 := (hb.cell (p := ⟨Bm, 1, none⟩) hzm).trans bm1
          replace hz : w.heap.size < w60.heap.size := Nat.lt_of_lt_of_le hz hb.size
          replace hzm : Bm < w60.heap.size := Nat.lt_of_lt_of_le hzm hb.size
          clear hb
          go_wp2_with fail
          refine (KA.out _ _ _ _ _ HIm.out HIx.out).mono ?_
          rintro e w61 ⟨v, rfl, hown, hb⟩
          obtain ⟨Al, cl, rfl, hI⟩ := ownsRow_ints hown
          have HIl := Lib.hid hI
          have HSl := Lib.hid (Spoils.own hown HB60.out.size)
          clear hown hI
          have HB61 := Lib.hid (HB60.out.trans (hb.mono HB60.out.size))
          clear HB60
          replace HO := Lib.hid (HO.out.upto hb)
          replace HL := Lib.hid (HL.out.upto hb)
          replace HIm := Lib.hid (HIm.out.upto hb)
          replace HIx := Lib.hid (HIx.out.upto hb)
          replace HIi := Lib.hid (HIi.out.upto hb)
          replace HSi := Lib.hid (HSi.out.upto hb)
          replace q0 := (hb.cell (p := ⟨w.heap.size, 0, none⟩) hz).trans q0
          replace q1 := (hb.cell (p := ⟨w.heap.size, 1, none⟩) hz).trans q1
          replace bm0 := (hb.cell (p := ⟨Bm, 0, none⟩) hzm).trans bm0
          replace bm1 := (hb.cell (p := ⟨Bm, 1, none⟩) hzm).trans bm1
          replace hz : w.heap.size < w61.heap.size := Nat.lt_of_lt_of_le hz hb.size
          replace hzm : Bm < w61.heap.size := Nat.lt_of_lt_of_le hzm hb.size
          clear hb
          go_wp2_with fail
          refine (KSM.out _ _ _ HIm.out HL.out).mono ?_
          rintro e w62 ⟨rfl, hb⟩
          have HB62 := Lib.hid (HB61.out.trans (hb.mono HB61.out.size))
          clear HB61
          replace HO := Lib.hid (HO.out.upto hb)
          replace HL := Lib.hid (HL.out.upto hb)
          replace HIm := Lib.hid (HIm.out.upto hb)
          replace HIx := Lib.hid (HIx.out.upto hb)
          replace HIi := Lib.hid (HIi.out.upto hb)
          replace HSi := Lib.hid (HSi.out.upto hb)
          replace HIl := Lib.hid (HIl.out.upto hb)
          replace HSl := Lib.hid (HSl.out.upto hb)
          replace q0 := (hb.cell (p := ⟨w.heap.size, 0, none⟩) hz).trans q0
          replace q1 := (hb.cell (p := ⟨w.heap.size, 1, none⟩) hz).trans q1
          replace bm0 := (hb.cell (p := ⟨Bm, 0, none⟩) hzm).trans bm0
          replace bm1 := (hb.cell (p := ⟨Bm, 1, none⟩) hzm).trans bm1
          replace hz : w.heap.size < w62.heap.size := Nat.lt_of_lt_of_le hz hb.size
          replace hzm : Bm < w62.heap.size := Nat.lt_of_lt_of_le hzm hb.size
          clear hb
          go_wp2_with fail
          refine (KIO.out _ _ _ _ _ HIx.out HO.out).mono ?_
          rintro e w63 ⟨rfl, hb⟩
          have HB63 := Lib.hid (HB62.out.trans (hb.mono HB62.out.size))
          clear HB62
          replace HO := Lib.hid (HO.out.upto hb)
          replace HL := Lib.hid (HL.out.upto hb)
          replace HIm := Lib.hid (HIm.out.upto hb)
          replace HIx := Lib.hid (HIx.out.upto hb)
          replace HIi := Lib.hid (HIi.out.upto hb)
          replace HSi := Lib.hid (HSi.out.upto hb)
          replace HIl := Lib.hid (HIl.out.upto hb)
          replace HSl := Lib.hid (HSl.out.upto hb)
          replace q0 := (hb.cell (p := ⟨w.heap.size, 0, none⟩) hz).trans q0
          replace q1 := (hb.cell (p := ⟨w.heap.size, 1, none⟩) hz).trans q1
          replace bm0 := (hb.cell (p := ⟨Bm, 0, none⟩) hzm).trans bm0
          replace bm1 := (hb.cell (p := ⟨Bm, 1, none⟩) hzm).trans bm1
          replace hz : w.heap.size < w63.heap.size := Nat.lt_of_lt_of_le hz hb.size
          replace hzm : Bm < w63.heap.size := Nat.lt_of_lt_of_le hzm hb.size
          clear hb
          go_wp2_with fail
          have hs1 := HSi.out
          have hs2 := HSl.out
          rw [Nat.mul_one] at hs1 hs2
          refine (spoil_two wr.heap.size Ai Al 0 ci 0 cl 25 w63 hs1 hs2 HB63.out.size (by first | omega | simp) (by first | omega | simp)).mono ?_
          rintro e wS ⟨⟨vS, rfl⟩, hb, _⟩
          have hbt := HB63.out.trans hb
          have HBT := Lib.hid hbt
          clear hb hs1 hs2 HSi HSl hbt
          go_wp2_with fail
          go_roundg g
          case measure => omega
          case rel =>
            obtain ⟨y0, y1, y2, y3, y4, y5⟩ := HQ0.out
            have hbt := HBT.out
            have hsz := hbt.size
            exact ⟨k + 1, by have := HG.out; omega, by go_num, HO0.out.upto hbt, HL0.out.upto hbt, HIm0.out.upto hbt, HIx0.out.upto hbt, (hbt.cell (p := ⟨w.heap.size, 0, none⟩) y4).trans y0, (hbt.cell (p := ⟨w.heap.size, 1, none⟩) y4).trans y1, (hbt.cell (p := ⟨Bm, 0, none⟩) y5).trans y2, (hbt.cell (p := ⟨Bm, 1, none⟩) y5).trans y3, by omega, by omega, HBW.out.trans (hbt.mono HBW.out.size)⟩
end Go.Proofs.Ytcacaiakkfgdpaa
