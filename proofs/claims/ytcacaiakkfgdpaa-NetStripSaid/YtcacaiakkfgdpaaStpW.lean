/- The walk of NetStrip. -/
import Derived.Test.YtcacaiakkfgdpaaAwkN
import Derived.Test.YtcacaiakkfgdpaaAnyG
import Derived.Test.YtcacaiakkfgdpaaStpP
import Derived.Test.YtcacaiakkfgdpaaUniB
import Derived.Test.YtcacaiakkfgdpaaIslN
import Derived.Deep.DeepCutAuto
namespace Go.Proofs.Ytcacaiakkfgdpaa
open Go.RowKit
set_option linter.unusedVariables false

set_option maxRecDepth 100000 in
set_option maxHeartbeats 8000000 in
theorem stp_walk (nb : Int) (A : Option Addr) (c : Nat) (ls : List Ln) (O : Option Addr) (co : Nat) (out : List Int) (M : Option Addr) (cM : Nat) (more : List Int) (w : World) (hl : LinesR w w.heap.size A ls) (ho : IntsR w w.heap.size O out) (hmo : IntsR w w.heap.size M more) :
    Calls Try.prog 8 #[.agg #[.int .i64 nb, .slice A ls.length c], .slice O out.length co, .slice M more.length cM] w fun e w' => e = .returned (.bool true) ∧ Below w.heap.size w w' := by
  obtain ⟨i0, hi0, hz0, hz1, hz2⟩ := info_parts info_int
  have HL := Lib.hid hl
  have HO := Lib.hid ho
  have HM := Lib.hid hmo
  clear hl ho hmo
  have kl := fun W b hb => long_lit2 (.int .i64 nb) A ls.length c 25 W b hb O M out.length co more.length cM
  cases hlong : longB [out.length, more.length] ls.length with
  | true =>
    rw [hlong] at kl
    have KL := Lib.hid kl
    clear kl hlong
    have HB0 := Lib.hid (Below.refl w.heap.size w)
    go_enter Try.func8, Try.ntmps8
    go_wp2_with fail
    have hb := below_alloc2 w (.cells #[.int .i64 nb, .slice A ls.length c] 24) (.cells #[.slice O out.length co, .slice M more.length cM] 25)
    have q0 : ((w.alloc (.cells #[.int .i64 nb, .slice A ls.length c] 24)).alloc (.cells #[.slice O out.length co, .slice M more.length cM] 25)).cell? ⟨w.heap.size, 0, none⟩ = some (.int .i64 nb) := by simp
    have q1 : ((w.alloc (.cells #[.int .i64 nb, .slice A ls.length c] 24)).alloc (.cells #[.slice O out.length co, .slice M more.length cM] 25)).cell? ⟨w.heap.size, 1, none⟩ = some (.slice A ls.length c) := by simp
    have hz : w.heap.size < ((w.alloc (.cells #[.int .i64 nb, .slice A ls.length c] 24)).alloc (.cells #[.slice O out.length co, .slice M more.length cM] 25)).heap.size := by simp; omega
    have HB1 := Lib.hid (HB0.out.trans (hb.mono HB0.out.size))
    clear HB0
    replace HL := Lib.hid (HL.out.upto hb)
    replace HO := Lib.hid (HO.out.upto hb)
    replace HM := Lib.hid (HM.out.upto hb)
    clear hb
    refine (KL.out (w.alloc (.cells #[.int .i64 nb, .slice A ls.length c] 24)) _ (by simp)).mono ?_
    rintro e w2 ⟨rfl, hb⟩
    rw [← World.size_alloc (w.alloc (.cells #[.int .i64 nb, .slice A ls.length c] 24)) (.cells #[.slice O out.length co, .slice M more.length cM] 25)] at hb
    have HB2 := Lib.hid (HB1.out.trans (hb.mono HB1.out.size))
    clear HB1
    replace HL := Lib.hid (HL.out.upto hb)
    replace HO := Lib.hid (HO.out.upto hb)
    replace HM := Lib.hid (HM.out.upto hb)
    replace q0 := (hb.cell (p := ⟨w.heap.size, 0, none⟩) hz).trans q0
    replace q1 := (hb.cell (p := ⟨w.heap.size, 1, none⟩) hz).trans q1
    replace hz : w.heap.size < w2.heap.size := Nat.lt_of_lt_of_le hz hb.size
    clear hb
    go_wp2_with fail
    refine (awake14_any _).mono ?_
    rintro e w3 ⟨rfl, hb⟩
    have HB3 := Lib.hid (HB2.out.trans (hb.mono HB2.out.size))
    clear HB2
    replace HL := Lib.hid (HL.out.upto hb)
    replace HO := Lib.hid (HO.out.upto hb)
    replace HM := Lib.hid (HM.out.upto hb)
    replace q0 := (hb.cell (p := ⟨w.heap.size, 0, none⟩) hz).trans q0
    replace q1 := (hb.cell (p := ⟨w.heap.size, 1, none⟩) hz).trans q1
    replace hz : w.heap.size < w3.heap.size := Nat.lt_of_lt_of_le hz hb.size
    clear hb
    go_wp2_with fail
    go_ret
    exact ⟨rfl, HB3.out⟩
  | false =>
    rw [hlong] at kl
    have hb100 := longB_false hlong
    have h1 : out.length ≤ 100 := hb100.1 _ (by simp)
    have h1' : more.length ≤ 100 := hb100.1 _ (by simp)
    have h2 : ls.length ≤ 100 := hb100.2
    have KL := Lib.hid kl
    clear kl hlong hb100
    have ks := fun W hl ho => strip_any nb A O c co ls out W hl ho (by omega) (by omega)
    by_cases he : outsE nb ls out = 0
    · rw [stripNb, stripL, stripK, if_pos he, if_pos he, if_pos he, he] at ks
      have hob := (check_of_outs he).2
      have hck := (check_of_outs he).1
      have hsl := svcL_le out ls.length
      have hin : ∀ k ∈ svcL out ls.length, 0 ≤ k ∧ k < ls.length := fun k hk => ⟨((svc_mem hob k).1 hk).1, ((svc_mem hob k).1 hk).2.1⟩
      have hms := pick_length ls (svcL out ls.length)
      have hcm : checkE nb (pick ls (svcL out ls.length)) = 0 := pick_check hck hin hsl
      have hmo := fun (h : outsE nb (pick ls (svcL out ls.length)) more = 0) => by
        have hm := (check_of_outs h).2
        rw [hms] at hm
        have hpin : ∀ k ∈ svcL more (svcL out ls.length).length, 0 ≤ k ∧ k < (svcL out ls.length).length := fun k hk => ⟨((svc_mem hm k).1 hk).1, ((svc_mem hm k).1 hk).2.1⟩
        exact And.intro (more_in hob hm) (And.intro (both_asc hob hm) (And.intro (both_outs hob hm) (And.intro (both_svc hob hm) (And.intro hpin (pick_back ls _ _ hpin)))))
      have k0 := fun X cx W hl ho => strip_any nb X none cx 0 (pick ls (svcL out ls.length)) [] W hl ho (by omega) (by simp)
      have hrg := rangeI_length (svcL out ls.length).length
      have he0 : outsE nb (pick ls (svcL out ls.length)) [] = 0 := outs_make hcm (outsB_nil _)
      rw [stripNb, stripL, stripK, if_pos he0, if_pos he0, if_pos he0, he0, svc_nil, pick_range, hms] at k0
      have kc := fun X cx W hl => check_any nb X cx (pick ls (svcL out ls.length)) W hl
      rw [hcm, hms] at kc
      have ke := fun X Y cx cy W hx hy => equal_any nb nb X Y cx cy (pick ls (svcL out ls.length)) (pick ls (svcL out ls.length)) W hx hy (by omega) (by omega)
      rw [netEq_self, hms] at ke
      have km := fun X cx W hl ho => strip_any nb X M cx cM (pick ls (svcL out ls.length)) more W hl ho (by omega) (by omega)
      have ko := fun X cx W hl ho => outs_any nb X M cx cM (pick ls (svcL out ls.length)) more W hl ho (by omega) (by omega)
      have b1 : (((svcL out ls.length).length : Int) != ((svcL out ls.length).length : Int)) = false := by simp
      generalize rangeI (svcL out ls.length).length = rg at *
      have KS := Lib.hid ks
      have K0 := Lib.hid k0
      have KC := Lib.hid kc
      have KE := Lib.hid ke
      clear ks k0 kc ke he0
      by_cases hem : outsE nb (pick ls (svcL out ls.length)) more = 0
      · obtain ⟨hm1, hm2, hm3, hm4, hm5, hm6⟩ := hmo hem
        clear hmo ko
        rw [stripNb, stripL, stripK, if_pos hem, if_pos hem, if_pos hem, hem, hms, hm6] at km
        have ku := fun X cx W ha hb => union_any O X co cx out (backL (svcL out ls.length) more) W ha hb (by omega) (by rw [backL_length]; omega)
        have hasc : ascB out = true ∧ ascB (backL (svcL out ls.length) more) = true := ⟨outs_asc hob, hm2⟩
        rw [uniL, uniE, if_pos hasc, if_pos hasc, backL_length] at ku
        have hul := svc_length hm3
        have heu : outsE nb ls (unionL out (backL (svcL out ls.length) more)) = 0 := outs_make hck hm3
        have kn := fun X cx W hl ho => strip_any nb A X c cx ls (unionL out (backL (svcL out ls.length) more)) W hl ho (by omega) (by omega)
        rw [stripNb, stripL, stripK, if_pos heu, if_pos heu, if_pos heu, heu, hm4] at kn
        have hpl : (svcL more (svcL out ls.length).length).length ≤ 100 := Nat.le_trans (svcL_le _ _) (by omega)
        have has : (pick ls (backL (svcL out ls.length) (svcL more (svcL out ls.length).length))).length = (svcL more (svcL out ls.length).length).length := by rw [pick_length, backL_length]
        have hqp := backL_length (svcL out ls.length) (svcL more (svcL out ls.length).length)
        have kf := fun X Y cx cy W hx hy => equal_any nb nb X Y cx cy (pick ls (backL (svcL out ls.length) (svcL more (svcL out ls.length).length))) (pick ls (backL (svcL out ls.length) (svcL more (svcL out ls.length).length))) W hx hy (by omega) (by omega)
        rw [netEq_self, has] at kf
        have hbt := backL_length (svcL out ls.length) more
        have hback : ∀ (ks : List Int), (∀ k ∈ ks, 0 ≤ k ∧ k < (svcL out ls.length).length) → ∀ k, k < ks.length → ∃ j : Nat, ks.getD k 0 = (j : Int) ∧ j < (svcL out ls.length).length ∧ (svcL out ls.length).getD j 0 = (backL (svcL out ls.length) ks).getD k 0 := fun ks hks k hk => by
          have := hks (ks.getD k 0) (by rw [getD_eq _ _ _ hk]; exact List.getElem_mem hk)
          refine ⟨(ks.getD k 0).toNat, by omega, by omega, ?_⟩
          rw [getD_eq (backL _ _) _ _ (by rw [backL_length]; exact hk)]
          simp only [backL, List.getElem_map]
          rw [getD_eq ks _ _ hk]
        have HMO := Lib.hid (hback more hm1)
        have HPQ := Lib.hid (hback _ hm5)
        clear hback hm1 hm2 hm3 hm4 hm5 hm6 hem hasc heu he hob hck hin hcm
        generalize pick ls (backL (svcL out ls.length) (svcL more (svcL out ls.length).length)) = ans at *
        generalize backL (svcL out ls.length) (svcL more (svcL out ls.length).length) = q at *
        generalize svcL more (svcL out ls.length).length = p at *
        generalize unionL out (backL (svcL out ls.length) more) = un at *
        generalize backL (svcL out ls.length) more = bt at *
        generalize pick ls (svcL out ls.length) = ms at *
        generalize svcL out ls.length = sv at *
        have b2 : ((p.length : Int) != (p.length : Int)) = false := by simp
        have KM := Lib.hid km
        have KU := Lib.hid ku
        have KN := Lib.hid kn
        have KF := Lib.hid kf
        clear km ku kn kf hul
        have HB0 := Lib.hid (Below.refl w.heap.size w)
        go_enter Try.func8, Try.ntmps8
        go_wp2_with fail
        have hb := below_alloc2 w (.cells #[.int .i64 nb, .slice A ls.length c] 24) (.cells #[.slice O out.length co, .slice M more.length cM] 25)
        have q0 : ((w.alloc (.cells #[.int .i64 nb, .slice A ls.length c] 24)).alloc (.cells #[.slice O out.length co, .slice M more.length cM] 25)).cell? ⟨w.heap.size, 0, none⟩ = some (.int .i64 nb) := by simp
        have q1 : ((w.alloc (.cells #[.int .i64 nb, .slice A ls.length c] 24)).alloc (.cells #[.slice O out.length co, .slice M more.length cM] 25)).cell? ⟨w.heap.size, 1, none⟩ = some (.slice A ls.length c) := by simp
        have hz : w.heap.size < ((w.alloc (.cells #[.int .i64 nb, .slice A ls.length c] 24)).alloc (.cells #[.slice O out.length co, .slice M more.length cM] 25)).heap.size := by simp; omega
        have HB1 := Lib.hid (HB0.out.trans (hb.mono HB0.out.size))
        clear HB0
        replace HL := Lib.hid (HL.out.upto hb)
        replace HO := Lib.hid (HO.out.upto hb)
        replace HM := Lib.hid (HM.out.upto hb)
        clear hb
        refine (KL.out (w.alloc (.cells #[.int .i64 nb, .slice A ls.length c] 24)) _ (by simp)).mono ?_
        rintro e w2 ⟨rfl, hb⟩
        rw [← World.size_alloc (w.alloc (.cells #[.int .i64 nb, .slice A ls.length c] 24)) (.cells #[.slice O out.length co, .slice M more.length cM] 25)] at hb
        have HB2 := Lib.hid (HB1.out.trans (hb.mono HB1.out.size))
        clear HB1
        replace HL := Lib.hid (HL.out.upto hb)
        replace HO := Lib.hid (HO.out.upto hb)
        replace HM := Lib.hid (HM.out.upto hb)
        replace q0 := (hb.cell (p := ⟨w.heap.size, 0, none⟩) hz).trans q0
        replace q1 := (hb.cell (p := ⟨w.heap.size, 1, none⟩) hz).trans q1
        replace hz : w.heap.size < w2.heap.size := Nat.lt_of_lt_of_le hz hb.size
        clear hb
        go_wp2_with fail
        refine (awake14_any _).mono ?_
        rintro e w3 ⟨rfl, hb⟩
        have HB3 := Lib.hid (HB2.out.trans (hb.mono HB2.out.size))
        clear HB2
        replace HL := Lib.hid (HL.out.upto hb)
        replace HO := Lib.hid (HO.out.upto hb)
        replace HM := Lib.hid (HM.out.upto hb)
        replace q0 := (hb.cell (p := ⟨w.heap.size, 0, none⟩) hz).trans q0
        replace q1 := (hb.cell (p := ⟨w.heap.size, 1, none⟩) hz).trans q1
        replace hz : w.heap.size < w3.heap.size := Nat.lt_of_lt_of_le hz hb.size
        clear hb
        go_wp2_with fail
        refine (KS.out _ HL.out HO.out).mono ?_
        rintro e w4 ⟨Am, cm, Al, cl, rfl, hown, hown2, hb⟩
        obtain ⟨A2, c2, he2, hI⟩ := ownsRow_linesR hown
        simp only [Value.slice.injEq] at he2
        obtain ⟨rfl, _, rfl⟩ := he2
        obtain ⟨A2, c2, he2, hJ⟩ := ownsRow_ints hown2
        simp only [Value.slice.injEq] at he2
        obtain ⟨rfl, _, rfl⟩ := he2
        have HIm := Lib.hid hI
        have HIl := Lib.hid hJ
        clear hown hI hown2 hJ
        have HB4 := Lib.hid (HB3.out.trans (hb.mono HB3.out.size))
        clear HB3
        replace HL := Lib.hid (HL.out.upto hb)
        replace HO := Lib.hid (HO.out.upto hb)
        replace HM := Lib.hid (HM.out.upto hb)
        replace q0 := (hb.cell (p := ⟨w.heap.size, 0, none⟩) hz).trans q0
        replace q1 := (hb.cell (p := ⟨w.heap.size, 1, none⟩) hz).trans q1
        replace hz : w.heap.size < w4.heap.size := Nat.lt_of_lt_of_le hz hb.size
        clear hb
        rw [hms]
        go_upto_region 4 with fail
        have hb : Below w4.heap.size w4 (w4.alloc (.cells #[.int .i64 nb, .slice Am sv.length cm] 24)) := (Below.refl _ _).alloc (Nat.le_refl _) _
        have bm0 : (w4.alloc (.cells #[.int .i64 nb, .slice Am sv.length cm] 24)).cell? ⟨w4.heap.size, 0, none⟩ = some (.int .i64 nb) := cell_alloc_at _ _ _ _ _ rfl
        have bm1 : (w4.alloc (.cells #[.int .i64 nb, .slice Am sv.length cm] 24)).cell? ⟨w4.heap.size, 1, none⟩ = some (.slice Am sv.length cm) := cell_alloc_at _ _ _ _ _ rfl
        have hzm : w4.heap.size < (w4.alloc (.cells #[.int .i64 nb, .slice Am sv.length cm] 24)).heap.size := by simp
        generalize hX : w4.alloc (.cells #[.int .i64 nb, .slice Am sv.length cm] 24) = w5 at *
        clear hX
        have HB5 := Lib.hid (HB4.out.trans (hb.mono HB4.out.size))
        clear HB4
        replace HL := Lib.hid (HL.out.upto hb)
        replace HO := Lib.hid (HO.out.upto hb)
        replace HM := Lib.hid (HM.out.upto hb)
        replace HIm := Lib.hid (HIm.out.upto hb)
        replace HIl := Lib.hid (HIl.out.upto hb)
        replace q0 := (hb.cell (p := ⟨w.heap.size, 0, none⟩) hz).trans q0
        replace q1 := (hb.cell (p := ⟨w.heap.size, 1, none⟩) hz).trans q1
        replace hz : w.heap.size < w5.heap.size := Nat.lt_of_lt_of_le hz hb.size
        clear hb
        generalize w4.heap.size = Bm at *
        go_wp2_with fail
        refine (K0.out _ _ _ HIm.out (fun h => absurd h (by simp))).mono ?_
        rintro e w6 ⟨Ak, ck, Ag, cg, rfl, hown, hown2, hb⟩
        obtain ⟨A2, c2, he2, hI⟩ := ownsRow_linesR hown
        simp only [Value.slice.injEq] at he2
        obtain ⟨rfl, _, rfl⟩ := he2
        obtain ⟨A2, c2, he2, hJ⟩ := ownsRow_ints hown2
        simp only [Value.slice.injEq] at he2
        obtain ⟨rfl, _, rfl⟩ := he2
        have HIk := Lib.hid hI
        have HIg := Lib.hid hJ
        clear hown hI hown2 hJ
        have HB6 := Lib.hid (HB5.out.trans (hb.mono HB5.out.size))
        clear HB5
        replace HL := Lib.hid (HL.out.upto hb)
        replace HO := Lib.hid (HO.out.upto hb)
        replace HM := Lib.hid (HM.out.upto hb)
        replace HIm := Lib.hid (HIm.out.upto hb)
        replace HIl := Lib.hid (HIl.out.upto hb)
        replace q0 := (hb.cell (p := ⟨w.heap.size, 0, none⟩) hz).trans q0
        replace q1 := (hb.cell (p := ⟨w.heap.size, 1, none⟩) hz).trans q1
        replace bm0 := (hb.cell (p := ⟨Bm, 0, none⟩) hzm).trans bm0
        replace bm1 := (hb.cell (p := ⟨Bm, 1, none⟩) hzm).trans bm1
        replace hz : w.heap.size < w6.heap.size := Nat.lt_of_lt_of_le hz hb.size
        replace hzm : Bm < w6.heap.size := Nat.lt_of_lt_of_le hzm hb.size
        clear hb
        rw [hms, hrg]
        go_upto_region 7 with fail
        have hb : Below w6.heap.size w6 (w6.alloc (.cells #[.int .i64 nb, .slice Ak sv.length ck] 24)) := (Below.refl _ _).alloc (Nat.le_refl _) _
        have bk0 : (w6.alloc (.cells #[.int .i64 nb, .slice Ak sv.length ck] 24)).cell? ⟨w6.heap.size, 0, none⟩ = some (.int .i64 nb) := cell_alloc_at _ _ _ _ _ rfl
        have bk1 : (w6.alloc (.cells #[.int .i64 nb, .slice Ak sv.length ck] 24)).cell? ⟨w6.heap.size, 1, none⟩ = some (.slice Ak sv.length ck) := cell_alloc_at _ _ _ _ _ rfl
        have hzk : w6.heap.size < (w6.alloc (.cells #[.int .i64 nb, .slice Ak sv.length ck] 24)).heap.size := by simp
        generalize hX : w6.alloc (.cells #[.int .i64 nb, .slice Ak sv.length ck] 24) = w7 at *
        clear hX
        have HB7 := Lib.hid (HB6.out.trans (hb.mono HB6.out.size))
        clear HB6
        replace HL := Lib.hid (HL.out.upto hb)
        replace HO := Lib.hid (HO.out.upto hb)
        replace HM := Lib.hid (HM.out.upto hb)
        replace HIm := Lib.hid (HIm.out.upto hb)
        replace HIl := Lib.hid (HIl.out.upto hb)
        replace HIk := Lib.hid (HIk.out.upto hb)
        replace HIg := Lib.hid (HIg.out.upto hb)
        replace q0 := (hb.cell (p := ⟨w.heap.size, 0, none⟩) hz).trans q0
        replace q1 := (hb.cell (p := ⟨w.heap.size, 1, none⟩) hz).trans q1
        replace bm0 := (hb.cell (p := ⟨Bm, 0, none⟩) hzm).trans bm0
        replace bm1 := (hb.cell (p := ⟨Bm, 1, none⟩) hzm).trans bm1
        replace hz : w.heap.size < w7.heap.size := Nat.lt_of_lt_of_le hz hb.size
        replace hzm : Bm < w7.heap.size := Nat.lt_of_lt_of_le hzm hb.size
        clear hb
        generalize w6.heap.size = Bk at *
        go_wp2_with fail
        refine (KC.out _ _ _ HIm.out).mono ?_
        rintro e w8 ⟨rfl, hb⟩
        have HB8 := Lib.hid (HB7.out.trans (hb.mono HB7.out.size))
        clear HB7
        replace HL := Lib.hid (HL.out.upto hb)
        replace HO := Lib.hid (HO.out.upto hb)
        replace HM := Lib.hid (HM.out.upto hb)
        replace HIm := Lib.hid (HIm.out.upto hb)
        replace HIl := Lib.hid (HIl.out.upto hb)
        replace HIk := Lib.hid (HIk.out.upto hb)
        replace HIg := Lib.hid (HIg.out.upto hb)
        replace q0 := (hb.cell (p := ⟨w.heap.size, 0, none⟩) hz).trans q0
        replace q1 := (hb.cell (p := ⟨w.heap.size, 1, none⟩) hz).trans q1
        replace bm0 := (hb.cell (p := ⟨Bm, 0, none⟩) hzm).trans bm0
        replace bm1 := (hb.cell (p := ⟨Bm, 1, none⟩) hzm).trans bm1
        replace bk0 := (hb.cell (p := ⟨Bk, 0, none⟩) hzk).trans bk0
        replace bk1 := (hb.cell (p := ⟨Bk, 1, none⟩) hzk).trans bk1
        replace hz : w.heap.size < w8.heap.size := Nat.lt_of_lt_of_le hz hb.size
        replace hzm : Bm < w8.heap.size := Nat.lt_of_lt_of_le hzm hb.size
        replace hzk : Bk < w8.heap.size := Nat.lt_of_lt_of_le hzk hb.size
        clear hb
        go_wp2_with fail
        refine (KE.out _ _ _ _ _ HIk.out HIm.out).mono ?_
        rintro e w9 ⟨rfl, hb⟩
        have HB9 := Lib.hid (HB8.out.trans (hb.mono HB8.out.size))
        clear HB8
        replace HL := Lib.hid (HL.out.upto hb)
        replace HO := Lib.hid (HO.out.upto hb)
        replace HM := Lib.hid (HM.out.upto hb)
        replace HIm := Lib.hid (HIm.out.upto hb)
        replace HIl := Lib.hid (HIl.out.upto hb)
        replace HIk := Lib.hid (HIk.out.upto hb)
        replace HIg := Lib.hid (HIg.out.upto hb)
        replace q0 := (hb.cell (p := ⟨w.heap.size, 0, none⟩) hz).trans q0
        replace q1 := (hb.cell (p := ⟨w.heap.size, 1, none⟩) hz).trans q1
        replace bm0 := (hb.cell (p := ⟨Bm, 0, none⟩) hzm).trans bm0
        replace bm1 := (hb.cell (p := ⟨Bm, 1, none⟩) hzm).trans bm1
        replace bk0 := (hb.cell (p := ⟨Bk, 0, none⟩) hzk).trans bk0
        replace bk1 := (hb.cell (p := ⟨Bk, 1, none⟩) hzk).trans bk1
        replace hz : w.heap.size < w9.heap.size := Nat.lt_of_lt_of_le hz hb.size
        replace hzm : Bm < w9.heap.size := Nat.lt_of_lt_of_le hzm hb.size
        replace hzk : Bk < w9.heap.size := Nat.lt_of_lt_of_le hzk hb.size
        clear hb
        go_wp2_with fail
        refine (KM.out _ _ _ HIm.out HM.out).mono ?_
        rintro e w10 ⟨Aa, ca, Ap, cp, rfl, hown, hown2, hb⟩
        obtain ⟨A2, c2, he2, hI⟩ := ownsRow_linesR hown
        simp only [Value.slice.injEq] at he2
        obtain ⟨rfl, _, rfl⟩ := he2
        obtain ⟨A2, c2, he2, hJ⟩ := ownsRow_ints hown2
        simp only [Value.slice.injEq] at he2
        obtain ⟨rfl, _, rfl⟩ := he2
        have HIa := Lib.hid hI
        have HIp := Lib.hid hJ
        clear hown hI hown2 hJ
        have HB10 := Lib.hid (HB9.out.trans (hb.mono HB9.out.size))
        clear HB9
        replace HL := Lib.hid (HL.out.upto hb)
        replace HO := Lib.hid (HO.out.upto hb)
        replace HM := Lib.hid (HM.out.upto hb)
        replace HIm := Lib.hid (HIm.out.upto hb)
        replace HIl := Lib.hid (HIl.out.upto hb)
        replace HIk := Lib.hid (HIk.out.upto hb)
        replace HIg := Lib.hid (HIg.out.upto hb)
        replace q0 := (hb.cell (p := ⟨w.heap.size, 0, none⟩) hz).trans q0
        replace q1 := (hb.cell (p := ⟨w.heap.size, 1, none⟩) hz).trans q1
        replace bm0 := (hb.cell (p := ⟨Bm, 0, none⟩) hzm).trans bm0
        replace bm1 := (hb.cell (p := ⟨Bm, 1, none⟩) hzm).trans bm1
        replace bk0 := (hb.cell (p := ⟨Bk, 0, none⟩) hzk).trans bk0
        replace bk1 := (hb.cell (p := ⟨Bk, 1, none⟩) hzk).trans bk1
        replace hz : w.heap.size < w10.heap.size := Nat.lt_of_lt_of_le hz hb.size
        replace hzm : Bm < w10.heap.size := Nat.lt_of_lt_of_le hzm hb.size
        replace hzk : Bk < w10.heap.size := Nat.lt_of_lt_of_le hzk hb.size
        clear hb
        rw [has]
        go_upto_region 10 with fail
        have hb : Below w10.heap.size w10 (w10.alloc (.cells #[.int .i64 nb, .slice Aa p.length ca] 24)) := (Below.refl _ _).alloc (Nat.le_refl _) _
        have ba0 : (w10.alloc (.cells #[.int .i64 nb, .slice Aa p.length ca] 24)).cell? ⟨w10.heap.size, 0, none⟩ = some (.int .i64 nb) := cell_alloc_at _ _ _ _ _ rfl
        have ba1 : (w10.alloc (.cells #[.int .i64 nb, .slice Aa p.length ca] 24)).cell? ⟨w10.heap.size, 1, none⟩ = some (.slice Aa p.length ca) := cell_alloc_at _ _ _ _ _ rfl
        have hza : w10.heap.size < (w10.alloc (.cells #[.int .i64 nb, .slice Aa p.length ca] 24)).heap.size := by simp
        generalize hX : w10.alloc (.cells #[.int .i64 nb, .slice Aa p.length ca] 24) = w11 at *
        clear hX
        have HB11 := Lib.hid (HB10.out.trans (hb.mono HB10.out.size))
        clear HB10
        replace HL := Lib.hid (HL.out.upto hb)
        replace HO := Lib.hid (HO.out.upto hb)
        replace HM := Lib.hid (HM.out.upto hb)
        replace HIm := Lib.hid (HIm.out.upto hb)
        replace HIl := Lib.hid (HIl.out.upto hb)
        replace HIk := Lib.hid (HIk.out.upto hb)
        replace HIg := Lib.hid (HIg.out.upto hb)
        replace HIa := Lib.hid (HIa.out.upto hb)
        replace HIp := Lib.hid (HIp.out.upto hb)
        replace q0 := (hb.cell (p := ⟨w.heap.size, 0, none⟩) hz).trans q0
        replace q1 := (hb.cell (p := ⟨w.heap.size, 1, none⟩) hz).trans q1
        replace bm0 := (hb.cell (p := ⟨Bm, 0, none⟩) hzm).trans bm0
        replace bm1 := (hb.cell (p := ⟨Bm, 1, none⟩) hzm).trans bm1
        replace bk0 := (hb.cell (p := ⟨Bk, 0, none⟩) hzk).trans bk0
        replace bk1 := (hb.cell (p := ⟨Bk, 1, none⟩) hzk).trans bk1
        replace hz : w.heap.size < w11.heap.size := Nat.lt_of_lt_of_le hz hb.size
        replace hzm : Bm < w11.heap.size := Nat.lt_of_lt_of_le hzm hb.size
        replace hzk : Bk < w11.heap.size := Nat.lt_of_lt_of_le hzk hb.size
        clear hb
        generalize w10.heap.size = Ba at *
        go_wp2_with fail
        go_loopg [16, 17] more.length (fun g s i wr => ∃ k : Nat, k + g = more.length ∧ i = .int .i64 k ∧ wr.ownsRow w11.heap.size 3 1 s k ((bt.take k).map (Value.int .i64)) ∧ Below w11.heap.size w11 wr)
        case atStart => exact ⟨0, by omega, rfl, World.ownsRow_nil _ _ _ _, Below.refl _ _⟩
        case round =>
          obtain ⟨k, hkg, rfl, hrow, hbel⟩ := hrel
          have hsz := hbel.size
          have HBW := Lib.hid hbel
          clear hbel
          cases gk with
          | zero =>
            obtain rfl : k = more.length := by omega
            clear hkg
            have hrow' : wr.ownsRow w11.heap.size 3 1 u16 bt.length (bt.map (Value.int .i64)) := by rw [hbt]; rw [List.take_of_length_le (Nat.le_of_eq hbt)] at hrow; exact hrow
            obtain ⟨Ab, cb, rfl, hI⟩ := ownsRow_ints hrow'
            have HIb := Lib.hid hI
            clear hI hrow hrow'
            have hb := HBW.out
            clear HBW hsz
            rw [hbt]
            have HB12 := Lib.hid (HB11.out.trans (hb.mono HB11.out.size))
            clear HB11
            replace HL := Lib.hid (HL.out.upto hb)
            replace HO := Lib.hid (HO.out.upto hb)
            replace HM := Lib.hid (HM.out.upto hb)
            replace HIm := Lib.hid (HIm.out.upto hb)
            replace HIl := Lib.hid (HIl.out.upto hb)
            replace HIk := Lib.hid (HIk.out.upto hb)
            replace HIg := Lib.hid (HIg.out.upto hb)
            replace HIa := Lib.hid (HIa.out.upto hb)
            replace HIp := Lib.hid (HIp.out.upto hb)
            replace q0 := (hb.cell (p := ⟨w.heap.size, 0, none⟩) hz).trans q0
            replace q1 := (hb.cell (p := ⟨w.heap.size, 1, none⟩) hz).trans q1
            replace bm0 := (hb.cell (p := ⟨Bm, 0, none⟩) hzm).trans bm0
            replace bm1 := (hb.cell (p := ⟨Bm, 1, none⟩) hzm).trans bm1
            replace bk0 := (hb.cell (p := ⟨Bk, 0, none⟩) hzk).trans bk0
            replace bk1 := (hb.cell (p := ⟨Bk, 1, none⟩) hzk).trans bk1
            replace ba0 := (hb.cell (p := ⟨Ba, 0, none⟩) hza).trans ba0
            replace ba1 := (hb.cell (p := ⟨Ba, 1, none⟩) hza).trans ba1
            replace hz : w.heap.size < wr.heap.size := Nat.lt_of_lt_of_le hz hb.size
            replace hzm : Bm < wr.heap.size := Nat.lt_of_lt_of_le hzm hb.size
            replace hzk : Bk < wr.heap.size := Nat.lt_of_lt_of_le hzk hb.size
            replace hza : Ba < wr.heap.size := Nat.lt_of_lt_of_le hza hb.size
            clear hb
            go_wp2_with fail
            refine (KU.out _ _ _ HO.out HIb.out).mono ?_
            rintro e w13 ⟨v, rfl, hown, hb⟩
            obtain ⟨Au, cu, rfl, hI⟩ := ownsRow_ints hown
            have HIu := Lib.hid hI
            clear hown hI
            have HB13 := Lib.hid (HB12.out.trans (hb.mono HB12.out.size))
            clear HB12
            replace HL := Lib.hid (HL.out.upto hb)
            replace HO := Lib.hid (HO.out.upto hb)
            replace HM := Lib.hid (HM.out.upto hb)
            replace HIm := Lib.hid (HIm.out.upto hb)
            replace HIl := Lib.hid (HIl.out.upto hb)
            replace HIk := Lib.hid (HIk.out.upto hb)
            replace HIg := Lib.hid (HIg.out.upto hb)
            replace HIa := Lib.hid (HIa.out.upto hb)
            replace HIp := Lib.hid (HIp.out.upto hb)
            replace HIb := Lib.hid (HIb.out.upto hb)
            replace q0 := (hb.cell (p := ⟨w.heap.size, 0, none⟩) hz).trans q0
            replace q1 := (hb.cell (p := ⟨w.heap.size, 1, none⟩) hz).trans q1
            replace bm0 := (hb.cell (p := ⟨Bm, 0, none⟩) hzm).trans bm0
            replace bm1 := (hb.cell (p := ⟨Bm, 1, none⟩) hzm).trans bm1
            replace bk0 := (hb.cell (p := ⟨Bk, 0, none⟩) hzk).trans bk0
            replace bk1 := (hb.cell (p := ⟨Bk, 1, none⟩) hzk).trans bk1
            replace ba0 := (hb.cell (p := ⟨Ba, 0, none⟩) hza).trans ba0
            replace ba1 := (hb.cell (p := ⟨Ba, 1, none⟩) hza).trans ba1
            replace hz : w.heap.size < w13.heap.size := Nat.lt_of_lt_of_le hz hb.size
            replace hzm : Bm < w13.heap.size := Nat.lt_of_lt_of_le hzm hb.size
            replace hzk : Bk < w13.heap.size := Nat.lt_of_lt_of_le hzk hb.size
            replace hza : Ba < w13.heap.size := Nat.lt_of_lt_of_le hza hb.size
            clear hb
            go_wp2_with fail
            refine (KN.out _ _ _ HL.out HIu.out).mono ?_
            rintro e w14 ⟨Az, cz, Aq, cq, rfl, hown, hown2, hb⟩
            obtain ⟨A2, c2, he2, hI⟩ := ownsRow_linesR hown
            simp only [Value.slice.injEq] at he2
            obtain ⟨rfl, _, rfl⟩ := he2
            obtain ⟨A2, c2, he2, hJ⟩ := ownsRow_ints hown2
            simp only [Value.slice.injEq] at he2
            obtain ⟨rfl, _, rfl⟩ := he2
            have HIz := Lib.hid hI
            have HIq := Lib.hid hJ
            clear hown hI hown2 hJ
            have HB14 := Lib.hid (HB13.out.trans (hb.mono HB13.out.size))
            clear HB13
            replace HL := Lib.hid (HL.out.upto hb)
            replace HO := Lib.hid (HO.out.upto hb)
            replace HM := Lib.hid (HM.out.upto hb)
            replace HIm := Lib.hid (HIm.out.upto hb)
            replace HIl := Lib.hid (HIl.out.upto hb)
            replace HIk := Lib.hid (HIk.out.upto hb)
            replace HIg := Lib.hid (HIg.out.upto hb)
            replace HIa := Lib.hid (HIa.out.upto hb)
            replace HIp := Lib.hid (HIp.out.upto hb)
            replace HIb := Lib.hid (HIb.out.upto hb)
            replace HIu := Lib.hid (HIu.out.upto hb)
            replace q0 := (hb.cell (p := ⟨w.heap.size, 0, none⟩) hz).trans q0
            replace q1 := (hb.cell (p := ⟨w.heap.size, 1, none⟩) hz).trans q1
            replace bm0 := (hb.cell (p := ⟨Bm, 0, none⟩) hzm).trans bm0
            replace bm1 := (hb.cell (p := ⟨Bm, 1, none⟩) hzm).trans bm1
            replace bk0 := (hb.cell (p := ⟨Bk, 0, none⟩) hzk).trans bk0
            replace bk1 := (hb.cell (p := ⟨Bk, 1, none⟩) hzk).trans bk1
            replace ba0 := (hb.cell (p := ⟨Ba, 0, none⟩) hza).trans ba0
            replace ba1 := (hb.cell (p := ⟨Ba, 1, none⟩) hza).trans ba1
            replace hz : w.heap.size < w14.heap.size := Nat.lt_of_lt_of_le hz hb.size
            replace hzm : Bm < w14.heap.size := Nat.lt_of_lt_of_le hzm hb.size
            replace hzk : Bk < w14.heap.size := Nat.lt_of_lt_of_le hzk hb.size
            replace hza : Ba < w14.heap.size := Nat.lt_of_lt_of_le hza hb.size
            clear hb
            rw [has, hqp]
            go_upto_region 21 with fail
            have hb : Below w14.heap.size w14 (w14.alloc (.cells #[.int .i64 nb, .slice Az p.length cz] 24)) := (Below.refl _ _).alloc (Nat.le_refl _) _
            have bz0 : (w14.alloc (.cells #[.int .i64 nb, .slice Az p.length cz] 24)).cell? ⟨w14.heap.size, 0, none⟩ = some (.int .i64 nb) := cell_alloc_at _ _ _ _ _ rfl
            have bz1 : (w14.alloc (.cells #[.int .i64 nb, .slice Az p.length cz] 24)).cell? ⟨w14.heap.size, 1, none⟩ = some (.slice Az p.length cz) := cell_alloc_at _ _ _ _ _ rfl
            have hzz : w14.heap.size < (w14.alloc (.cells #[.int .i64 nb, .slice Az p.length cz] 24)).heap.size := by simp
            generalize hX : w14.alloc (.cells #[.int .i64 nb, .slice Az p.length cz] 24) = w15 at *
            clear hX
            have HB15 := Lib.hid (HB14.out.trans (hb.mono HB14.out.size))
            clear HB14
            replace HL := Lib.hid (HL.out.upto hb)
            replace HO := Lib.hid (HO.out.upto hb)
            replace HM := Lib.hid (HM.out.upto hb)
            replace HIm := Lib.hid (HIm.out.upto hb)
            replace HIl := Lib.hid (HIl.out.upto hb)
            replace HIk := Lib.hid (HIk.out.upto hb)
            replace HIg := Lib.hid (HIg.out.upto hb)
            replace HIa := Lib.hid (HIa.out.upto hb)
            replace HIp := Lib.hid (HIp.out.upto hb)
            replace HIb := Lib.hid (HIb.out.upto hb)
            replace HIu := Lib.hid (HIu.out.upto hb)
            replace HIz := Lib.hid (HIz.out.upto hb)
            replace HIq := Lib.hid (HIq.out.upto hb)
            replace q0 := (hb.cell (p := ⟨w.heap.size, 0, none⟩) hz).trans q0
            replace q1 := (hb.cell (p := ⟨w.heap.size, 1, none⟩) hz).trans q1
            replace bm0 := (hb.cell (p := ⟨Bm, 0, none⟩) hzm).trans bm0
            replace bm1 := (hb.cell (p := ⟨Bm, 1, none⟩) hzm).trans bm1
            replace bk0 := (hb.cell (p := ⟨Bk, 0, none⟩) hzk).trans bk0
            replace bk1 := (hb.cell (p := ⟨Bk, 1, none⟩) hzk).trans bk1
            replace ba0 := (hb.cell (p := ⟨Ba, 0, none⟩) hza).trans ba0
            replace ba1 := (hb.cell (p := ⟨Ba, 1, none⟩) hza).trans ba1
            replace hz : w.heap.size < w15.heap.size := Nat.lt_of_lt_of_le hz hb.size
            replace hzm : Bm < w15.heap.size := Nat.lt_of_lt_of_le hzm hb.size
            replace hzk : Bk < w15.heap.size := Nat.lt_of_lt_of_le hzk hb.size
            replace hza : Ba < w15.heap.size := Nat.lt_of_lt_of_le hza hb.size
            clear hb
            generalize w14.heap.size = Bz at *
            go_wp2_with fail
            refine (KF.out _ _ _ _ _ HIa.out HIz.out).mono ?_
            rintro e w16 ⟨rfl, hb⟩
            have HB16 := Lib.hid (HB15.out.trans (hb.mono HB15.out.size))
            clear HB15
            replace HL := Lib.hid (HL.out.upto hb)
            replace HO := Lib.hid (HO.out.upto hb)
            replace HM := Lib.hid (HM.out.upto hb)
            replace HIm := Lib.hid (HIm.out.upto hb)
            replace HIl := Lib.hid (HIl.out.upto hb)
            replace HIk := Lib.hid (HIk.out.upto hb)
            replace HIg := Lib.hid (HIg.out.upto hb)
            replace HIa := Lib.hid (HIa.out.upto hb)
            replace HIp := Lib.hid (HIp.out.upto hb)
            replace HIb := Lib.hid (HIb.out.upto hb)
            replace HIu := Lib.hid (HIu.out.upto hb)
            replace HIz := Lib.hid (HIz.out.upto hb)
            replace HIq := Lib.hid (HIq.out.upto hb)
            replace q0 := (hb.cell (p := ⟨w.heap.size, 0, none⟩) hz).trans q0
            replace q1 := (hb.cell (p := ⟨w.heap.size, 1, none⟩) hz).trans q1
            replace bm0 := (hb.cell (p := ⟨Bm, 0, none⟩) hzm).trans bm0
            replace bm1 := (hb.cell (p := ⟨Bm, 1, none⟩) hzm).trans bm1
            replace bk0 := (hb.cell (p := ⟨Bk, 0, none⟩) hzk).trans bk0
            replace bk1 := (hb.cell (p := ⟨Bk, 1, none⟩) hzk).trans bk1
            replace ba0 := (hb.cell (p := ⟨Ba, 0, none⟩) hza).trans ba0
            replace ba1 := (hb.cell (p := ⟨Ba, 1, none⟩) hza).trans ba1
            replace bz0 := (hb.cell (p := ⟨Bz, 0, none⟩) hzz).trans bz0
            replace bz1 := (hb.cell (p := ⟨Bz, 1, none⟩) hzz).trans bz1
            replace hz : w.heap.size < w16.heap.size := Nat.lt_of_lt_of_le hz hb.size
            replace hzm : Bm < w16.heap.size := Nat.lt_of_lt_of_le hzm hb.size
            replace hzk : Bk < w16.heap.size := Nat.lt_of_lt_of_le hzk hb.size
            replace hza : Ba < w16.heap.size := Nat.lt_of_lt_of_le hza hb.size
            replace hzz : Bz < w16.heap.size := Nat.lt_of_lt_of_le hzz hb.size
            clear hb
            go_wp2_with fail
            go_loopg [22] p.length (fun g i wr' => ∃ k : Nat, k + g = p.length ∧ i = .int .i64 k ∧ ∃ nq, w16.drewN nq = wr')
            case atStart => exact ⟨0, by omega, rfl, 0, rfl⟩
            case round =>
              obtain ⟨k, hkg, rfl, nq, rfl⟩ := hrel
              cases gk with
              | zero =>
                obtain rfl : k = p.length := by omega
                clear hkg
                go_wp2_with fail
                go_ret
                exact ⟨rfl, below_drewN HB16.out nq⟩
              | succ g =>
                have hk : k < p.length := by omega
                have HG := Lib.hid hkg
                clear hkg
                obtain ⟨j, hj1, hj, hj2⟩ := HPQ.out k hk
                obtain ⟨bp, offp, rfl, _, hcp⟩ := HIp.out (by omega)
                have ep := hcp k hk
                obtain ⟨bq, offq, rfl, _, hcq⟩ := HIq.out (by omega)
                have eq := hcq k (by omega)
                obtain ⟨bl, offl, rfl, _, hcl⟩ := HIl.out (by omega)
                have el := hcl j hj
                rw [hj1] at ep
                rw [← hj2] at eq
                have i1 : ¬ (j : Int) < 0 := by omega
                clear hcp hcq hcl hj1 hj2
                generalize sv.getD j 0 = y at *
                go_wp2_with fail
                refine region_quiet (fun jq => match jq with | 0 => .slice (some ⟨bp, offp, none⟩) p.length cp | 1 => .int .i64 (k : Int) | 2 => .pointer (some ⟨bp, offp + k, none⟩) | 3 => .int .i64 (j : Int) | 4 => .bool false | 5 => .bool false | 6 => .slice (some ⟨bp, offp, none⟩) p.length cp | 7 => .int .i64 (k : Int) | 8 => .pointer (some ⟨bp, offp + k, none⟩) | 9 => .int .i64 (j : Int) | 10 => .slice (some ⟨bl, offl, none⟩) sv.length cl | 11 => .int .i64 (sv.length : Int) | 12 => .bool false | 13 => .bool false | 14 => .bool false | 15 => .slice (some ⟨bl, offl, none⟩) sv.length cl | 16 => .slice (some ⟨bp, offp, none⟩) p.length cp | 17 => .int .i64 (k : Int) | 18 => .pointer (some ⟨bp, offp + k, none⟩) | 19 => .int .i64 (j : Int) | 20 => .pointer (some ⟨bl, offl + j, none⟩) | 21 => .int .i64 y | 22 => .slice (some ⟨bq, offq, none⟩) p.length cq | 23 => .int .i64 (k : Int) | 24 => .pointer (some ⟨bq, offq + k, none⟩) | 25 => .int .i64 y | 26 => .bool false | 27 => .bool false | _ => undef) (by kernel_rfl) (by kernel_rfl) ?_ ?_
                · intro i o ho a hdep hrest hgd
                  have r8 : a.eval (.tmp 8) = .slice (some ⟨bl, offl, none⟩) sv.length cl := hrest 8 (apart_of (by kernel_rfl))
                  have r14 : a.eval (.tmp 14) = .slice (some ⟨bp, offp, none⟩) p.length cp := hrest 14 (apart_of (by kernel_rfl))
                  have r20 : a.eval (.tmp 20) = .slice (some ⟨bq, offq, none⟩) p.length cq := hrest 20 (apart_of (by kernel_rfl))
                  have r22 : a.eval (.tmp 22) = .int .i64 (k : Int) := hrest 22 (apart_of (by kernel_rfl))
                  have hc : ∀ v, a.eval (.const v) = v := fun _ => rfl
                  clear hrest
                  rcases i with _ | _ | _ | _ | _ | _ | _ | _ | _ | _ | _ | _ | _ | _ | _ | _ | _ | _ | _ | _ | _ | _ | _ | _ | _ | _ | _ | _ | i
                  · injection ho with ho
                    subst ho
                    clear hdep hgd
                    refine ⟨fun _ => ?_, fun hw => by simp [Region.wanted] at hw⟩
                    generalize a.eval = ρ at *
                    simp [go_sem, r14]
                  · injection ho with ho
                    subst ho
                    clear hdep hgd
                    refine ⟨fun _ => ?_, fun hw => by simp [Region.wanted] at hw⟩
                    generalize a.eval = ρ at *
                    simp [go_sem, r22]
                  · injection ho with ho
                    subst ho
                    have e0 : a.eval (.tmp 173) = .slice (some ⟨bp, offp, none⟩) p.length cp := hdep ⟨0, .data⟩ (by simp) rfl _ _ rfl rfl
                    have e1 : a.eval (.tmp 174) = .int .i64 (k : Int) := hdep ⟨1, .data⟩ (by simp) rfl _ _ rfl rfl
                    clear hdep hgd
                    refine ⟨fun _ => ?_, fun hw => by simp [Region.wanted] at hw⟩
                    generalize a.eval = ρ at *
                    simp [go_sem, e0, e1, hk]
                  · injection ho with ho
                    subst ho
                    have e2 : a.eval (.tmp 175) = .pointer (some ⟨bp, offp + k, none⟩) := hdep ⟨2, .data⟩ (by simp) rfl _ _ rfl rfl
                    clear hdep hgd
                    refine ⟨fun _ => ?_, fun hw => by simp [Region.wanted] at hw⟩
                    generalize a.eval = ρ at *
                    simp [go_sem, e2, ep]
                  · injection ho with ho
                    subst ho
                    have e3 : a.eval (.tmp 176) = .int .i64 (j : Int) := hdep ⟨3, .data⟩ (by simp) rfl _ _ rfl rfl
                    clear hdep hgd
                    refine ⟨fun _ => ?_, fun hw => by simp [Region.wanted] at hw⟩
                    generalize a.eval = ρ at *
                    simp [go_sem, e3, i1, hc]
                  · injection ho with ho
                    subst ho
                    have e4 : a.eval (.tmp 177) = .bool false := hdep ⟨4, .data⟩ (by simp) rfl _ _ rfl rfl
                    clear hdep hgd
                    refine ⟨fun _ => ?_, fun hw => by simp [Region.wanted] at hw⟩
                    generalize a.eval = ρ at *
                    simp [go_sem, e4]
                  · injection ho with ho
                    subst ho
                    have h8 : a.tmps.getD 178 undef = .bool false := hdep ⟨5, .guard⟩ (by simp) rfl _ _ rfl rfl
                    have hwd := hgd 5 false rfl _ _ rfl rfl false h8
                    clear hdep hgd
                    refine ⟨fun _ => ?_, fun hw => (by rw [hwd] at hw; cases hw)⟩
                    clear h8 hwd
                    generalize a.eval = ρ at *
                    simp [go_sem, r14]
                  · injection ho with ho
                    subst ho
                    have h8 : a.tmps.getD 178 undef = .bool false := hdep ⟨5, .guard⟩ (by simp) rfl _ _ rfl rfl
                    have hwd := hgd 5 false rfl _ _ rfl rfl false h8
                    clear hdep hgd
                    refine ⟨fun _ => ?_, fun hw => (by rw [hwd] at hw; cases hw)⟩
                    clear h8 hwd
                    generalize a.eval = ρ at *
                    simp [go_sem, r22]
                  · injection ho with ho
                    subst ho
                    have e6 : a.eval (.tmp 179) = .slice (some ⟨bp, offp, none⟩) p.length cp := hdep ⟨6, .data⟩ (by simp) rfl _ _ rfl rfl
                    have e7 : a.eval (.tmp 180) = .int .i64 (k : Int) := hdep ⟨7, .data⟩ (by simp) rfl _ _ rfl rfl
                    have h8 : a.tmps.getD 178 undef = .bool false := hdep ⟨5, .guard⟩ (by simp) rfl _ _ rfl rfl
                    have hwd := hgd 5 false rfl _ _ rfl rfl false h8
                    clear hdep hgd
                    refine ⟨fun _ => ?_, fun hw => (by rw [hwd] at hw; cases hw)⟩
                    clear h8 hwd
                    generalize a.eval = ρ at *
                    simp [go_sem, e6, e7, hk]
                  · injection ho with ho
                    subst ho
                    have e8 : a.eval (.tmp 181) = .pointer (some ⟨bp, offp + k, none⟩) := hdep ⟨8, .data⟩ (by simp) rfl _ _ rfl rfl
                    have h8 : a.tmps.getD 178 undef = .bool false := hdep ⟨5, .guard⟩ (by simp) rfl _ _ rfl rfl
                    have hwd := hgd 5 false rfl _ _ rfl rfl false h8
                    clear hdep hgd
                    refine ⟨fun _ => ?_, fun hw => (by rw [hwd] at hw; cases hw)⟩
                    clear h8 hwd
                    generalize a.eval = ρ at *
                    simp [go_sem, e8, ep]
                  · injection ho with ho
                    subst ho
                    have h8 : a.tmps.getD 178 undef = .bool false := hdep ⟨5, .guard⟩ (by simp) rfl _ _ rfl rfl
                    have hwd := hgd 5 false rfl _ _ rfl rfl false h8
                    clear hdep hgd
                    refine ⟨fun _ => ?_, fun hw => (by rw [hwd] at hw; cases hw)⟩
                    clear h8 hwd
                    generalize a.eval = ρ at *
                    simp [go_sem, r8]
                  · injection ho with ho
                    subst ho
                    have e10 : a.eval (.tmp 183) = .slice (some ⟨bl, offl, none⟩) sv.length cl := hdep ⟨10, .data⟩ (by simp) rfl _ _ rfl rfl
                    have h8 : a.tmps.getD 178 undef = .bool false := hdep ⟨5, .guard⟩ (by simp) rfl _ _ rfl rfl
                    have hwd := hgd 5 false rfl _ _ rfl rfl false h8
                    clear hdep hgd
                    refine ⟨fun _ => ?_, fun hw => (by rw [hwd] at hw; cases hw)⟩
                    clear h8 hwd
                    generalize a.eval = ρ at *
                    simp [go_sem, e10]
                  · injection ho with ho
                    subst ho
                    have e9 : a.eval (.tmp 182) = .int .i64 (j : Int) := hdep ⟨9, .data⟩ (by simp) rfl _ _ rfl rfl
                    have e11 : a.eval (.tmp 184) = .int .i64 (sv.length : Int) := hdep ⟨11, .data⟩ (by simp) rfl _ _ rfl rfl
                    have h8 : a.tmps.getD 178 undef = .bool false := hdep ⟨5, .guard⟩ (by simp) rfl _ _ rfl rfl
                    have hwd := hgd 5 false rfl _ _ rfl rfl false h8
                    clear hdep hgd
                    refine ⟨fun _ => ?_, fun hw => (by rw [hwd] at hw; cases hw)⟩
                    clear h8 hwd
                    generalize a.eval = ρ at *
                    simp [go_sem, e9, e11, hj]
                  · injection ho with ho
                    subst ho
                    have e5 : a.eval (.tmp 178) = .bool false := hdep ⟨5, .data⟩ (by simp) rfl _ _ rfl rfl
                    have e12 : a.eval (.tmp 185) = .bool false := hdep ⟨12, .data⟩ (by simp) rfl _ _ rfl rfl
                    clear hdep hgd
                    refine ⟨fun _ => ?_, fun hw => by simp [Region.wanted] at hw⟩
                    generalize a.eval = ρ at *
                    simp [go_sem, e5, e12, hc]
                  · injection ho with ho
                    subst ho
                    have e13 : a.eval (.tmp 186) = .bool false := hdep ⟨13, .data⟩ (by simp) rfl _ _ rfl rfl
                    clear hdep hgd
                    refine ⟨fun _ => ?_, fun hw => by simp [Region.wanted] at hw⟩
                    generalize a.eval = ρ at *
                    simp [go_sem, e13]
                  · injection ho with ho
                    subst ho
                    have h8 : a.tmps.getD 187 undef = .bool false := hdep ⟨14, .guard⟩ (by simp) rfl _ _ rfl rfl
                    have hwd := hgd 14 false rfl _ _ rfl rfl false h8
                    clear hdep hgd
                    refine ⟨fun _ => ?_, fun hw => (by rw [hwd] at hw; cases hw)⟩
                    clear h8 hwd
                    generalize a.eval = ρ at *
                    simp [go_sem, r8]
                  · injection ho with ho
                    subst ho
                    have h8 : a.tmps.getD 187 undef = .bool false := hdep ⟨14, .guard⟩ (by simp) rfl _ _ rfl rfl
                    have hwd := hgd 14 false rfl _ _ rfl rfl false h8
                    clear hdep hgd
                    refine ⟨fun _ => ?_, fun hw => (by rw [hwd] at hw; cases hw)⟩
                    clear h8 hwd
                    generalize a.eval = ρ at *
                    simp [go_sem, r14]
                  · injection ho with ho
                    subst ho
                    have h8 : a.tmps.getD 187 undef = .bool false := hdep ⟨14, .guard⟩ (by simp) rfl _ _ rfl rfl
                    have hwd := hgd 14 false rfl _ _ rfl rfl false h8
                    clear hdep hgd
                    refine ⟨fun _ => ?_, fun hw => (by rw [hwd] at hw; cases hw)⟩
                    clear h8 hwd
                    generalize a.eval = ρ at *
                    simp [go_sem, r22]
                  · injection ho with ho
                    subst ho
                    have e16 : a.eval (.tmp 189) = .slice (some ⟨bp, offp, none⟩) p.length cp := hdep ⟨16, .data⟩ (by simp) rfl _ _ rfl rfl
                    have e17 : a.eval (.tmp 190) = .int .i64 (k : Int) := hdep ⟨17, .data⟩ (by simp) rfl _ _ rfl rfl
                    have h8 : a.tmps.getD 187 undef = .bool false := hdep ⟨14, .guard⟩ (by simp) rfl _ _ rfl rfl
                    have hwd := hgd 14 false rfl _ _ rfl rfl false h8
                    clear hdep hgd
                    refine ⟨fun _ => ?_, fun hw => (by rw [hwd] at hw; cases hw)⟩
                    clear h8 hwd
                    generalize a.eval = ρ at *
                    simp [go_sem, e16, e17, hk]
                  · injection ho with ho
                    subst ho
                    have e18 : a.eval (.tmp 191) = .pointer (some ⟨bp, offp + k, none⟩) := hdep ⟨18, .data⟩ (by simp) rfl _ _ rfl rfl
                    have h8 : a.tmps.getD 187 undef = .bool false := hdep ⟨14, .guard⟩ (by simp) rfl _ _ rfl rfl
                    have hwd := hgd 14 false rfl _ _ rfl rfl false h8
                    clear hdep hgd
                    refine ⟨fun _ => ?_, fun hw => (by rw [hwd] at hw; cases hw)⟩
                    clear h8 hwd
                    generalize a.eval = ρ at *
                    simp [go_sem, e18, ep]
                  · injection ho with ho
                    subst ho
                    have e15 : a.eval (.tmp 188) = .slice (some ⟨bl, offl, none⟩) sv.length cl := hdep ⟨15, .data⟩ (by simp) rfl _ _ rfl rfl
                    have e19 : a.eval (.tmp 192) = .int .i64 (j : Int) := hdep ⟨19, .data⟩ (by simp) rfl _ _ rfl rfl
                    have h8 : a.tmps.getD 187 undef = .bool false := hdep ⟨14, .guard⟩ (by simp) rfl _ _ rfl rfl
                    have hwd := hgd 14 false rfl _ _ rfl rfl false h8
                    clear hdep hgd
                    refine ⟨fun _ => ?_, fun hw => (by rw [hwd] at hw; cases hw)⟩
                    clear h8 hwd
                    generalize a.eval = ρ at *
                    simp [go_sem, e15, e19, hj]
                  · injection ho with ho
                    subst ho
                    have e20 : a.eval (.tmp 193) = .pointer (some ⟨bl, offl + j, none⟩) := hdep ⟨20, .data⟩ (by simp) rfl _ _ rfl rfl
                    have h8 : a.tmps.getD 187 undef = .bool false := hdep ⟨14, .guard⟩ (by simp) rfl _ _ rfl rfl
                    have hwd := hgd 14 false rfl _ _ rfl rfl false h8
                    clear hdep hgd
                    refine ⟨fun _ => ?_, fun hw => (by rw [hwd] at hw; cases hw)⟩
                    clear h8 hwd
                    generalize a.eval = ρ at *
                    simp [go_sem, e20, el]
                  · injection ho with ho
                    subst ho
                    have h8 : a.tmps.getD 187 undef = .bool false := hdep ⟨14, .guard⟩ (by simp) rfl _ _ rfl rfl
                    have hwd := hgd 14 false rfl _ _ rfl rfl false h8
                    clear hdep hgd
                    refine ⟨fun _ => ?_, fun hw => (by rw [hwd] at hw; cases hw)⟩
                    clear h8 hwd
                    generalize a.eval = ρ at *
                    simp [go_sem, r20]
                  · injection ho with ho
                    subst ho
                    have h8 : a.tmps.getD 187 undef = .bool false := hdep ⟨14, .guard⟩ (by simp) rfl _ _ rfl rfl
                    have hwd := hgd 14 false rfl _ _ rfl rfl false h8
                    clear hdep hgd
                    refine ⟨fun _ => ?_, fun hw => (by rw [hwd] at hw; cases hw)⟩
                    clear h8 hwd
                    generalize a.eval = ρ at *
                    simp [go_sem, r22]
                  · injection ho with ho
                    subst ho
                    have e22 : a.eval (.tmp 195) = .slice (some ⟨bq, offq, none⟩) p.length cq := hdep ⟨22, .data⟩ (by simp) rfl _ _ rfl rfl
                    have e23 : a.eval (.tmp 196) = .int .i64 (k : Int) := hdep ⟨23, .data⟩ (by simp) rfl _ _ rfl rfl
                    have h8 : a.tmps.getD 187 undef = .bool false := hdep ⟨14, .guard⟩ (by simp) rfl _ _ rfl rfl
                    have hwd := hgd 14 false rfl _ _ rfl rfl false h8
                    clear hdep hgd
                    refine ⟨fun _ => ?_, fun hw => (by rw [hwd] at hw; cases hw)⟩
                    clear h8 hwd
                    generalize a.eval = ρ at *
                    simp [go_sem, e22, e23, hk]
                  · injection ho with ho
                    subst ho
                    have e24 : a.eval (.tmp 197) = .pointer (some ⟨bq, offq + k, none⟩) := hdep ⟨24, .data⟩ (by simp) rfl _ _ rfl rfl
                    have h8 : a.tmps.getD 187 undef = .bool false := hdep ⟨14, .guard⟩ (by simp) rfl _ _ rfl rfl
                    have hwd := hgd 14 false rfl _ _ rfl rfl false h8
                    clear hdep hgd
                    refine ⟨fun _ => ?_, fun hw => (by rw [hwd] at hw; cases hw)⟩
                    clear h8 hwd
                    generalize a.eval = ρ at *
                    simp [go_sem, e24, eq]
                  · injection ho with ho
                    subst ho
                    have e21 : a.eval (.tmp 194) = .int .i64 y := hdep ⟨21, .data⟩ (by simp) rfl _ _ rfl rfl
                    have e25 : a.eval (.tmp 198) = .int .i64 y := hdep ⟨25, .data⟩ (by simp) rfl _ _ rfl rfl
                    have h8 : a.tmps.getD 187 undef = .bool false := hdep ⟨14, .guard⟩ (by simp) rfl _ _ rfl rfl
                    have hwd := hgd 14 false rfl _ _ rfl rfl false h8
                    clear hdep hgd
                    refine ⟨fun _ => ?_, fun hw => (by rw [hwd] at hw; cases hw)⟩
                    clear h8 hwd
                    generalize a.eval = ρ at *
                    simp [go_sem, e21, e25]
                  · injection ho with ho
                    subst ho
                    have e14 : a.eval (.tmp 187) = .bool false := hdep ⟨14, .data⟩ (by simp) rfl _ _ rfl rfl
                    have e26 : a.eval (.tmp 199) = .bool false := hdep ⟨26, .data⟩ (by simp) rfl _ _ rfl rfl
                    clear hdep hgd
                    refine ⟨fun _ => ?_, fun hw => by simp [Region.wanted] at hw⟩
                    generalize a.eval = ρ at *
                    simp [go_sem, e14, e26, hc]
                  · simp at ho
                simp only [putAll, Act.put, List.setIfInBounds_toArray, List.set_cons_zero, List.set_cons_succ, Nat.reduceAdd]
                go_wp2_with fail
                go_roundg g
                case measure => omega
                case rel => exact ⟨k + 1, by have := HG.out; omega, by go_num, nq + 1, rfl⟩
          | succ g =>
            have hk : k < more.length := by omega
            have HG := Lib.hid hkg
            clear hkg
            obtain ⟨j, hj1, hj, hj2⟩ := HMO.out k hk
            obtain ⟨bm, offm, rfl, hbm, hcm⟩ := HM.out (by omega)
            have em := (HBW.out.cell (p := ⟨bm, offm + k, none⟩) hbm).trans (hcm k hk)
            obtain ⟨bl, offl, rfl, hbl, hcl⟩ := HIl.out (by omega)
            have el := (HBW.out.cell (p := ⟨bl, offl + j, none⟩) hbl).trans (hcl j hj)
            rw [hj1] at em
            have htk : bt.take (k + 1) = bt.take k ++ [sv.getD j 0] := by rw [List.take_succ_eq_append_getElem (by omega), hj2, getD_eq _ _ _ (by omega)]
            have HTK := Lib.hid htk
            have i1 : decide ((j : Int) < 0) = false := decide_eq_false (by omega)
            have i2 : decide ((sv.length : Int) ≤ (j : Int)) = false := decide_eq_false (by omega)
            clear hcm hcl hj1 hj2 htk
            generalize sv.getD j 0 = y at *
            go_wp2_with (at_builtin; refine wpList_append_own _ rfl _ _ 25 rfl w11.heap.size 3 i0 (.int .i64 0) 1 8 Try.underlying25 hi0 hz0 hz1 hz2 rfl (by decide) _ _ _ rfl (hrow.alloc _) ⟨wr.heap.size, 0, none⟩ 1 1 [.int .i64 y] rfl rfl (cell_one_new _ _ _) (by simp [Value.oneCell']) (by unfold maxLen; omega) (by omega) (by simp; omega) ?_; intro v' w2 hown' hgrow _)
            have hb2 := below_append hrow hsz hgrow
            have HOWN := Lib.hid hown'
            clear hgrow hrow hown'
            go_wp2_with fail
            go_roundg g
            case measure => omega
            case rel => exact ⟨k + 1, by have := HG.out; omega, by go_num, by rw [HTK.out]; simpa using HOWN.out, HBW.out.trans hb2⟩
      · rw [stripNb, stripL, stripK, if_neg hem, if_neg hem, if_neg hem, hms] at km
        rw [hms] at ko
        clear hmo
        have b2 : (outsE nb (pick ls (svcL out ls.length)) more != 0) = true := by rw [bne_iff_ne]; exact hem
        have b3 : (outsE nb (pick ls (svcL out ls.length)) more == outsE nb (pick ls (svcL out ls.length)) more) = true := by simp
        clear hem he hob hck hin hcm
        generalize outsE nb (pick ls (svcL out ls.length)) more = er at *
        generalize pick ls (svcL out ls.length) = ms at *
        generalize svcL out ls.length = sv at *
        have KM := Lib.hid km
        have KO := Lib.hid ko
        clear km ko
        have HB0 := Lib.hid (Below.refl w.heap.size w)
        go_enter Try.func8, Try.ntmps8
        go_wp2_with fail
        have hb := below_alloc2 w (.cells #[.int .i64 nb, .slice A ls.length c] 24) (.cells #[.slice O out.length co, .slice M more.length cM] 25)
        have q0 : ((w.alloc (.cells #[.int .i64 nb, .slice A ls.length c] 24)).alloc (.cells #[.slice O out.length co, .slice M more.length cM] 25)).cell? ⟨w.heap.size, 0, none⟩ = some (.int .i64 nb) := by simp
        have q1 : ((w.alloc (.cells #[.int .i64 nb, .slice A ls.length c] 24)).alloc (.cells #[.slice O out.length co, .slice M more.length cM] 25)).cell? ⟨w.heap.size, 1, none⟩ = some (.slice A ls.length c) := by simp
        have hz : w.heap.size < ((w.alloc (.cells #[.int .i64 nb, .slice A ls.length c] 24)).alloc (.cells #[.slice O out.length co, .slice M more.length cM] 25)).heap.size := by simp; omega
        have HB1 := Lib.hid (HB0.out.trans (hb.mono HB0.out.size))
        clear HB0
        replace HL := Lib.hid (HL.out.upto hb)
        replace HO := Lib.hid (HO.out.upto hb)
        replace HM := Lib.hid (HM.out.upto hb)
        clear hb
        refine (KL.out (w.alloc (.cells #[.int .i64 nb, .slice A ls.length c] 24)) _ (by simp)).mono ?_
        rintro e w2 ⟨rfl, hb⟩
        rw [← World.size_alloc (w.alloc (.cells #[.int .i64 nb, .slice A ls.length c] 24)) (.cells #[.slice O out.length co, .slice M more.length cM] 25)] at hb
        have HB2 := Lib.hid (HB1.out.trans (hb.mono HB1.out.size))
        clear HB1
        replace HL := Lib.hid (HL.out.upto hb)
        replace HO := Lib.hid (HO.out.upto hb)
        replace HM := Lib.hid (HM.out.upto hb)
        replace q0 := (hb.cell (p := ⟨w.heap.size, 0, none⟩) hz).trans q0
        replace q1 := (hb.cell (p := ⟨w.heap.size, 1, none⟩) hz).trans q1
        replace hz : w.heap.size < w2.heap.size := Nat.lt_of_lt_of_le hz hb.size
        clear hb
        go_wp2_with fail
        refine (awake14_any _).mono ?_
        rintro e w3 ⟨rfl, hb⟩
        have HB3 := Lib.hid (HB2.out.trans (hb.mono HB2.out.size))
        clear HB2
        replace HL := Lib.hid (HL.out.upto hb)
        replace HO := Lib.hid (HO.out.upto hb)
        replace HM := Lib.hid (HM.out.upto hb)
        replace q0 := (hb.cell (p := ⟨w.heap.size, 0, none⟩) hz).trans q0
        replace q1 := (hb.cell (p := ⟨w.heap.size, 1, none⟩) hz).trans q1
        replace hz : w.heap.size < w3.heap.size := Nat.lt_of_lt_of_le hz hb.size
        clear hb
        go_wp2_with fail
        refine (KS.out _ HL.out HO.out).mono ?_
        rintro e w4 ⟨Am, cm, Al, cl, rfl, hown, hown2, hb⟩
        obtain ⟨A2, c2, he2, hI⟩ := ownsRow_linesR hown
        simp only [Value.slice.injEq] at he2
        obtain ⟨rfl, _, rfl⟩ := he2
        obtain ⟨A2, c2, he2, hJ⟩ := ownsRow_ints hown2
        simp only [Value.slice.injEq] at he2
        obtain ⟨rfl, _, rfl⟩ := he2
        have HIm := Lib.hid hI
        have HIl := Lib.hid hJ
        clear hown hI hown2 hJ
        have HB4 := Lib.hid (HB3.out.trans (hb.mono HB3.out.size))
        clear HB3
        replace HL := Lib.hid (HL.out.upto hb)
        replace HO := Lib.hid (HO.out.upto hb)
        replace HM := Lib.hid (HM.out.upto hb)
        replace q0 := (hb.cell (p := ⟨w.heap.size, 0, none⟩) hz).trans q0
        replace q1 := (hb.cell (p := ⟨w.heap.size, 1, none⟩) hz).trans q1
        replace hz : w.heap.size < w4.heap.size := Nat.lt_of_lt_of_le hz hb.size
        clear hb
        rw [hms]
        go_upto_region 4 with fail
        have hb : Below w4.heap.size w4 (w4.alloc (.cells #[.int .i64 nb, .slice Am sv.length cm] 24)) := (Below.refl _ _).alloc (Nat.le_refl _) _
        have bm0 : (w4.alloc (.cells #[.int .i64 nb, .slice Am sv.length cm] 24)).cell? ⟨w4.heap.size, 0, none⟩ = some (.int .i64 nb) := cell_alloc_at _ _ _ _ _ rfl
        have bm1 : (w4.alloc (.cells #[.int .i64 nb, .slice Am sv.length cm] 24)).cell? ⟨w4.heap.size, 1, none⟩ = some (.slice Am sv.length cm) := cell_alloc_at _ _ _ _ _ rfl
        have hzm : w4.heap.size < (w4.alloc (.cells #[.int .i64 nb, .slice Am sv.length cm] 24)).heap.size := by simp
        generalize hX : w4.alloc (.cells #[.int .i64 nb, .slice Am sv.length cm] 24) = w5 at *
        clear hX
        have HB5 := Lib.hid (HB4.out.trans (hb.mono HB4.out.size))
        clear HB4
        replace HL := Lib.hid (HL.out.upto hb)
        replace HO := Lib.hid (HO.out.upto hb)
        replace HM := Lib.hid (HM.out.upto hb)
        replace HIm := Lib.hid (HIm.out.upto hb)
        replace HIl := Lib.hid (HIl.out.upto hb)
        replace q0 := (hb.cell (p := ⟨w.heap.size, 0, none⟩) hz).trans q0
        replace q1 := (hb.cell (p := ⟨w.heap.size, 1, none⟩) hz).trans q1
        replace hz : w.heap.size < w5.heap.size := Nat.lt_of_lt_of_le hz hb.size
        clear hb
        generalize w4.heap.size = Bm at *
        go_wp2_with fail
        refine (K0.out _ _ _ HIm.out (fun h => absurd h (by simp))).mono ?_
        rintro e w6 ⟨Ak, ck, Ag, cg, rfl, hown, hown2, hb⟩
        obtain ⟨A2, c2, he2, hI⟩ := ownsRow_linesR hown
        simp only [Value.slice.injEq] at he2
        obtain ⟨rfl, _, rfl⟩ := he2
        obtain ⟨A2, c2, he2, hJ⟩ := ownsRow_ints hown2
        simp only [Value.slice.injEq] at he2
        obtain ⟨rfl, _, rfl⟩ := he2
        have HIk := Lib.hid hI
        have HIg := Lib.hid hJ
        clear hown hI hown2 hJ
        have HB6 := Lib.hid (HB5.out.trans (hb.mono HB5.out.size))
        clear HB5
        replace HL := Lib.hid (HL.out.upto hb)
        replace HO := Lib.hid (HO.out.upto hb)
        replace HM := Lib.hid (HM.out.upto hb)
        replace HIm := Lib.hid (HIm.out.upto hb)
        replace HIl := Lib.hid (HIl.out.upto hb)
        replace q0 := (hb.cell (p := ⟨w.heap.size, 0, none⟩) hz).trans q0
        replace q1 := (hb.cell (p := ⟨w.heap.size, 1, none⟩) hz).trans q1
        replace bm0 := (hb.cell (p := ⟨Bm, 0, none⟩) hzm).trans bm0
        replace bm1 := (hb.cell (p := ⟨Bm, 1, none⟩) hzm).trans bm1
        replace hz : w.heap.size < w6.heap.size := Nat.lt_of_lt_of_le hz hb.size
        replace hzm : Bm < w6.heap.size := Nat.lt_of_lt_of_le hzm hb.size
        clear hb
        rw [hms, hrg]
        go_upto_region 7 with fail
        have hb : Below w6.heap.size w6 (w6.alloc (.cells #[.int .i64 nb, .slice Ak sv.length ck] 24)) := (Below.refl _ _).alloc (Nat.le_refl _) _
        have bk0 : (w6.alloc (.cells #[.int .i64 nb, .slice Ak sv.length ck] 24)).cell? ⟨w6.heap.size, 0, none⟩ = some (.int .i64 nb) := cell_alloc_at _ _ _ _ _ rfl
        have bk1 : (w6.alloc (.cells #[.int .i64 nb, .slice Ak sv.length ck] 24)).cell? ⟨w6.heap.size, 1, none⟩ = some (.slice Ak sv.length ck) := cell_alloc_at _ _ _ _ _ rfl
        have hzk : w6.heap.size < (w6.alloc (.cells #[.int .i64 nb, .slice Ak sv.length ck] 24)).heap.size := by simp
        generalize hX : w6.alloc (.cells #[.int .i64 nb, .slice Ak sv.length ck] 24) = w7 at *
        clear hX
        have HB7 := Lib.hid (HB6.out.trans (hb.mono HB6.out.size))
        clear HB6
        replace HL := Lib.hid (HL.out.upto hb)
        replace HO := Lib.hid (HO.out.upto hb)
        replace HM := Lib.hid (HM.out.upto hb)
        replace HIm := Lib.hid (HIm.out.upto hb)
        replace HIl := Lib.hid (HIl.out.upto hb)
        replace HIk := Lib.hid (HIk.out.upto hb)
        replace HIg := Lib.hid (HIg.out.upto hb)
        replace q0 := (hb.cell (p := ⟨w.heap.size, 0, none⟩) hz).trans q0
        replace q1 := (hb.cell (p := ⟨w.heap.size, 1, none⟩) hz).trans q1
        replace bm0 := (hb.cell (p := ⟨Bm, 0, none⟩) hzm).trans bm0
        replace bm1 := (hb.cell (p := ⟨Bm, 1, none⟩) hzm).trans bm1
        replace hz : w.heap.size < w7.heap.size := Nat.lt_of_lt_of_le hz hb.size
        replace hzm : Bm < w7.heap.size := Nat.lt_of_lt_of_le hzm hb.size
        clear hb
        generalize w6.heap.size = Bk at *
        go_wp2_with fail
        refine (KC.out _ _ _ HIm.out).mono ?_
        rintro e w8 ⟨rfl, hb⟩
        have HB8 := Lib.hid (HB7.out.trans (hb.mono HB7.out.size))
        clear HB7
        replace HL := Lib.hid (HL.out.upto hb)
        replace HO := Lib.hid (HO.out.upto hb)
        replace HM := Lib.hid (HM.out.upto hb)
        replace HIm := Lib.hid (HIm.out.upto hb)
        replace HIl := Lib.hid (HIl.out.upto hb)
        replace HIk := Lib.hid (HIk.out.upto hb)
        replace HIg := Lib.hid (HIg.out.upto hb)
        replace q0 := (hb.cell (p := ⟨w.heap.size, 0, none⟩) hz).trans q0
        replace q1 := (hb.cell (p := ⟨w.heap.size, 1, none⟩) hz).trans q1
        replace bm0 := (hb.cell (p := ⟨Bm, 0, none⟩) hzm).trans bm0
        replace bm1 := (hb.cell (p := ⟨Bm, 1, none⟩) hzm).trans bm1
        replace bk0 := (hb.cell (p := ⟨Bk, 0, none⟩) hzk).trans bk0
        replace bk1 := (hb.cell (p := ⟨Bk, 1, none⟩) hzk).trans bk1
        replace hz : w.heap.size < w8.heap.size := Nat.lt_of_lt_of_le hz hb.size
        replace hzm : Bm < w8.heap.size := Nat.lt_of_lt_of_le hzm hb.size
        replace hzk : Bk < w8.heap.size := Nat.lt_of_lt_of_le hzk hb.size
        clear hb
        go_wp2_with fail
        refine (KE.out _ _ _ _ _ HIk.out HIm.out).mono ?_
        rintro e w9 ⟨rfl, hb⟩
        have HB9 := Lib.hid (HB8.out.trans (hb.mono HB8.out.size))
        clear HB8
        replace HL := Lib.hid (HL.out.upto hb)
        replace HO := Lib.hid (HO.out.upto hb)
        replace HM := Lib.hid (HM.out.upto hb)
        replace HIm := Lib.hid (HIm.out.upto hb)
        replace HIl := Lib.hid (HIl.out.upto hb)
        replace HIk := Lib.hid (HIk.out.upto hb)
        replace HIg := Lib.hid (HIg.out.upto hb)
        replace q0 := (hb.cell (p := ⟨w.heap.size, 0, none⟩) hz).trans q0
        replace q1 := (hb.cell (p := ⟨w.heap.size, 1, none⟩) hz).trans q1
        replace bm0 := (hb.cell (p := ⟨Bm, 0, none⟩) hzm).trans bm0
        replace bm1 := (hb.cell (p := ⟨Bm, 1, none⟩) hzm).trans bm1
        replace bk0 := (hb.cell (p := ⟨Bk, 0, none⟩) hzk).trans bk0
        replace bk1 := (hb.cell (p := ⟨Bk, 1, none⟩) hzk).trans bk1
        replace hz : w.heap.size < w9.heap.size := Nat.lt_of_lt_of_le hz hb.size
        replace hzm : Bm < w9.heap.size := Nat.lt_of_lt_of_le hzm hb.size
        replace hzk : Bk < w9.heap.size := Nat.lt_of_lt_of_le hzk hb.size
        clear hb
        go_wp2_with fail
        refine (KM.out _ _ _ HIm.out HM.out).mono ?_
        rintro e w10 ⟨Aa, ca, Ap, cp, rfl, hown, hown2, hb⟩
        obtain ⟨A2, c2, he2, hI⟩ := ownsRow_linesR hown
        simp only [Value.slice.injEq] at he2
        obtain ⟨rfl, _, rfl⟩ := he2
        obtain ⟨A2, c2, he2, hJ⟩ := ownsRow_ints hown2
        simp only [Value.slice.injEq] at he2
        obtain ⟨rfl, _, rfl⟩ := he2
        have HIa := Lib.hid hI
        have HIp := Lib.hid hJ
        clear hown hI hown2 hJ
        have HB10 := Lib.hid (HB9.out.trans (hb.mono HB9.out.size))
        clear HB9
        replace HL := Lib.hid (HL.out.upto hb)
        replace HO := Lib.hid (HO.out.upto hb)
        replace HM := Lib.hid (HM.out.upto hb)
        replace HIm := Lib.hid (HIm.out.upto hb)
        replace HIl := Lib.hid (HIl.out.upto hb)
        replace HIk := Lib.hid (HIk.out.upto hb)
        replace HIg := Lib.hid (HIg.out.upto hb)
        replace q0 := (hb.cell (p := ⟨w.heap.size, 0, none⟩) hz).trans q0
        replace q1 := (hb.cell (p := ⟨w.heap.size, 1, none⟩) hz).trans q1
        replace bm0 := (hb.cell (p := ⟨Bm, 0, none⟩) hzm).trans bm0
        replace bm1 := (hb.cell (p := ⟨Bm, 1, none⟩) hzm).trans bm1
        replace bk0 := (hb.cell (p := ⟨Bk, 0, none⟩) hzk).trans bk0
        replace bk1 := (hb.cell (p := ⟨Bk, 1, none⟩) hzk).trans bk1
        replace hz : w.heap.size < w10.heap.size := Nat.lt_of_lt_of_le hz hb.size
        replace hzm : Bm < w10.heap.size := Nat.lt_of_lt_of_le hzm hb.size
        replace hzk : Bk < w10.heap.size := Nat.lt_of_lt_of_le hzk hb.size
        clear hb
        simp only [List.length_nil]
        go_upto_region 10 with fail
        have hb : Below w10.heap.size w10 (w10.alloc (.cells #[.int .i64 0, .slice Aa 0 ca] 24)) := (Below.refl _ _).alloc (Nat.le_refl _) _
        have ba0 : (w10.alloc (.cells #[.int .i64 0, .slice Aa 0 ca] 24)).cell? ⟨w10.heap.size, 0, none⟩ = some (.int .i64 0) := cell_alloc_at _ _ _ _ _ rfl
        have ba1 : (w10.alloc (.cells #[.int .i64 0, .slice Aa 0 ca] 24)).cell? ⟨w10.heap.size, 1, none⟩ = some (.slice Aa 0 ca) := cell_alloc_at _ _ _ _ _ rfl
        have hza : w10.heap.size < (w10.alloc (.cells #[.int .i64 0, .slice Aa 0 ca] 24)).heap.size := by simp
        generalize hX : w10.alloc (.cells #[.int .i64 0, .slice Aa 0 ca] 24) = w11 at *
        clear hX
        have HB11 := Lib.hid (HB10.out.trans (hb.mono HB10.out.size))
        clear HB10
        replace HL := Lib.hid (HL.out.upto hb)
        replace HO := Lib.hid (HO.out.upto hb)
        replace HM := Lib.hid (HM.out.upto hb)
        replace HIm := Lib.hid (HIm.out.upto hb)
        replace HIl := Lib.hid (HIl.out.upto hb)
        replace HIk := Lib.hid (HIk.out.upto hb)
        replace HIg := Lib.hid (HIg.out.upto hb)
        replace HIa := Lib.hid (HIa.out.upto hb)
        replace HIp := Lib.hid (HIp.out.upto hb)
        replace q0 := (hb.cell (p := ⟨w.heap.size, 0, none⟩) hz).trans q0
        replace q1 := (hb.cell (p := ⟨w.heap.size, 1, none⟩) hz).trans q1
        replace bm0 := (hb.cell (p := ⟨Bm, 0, none⟩) hzm).trans bm0
        replace bm1 := (hb.cell (p := ⟨Bm, 1, none⟩) hzm).trans bm1
        replace bk0 := (hb.cell (p := ⟨Bk, 0, none⟩) hzk).trans bk0
        replace bk1 := (hb.cell (p := ⟨Bk, 1, none⟩) hzk).trans bk1
        replace hz : w.heap.size < w11.heap.size := Nat.lt_of_lt_of_le hz hb.size
        replace hzm : Bm < w11.heap.size := Nat.lt_of_lt_of_le hzm hb.size
        replace hzk : Bk < w11.heap.size := Nat.lt_of_lt_of_le hzk hb.size
        clear hb
        generalize w10.heap.size = Ba at *
        go_wp2_with fail
        refine (KO.out _ _ _ HIm.out HM.out).mono ?_
        rintro e w12 ⟨rfl, hb⟩
        have HB12 := Lib.hid (HB11.out.trans (hb.mono HB11.out.size))
        clear HB11
        replace HL := Lib.hid (HL.out.upto hb)
        replace HO := Lib.hid (HO.out.upto hb)
        replace HM := Lib.hid (HM.out.upto hb)
        replace HIm := Lib.hid (HIm.out.upto hb)
        replace HIl := Lib.hid (HIl.out.upto hb)
        replace HIk := Lib.hid (HIk.out.upto hb)
        replace HIg := Lib.hid (HIg.out.upto hb)
        replace HIa := Lib.hid (HIa.out.upto hb)
        replace HIp := Lib.hid (HIp.out.upto hb)
        replace q0 := (hb.cell (p := ⟨w.heap.size, 0, none⟩) hz).trans q0
        replace q1 := (hb.cell (p := ⟨w.heap.size, 1, none⟩) hz).trans q1
        replace bm0 := (hb.cell (p := ⟨Bm, 0, none⟩) hzm).trans bm0
        replace bm1 := (hb.cell (p := ⟨Bm, 1, none⟩) hzm).trans bm1
        replace bk0 := (hb.cell (p := ⟨Bk, 0, none⟩) hzk).trans bk0
        replace bk1 := (hb.cell (p := ⟨Bk, 1, none⟩) hzk).trans bk1
        replace ba0 := (hb.cell (p := ⟨Ba, 0, none⟩) hza).trans ba0
        replace ba1 := (hb.cell (p := ⟨Ba, 1, none⟩) hza).trans ba1
        replace hz : w.heap.size < w12.heap.size := Nat.lt_of_lt_of_le hz hb.size
        replace hzm : Bm < w12.heap.size := Nat.lt_of_lt_of_le hzm hb.size
        replace hzk : Bk < w12.heap.size := Nat.lt_of_lt_of_le hzk hb.size
        replace hza : Ba < w12.heap.size := Nat.lt_of_lt_of_le hza hb.size
        clear hb
        go_wp2_with fail
        go_ret
        exact ⟨rfl, HB12.out⟩
    · rw [stripNb, stripL, stripK, if_neg he, if_neg he, if_neg he] at ks
      have b1 : (outsE nb ls out != 0) = true := by rw [bne_iff_ne]; exact he
      generalize outsE nb ls out = er at *
      have KS := Lib.hid ks
      clear ks he
      have HB0 := Lib.hid (Below.refl w.heap.size w)
      go_enter Try.func8, Try.ntmps8
      go_wp2_with fail
      have hb := below_alloc2 w (.cells #[.int .i64 nb, .slice A ls.length c] 24) (.cells #[.slice O out.length co, .slice M more.length cM] 25)
      have q0 : ((w.alloc (.cells #[.int .i64 nb, .slice A ls.length c] 24)).alloc (.cells #[.slice O out.length co, .slice M more.length cM] 25)).cell? ⟨w.heap.size, 0, none⟩ = some (.int .i64 nb) := by simp
      have q1 : ((w.alloc (.cells #[.int .i64 nb, .slice A ls.length c] 24)).alloc (.cells #[.slice O out.length co, .slice M more.length cM] 25)).cell? ⟨w.heap.size, 1, none⟩ = some (.slice A ls.length c) := by simp
      have hz : w.heap.size < ((w.alloc (.cells #[.int .i64 nb, .slice A ls.length c] 24)).alloc (.cells #[.slice O out.length co, .slice M more.length cM] 25)).heap.size := by simp; omega
      have HB1 := Lib.hid (HB0.out.trans (hb.mono HB0.out.size))
      clear HB0
      replace HL := Lib.hid (HL.out.upto hb)
      replace HO := Lib.hid (HO.out.upto hb)
      replace HM := Lib.hid (HM.out.upto hb)
      clear hb
      refine (KL.out (w.alloc (.cells #[.int .i64 nb, .slice A ls.length c] 24)) _ (by simp)).mono ?_
      rintro e w2 ⟨rfl, hb⟩
      rw [← World.size_alloc (w.alloc (.cells #[.int .i64 nb, .slice A ls.length c] 24)) (.cells #[.slice O out.length co, .slice M more.length cM] 25)] at hb
      have HB2 := Lib.hid (HB1.out.trans (hb.mono HB1.out.size))
      clear HB1
      replace HL := Lib.hid (HL.out.upto hb)
      replace HO := Lib.hid (HO.out.upto hb)
      replace HM := Lib.hid (HM.out.upto hb)
      replace q0 := (hb.cell (p := ⟨w.heap.size, 0, none⟩) hz).trans q0
      replace q1 := (hb.cell (p := ⟨w.heap.size, 1, none⟩) hz).trans q1
      replace hz : w.heap.size < w2.heap.size := Nat.lt_of_lt_of_le hz hb.size
      clear hb
      go_wp2_with fail
      refine (awake14_any _).mono ?_
      rintro e w3 ⟨rfl, hb⟩
      have HB3 := Lib.hid (HB2.out.trans (hb.mono HB2.out.size))
      clear HB2
      replace HL := Lib.hid (HL.out.upto hb)
      replace HO := Lib.hid (HO.out.upto hb)
      replace HM := Lib.hid (HM.out.upto hb)
      replace q0 := (hb.cell (p := ⟨w.heap.size, 0, none⟩) hz).trans q0
      replace q1 := (hb.cell (p := ⟨w.heap.size, 1, none⟩) hz).trans q1
      replace hz : w.heap.size < w3.heap.size := Nat.lt_of_lt_of_le hz hb.size
      clear hb
      go_wp2_with fail
      refine (KS.out _ HL.out HO.out).mono ?_
      rintro e w4 ⟨Am, cm, Al, cl, rfl, hown, hown2, hb⟩
      obtain ⟨A2, c2, he2, hI⟩ := ownsRow_linesR hown
      simp only [Value.slice.injEq] at he2
      obtain ⟨rfl, _, rfl⟩ := he2
      obtain ⟨A2, c2, he2, hJ⟩ := ownsRow_ints hown2
      simp only [Value.slice.injEq] at he2
      obtain ⟨rfl, _, rfl⟩ := he2
      have HIm := Lib.hid hI
      have HIl := Lib.hid hJ
      clear hown hI hown2 hJ
      have HB4 := Lib.hid (HB3.out.trans (hb.mono HB3.out.size))
      clear HB3
      replace HL := Lib.hid (HL.out.upto hb)
      replace HO := Lib.hid (HO.out.upto hb)
      replace HM := Lib.hid (HM.out.upto hb)
      replace q0 := (hb.cell (p := ⟨w.heap.size, 0, none⟩) hz).trans q0
      replace q1 := (hb.cell (p := ⟨w.heap.size, 1, none⟩) hz).trans q1
      replace hz : w.heap.size < w4.heap.size := Nat.lt_of_lt_of_le hz hb.size
      clear hb
      simp only [List.length_nil]
      go_upto_region 4 with fail
      have hb : Below w4.heap.size w4 (w4.alloc (.cells #[.int .i64 0, .slice Am 0 cm] 24)) := (Below.refl _ _).alloc (Nat.le_refl _) _
      have bm0 : (w4.alloc (.cells #[.int .i64 0, .slice Am 0 cm] 24)).cell? ⟨w4.heap.size, 0, none⟩ = some (.int .i64 0) := cell_alloc_at _ _ _ _ _ rfl
      have bm1 : (w4.alloc (.cells #[.int .i64 0, .slice Am 0 cm] 24)).cell? ⟨w4.heap.size, 1, none⟩ = some (.slice Am 0 cm) := cell_alloc_at _ _ _ _ _ rfl
      have hzm : w4.heap.size < (w4.alloc (.cells #[.int .i64 0, .slice Am 0 cm] 24)).heap.size := by simp
      generalize hX : w4.alloc (.cells #[.int .i64 0, .slice Am 0 cm] 24) = w5 at *
      clear hX
      have HB5 := Lib.hid (HB4.out.trans (hb.mono HB4.out.size))
      clear HB4
      replace HL := Lib.hid (HL.out.upto hb)
      replace HO := Lib.hid (HO.out.upto hb)
      replace HM := Lib.hid (HM.out.upto hb)
      replace HIm := Lib.hid (HIm.out.upto hb)
      replace HIl := Lib.hid (HIl.out.upto hb)
      replace q0 := (hb.cell (p := ⟨w.heap.size, 0, none⟩) hz).trans q0
      replace q1 := (hb.cell (p := ⟨w.heap.size, 1, none⟩) hz).trans q1
      replace hz : w.heap.size < w5.heap.size := Nat.lt_of_lt_of_le hz hb.size
      clear hb
      generalize w4.heap.size = Bm at *
      go_wp2_with fail
      go_ret
      exact ⟨rfl, HB5.out⟩
end Go.Proofs.Ytcacaiakkfgdpaa
