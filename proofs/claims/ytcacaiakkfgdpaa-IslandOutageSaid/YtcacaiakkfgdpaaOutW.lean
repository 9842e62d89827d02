/- The walk of IslandOutage. -/
import Derived.Test.YtcacaiakkfgdpaaIslE
import Derived.Test.YtcacaiakkfgdpaaIslF
import Derived.Test.YtcacaiakkfgdpaaAnyG
import Derived.Test.YtcacaiakkfgdpaaOutP
import Derived.Test.YtcacaiakkfgdpaaUniB
import Derived.Test.YtcacaiakkfgdpaaIslN
import Derived.IntWalk
import Derived.Deep.DeepCutAuto
namespace Go.Proofs.Ytcacaiakkfgdpaa
open Go.RowKit
set_option linter.unusedVariables false

/-- What the walk needs of the line's ends, the islands and their counts. -/
theorem out_pack {nb : Int} {ls : List Ln} {out : List Int} {x : Nat} (he : outsE nb ls out = 0) (hx : x < ls.length) :
    ∃ (n f t p : Nat) (lx lc : Int), nb = n ∧ 1 ≤ n ∧ n ≤ 6 ∧ ls.getD x (0, 0, 0, 0) = ((f : Int), (t : Int), lx, lc) ∧ f < n ∧ t < n ∧ cntL nb ls out = p ∧ p ≤ 6 ∧ (ofL nb ls out).length = n ∧ (ofL nb ls (unionL out [(x : Int)])).length = n ∧
      cntL nb ls (unionL out [(x : Int)]) = (p : Int) + (if (ofL nb ls out).getD f 0 = (ofL nb ls out).getD t 0 ∧ (ofL nb ls (unionL out [(x : Int)])).getD f 0 ≠ (ofL nb ls (unionL out [(x : Int)])).getD t 0 then 1 else 0) ∧
      (∀ a b, a < n → b < n → (ofL nb ls (unionL out [(x : Int)])).getD a 0 = (ofL nb ls (unionL out [(x : Int)])).getD b 0 → (ofL nb ls out).getD a 0 = (ofL nb ls out).getD b 0) := by
  have hv := valid_of_check (check_of_outs he).1
  have hlo := hv.lo
  have hhi := hv.hi
  obtain ⟨h1, h2, h3, h4, _⟩ := hv.ok x hx
  obtain ⟨l, hl⟩ : ∃ l, ls.getD x (0, 0, 0, 0) = l := ⟨_, rfl⟩
  obtain ⟨lf, lt, lx, lc⟩ := l
  rw [hl] at h1 h2 h3 h4
  have e1 := ofL_length he
  have e2 := ofL_length (one_outsE he hx)
  have hp := refsTo_le (ofL nb ls out) (ofL nb ls out).length
  have hc := one_count he hx lf.toNat lt.toNat (by rw [hl]; show lf = _; simp at h1; omega) (by rw [hl]; show lt = _; simp at h3; omega) (by simp at h1 h2; omega) (by simp at h3 h4; omega)
  simp only at h1 h2 h3 h4
  have hcp : cntL nb ls out = ((refsTo (ofL nb ls out) (ofL nb ls out).length).length : Nat) := rfl
  rw [hcp] at hc
  refine ⟨nb.toNat, lf.toNat, lt.toNat, _, lx, lc, by omega, by omega, by omega, ?_, by omega, by omega, rfl, by rw [e1] at hp; show (refsTo (ofL nb ls out) (ofL nb ls out).length).length ≤ 6; rw [e1]; omega, e1, e2, hc, one_finer he hx⟩
  rw [hl]
  have a1 : ((lf.toNat : Nat) : Int) = lf := by omega
  have a2 : ((lt.toNat : Nat) : Int) = lt := by omega
  rw [a1, a2]

set_option maxRecDepth 100000 in
set_option maxHeartbeats 8000000 in
theorem out_walk (nb : Int) (A : Option Addr) (c : Nat) (ls : List Ln) (O : Option Addr) (co : Nat) (out : List Int) (ln : Int) (w : World) (hl : LinesR w w.heap.size A ls) (ho : IntsR w w.heap.size O out) (hlo : -9223372036854775808 ≤ ln) (hhi : ln ≤ 9223372036854775807) :
    Calls Try.prog 11 #[.agg #[.int .i64 nb, .slice A ls.length c], .slice O out.length co, .int .i64 ln] w fun e w' => e = .returned (.bool true) ∧ Below w.heap.size w w' := by
  have HL := Lib.hid hl
  have HO := Lib.hid ho
  clear hl ho
  have kl := fun W b hb => long_lit1 (.int .i64 nb) A ls.length c 25 W b hb O out.length co
  cases hlong : longB [out.length] ls.length with
  | true =>
    rw [hlong] at kl
    have KL := Lib.hid kl
    clear kl hlong
    have HB0 := Lib.hid (Below.refl w.heap.size w)
    go_enter Try.func11, Try.ntmps11
    go_wp2_with fail
    have hb := below_alloc2 w (.cells #[.int .i64 nb, .slice A ls.length c] 24) (.cells #[.slice O out.length co] 25)
    have q0 : ((w.alloc (.cells #[.int .i64 nb, .slice A ls.length c] 24)).alloc (.cells #[.slice O out.length co] 25)).cell? ⟨w.heap.size, 0, none⟩ = some (.int .i64 nb) := by simp
    have q1 : ((w.alloc (.cells #[.int .i64 nb, .slice A ls.length c] 24)).alloc (.cells #[.slice O out.length co] 25)).cell? ⟨w.heap.size, 1, none⟩ = some (.slice A ls.length c) := by simp
    have hz : w.heap.size < ((w.alloc (.cells #[.int .i64 nb, .slice A ls.length c] 24)).alloc (.cells #[.slice O out.length co] 25)).heap.size := by simp; omega
    have HB1 := Lib.hid (HB0.out.trans (hb.mono HB0.out.size))
    clear HB0
    replace HL := Lib.hid (HL.out.upto hb)
    replace HO := Lib.hid (HO.out.upto hb)
    clear hb
    refine (KL.out (w.alloc (.cells #[.int .i64 nb, .slice A ls.length c] 24)) _ (by simp)).mono ?_
    rintro e w2 ⟨rfl, hb⟩
    rw [← World.size_alloc (w.alloc (.cells #[.int .i64 nb, .slice A ls.length c] 24)) (.cells #[.slice O out.length co] 25)] at hb
    have HB2 := Lib.hid (HB1.out.trans (hb.mono HB1.out.size))
    clear HB1
    replace HL := Lib.hid (HL.out.upto hb)
    replace HO := Lib.hid (HO.out.upto hb)
    replace q0 := (hb.cell (p := ⟨w.heap.size, 0, none⟩) hz).trans q0
    replace q1 := (hb.cell (p := ⟨w.heap.size, 1, none⟩) hz).trans q1
    replace hz : w.heap.size < w2.heap.size := Nat.lt_of_lt_of_le hz hb.size
    clear hb
    go_wp2_with fail
    refine (awake_any _).mono ?_
    rintro e w3 ⟨rfl, hb⟩
    have HB3 := Lib.hid (HB2.out.trans (hb.mono HB2.out.size))
    clear HB2
    replace HL := Lib.hid (HL.out.upto hb)
    replace HO := Lib.hid (HO.out.upto hb)
    replace q0 := (hb.cell (p := ⟨w.heap.size, 0, none⟩) hz).trans q0
    replace q1 := (hb.cell (p := ⟨w.heap.size, 1, none⟩) hz).trans q1
    replace hz : w.heap.size < w3.heap.size := Nat.lt_of_lt_of_le hz hb.size
    clear hb
    go_wp2_with fail
    go_ret
    exact ⟨rfl, HB3.out⟩
  | false =>
    rw [hlong] at kl
    have hb100 := longB_false hlong
    have h1 : out.length ≤ 100 := hb100.1 _ (by simp)
    have h2 : ls.length ≤ 100 := hb100.2
    have KL := Lib.hid kl
    clear kl hlong hb100
    have ko := fun W hl ho => outs_any nb A O c co ls out W hl ho (by omega) (by omega)
    by_cases he : outsE nb ls out = 0
    · rw [he] at ko
      have KO := Lib.hid ko
      clear ko
      by_cases hn : ln < 0
      · have i1 : decide (ln < 0) = true := decide_eq_true hn
        clear he hn
        have HB0 := Lib.hid (Below.refl w.heap.size w)
        go_enter Try.func11, Try.ntmps11
        go_wp2_with fail
        have hb := below_alloc2 w (.cells #[.int .i64 nb, .slice A ls.length c] 24) (.cells #[.slice O out.length co] 25)
        have q0 : ((w.alloc (.cells #[.int .i64 nb, .slice A ls.length c] 24)).alloc (.cells #[.slice O out.length co] 25)).cell? ⟨w.heap.size, 0, none⟩ = some (.int .i64 nb) := by simp
        have q1 : ((w.alloc (.cells #[.int .i64 nb, .slice A ls.length c] 24)).alloc (.cells #[.slice O out.length co] 25)).cell? ⟨w.heap.size, 1, none⟩ = some (.slice A ls.length c) := by simp
        have hz : w.heap.size < ((w.alloc (.cells #[.int .i64 nb, .slice A ls.length c] 24)).alloc (.cells #[.slice O out.length co] 25)).heap.size := by simp; omega
        have HB1 := Lib.hid (HB0.out.trans (hb.mono HB0.out.size))
        clear HB0
        replace HL := Lib.hid (HL.out.upto hb)
        replace HO := Lib.hid (HO.out.upto hb)
        clear hb
        refine (KL.out (w.alloc (.cells #[.int .i64 nb, .slice A ls.length c] 24)) _ (by simp)).mono ?_
        rintro e w2 ⟨rfl, hb⟩
        rw [← World.size_alloc (w.alloc (.cells #[.int .i64 nb, .slice A ls.length c] 24)) (.cells #[.slice O out.length co] 25)] at hb
        have HB2 := Lib.hid (HB1.out.trans (hb.mono HB1.out.size))
        clear HB1
        replace HL := Lib.hid (HL.out.upto hb)
        replace HO := Lib.hid (HO.out.upto hb)
        replace q0 := (hb.cell (p := ⟨w.heap.size, 0, none⟩) hz).trans q0
        replace q1 := (hb.cell (p := ⟨w.heap.size, 1, none⟩) hz).trans q1
        replace hz : w.heap.size < w2.heap.size := Nat.lt_of_lt_of_le hz hb.size
        clear hb
        go_wp2_with fail
        refine (awake_any _).mono ?_
        rintro e w3 ⟨rfl, hb⟩
        have HB3 := Lib.hid (HB2.out.trans (hb.mono HB2.out.size))
        clear HB2
        replace HL := Lib.hid (HL.out.upto hb)
        replace HO := Lib.hid (HO.out.upto hb)
        replace q0 := (hb.cell (p := ⟨w.heap.size, 0, none⟩) hz).trans q0
        replace q1 := (hb.cell (p := ⟨w.heap.size, 1, none⟩) hz).trans q1
        replace hz : w.heap.size < w3.heap.size := Nat.lt_of_lt_of_le hz hb.size
        clear hb
        go_wp2_with fail
        refine (KO.out _ HL.out HO.out).mono ?_
        rintro e w4 ⟨rfl, hb⟩
        have HB4 := Lib.hid (HB3.out.trans (hb.mono HB3.out.size))
        clear HB3
        replace HL := Lib.hid (HL.out.upto hb)
        replace HO := Lib.hid (HO.out.upto hb)
        replace q0 := (hb.cell (p := ⟨w.heap.size, 0, none⟩) hz).trans q0
        replace q1 := (hb.cell (p := ⟨w.heap.size, 1, none⟩) hz).trans q1
        replace hz : w.heap.size < w4.heap.size := Nat.lt_of_lt_of_le hz hb.size
        clear hb
        go_wp2_with fail
        refine (awake_any _).mono ?_
        rintro e w5 ⟨rfl, hb⟩
        have HB5 := Lib.hid (HB4.out.trans (hb.mono HB4.out.size))
        clear HB4
        replace HL := Lib.hid (HL.out.upto hb)
        replace HO := Lib.hid (HO.out.upto hb)
        replace q0 := (hb.cell (p := ⟨w.heap.size, 0, none⟩) hz).trans q0
        replace q1 := (hb.cell (p := ⟨w.heap.size, 1, none⟩) hz).trans q1
        replace hz : w.heap.size < w5.heap.size := Nat.lt_of_lt_of_le hz hb.size
        clear hb
        go_wp2_with fail
        go_ret
        exact ⟨rfl, HB5.out⟩
      · by_cases hn2 : (ls.length : Int) ≤ ln
        · have i1 : decide (ln < 0) = false := decide_eq_false hn
          have i2 : decide ((ls.length : Int) ≤ ln) = true := decide_eq_true hn2
          clear he hn hn2
          have HB0 := Lib.hid (Below.refl w.heap.size w)
          go_enter Try.func11, Try.ntmps11
          go_wp2_with fail
          have hb := below_alloc2 w (.cells #[.int .i64 nb, .slice A ls.length c] 24) (.cells #[.slice O out.length co] 25)
          have q0 : ((w.alloc (.cells #[.int .i64 nb, .slice A ls.length c] 24)).alloc (.cells #[.slice O out.length co] 25)).cell? ⟨w.heap.size, 0, none⟩ = some (.int .i64 nb) := by simp
          have q1 : ((w.alloc (.cells #[.int .i64 nb, .slice A ls.length c] 24)).alloc (.cells #[.slice O out.length co] 25)).cell? ⟨w.heap.size, 1, none⟩ = some (.slice A ls.length c) := by simp
          have hz : w.heap.size < ((w.alloc (.cells #[.int .i64 nb, .slice A ls.length c] 24)).alloc (.cells #[.slice O out.length co] 25)).heap.size := by simp; omega
          have HB1 := Lib.hid (HB0.out.trans (hb.mono HB0.out.size))
          clear HB0
          replace HL := Lib.hid (HL.out.upto hb)
          replace HO := Lib.hid (HO.out.upto hb)
          clear hb
          refine (KL.out (w.alloc (.cells #[.int .i64 nb, .slice A ls.length c] 24)) _ (by simp)).mono ?_
          rintro e w2 ⟨rfl, hb⟩
          rw [← World.size_alloc (w.alloc (.cells #[.int .i64 nb, .slice A ls.length c] 24)) (.cells #[.slice O out.length co] 25)] at hb
          have HB2 := Lib.hid (HB1.out.trans (hb.mono HB1.out.size))
          clear HB1
          replace HL := Lib.hid (HL.out.upto hb)
          replace HO := Lib.hid (HO.out.upto hb)
          replace q0 := (hb.cell (p := ⟨w.heap.size, 0, none⟩) hz).trans q0
          replace q1 := (hb.cell (p := ⟨w.heap.size, 1, none⟩) hz).trans q1
          replace hz : w.heap.size < w2.heap.size := Nat.lt_of_lt_of_le hz hb.size
          clear hb
          go_wp2_with fail
          refine (awake_any _).mono ?_
          rintro e w3 ⟨rfl, hb⟩
          have HB3 := Lib.hid (HB2.out.trans (hb.mono HB2.out.size))
          clear HB2
          replace HL := Lib.hid (HL.out.upto hb)
          replace HO := Lib.hid (HO.out.upto hb)
          replace q0 := (hb.cell (p := ⟨w.heap.size, 0, none⟩) hz).trans q0
          replace q1 := (hb.cell (p := ⟨w.heap.size, 1, none⟩) hz).trans q1
          replace hz : w.heap.size < w3.heap.size := Nat.lt_of_lt_of_le hz hb.size
          clear hb
          go_wp2_with fail
          refine (KO.out _ HL.out HO.out).mono ?_
          rintro e w4 ⟨rfl, hb⟩
          have HB4 := Lib.hid (HB3.out.trans (hb.mono HB3.out.size))
          clear HB3
          replace HL := Lib.hid (HL.out.upto hb)
          replace HO := Lib.hid (HO.out.upto hb)
          replace q0 := (hb.cell (p := ⟨w.heap.size, 0, none⟩) hz).trans q0
          replace q1 := (hb.cell (p := ⟨w.heap.size, 1, none⟩) hz).trans q1
          replace hz : w.heap.size < w4.heap.size := Nat.lt_of_lt_of_le hz hb.size
          clear hb
          go_wp2_with fail
          refine (awake_any _).mono ?_
          rintro e w5 ⟨rfl, hb⟩
          have HB5 := Lib.hid (HB4.out.trans (hb.mono HB4.out.size))
          clear HB4
          replace HL := Lib.hid (HL.out.upto hb)
          replace HO := Lib.hid (HO.out.upto hb)
          replace q0 := (hb.cell (p := ⟨w.heap.size, 0, none⟩) hz).trans q0
          replace q1 := (hb.cell (p := ⟨w.heap.size, 1, none⟩) hz).trans q1
          replace hz : w.heap.size < w5.heap.size := Nat.lt_of_lt_of_le hz hb.size
          clear hb
          go_wp2_with fail
          go_ret
          exact ⟨rfl, HB5.out⟩
        · obtain ⟨x, rfl⟩ := Int.eq_ofNat_of_zero_le (show 0 ≤ ln by omega)
          have hx : x < ls.length := by omega
          clear hn hn2
          obtain ⟨n, f, t, p, lx, lc, rfl, hn1, hn6, hgl, hf, ht, hp, hp6, hla, hlb, hq, hfin⟩ := out_pack he hx
          have ha : ascB out = true ∧ ascB [(x : Int)] = true := ⟨outs_asc (check_of_outs he).2, one_asc he hx⟩
          have hm := one_outsE he hx
          have hul : (unionL out [(x : Int)]).length ≤ 100 := by have := svc_length (one_outs he hx); omega
          have ku := fun X W ha hb => union_any O X co 1 out [(x : Int)] W ha hb (by omega) (by simp)
          rw [uniL, uniE, if_pos ha, if_pos ha, List.length_singleton] at ku
          have ka := fun W hl ho => of_any n A O c co ls out W hl ho (by omega) (by omega)
          have kb := fun X cx W hl ho => of_any n A X c cx ls (unionL out [(x : Int)]) W hl ho (by omega) (by omega)
          have kp := fun W hl ho => count_any n A O c co ls out W hl ho (by omega) (by omega)
          have kq := fun X cx W hl ho => count_any n A X c cx ls (unionL out [(x : Int)]) W hl ho (by omega) (by omega)
          rw [he] at ka kp
          rw [hm] at kb kq
          rw [hp] at kp
          clear he ha hm hp
          generalize ofL n ls out = la at *
          generalize ofL n ls (unionL out [(x : Int)]) = lb at *
          generalize cntL n ls (unionL out [(x : Int)]) = q at *
          generalize unionL out [(x : Int)] = un at *
          have KU := Lib.hid ku
          have KA := Lib.hid ka
          have KB := Lib.hid kb
          have KP := Lib.hid kp
          have KQ := Lib.hid kq
          have HQ := Lib.hid hq
          have HFIN := Lib.hid hfin
          have i1 : decide ((x : Int) < 0) = false := decide_eq_false (by omega)
          have i2 : decide ((ls.length : Int) ≤ (x : Int)) = false := decide_eq_false (by omega)
          have i3 : decide (q < (p : Int)) = false := decide_eq_false (by split at hq <;> omega)
          have i4 : decide ((p : Int) + 1 < q) = false := decide_eq_false (by split at hq <;> omega)
          have i5 : ((la.length : Int) != (n : Int)) = false := by rw [hla]; simp
          have i6 : ((lb.length : Int) != (n : Int)) = false := by rw [hlb]; simp
          have HLA := Lib.hid hla
          have HLB := Lib.hid hlb
          clear ku ka kb kp kq hq hfin hla hlb
          have HB0 := Lib.hid (Below.refl w.heap.size w)
          go_enter Try.func11, Try.ntmps11
          go_wp2_with fail
          have hb := below_alloc2 w (.cells #[.int .i64 (n : Int), .slice A ls.length c] 24) (.cells #[.slice O out.length co] 25)
          have q0 : ((w.alloc (.cells #[.int .i64 (n : Int), .slice A ls.length c] 24)).alloc (.cells #[.slice O out.length co] 25)).cell? ⟨w.heap.size, 0, none⟩ = some (.int .i64 (n : Int)) := by simp
          have q1 : ((w.alloc (.cells #[.int .i64 (n : Int), .slice A ls.length c] 24)).alloc (.cells #[.slice O out.length co] 25)).cell? ⟨w.heap.size, 1, none⟩ = some (.slice A ls.length c) := by simp
          have hz : w.heap.size < ((w.alloc (.cells #[.int .i64 (n : Int), .slice A ls.length c] 24)).alloc (.cells #[.slice O out.length co] 25)).heap.size := by simp; omega
          have HB1 := Lib.hid (HB0.out.trans (hb.mono HB0.out.size))
          clear HB0
          replace HL := Lib.hid (HL.out.upto hb)
          replace HO := Lib.hid (HO.out.upto hb)
          clear hb
          refine (KL.out (w.alloc (.cells #[.int .i64 (n : Int), .slice A ls.length c] 24)) _ (by simp)).mono ?_
          rintro e w2 ⟨rfl, hb⟩
          rw [← World.size_alloc (w.alloc (.cells #[.int .i64 (n : Int), .slice A ls.length c] 24)) (.cells #[.slice O out.length co] 25)] at hb
          have HB2 := Lib.hid (HB1.out.trans (hb.mono HB1.out.size))
          clear HB1
          replace HL := Lib.hid (HL.out.upto hb)
          replace HO := Lib.hid (HO.out.upto hb)
          replace q0 := (hb.cell (p := ⟨w.heap.size, 0, none⟩) hz).trans q0
          replace q1 := (hb.cell (p := ⟨w.heap.size, 1, none⟩) hz).trans q1
          replace hz : w.heap.size < w2.heap.size := Nat.lt_of_lt_of_le hz hb.size
          clear hb
          go_wp2_with fail
          refine (awake_any _).mono ?_
          rintro e w3 ⟨rfl, hb⟩
          have HB3 := Lib.hid (HB2.out.trans (hb.mono HB2.out.size))
          clear HB2
          replace HL := Lib.hid (HL.out.upto hb)
          replace HO := Lib.hid (HO.out.upto hb)
          replace q0 := (hb.cell (p := ⟨w.heap.size, 0, none⟩) hz).trans q0
          replace q1 := (hb.cell (p := ⟨w.heap.size, 1, none⟩) hz).trans q1
          replace hz : w.heap.size < w3.heap.size := Nat.lt_of_lt_of_le hz hb.size
          clear hb
          go_wp2_with fail
          refine (KO.out _ HL.out HO.out).mono ?_
          rintro e w4 ⟨rfl, hb⟩
          have HB4 := Lib.hid (HB3.out.trans (hb.mono HB3.out.size))
          clear HB3
          replace HL := Lib.hid (HL.out.upto hb)
          replace HO := Lib.hid (HO.out.upto hb)
          replace q0 := (hb.cell (p := ⟨w.heap.size, 0, none⟩) hz).trans q0
          replace q1 := (hb.cell (p := ⟨w.heap.size, 1, none⟩) hz).trans q1
          replace hz : w.heap.size < w4.heap.size := Nat.lt_of_lt_of_le hz hb.size
          clear hb
          go_wp2_with fail
          have hI := IntsR.litU w4 3 [(x : Int)] #[.int .i64 (x : Int)] rfl
          have hb := (Below.refl w4.heap.size w4).alloc (Nat.le_refl _) (.cells #[.int .i64 (x : Int)] 3)
          have HX := Lib.hid hI
          clear hI
          have HB5 := Lib.hid (HB4.out.trans (hb.mono HB4.out.size))
          clear HB4
          replace HL := Lib.hid (HL.out.upto hb)
          replace HO := Lib.hid (HO.out.upto hb)
          replace q0 := (hb.cell (p := ⟨w.heap.size, 0, none⟩) hz).trans q0
          replace q1 := (hb.cell (p := ⟨w.heap.size, 1, none⟩) hz).trans q1
          replace hz : w.heap.size < (w4.alloc (.cells #[.int .i64 (x : Int)] 3)).heap.size := Nat.lt_of_lt_of_le hz hb.size
          clear hb
          refine (KU.out _ _ HO.out HX.out).mono ?_
          rintro e w6 ⟨v, rfl, hown, hb⟩
          obtain ⟨Au, cu, rfl, hI⟩ := ownsRow_ints hown
          have HIu := Lib.hid hI
          clear hown hI
          have HB6 := Lib.hid (HB5.out.trans (hb.mono HB5.out.size))
          clear HB5
          replace HL := Lib.hid (HL.out.upto hb)
          replace HO := Lib.hid (HO.out.upto hb)
          replace HX := Lib.hid (HX.out.upto hb)
          replace q0 := (hb.cell (p := ⟨w.heap.size, 0, none⟩) hz).trans q0
          replace q1 := (hb.cell (p := ⟨w.heap.size, 1, none⟩) hz).trans q1
          replace hz : w.heap.size < w6.heap.size := Nat.lt_of_lt_of_le hz hb.size
          clear hb
          go_wp2_with fail
          refine (KA.out _ HL.out HO.out).mono ?_
          rintro e w7 ⟨v, rfl, hown, hb⟩
          obtain ⟨Aa, ca, rfl, hI⟩ := ownsRow_ints hown
          have HIa := Lib.hid hI
          clear hown hI
          have HB7 := Lib.hid (HB6.out.trans (hb.mono HB6.out.size))
          clear HB6
          replace HL := Lib.hid (HL.out.upto hb)
          replace HO := Lib.hid (HO.out.upto hb)
          replace HX := Lib.hid (HX.out.upto hb)
          replace HIu := Lib.hid (HIu.out.upto hb)
          replace q0 := (hb.cell (p := ⟨w.heap.size, 0, none⟩) hz).trans q0
          replace q1 := (hb.cell (p := ⟨w.heap.size, 1, none⟩) hz).trans q1
          replace hz : w.heap.size < w7.heap.size := Nat.lt_of_lt_of_le hz hb.size
          clear hb
          go_wp2_with fail
          refine (KB.out _ _ _ HL.out HIu.out).mono ?_
          rintro e w8 ⟨v, rfl, hown, hb⟩
          obtain ⟨Ab, cb, rfl, hI⟩ := ownsRow_ints hown
          have HIb := Lib.hid hI
          clear hown hI
          have HB8 := Lib.hid (HB7.out.trans (hb.mono HB7.out.size))
          clear HB7
          replace HL := Lib.hid (HL.out.upto hb)
          replace HO := Lib.hid (HO.out.upto hb)
          replace HX := Lib.hid (HX.out.upto hb)
          replace HIu := Lib.hid (HIu.out.upto hb)
          replace HIa := Lib.hid (HIa.out.upto hb)
          replace q0 := (hb.cell (p := ⟨w.heap.size, 0, none⟩) hz).trans q0
          replace q1 := (hb.cell (p := ⟨w.heap.size, 1, none⟩) hz).trans q1
          replace hz : w.heap.size < w8.heap.size := Nat.lt_of_lt_of_le hz hb.size
          clear hb
          go_wp2_with fail
          refine (KP.out _ HL.out HO.out).mono ?_
          rintro e w9 ⟨rfl, hb⟩
          have HB9 := Lib.hid (HB8.out.trans (hb.mono HB8.out.size))
          clear HB8
          replace HL := Lib.hid (HL.out.upto hb)
          replace HO := Lib.hid (HO.out.upto hb)
          replace HX := Lib.hid (HX.out.upto hb)
          replace HIu := Lib.hid (HIu.out.upto hb)
          replace HIa := Lib.hid (HIa.out.upto hb)
          replace HIb := Lib.hid (HIb.out.upto hb)
          replace q0 := (hb.cell (p := ⟨w.heap.size, 0, none⟩) hz).trans q0
          replace q1 := (hb.cell (p := ⟨w.heap.size, 1, none⟩) hz).trans q1
          replace hz : w.heap.size < w9.heap.size := Nat.lt_of_lt_of_le hz hb.size
          clear hb
          go_wp2_with fail
          refine (KQ.out _ _ _ HL.out HIu.out).mono ?_
          rintro e w10 ⟨rfl, hb⟩
          have HB10 := Lib.hid (HB9.out.trans (hb.mono HB9.out.size))
          clear HB9
          replace HL := Lib.hid (HL.out.upto hb)
          replace HO := Lib.hid (HO.out.upto hb)
          replace HX := Lib.hid (HX.out.upto hb)
          replace HIu := Lib.hid (HIu.out.upto hb)
          replace HIa := Lib.hid (HIa.out.upto hb)
          replace HIb := Lib.hid (HIb.out.upto hb)
          replace q0 := (hb.cell (p := ⟨w.heap.size, 0, none⟩) hz).trans q0
          replace q1 := (hb.cell (p := ⟨w.heap.size, 1, none⟩) hz).trans q1
          replace hz : w.heap.size < w10.heap.size := Nat.lt_of_lt_of_le hz hb.size
          clear hb
          go_wp2_with fail
          obtain ⟨ba, offa, rfl, hba, hca⟩ := HIa.out (by have := HLA.out; omega)
          obtain ⟨bb, offb, rfl, hbb, hcb⟩ := HIb.out (by have := HLB.out; omega)
          have HCA := Lib.hid hca
          have HCB := Lib.hid hcb
          clear hca hcb HIa HIb HIu HX HO KU KA KB KP KQ KO KL
          go_loopg [17, 18] n (fun g i s18 wr => ∃ k : Nat, k + g = n ∧ i = .int .i64 k ∧ ∃ nq, w10.drewN nq = wr)
          case atStart => exact ⟨0, by omega, rfl, 0, rfl⟩
          case round =>
            obtain ⟨k, hkg, rfl, nq, rfl⟩ := hrel
            cases gk with
            | zero =>
              obtain rfl : k = n := by omega
              clear hkg
              obtain ⟨bl, offl, rfl, hbl, hcl⟩ := HL.out (by omega)
              obtain ⟨f0, f1, f2, f3⟩ := hcl x (by omega)
              rw [hgl] at f0 f1 f2 f3
              clear hcl hgl
              have eaf := HCA.out f (by have := HLA.out; omega)
              have eat := HCA.out t (by have := HLA.out; omega)
              have ebf := HCB.out f (by have := HLB.out; omega)
              have ebt := HCB.out t (by have := HLB.out; omega)
              have hxi : (x : Int) < (ls.length : Int) := by omega
              have hx0 : (0 : Int) ≤ (x : Int) := by omega
              have hbq : Below w10.heap.size w10 (w10.drewN nq) := below_drewN (Below.refl _ _) nq
              have hsq : (w10.drewN nq).heap.size = w10.heap.size := rfl
              generalize w10.drewN nq = wq at *
              replace f0 := (hbq.cell (p := ⟨bl, offl + x * 4, none⟩) hbl).trans f0
              replace f1 := (hbq.cell (p := ⟨bl, offl + x * 4 + 1, none⟩) hbl).trans f1
              replace f2 := (hbq.cell (p := ⟨bl, offl + x * 4 + 2, none⟩) hbl).trans f2
              replace f3 := (hbq.cell (p := ⟨bl, offl + x * 4 + 3, none⟩) hbl).trans f3
              replace q0 := (hbq.cell (p := ⟨w.heap.size, 0, none⟩) hz).trans q0
              replace q1 := (hbq.cell (p := ⟨w.heap.size, 1, none⟩) hz).trans q1
              have HSQ := Lib.hid hsq
              have HBQ := Lib.hid hbq
              clear hsq hbq
              go_wp2_with fail
              have g0 : (wq.alloc (.cells #[.int .i64 (f : Int), .int .i64 (t : Int), .int .i64 lx, .int .i64 lc] 51)).cell? ⟨wq.heap.size, 0, none⟩ = some (.int .i64 (f : Int)) := cell_alloc_at _ _ _ _ _ rfl
              have g1 : (wq.alloc (.cells #[.int .i64 (f : Int), .int .i64 (t : Int), .int .i64 lx, .int .i64 lc] 51)).cell? ⟨wq.heap.size, 1, none⟩ = some (.int .i64 (t : Int)) := cell_alloc_at _ _ _ _ _ rfl
              have hb : Below w10.heap.size w10 (wq.alloc (.cells #[.int .i64 (f : Int), .int .i64 (t : Int), .int .i64 lx, .int .i64 lc] 51)) := HBQ.out.alloc (by rw [HSQ.out]; exact Nat.le_refl _) _
              replace eaf := (hb.cell (p := ⟨ba, offa + f, none⟩) hba).trans eaf
              replace eat := (hb.cell (p := ⟨ba, offa + t, none⟩) hba).trans eat
              replace ebf := (hb.cell (p := ⟨bb, offb + f, none⟩) hbb).trans ebf
              replace ebt := (hb.cell (p := ⟨bb, offb + t, none⟩) hbb).trans ebt
              have HBZ := Lib.hid (HB10.out.trans (hb.mono HB10.out.size))
              clear f0 f1 f2 f3 hb q0 q1 HSQ HBQ
              generalize wq.alloc (.cells #[.int .i64 (f : Int), .int .i64 (t : Int), .int .i64 lx, .int .i64 lc] 51) = wz at *
              generalize wq.heap.size = bx at *
              have hwr : IntKind.i64.wrap ((p : Int) + 1) = (p : Int) + 1 := IntWalk.i64_in _ (by omega)
              have hfa : f < la.length := by have := HLA.out; omega
              have hta : t < la.length := by have := HLA.out; omega
              have hfb : f < lb.length := by have := HLB.out; omega
              have htb : t < lb.length := by have := HLB.out; omega
              have hfin := HQ.out
              clear HQ HFIN HCA HCB
              generalize la.getD f 0 = z1 at *
              generalize la.getD t 0 = z2 at *
              generalize lb.getD f 0 = y1 at *
              generalize lb.getD t 0 = y2 at *
              by_cases t1 : z1 = z2
              · by_cases t2 : y1 = y2
                · have hq : ¬ q = (p : Int) + 1 := by rw [if_neg (fun h => h.2 t2)] at hfin; omega
                  clear hfin
                  refine region_quiet (fun jq => match jq with | 0 => .int .i64 q | 1 => .int .i64 (p : Int) | 2 => .int .i64 ((p : Int) + 1) | 3 => .bool false | 4 => .slice (some ⟨ba, offa, none⟩) la.length ca | 5 => .pointer (some ⟨bx, 0, none⟩) | 6 => .int .i64 (f : Int) | 7 => .pointer (some ⟨ba, offa + f, none⟩) | 8 => .int .i64 z1 | 9 => .slice (some ⟨ba, offa, none⟩) la.length ca | 10 => .pointer (some ⟨bx, 1, none⟩) | 11 => .int .i64 (t : Int) | 12 => .pointer (some ⟨ba, offa + t, none⟩) | 13 => .int .i64 z2 | 14 => .bool true | 15 => .bool true | 16 => .slice (some ⟨bb, offb, none⟩) lb.length cb | 17 => .pointer (some ⟨bx, 0, none⟩) | 18 => .int .i64 (f : Int) | 19 => .pointer (some ⟨bb, offb + f, none⟩) | 20 => .int .i64 y1 | 21 => .slice (some ⟨bb, offb, none⟩) lb.length cb | 22 => .pointer (some ⟨bx, 1, none⟩) | 23 => .int .i64 (t : Int) | 24 => .pointer (some ⟨bb, offb + t, none⟩) | 25 => .int .i64 y2 | 26 => .bool false | 27 => .bool false | 28 => .bool true | 29 => .bool true | _ => undef) (by kernel_rfl) (by kernel_rfl) ?_ ?_
                  · intro i o ho a hdep hrest hgd
                    have r9 : a.eval (.tmp 9) = .slice (some ⟨ba, offa, none⟩) la.length ca := hrest 9 (apart_of (by kernel_rfl))
                    have r11 : a.eval (.tmp 11) = .slice (some ⟨bb, offb, none⟩) lb.length cb := hrest 11 (apart_of (by kernel_rfl))
                    have r13 : a.eval (.tmp 13) = .int .i64 (p : Int) := hrest 13 (apart_of (by kernel_rfl))
                    have r15 : a.eval (.tmp 15) = .int .i64 q := hrest 15 (apart_of (by kernel_rfl))
                    have r19 : a.eval (.tmp 19) = .pointer (some ⟨bx, 0, none⟩) := hrest 19 (apart_of (by kernel_rfl))
                    have hc : ∀ v, a.eval (.const v) = v := fun _ => rfl
                    clear hrest
                    rcases i with _ | _ | _ | _ | _ | _ | _ | _ | _ | _ | _ | _ | _ | _ | _ | _ | _ | _ | _ | _ | _ | _ | _ | _ | _ | _ | _ | _ | _ | _ | i
                    · injection ho with ho
                      subst ho
                      clear hdep hgd
                      refine ⟨fun _ => ?_, fun hw => by simp [Region.wanted] at hw⟩
                      generalize a.eval = ρ at *
                      simp [go_sem, r15]
                    · injection ho with ho
                      subst ho
                      clear hdep hgd
                      refine ⟨fun _ => ?_, fun hw => by simp [Region.wanted] at hw⟩
                      generalize a.eval = ρ at *
                      simp [go_sem, r13]
                    · injection ho with ho
                      subst ho
                      have e1 : a.eval (.tmp 158) = .int .i64 (p : Int) := hdep ⟨1, .data⟩ (by simp) rfl _ _ rfl rfl
                      clear hdep hgd
                      refine ⟨fun _ => ?_, fun hw => by simp [Region.wanted] at hw⟩
                      generalize a.eval = ρ at *
                      simp [go_sem, e1, hwr, hc]
                    · injection ho with ho
                      subst ho
                      have e0 : a.eval (.tmp 157) = .int .i64 q := hdep ⟨0, .data⟩ (by simp) rfl _ _ rfl rfl
                      have e2 : a.eval (.tmp 159) = .int .i64 ((p : Int) + 1) := hdep ⟨2, .data⟩ (by simp) rfl _ _ rfl rfl
                      clear hdep hgd
                      refine ⟨fun _ => ?_, fun hw => by simp [Region.wanted] at hw⟩
                      generalize a.eval = ρ at *
                      simp [go_sem, e0, e2, hq]
                    · injection ho with ho
                      subst ho
                      clear hdep hgd
                      refine ⟨fun _ => ?_, fun hw => by simp [Region.wanted] at hw⟩
                      generalize a.eval = ρ at *
                      simp [go_sem, r9]
                    · injection ho with ho
                      subst ho
                      clear hdep hgd
                      refine ⟨fun _ => ?_, fun hw => by simp [Region.wanted] at hw⟩
                      generalize a.eval = ρ at *
                      simp [go_sem, r19]
                    · injection ho with ho
                      subst ho
                      have e5 : a.eval (.tmp 162) = .pointer (some ⟨bx, 0, none⟩) := hdep ⟨5, .data⟩ (by simp) rfl _ _ rfl rfl
                      clear hdep hgd
                      refine ⟨fun _ => ?_, fun hw => by simp [Region.wanted] at hw⟩
                      generalize a.eval = ρ at *
                      simp [go_sem, e5, g0]
                    · injection ho with ho
                      subst ho
                      have e4 : a.eval (.tmp 161) = .slice (some ⟨ba, offa, none⟩) la.length ca := hdep ⟨4, .data⟩ (by simp) rfl _ _ rfl rfl
                      have e6 : a.eval (.tmp 163) = .int .i64 (f : Int) := hdep ⟨6, .data⟩ (by simp) rfl _ _ rfl rfl
                      clear hdep hgd
                      refine ⟨fun _ => ?_, fun hw => by simp [Region.wanted] at hw⟩
                      generalize a.eval = ρ at *
                      simp [go_sem, e4, e6, hfa]
                    · injection ho with ho
                      subst ho
                      have e7 : a.eval (.tmp 164) = .pointer (some ⟨ba, offa + f, none⟩) := hdep ⟨7, .data⟩ (by simp) rfl _ _ rfl rfl
                      clear hdep hgd
                      refine ⟨fun _ => ?_, fun hw => by simp [Region.wanted] at hw⟩
                      generalize a.eval = ρ at *
                      simp [go_sem, e7, eaf]
                    · injection ho with ho
                      subst ho
                      clear hdep hgd
                      refine ⟨fun _ => ?_, fun hw => by simp [Region.wanted] at hw⟩
                      generalize a.eval = ρ at *
                      simp [go_sem, r9]
                    · injection ho with ho
                      subst ho
                      clear hdep hgd
                      refine ⟨fun _ => ?_, fun hw => by simp [Region.wanted] at hw⟩
                      generalize a.eval = ρ at *
                      simp [go_sem, r19]
                    · injection ho with ho
                      subst ho
                      have e10 : a.eval (.tmp 167) = .pointer (some ⟨bx, 1, none⟩) := hdep ⟨10, .data⟩ (by simp) rfl _ _ rfl rfl
                      clear hdep hgd
                      refine ⟨fun _ => ?_, fun hw => by simp [Region.wanted] at hw⟩
                      generalize a.eval = ρ at *
                      simp [go_sem, e10, g1]
                    · injection ho with ho
                      subst ho
                      have e9 : a.eval (.tmp 166) = .slice (some ⟨ba, offa, none⟩) la.length ca := hdep ⟨9, .data⟩ (by simp) rfl _ _ rfl rfl
                      have e11 : a.eval (.tmp 168) = .int .i64 (t : Int) := hdep ⟨11, .data⟩ (by simp) rfl _ _ rfl rfl
                      clear hdep hgd
                      refine ⟨fun _ => ?_, fun hw => by simp [Region.wanted] at hw⟩
                      generalize a.eval = ρ at *
                      simp [go_sem, e9, e11, hta]
                    · injection ho with ho
                      subst ho
                      have e12 : a.eval (.tmp 169) = .pointer (some ⟨ba, offa + t, none⟩) := hdep ⟨12, .data⟩ (by simp) rfl _ _ rfl rfl
                      clear hdep hgd
                      refine ⟨fun _ => ?_, fun hw => by simp [Region.wanted] at hw⟩
                      generalize a.eval = ρ at *
                      simp [go_sem, e12, eat]
                    · injection ho with ho
                      subst ho
                      have e8 : a.eval (.tmp 165) = .int .i64 z1 := hdep ⟨8, .data⟩ (by simp) rfl _ _ rfl rfl
                      have e13 : a.eval (.tmp 170) = .int .i64 z2 := hdep ⟨13, .data⟩ (by simp) rfl _ _ rfl rfl
                      clear hdep hgd
                      refine ⟨fun _ => ?_, fun hw => by simp [Region.wanted] at hw⟩
                      generalize a.eval = ρ at *
                      simp [go_sem, e8, e13, t1]
                    · injection ho with ho
                      subst ho
                      have e14 : a.eval (.tmp 171) = .bool true := hdep ⟨14, .data⟩ (by simp) rfl _ _ rfl rfl
                      clear hdep hgd
                      refine ⟨fun _ => ?_, fun hw => by simp [Region.wanted] at hw⟩
                      generalize a.eval = ρ at *
                      simp [go_sem, e14]
                    · injection ho with ho
                      subst ho
                      have h8 : a.tmps.getD 172 undef = .bool true := hdep ⟨15, .guard⟩ (by simp) rfl _ _ rfl rfl
                      have hwd := hgd 15 true rfl _ _ rfl rfl true h8
                      clear hdep hgd
                      refine ⟨fun _ => ?_, fun hw => (by rw [hwd] at hw; cases hw)⟩
                      clear h8 hwd
                      generalize a.eval = ρ at *
                      simp [go_sem, r11]
                    · injection ho with ho
                      subst ho
                      have h8 : a.tmps.getD 172 undef = .bool true := hdep ⟨15, .guard⟩ (by simp) rfl _ _ rfl rfl
                      have hwd := hgd 15 true rfl _ _ rfl rfl true h8
                      clear hdep hgd
                      refine ⟨fun _ => ?_, fun hw => (by rw [hwd] at hw; cases hw)⟩
                      clear h8 hwd
                      generalize a.eval = ρ at *
                      simp [go_sem, r19]
                    · injection ho with ho
                      subst ho
                      have e17 : a.eval (.tmp 174) = .pointer (some ⟨bx, 0, none⟩) := hdep ⟨17, .data⟩ (by simp) rfl _ _ rfl rfl
                      have h8 : a.tmps.getD 172 undef = .bool true := hdep ⟨15, .guard⟩ (by simp) rfl _ _ rfl rfl
                      have hwd := hgd 15 true rfl _ _ rfl rfl true h8
                      clear hdep hgd
                      refine ⟨fun _ => ?_, fun hw => (by rw [hwd] at hw; cases hw)⟩
                      clear h8 hwd
                      generalize a.eval = ρ at *
                      simp [go_sem, e17, g0]
                    · injection ho with ho
                      subst ho
                      have e16 : a.eval (.tmp 173) = .slice (some ⟨bb, offb, none⟩) lb.length cb := hdep ⟨16, .data⟩ (by simp) rfl _ _ rfl rfl
                      have e18 : a.eval (.tmp 175) = .int .i64 (f : Int) := hdep ⟨18, .data⟩ (by simp) rfl _ _ rfl rfl
                      have h8 : a.tmps.getD 172 undef = .bool true := hdep ⟨15, .guard⟩ (by simp) rfl _ _ rfl rfl
                      have hwd := hgd 15 true rfl _ _ rfl rfl true h8
                      clear hdep hgd
                      refine ⟨fun _ => ?_, fun hw => (by rw [hwd] at hw; cases hw)⟩
                      clear h8 hwd
                      generalize a.eval = ρ at *
                      simp [go_sem, e16, e18, hfb]
                    · injection ho with ho
                      subst ho
                      have e19 : a.eval (.tmp 176) = .pointer (some ⟨bb, offb + f, none⟩) := hdep ⟨19, .data⟩ (by simp) rfl _ _ rfl rfl
                      have h8 : a.tmps.getD 172 undef = .bool true := hdep ⟨15, .guard⟩ (by simp) rfl _ _ rfl rfl
                      have hwd := hgd 15 true rfl _ _ rfl rfl true h8
                      clear hdep hgd
                      refine ⟨fun _ => ?_, fun hw => (by rw [hwd] at hw; cases hw)⟩
                      clear h8 hwd
                      generalize a.eval = ρ at *
                      simp [go_sem, e19, ebf]
                    · injection ho with ho
                      subst ho
                      have h8 : a.tmps.getD 172 undef = .bool true := hdep ⟨15, .guard⟩ (by simp) rfl _ _ rfl rfl
                      have hwd := hgd 15 true rfl _ _ rfl rfl true h8
                      clear hdep hgd
                      refine ⟨fun _ => ?_, fun hw => (by rw [hwd] at hw; cases hw)⟩
                      clear h8 hwd
                      generalize a.eval = ρ at *
                      simp [go_sem, r11]
                    · injection ho with ho
                      subst ho
                      have h8 : a.tmps.getD 172 undef = .bool true := hdep ⟨15, .guard⟩ (by simp) rfl _ _ rfl rfl
                      have hwd := hgd 15 true rfl _ _ rfl rfl true h8
                      clear hdep hgd
                      refine ⟨fun _ => ?_, fun hw => (by rw [hwd] at hw; cases hw)⟩
                      clear h8 hwd
                      generalize a.eval = ρ at *
                      simp [go_sem, r19]
                    · injection ho with ho
                      subst ho
                      have e22 : a.eval (.tmp 179) = .pointer (some ⟨bx, 1, none⟩) := hdep ⟨22, .data⟩ (by simp) rfl _ _ rfl rfl
                      have h8 : a.tmps.getD 172 undef = .bool true := hdep ⟨15, .guard⟩ (by simp) rfl _ _ rfl rfl
                      have hwd := hgd 15 true rfl _ _ rfl rfl true h8
                      clear hdep hgd
                      refine ⟨fun _ => ?_, fun hw => (by rw [hwd] at hw; cases hw)⟩
                      clear h8 hwd
                      generalize a.eval = ρ at *
                      simp [go_sem, e22, g1]
                    · injection ho with ho
                      subst ho
                      have e21 : a.eval (.tmp 178) = .slice (some ⟨bb, offb, none⟩) lb.length cb := hdep ⟨21, .data⟩ (by simp) rfl _ _ rfl rfl
                      have e23 : a.eval (.tmp 180) = .int .i64 (t : Int) := hdep ⟨23, .data⟩ (by simp) rfl _ _ rfl rfl
                      have h8 : a.tmps.getD 172 undef = .bool true := hdep ⟨15, .guard⟩ (by simp) rfl _ _ rfl rfl
                      have hwd := hgd 15 true rfl _ _ rfl rfl true h8
                      clear hdep hgd
                      refine ⟨fun _ => ?_, fun hw => (by rw [hwd] at hw; cases hw)⟩
                      clear h8 hwd
                      generalize a.eval = ρ at *
                      simp [go_sem, e21, e23, htb]
                    · injection ho with ho
                      subst ho
                      have e24 : a.eval (.tmp 181) = .pointer (some ⟨bb, offb + t, none⟩) := hdep ⟨24, .data⟩ (by simp) rfl _ _ rfl rfl
                      have h8 : a.tmps.getD 172 undef = .bool true := hdep ⟨15, .guard⟩ (by simp) rfl _ _ rfl rfl
                      have hwd := hgd 15 true rfl _ _ rfl rfl true h8
                      clear hdep hgd
                      refine ⟨fun _ => ?_, fun hw => (by rw [hwd] at hw; cases hw)⟩
                      clear h8 hwd
                      generalize a.eval = ρ at *
                      simp [go_sem, e24, ebt]
                    · injection ho with ho
                      subst ho
                      have e20 : a.eval (.tmp 177) = .int .i64 y1 := hdep ⟨20, .data⟩ (by simp) rfl _ _ rfl rfl
                      have e25 : a.eval (.tmp 182) = .int .i64 y2 := hdep ⟨25, .data⟩ (by simp) rfl _ _ rfl rfl
                      have h8 : a.tmps.getD 172 undef = .bool true := hdep ⟨15, .guard⟩ (by simp) rfl _ _ rfl rfl
                      have hwd := hgd 15 true rfl _ _ rfl rfl true h8
                      clear hdep hgd
                      refine ⟨fun _ => ?_, fun hw => (by rw [hwd] at hw; cases hw)⟩
                      clear h8 hwd
                      generalize a.eval = ρ at *
                      simp [go_sem, e20, e25, t2]
                    · injection ho with ho
                      subst ho
                      have e15 : a.eval (.tmp 172) = .bool true := hdep ⟨15, .data⟩ (by simp) rfl _ _ rfl rfl
                      have e26 : a.eval (.tmp 183) = .bool false := hdep ⟨26, .data⟩ (by simp) rfl _ _ rfl rfl
                      clear hdep hgd
                      refine ⟨fun _ => ?_, fun hw => by simp [Region.wanted] at hw⟩
                      generalize a.eval = ρ at *
                      simp [go_sem, e15, e26, hc]
                    · injection ho with ho
                      subst ho
                      have e3 : a.eval (.tmp 160) = .bool false := hdep ⟨3, .data⟩ (by simp) rfl _ _ rfl rfl
                      have e27 : a.eval (.tmp 184) = .bool false := hdep ⟨27, .data⟩ (by simp) rfl _ _ rfl rfl
                      clear hdep hgd
                      refine ⟨fun _ => ?_, fun hw => by simp [Region.wanted] at hw⟩
                      generalize a.eval = ρ at *
                      simp [go_sem, e3, e27]
                    · injection ho with ho
                      subst ho
                      have e28 : a.eval (.tmp 185) = .bool true := hdep ⟨28, .data⟩ (by simp) rfl _ _ rfl rfl
                      clear hdep hgd
                      refine ⟨fun _ => ?_, fun hw => by simp [Region.wanted] at hw⟩
                      generalize a.eval = ρ at *
                      simp [go_sem, e28]
                    · simp at ho
                  simp only [putAll, Act.put, List.setIfInBounds_toArray, List.set_cons_zero, List.set_cons_succ, Nat.reduceAdd]
                  go_wp2_with fail
                  go_ret
                  exact ⟨rfl, below_drewN HBZ.out 1⟩
                · have hq : q = (p : Int) + 1 := by rw [if_pos ⟨t1, t2⟩] at hfin; exact hfin
                  clear hfin
                  refine region_quiet (fun jq => match jq with | 0 => .int .i64 q | 1 => .int .i64 (p : Int) | 2 => .int .i64 ((p : Int) + 1) | 3 => .bool true | 4 => .slice (some ⟨ba, offa, none⟩) la.length ca | 5 => .pointer (some ⟨bx, 0, none⟩) | 6 => .int .i64 (f : Int) | 7 => .pointer (some ⟨ba, offa + f, none⟩) | 8 => .int .i64 z1 | 9 => .slice (some ⟨ba, offa, none⟩) la.length ca | 10 => .pointer (some ⟨bx, 1, none⟩) | 11 => .int .i64 (t : Int) | 12 => .pointer (some ⟨ba, offa + t, none⟩) | 13 => .int .i64 z2 | 14 => .bool true | 15 => .bool true | 16 => .slice (some ⟨bb, offb, none⟩) lb.length cb | 17 => .pointer (some ⟨bx, 0, none⟩) | 18 => .int .i64 (f : Int) | 19 => .pointer (some ⟨bb, offb + f, none⟩) | 20 => .int .i64 y1 | 21 => .slice (some ⟨bb, offb, none⟩) lb.length cb | 22 => .pointer (some ⟨bx, 1, none⟩) | 23 => .int .i64 (t : Int) | 24 => .pointer (some ⟨bb, offb + t, none⟩) | 25 => .int .i64 y2 | 26 => .bool true | 27 => .bool true | 28 => .bool true | 29 => .bool true | _ => undef) (by kernel_rfl) (by kernel_rfl) ?_ ?_
                  · intro i o ho a hdep hrest hgd
                    have r9 : a.eval (.tmp 9) = .slice (some ⟨ba, offa, none⟩) la.length ca := hrest 9 (apart_of (by kernel_rfl))
                    have r11 : a.eval (.tmp 11) = .slice (some ⟨bb, offb, none⟩) lb.length cb := hrest 11 (apart_of (by kernel_rfl))
                    have r13 : a.eval (.tmp 13) = .int .i64 (p : Int) := hrest 13 (apart_of (by kernel_rfl))
                    have r15 : a.eval (.tmp 15) = .int .i64 q := hrest 15 (apart_of (by kernel_rfl))
                    have r19 : a.eval (.tmp 19) = .pointer (some ⟨bx, 0, none⟩) := hrest 19 (apart_of (by kernel_rfl))
                    have hc : ∀ v, a.eval (.const v) = v := fun _ => rfl
                    clear hrest
                    rcases i with _ | _ | _ | _ | _ | _ | _ | _ | _ | _ | _ | _ | _ | _ | _ | _ | _ | _ | _ | _ | _ | _ | _ | _ | _ | _ | _ | _ | _ | _ | i
                    · injection ho with ho
                      subst ho
                      clear hdep hgd
                      refine ⟨fun _ => ?_, fun hw => by simp [Region.wanted] at hw⟩
                      generalize a.eval = ρ at *
                      simp [go_sem, r15]
                    · injection ho with ho
                      subst ho
                      clear hdep hgd
                      refine ⟨fun _ => ?_, fun hw => by simp [Region.wanted] at hw⟩
                      generalize a.eval = ρ at *
                      simp [go_sem, r13]
                    · injection ho with ho
                      subst ho
                      have e1 : a.eval (.tmp 158) = .int .i64 (p : Int) := hdep ⟨1, .data⟩ (by simp) rfl _ _ rfl rfl
                      clear hdep hgd
                      refine ⟨fun _ => ?_, fun hw => by simp [Region.wanted] at hw⟩
                      generalize a.eval = ρ at *
                      simp [go_sem, e1, hwr, hc]
                    · injection ho with ho
                      subst ho
                      have e0 : a.eval (.tmp 157) = .int .i64 q := hdep ⟨0, .data⟩ (by simp) rfl _ _ rfl rfl
                      have e2 : a.eval (.tmp 159) = .int .i64 ((p : Int) + 1) := hdep ⟨2, .data⟩ (by simp) rfl _ _ rfl rfl
                      clear hdep hgd
                      refine ⟨fun _ => ?_, fun hw => by simp [Region.wanted] at hw⟩
                      generalize a.eval = ρ at *
                      simp [go_sem, e0, e2, hq]
                    · injection ho with ho
                      subst ho
                      clear hdep hgd
                      refine ⟨fun _ => ?_, fun hw => by simp [Region.wanted] at hw⟩
                      generalize a.eval = ρ at *
                      simp [go_sem, r9]
                    · injection ho with ho
                      subst ho
                      clear hdep hgd
                      refine ⟨fun _ => ?_, fun hw => by simp [Region.wanted] at hw⟩
                      generalize a.eval = ρ at *
                      simp [go_sem, r19]
                    · injection ho with ho
                      subst ho
                      have e5 : a.eval (.tmp 162) = .pointer (some ⟨bx, 0, none⟩) := hdep ⟨5, .data⟩ (by simp) rfl _ _ rfl rfl
                      clear hdep hgd
                      refine ⟨fun _ => ?_, fun hw => by simp [Region.wanted] at hw⟩
                      generalize a.eval = ρ at *
                      simp [go_sem, e5, g0]
                    · injection ho with ho
                      subst ho
                      have e4 : a.eval (.tmp 161) = .slice (some ⟨ba, offa, none⟩) la.length ca := hdep ⟨4, .data⟩ (by simp) rfl _ _ rfl rfl
                      have e6 : a.eval (.tmp 163) = .int .i64 (f : Int) := hdep ⟨6, .data⟩ (by simp) rfl _ _ rfl rfl
                      clear hdep hgd
                      refine ⟨fun _ => ?_, fun hw => by simp [Region.wanted] at hw⟩
                      generalize a.eval = ρ at *
                      simp [go_sem, e4, e6, hfa]
                    · injection ho with ho
                      subst ho
                      have e7 : a.eval (.tmp 164) = .pointer (some ⟨ba, offa + f, none⟩) := hdep ⟨7, .data⟩ (by simp) rfl _ _ rfl rfl
                      clear hdep hgd
                      refine ⟨fun _ => ?_, fun hw => by simp [Region.wanted] at hw⟩
                      generalize a.eval = ρ at *
                      simp [go_sem, e7, eaf]
                    · injection ho with ho
                      subst ho
                      clear hdep hgd
                      refine ⟨fun _ => ?_, fun hw => by simp [Region.wanted] at hw⟩
                      generalize a.eval = ρ at *
                      simp [go_sem, r9]
                    · injection ho with ho
                      subst ho
                      clear hdep hgd
                      refine ⟨fun _ => ?_, fun hw => by simp [Region.wanted] at hw⟩
                      generalize a.eval = ρ at *
                      simp [go_sem, r19]
                    · injection ho with ho
                      subst ho
                      have e10 : a.eval (.tmp 167) = .pointer (some ⟨bx, 1, none⟩) := hdep ⟨10, .data⟩ (by simp) rfl _ _ rfl rfl
                      clear hdep hgd
                      refine ⟨fun _ => ?_, fun hw => by simp [Region.wanted] at hw⟩
                      generalize a.eval = ρ at *
                      simp [go_sem, e10, g1]
                    · injection ho with ho
                      subst ho
                      have e9 : a.eval (.tmp 166) = .slice (some ⟨ba, offa, none⟩) la.length ca := hdep ⟨9, .data⟩ (by simp) rfl _ _ rfl rfl
                      have e11 : a.eval (.tmp 168) = .int .i64 (t : Int) := hdep ⟨11, .data⟩ (by simp) rfl _ _ rfl rfl
                      clear hdep hgd
                      refine ⟨fun _ => ?_, fun hw => by simp [Region.wanted] at hw⟩
                      generalize a.eval = ρ at *
                      simp [go_sem, e9, e11, hta]
                    · injection ho with ho
                      subst ho
                      have e12 : a.eval (.tmp 169) = .pointer (some ⟨ba, offa + t, none⟩) := hdep ⟨12, .data⟩ (by simp) rfl _ _ rfl rfl
                      clear hdep hgd
                      refine ⟨fun _ => ?_, fun hw => by simp [Region.wanted] at hw⟩
                      generalize a.eval = ρ at *
                      simp [go_sem, e12, eat]
                    · injection ho with ho
                      subst ho
                      have e8 : a.eval (.tmp 165) = .int .i64 z1 := hdep ⟨8, .data⟩ (by simp) rfl _ _ rfl rfl
                      have e13 : a.eval (.tmp 170) = .int .i64 z2 := hdep ⟨13, .data⟩ (by simp) rfl _ _ rfl rfl
                      clear hdep hgd
                      refine ⟨fun _ => ?_, fun hw => by simp [Region.wanted] at hw⟩
                      generalize a.eval = ρ at *
                      simp [go_sem, e8, e13, t1]
                    · injection ho with ho
                      subst ho
                      have e14 : a.eval (.tmp 171) = .bool true := hdep ⟨14, .data⟩ (by simp) rfl _ _ rfl rfl
                      clear hdep hgd
                      refine ⟨fun _ => ?_, fun hw => by simp [Region.wanted] at hw⟩
                      generalize a.eval = ρ at *
                      simp [go_sem, e14]
                    · injection ho with ho
                      subst ho
                      have h8 : a.tmps.getD 172 undef = .bool true := hdep ⟨15, .guard⟩ (by simp) rfl _ _ rfl rfl
                      have hwd := hgd 15 true rfl _ _ rfl rfl true h8
                      clear hdep hgd
                      refine ⟨fun _ => ?_, fun hw => (by rw [hwd] at hw; cases hw)⟩
                      clear h8 hwd
                      generalize a.eval = ρ at *
                      simp [go_sem, r11]
                    · injection ho with ho
                      subst ho
                      have h8 : a.tmps.getD 172 undef = .bool true := hdep ⟨15, .guard⟩ (by simp) rfl _ _ rfl rfl
                      have hwd := hgd 15 true rfl _ _ rfl rfl true h8
                      clear hdep hgd
                      refine ⟨fun _ => ?_, fun hw => (by rw [hwd] at hw; cases hw)⟩
                      clear h8 hwd
                      generalize a.eval = ρ at *
                      simp [go_sem, r19]
                    · injection ho with ho
                      subst ho
                      have e17 : a.eval (.tmp 174) = .pointer (some ⟨bx, 0, none⟩) := hdep ⟨17, .data⟩ (by simp) rfl _ _ rfl rfl
                      have h8 : a.tmps.getD 172 undef = .bool true := hdep ⟨15, .guard⟩ (by simp) rfl _ _ rfl rfl
                      have hwd := hgd 15 true rfl _ _ rfl rfl true h8
                      clear hdep hgd
                      refine ⟨fun _ => ?_, fun hw => (by rw [hwd] at hw; cases hw)⟩
                      clear h8 hwd
                      generalize a.eval = ρ at *
                      simp [go_sem, e17, g0]
                    · injection ho with ho
                      subst ho
                      have e16 : a.eval (.tmp 173) = .slice (some ⟨bb, offb, none⟩) lb.length cb := hdep ⟨16, .data⟩ (by simp) rfl _ _ rfl rfl
                      have e18 : a.eval (.tmp 175) = .int .i64 (f : Int) := hdep ⟨18, .data⟩ (by simp) rfl _ _ rfl rfl
                      have h8 : a.tmps.getD 172 undef = .bool true := hdep ⟨15, .guard⟩ (by simp) rfl _ _ rfl rfl
                      have hwd := hgd 15 true rfl _ _ rfl rfl true h8
                      clear hdep hgd
                      refine ⟨fun _ => ?_, fun hw => (by rw [hwd] at hw; cases hw)⟩
                      clear h8 hwd
                      generalize a.eval = ρ at *
                      simp [go_sem, e16, e18, hfb]
                    · injection ho with ho
                      subst ho
                      have e19 : a.eval (.tmp 176) = .pointer (some ⟨bb, offb + f, none⟩) := hdep ⟨19, .data⟩ (by simp) rfl _ _ rfl rfl
                      have h8 : a.tmps.getD 172 undef = .bool true := hdep ⟨15, .guard⟩ (by simp) rfl _ _ rfl rfl
                      have hwd := hgd 15 true rfl _ _ rfl rfl true h8
                      clear hdep hgd
                      refine ⟨fun _ => ?_, fun hw => (by rw [hwd] at hw; cases hw)⟩
                      clear h8 hwd
                      generalize a.eval = ρ at *
                      simp [go_sem, e19, ebf]
                    · injection ho with ho
                      subst ho
                      have h8 : a.tmps.getD 172 undef = .bool true := hdep ⟨15, .guard⟩ (by simp) rfl _ _ rfl rfl
                      have hwd := hgd 15 true rfl _ _ rfl rfl true h8
                      clear hdep hgd
                      refine ⟨fun _ => ?_, fun hw => (by rw [hwd] at hw; cases hw)⟩
                      clear h8 hwd
                      generalize a.eval = ρ at *
                      simp [go_sem, r11]
                    · injection ho with ho
                      subst ho
                      have h8 : a.tmps.getD 172 undef = .bool true := hdep ⟨15, .guard⟩ (by simp) rfl _ _ rfl rfl
                      have hwd := hgd 15 true rfl _ _ rfl rfl true h8
                      clear hdep hgd
                      refine ⟨fun _ => ?_, fun hw => (by rw [hwd] at hw; cases hw)⟩
                      clear h8 hwd
                      generalize a.eval = ρ at *
                      simp [go_sem, r19]
                    · injection ho with ho
                      subst ho
                      have e22 : a.eval (.tmp 179) = .pointer (some ⟨bx, 1, none⟩) := hdep ⟨22, .data⟩ (by simp) rfl _ _ rfl rfl
                      have h8 : a.tmps.getD 172 undef = .bool true := hdep ⟨15, .guard⟩ (by simp) rfl _ _ rfl rfl
                      have hwd := hgd 15 true rfl _ _ rfl rfl true h8
                      clear hdep hgd
                      refine ⟨fun _ => ?_, fun hw => (by rw [hwd] at hw; cases hw)⟩
                      clear h8 hwd
                      generalize a.eval = ρ at *
                      simp [go_sem, e22, g1]
                    · injection ho with ho
                      subst ho
                      have e21 : a.eval (.tmp 178) = .slice (some ⟨bb, offb, none⟩) lb.length cb := hdep ⟨21, .data⟩ (by simp) rfl _ _ rfl rfl
                      have e23 : a.eval (.tmp 180) = .int .i64 (t : Int) := hdep ⟨23, .data⟩ (by simp) rfl _ _ rfl rfl
                      have h8 : a.tmps.getD 172 undef = .bool true := hdep ⟨15, .guard⟩ (by simp) rfl _ _ rfl rfl
                      have hwd := hgd 15 true rfl _ _ rfl rfl true h8
                      clear hdep hgd
                      refine ⟨fun _ => ?_, fun hw => (by rw [hwd] at hw; cases hw)⟩
                      clear h8 hwd
                      generalize a.eval = ρ at *
                      simp [go_sem, e21, e23, htb]
                    · injection ho with ho
                      subst ho
                      have e24 : a.eval (.tmp 181) = .pointer (some ⟨bb, offb + t, none⟩) := hdep ⟨24, .data⟩ (by simp) rfl _ _ rfl rfl
                      have h8 : a.tmps.getD 172 undef = .bool true := hdep ⟨15, .guard⟩ (by simp) rfl _ _ rfl rfl
                      have hwd := hgd 15 true rfl _ _ rfl rfl true h8
                      clear hdep hgd
                      refine ⟨fun _ => ?_, fun hw => (by rw [hwd] at hw; cases hw)⟩
                      clear h8 hwd
                      generalize a.eval = ρ at *
                      simp [go_sem, e24, ebt]
                    · injection ho with ho
                      subst ho
                      have e20 : a.eval (.tmp 177) = .int .i64 y1 := hdep ⟨20, .data⟩ (by simp) rfl _ _ rfl rfl
                      have e25 : a.eval (.tmp 182) = .int .i64 y2 := hdep ⟨25, .data⟩ (by simp) rfl _ _ rfl rfl
                      have h8 : a.tmps.getD 172 undef = .bool true := hdep ⟨15, .guard⟩ (by simp) rfl _ _ rfl rfl
                      have hwd := hgd 15 true rfl _ _ rfl rfl true h8
                      clear hdep hgd
                      refine ⟨fun _ => ?_, fun hw => (by rw [hwd] at hw; cases hw)⟩
                      clear h8 hwd
                      generalize a.eval = ρ at *
                      simp [go_sem, e20, e25, t2]
                    · injection ho with ho
                      subst ho
                      have e15 : a.eval (.tmp 172) = .bool true := hdep ⟨15, .data⟩ (by simp) rfl _ _ rfl rfl
                      have e26 : a.eval (.tmp 183) = .bool true := hdep ⟨26, .data⟩ (by simp) rfl _ _ rfl rfl
                      clear hdep hgd
                      refine ⟨fun _ => ?_, fun hw => by simp [Region.wanted] at hw⟩
                      generalize a.eval = ρ at *
                      simp [go_sem, e15, e26, hc]
                    · injection ho with ho
                      subst ho
                      have e3 : a.eval (.tmp 160) = .bool true := hdep ⟨3, .data⟩ (by simp) rfl _ _ rfl rfl
                      have e27 : a.eval (.tmp 184) = .bool true := hdep ⟨27, .data⟩ (by simp) rfl _ _ rfl rfl
                      clear hdep hgd
                      refine ⟨fun _ => ?_, fun hw => by simp [Region.wanted] at hw⟩
                      generalize a.eval = ρ at *
                      simp [go_sem, e3, e27]
                    · injection ho with ho
                      subst ho
                      have e28 : a.eval (.tmp 185) = .bool true := hdep ⟨28, .data⟩ (by simp) rfl _ _ rfl rfl
                      clear hdep hgd
                      refine ⟨fun _ => ?_, fun hw => by simp [Region.wanted] at hw⟩
                      generalize a.eval = ρ at *
                      simp [go_sem, e28]
                    · simp at ho
                  simp only [putAll, Act.put, List.setIfInBounds_toArray, List.set_cons_zero, List.set_cons_succ, Nat.reduceAdd]
                  go_wp2_with fail
                  go_ret
                  exact ⟨rfl, below_drewN HBZ.out 1⟩
              · have hq : ¬ q = (p : Int) + 1 := by rw [if_neg (fun h => t1 h.1)] at hfin; omega
                clear hfin
                refine region_quiet (fun jq => match jq with | 0 => .int .i64 q | 1 => .int .i64 (p : Int) | 2 => .int .i64 ((p : Int) + 1) | 3 => .bool false | 4 => .slice (some ⟨ba, offa, none⟩) la.length ca | 5 => .pointer (some ⟨bx, 0, none⟩) | 6 => .int .i64 (f : Int) | 7 => .pointer (some ⟨ba, offa + f, none⟩) | 8 => .int .i64 z1 | 9 => .slice (some ⟨ba, offa, none⟩) la.length ca | 10 => .pointer (some ⟨bx, 1, none⟩) | 11 => .int .i64 (t : Int) | 12 => .pointer (some ⟨ba, offa + t, none⟩) | 13 => .int .i64 z2 | 14 => .bool false | 15 => .bool false | 16 => undef | 17 => undef | 18 => undef | 19 => undef | 20 => undef | 21 => undef | 22 => undef | 23 => undef | 24 => undef | 25 => undef | 26 => undef | 27 => .bool false | 28 => .bool true | 29 => .bool true | _ => undef) (by kernel_rfl) (by kernel_rfl) ?_ ?_
                · intro i o ho a hdep hrest hgd
                  have r9 : a.eval (.tmp 9) = .slice (some ⟨ba, offa, none⟩) la.length ca := hrest 9 (apart_of (by kernel_rfl))
                  have r11 : a.eval (.tmp 11) = .slice (some ⟨bb, offb, none⟩) lb.length cb := hrest 11 (apart_of (by kernel_rfl))
                  have r13 : a.eval (.tmp 13) = .int .i64 (p : Int) := hrest 13 (apart_of (by kernel_rfl))
                  have r15 : a.eval (.tmp 15) = .int .i64 q := hrest 15 (apart_of (by kernel_rfl))
                  have r19 : a.eval (.tmp 19) = .pointer (some ⟨bx, 0, none⟩) := hrest 19 (apart_of (by kernel_rfl))
                  have hc : ∀ v, a.eval (.const v) = v := fun _ => rfl
                  clear hrest
                  rcases i with _ | _ | _ | _ | _ | _ | _ | _ | _ | _ | _ | _ | _ | _ | _ | _ | _ | _ | _ | _ | _ | _ | _ | _ | _ | _ | _ | _ | _ | _ | i
                  · injection ho with ho
                    subst ho
                    clear hdep hgd
                    refine ⟨fun _ => ?_, fun hw => by simp [Region.wanted] at hw⟩
                    generalize a.eval = ρ at *
                    simp [go_sem, r15]
                  · injection ho with ho
                    subst ho
                    clear hdep hgd
                    refine ⟨fun _ => ?_, fun hw => by simp [Region.wanted] at hw⟩
                    generalize a.eval = ρ at *
                    simp [go_sem, r13]
                  · injection ho with ho
                    subst ho
                    have e1 : a.eval (.tmp 158) = .int .i64 (p : Int) := hdep ⟨1, .data⟩ (by simp) rfl _ _ rfl rfl
                    clear hdep hgd
                    refine ⟨fun _ => ?_, fun hw => by simp [Region.wanted] at hw⟩
                    generalize a.eval = ρ at *
                    simp [go_sem, e1, hwr, hc]
                  · injection ho with ho
                    subst ho
                    have e0 : a.eval (.tmp 157) = .int .i64 q := hdep ⟨0, .data⟩ (by simp) rfl _ _ rfl rfl
                    have e2 : a.eval (.tmp 159) = .int .i64 ((p : Int) + 1) := hdep ⟨2, .data⟩ (by simp) rfl _ _ rfl rfl
                    clear hdep hgd
                    refine ⟨fun _ => ?_, fun hw => by simp [Region.wanted] at hw⟩
                    generalize a.eval = ρ at *
                    simp [go_sem, e0, e2, hq]
                  · injection ho with ho
                    subst ho
                    clear hdep hgd
                    refine ⟨fun _ => ?_, fun hw => by simp [Region.wanted] at hw⟩
                    generalize a.eval = ρ at *
                    simp [go_sem, r9]
                  · injection ho with ho
                    subst ho
                    clear hdep hgd
                    refine ⟨fun _ => ?_, fun hw => by simp [Region.wanted] at hw⟩
                    generalize a.eval = ρ at *
                    simp [go_sem, r19]
                  · injection ho with ho
                    subst ho
                    have e5 : a.eval (.tmp 162) = .pointer (some ⟨bx, 0, none⟩) := hdep ⟨5, .data⟩ (by simp) rfl _ _ rfl rfl
                    clear hdep hgd
                    refine ⟨fun _ => ?_, fun hw => by simp [Region.wanted] at hw⟩
                    generalize a.eval = ρ at *
                    simp [go_sem, e5, g0]
                  · injection ho with ho
                    subst ho
                    have e4 : a.eval (.tmp 161) = .slice (some ⟨ba, offa, none⟩) la.length ca := hdep ⟨4, .data⟩ (by simp) rfl _ _ rfl rfl
                    have e6 : a.eval (.tmp 163) = .int .i64 (f : Int) := hdep ⟨6, .data⟩ (by simp) rfl _ _ rfl rfl
                    clear hdep hgd
                    refine ⟨fun _ => ?_, fun hw => by simp [Region.wanted] at hw⟩
                    generalize a.eval = ρ at *
                    simp [go_sem, e4, e6, hfa]
                  · injection ho with ho
                    subst ho
                    have e7 : a.eval (.tmp 164) = .pointer (some ⟨ba, offa + f, none⟩) := hdep ⟨7, .data⟩ (by simp) rfl _ _ rfl rfl
                    clear hdep hgd
                    refine ⟨fun _ => ?_, fun hw => by simp [Region.wanted] at hw⟩
                    generalize a.eval = ρ at *
                    simp [go_sem, e7, eaf]
                  · injection ho with ho
                    subst ho
                    clear hdep hgd
                    refine ⟨fun _ => ?_, fun hw => by simp [Region.wanted] at hw⟩
                    generalize a.eval = ρ at *
                    simp [go_sem, r9]
                  · injection ho with ho
                    subst ho
                    clear hdep hgd
                    refine ⟨fun _ => ?_, fun hw => by simp [Region.wanted] at hw⟩
                    generalize a.eval = ρ at *
                    simp [go_sem, r19]
                  · injection ho with ho
                    subst ho
                    have e10 : a.eval (.tmp 167) = .pointer (some ⟨bx, 1, none⟩) := hdep ⟨10, .data⟩ (by simp) rfl _ _ rfl rfl
                    clear hdep hgd
                    refine ⟨fun _ => ?_, fun hw => by simp [Region.wanted] at hw⟩
                    generalize a.eval = ρ at *
                    simp [go_sem, e10, g1]
                  · injection ho with ho
                    subst ho
                    have e9 : a.eval (.tmp 166) = .slice (some ⟨ba, offa, none⟩) la.length ca := hdep ⟨9, .data⟩ (by simp) rfl _ _ rfl rfl
                    have e11 : a.eval (.tmp 168) = .int .i64 (t : Int) := hdep ⟨11, .data⟩ (by simp) rfl _ _ rfl rfl
                    clear hdep hgd
                    refine ⟨fun _ => ?_, fun hw => by simp [Region.wanted] at hw⟩
                    generalize a.eval = ρ at *
                    simp [go_sem, e9, e11, hta]
                  · injection ho with ho
                    subst ho
                    have e12 : a.eval (.tmp 169) = .pointer (some ⟨ba, offa + t, none⟩) := hdep ⟨12, .data⟩ (by simp) rfl _ _ rfl rfl
                    clear hdep hgd
                    refine ⟨fun _ => ?_, fun hw => by simp [Region.wanted] at hw⟩
                    generalize a.eval = ρ at *
                    simp [go_sem, e12, eat]
                  · injection ho with ho
                    subst ho
                    have e8 : a.eval (.tmp 165) = .int .i64 z1 := hdep ⟨8, .data⟩ (by simp) rfl _ _ rfl rfl
                    have e13 : a.eval (.tmp 170) = .int .i64 z2 := hdep ⟨13, .data⟩ (by simp) rfl _ _ rfl rfl
                    clear hdep hgd
                    refine ⟨fun _ => ?_, fun hw => by simp [Region.wanted] at hw⟩
                    generalize a.eval = ρ at *
                    simp [go_sem, e8, e13, t1]
                  · injection ho with ho
                    subst ho
                    have e14 : a.eval (.tmp 171) = .bool false := hdep ⟨14, .data⟩ (by simp) rfl _ _ rfl rfl
                    clear hdep hgd
                    refine ⟨fun _ => ?_, fun hw => by simp [Region.wanted] at hw⟩
                    generalize a.eval = ρ at *
                    simp [go_sem, e14]
                  · injection ho with ho
                    subst ho
                    have h8 : a.tmps.getD 172 undef = .bool false := hdep ⟨15, .guard⟩ (by simp) rfl _ _ rfl rfl
                    have hwd := hgd 15 true rfl _ _ rfl rfl false h8
                    clear hdep hgd
                    exact ⟨fun hw => (by rw [hwd] at hw; cases hw), fun _ => rfl⟩
                  · injection ho with ho
                    subst ho
                    have h8 : a.tmps.getD 172 undef = .bool false := hdep ⟨15, .guard⟩ (by simp) rfl _ _ rfl rfl
                    have hwd := hgd 15 true rfl _ _ rfl rfl false h8
                    clear hdep hgd
                    exact ⟨fun hw => (by rw [hwd] at hw; cases hw), fun _ => rfl⟩
                  · injection ho with ho
                    subst ho
                    have e17 : a.eval (.tmp 174) = undef := hdep ⟨17, .data⟩ (by simp) rfl _ _ rfl rfl
                    have h8 : a.tmps.getD 172 undef = .bool false := hdep ⟨15, .guard⟩ (by simp) rfl _ _ rfl rfl
                    have hwd := hgd 15 true rfl _ _ rfl rfl false h8
                    clear hdep hgd
                    exact ⟨fun hw => (by rw [hwd] at hw; cases hw), fun _ => rfl⟩
                  · injection ho with ho
                    subst ho
                    have e16 : a.eval (.tmp 173) = undef := hdep ⟨16, .data⟩ (by simp) rfl _ _ rfl rfl
                    have e18 : a.eval (.tmp 175) = undef := hdep ⟨18, .data⟩ (by simp) rfl _ _ rfl rfl
                    have h8 : a.tmps.getD 172 undef = .bool false := hdep ⟨15, .guard⟩ (by simp) rfl _ _ rfl rfl
                    have hwd := hgd 15 true rfl _ _ rfl rfl false h8
                    clear hdep hgd
                    exact ⟨fun hw => (by rw [hwd] at hw; cases hw), fun _ => rfl⟩
                  · injection ho with ho
                    subst ho
                    have e19 : a.eval (.tmp 176) = undef := hdep ⟨19, .data⟩ (by simp) rfl _ _ rfl rfl
                    have h8 : a.tmps.getD 172 undef = .bool false := hdep ⟨15, .guard⟩ (by simp) rfl _ _ rfl rfl
                    have hwd := hgd 15 true rfl _ _ rfl rfl false h8
                    clear hdep hgd
                    exact ⟨fun hw => (by rw [hwd] at hw; cases hw), fun _ => rfl⟩
                  · injection ho with ho
                    subst ho
                    have h8 : a.tmps.getD 172 undef = .bool false := hdep ⟨15, .guard⟩ (by simp) rfl _ _ rfl rfl
                    have hwd := hgd 15 true rfl _ _ rfl rfl false h8
                    clear hdep hgd
                    exact ⟨fun hw => (by rw [hwd] at hw; cases hw), fun _ => rfl⟩
                  · injection ho with ho
                    subst ho
                    have h8 : a.tmps.getD 172 undef = .bool false := hdep ⟨15, .guard⟩ (by simp) rfl _ _ rfl rfl
                    have hwd := hgd 15 true rfl _ _ rfl rfl false h8
                    clear hdep hgd
                    exact ⟨fun hw => (by rw [hwd] at hw; cases hw), fun _ => rfl⟩
                  · injection ho with ho
                    subst ho
                    have e22 : a.eval (.tmp 179) = undef := hdep ⟨22, .data⟩ (by simp) rfl _ _ rfl rfl
                    have h8 : a.tmps.getD 172 undef = .bool false := hdep ⟨15, .guard⟩ (by simp) rfl _ _ rfl rfl
                    have hwd := hgd 15 true rfl _ _ rfl rfl false h8
                    clear hdep hgd
                    exact ⟨fun hw => (by rw [hwd] at hw; cases hw), fun _ => rfl⟩
                  · injection ho with ho
                    subst ho
                    have e21 : a.eval (.tmp 178) = undef := hdep ⟨21, .data⟩ (by simp) rfl _ _ rfl rfl
                    have e23 : a.eval (.tmp 180) = undef := hdep ⟨23, .data⟩ (by simp) rfl _ _ rfl rfl
                    have h8 : a.tmps.getD 172 undef = .bool false := hdep ⟨15, .guard⟩ (by simp) rfl _ _ rfl rfl
                    have hwd := hgd 15 true rfl _ _ rfl rfl false h8
                    clear hdep hgd
                    exact ⟨fun hw => (by rw [hwd] at hw; cases hw), fun _ => rfl⟩
                  · injection ho with ho
                    subst ho
                    have e24 : a.eval (.tmp 181) = undef := hdep ⟨24, .data⟩ (by simp) rfl _ _ rfl rfl
                    have h8 : a.tmps.getD 172 undef = .bool false := hdep ⟨15, .guard⟩ (by simp) rfl _ _ rfl rfl
                    have hwd := hgd 15 true rfl _ _ rfl rfl false h8
                    clear hdep hgd
                    exact ⟨fun hw => (by rw [hwd] at hw; cases hw), fun _ => rfl⟩
                  · injection ho with ho
                    subst ho
                    have e20 : a.eval (.tmp 177) = undef := hdep ⟨20, .data⟩ (by simp) rfl _ _ rfl rfl
                    have e25 : a.eval (.tmp 182) = undef := hdep ⟨25, .data⟩ (by simp) rfl _ _ rfl rfl
                    have h8 : a.tmps.getD 172 undef = .bool false := hdep ⟨15, .guard⟩ (by simp) rfl _ _ rfl rfl
                    have hwd := hgd 15 true rfl _ _ rfl rfl false h8
                    clear hdep hgd
                    exact ⟨fun hw => (by rw [hwd] at hw; cases hw), fun _ => rfl⟩
                  · injection ho with ho
                    subst ho
                    have e15 : a.eval (.tmp 172) = .bool false := hdep ⟨15, .data⟩ (by simp) rfl _ _ rfl rfl
                    clear hdep hgd
                    refine ⟨fun _ => ?_, fun hw => by simp [Region.wanted] at hw⟩
                    generalize a.eval = ρ at *
                    simp [go_sem, e15, hc]
                  · injection ho with ho
                    subst ho
                    have e3 : a.eval (.tmp 160) = .bool false := hdep ⟨3, .data⟩ (by simp) rfl _ _ rfl rfl
                    have e27 : a.eval (.tmp 184) = .bool false := hdep ⟨27, .data⟩ (by simp) rfl _ _ rfl rfl
                    clear hdep hgd
                    refine ⟨fun _ => ?_, fun hw => by simp [Region.wanted] at hw⟩
                    generalize a.eval = ρ at *
                    simp [go_sem, e3, e27]
                  · injection ho with ho
                    subst ho
                    have e28 : a.eval (.tmp 185) = .bool true := hdep ⟨28, .data⟩ (by simp) rfl _ _ rfl rfl
                    clear hdep hgd
                    refine ⟨fun _ => ?_, fun hw => by simp [Region.wanted] at hw⟩
                    generalize a.eval = ρ at *
                    simp [go_sem, e28]
                  · simp at ho
                simp only [putAll, Act.put, List.setIfInBounds_toArray, List.set_cons_zero, List.set_cons_succ, Nat.reduceAdd]
                go_wp2_with fail
                go_ret
                exact ⟨rfl, below_drewN HBZ.out 1⟩
            | succ g =>
              have hk : k < n := by omega
              have HG := Lib.hid hkg
              clear hkg
              go_wp2_with fail
              go_loopg [18] n (fun g2 i wr' => ∃ j : Nat, j + g2 = n ∧ i = .int .i64 j ∧ ∃ nq', w10.drewN nq' = wr')
              case atStart => exact ⟨0, by omega, rfl, nq, rfl⟩
              case round =>
                clear nq
                obtain ⟨j, hjg, rfl, nq, rfl⟩ := hrel
                cases gk with
                | zero =>
                  obtain rfl : j = n := by omega
                  clear hjg
                  go_wp2_with fail
                  go_roundg g
                  case measure => omega
                  case rel => exact ⟨k + 1, by have := HG.out; omega, by go_num, nq, rfl⟩
                | succ g2 =>
                  have hj : j < n := by omega
                  have HG2 := Lib.hid hjg
                  clear hjg
                  have eak := HCA.out k (by have := HLA.out; omega)
                  have eaj := HCA.out j (by have := HLA.out; omega)
                  have ebk := HCB.out k (by have := HLB.out; omega)
                  have ebj := HCB.out j (by have := HLB.out; omega)
                  have hfn := HFIN.out k j hk hj
                  have hka : k < la.length := by have := HLA.out; omega
                  have hja : j < la.length := by have := HLA.out; omega
                  have hkb : k < lb.length := by have := HLB.out; omega
                  have hjb : j < lb.length := by have := HLB.out; omega
                  generalize la.getD k 0 = z1 at *
                  generalize la.getD j 0 = z2 at *
                  generalize lb.getD k 0 = y1 at *
                  generalize lb.getD j 0 = y2 at *
                  by_cases t1 : y1 = y2
                  · have t2 := hfn t1
                    clear hfn
                    go_wp2_with fail
                    refine region_quiet (fun jq => match jq with | 0 => .slice (some ⟨bb, offb, none⟩) lb.length cb | 1 => .int .i64 (k : Int) | 2 => .pointer (some ⟨bb, offb + k, none⟩) | 3 => .int .i64 y1 | 4 => .slice (some ⟨bb, offb, none⟩) lb.length cb | 5 => .int .i64 (j : Int) | 6 => .pointer (some ⟨bb, offb + j, none⟩) | 7 => .int .i64 y2 | 8 => .bool true | 9 => .bool true | 10 => .slice (some ⟨ba, offa, none⟩) la.length ca | 11 => .int .i64 (k : Int) | 12 => .pointer (some ⟨ba, offa + k, none⟩) | 13 => .int .i64 z1 | 14 => .slice (some ⟨ba, offa, none⟩) la.length ca | 15 => .int .i64 (j : Int) | 16 => .pointer (some ⟨ba, offa + j, none⟩) | 17 => .int .i64 z2 | 18 => .bool false | 19 => .bool false | _ => undef) (by kernel_rfl) (by kernel_rfl) ?_ ?_
                    · intro i o ho a hdep hrest hgd
                      have r9 : a.eval (.tmp 9) = .slice (some ⟨ba, offa, none⟩) la.length ca := hrest 9 (apart_of (by kernel_rfl))
                      have r11 : a.eval (.tmp 11) = .slice (some ⟨bb, offb, none⟩) lb.length cb := hrest 11 (apart_of (by kernel_rfl))
                      have r17 : a.eval (.tmp 17) = .int .i64 (k : Int) := hrest 17 (apart_of (by kernel_rfl))
                      have r18 : a.eval (.tmp 18) = .int .i64 (j : Int) := hrest 18 (apart_of (by kernel_rfl))
                      have hc : ∀ v, a.eval (.const v) = v := fun _ => rfl
                      clear hrest
                      rcases i with _ | _ | _ | _ | _ | _ | _ | _ | _ | _ | _ | _ | _ | _ | _ | _ | _ | _ | _ | _ | i
                      · injection ho with ho
                        subst ho
                        clear hdep hgd
                        refine ⟨fun _ => ?_, fun hw => by simp [Region.wanted] at hw⟩
                        generalize a.eval = ρ at *
                        simp [go_sem, r11]
                      · injection ho with ho
                        subst ho
                        clear hdep hgd
                        refine ⟨fun _ => ?_, fun hw => by simp [Region.wanted] at hw⟩
                        generalize a.eval = ρ at *
                        simp [go_sem, r17]
                      · injection ho with ho
                        subst ho
                        have e0 : a.eval (.tmp 132) = .slice (some ⟨bb, offb, none⟩) lb.length cb := hdep ⟨0, .data⟩ (by simp) rfl _ _ rfl rfl
                        have e1 : a.eval (.tmp 133) = .int .i64 (k : Int) := hdep ⟨1, .data⟩ (by simp) rfl _ _ rfl rfl
                        clear hdep hgd
                        refine ⟨fun _ => ?_, fun hw => by simp [Region.wanted] at hw⟩
                        generalize a.eval = ρ at *
                        simp [go_sem, e0, e1, hkb]
                      · injection ho with ho
                        subst ho
                        have e2 : a.eval (.tmp 134) = .pointer (some ⟨bb, offb + k, none⟩) := hdep ⟨2, .data⟩ (by simp) rfl _ _ rfl rfl
                        clear hdep hgd
                        refine ⟨fun _ => ?_, fun hw => by simp [Region.wanted] at hw⟩
                        generalize a.eval = ρ at *
                        simp [go_sem, e2, ebk]
                      · injection ho with ho
                        subst ho
                        clear hdep hgd
                        refine ⟨fun _ => ?_, fun hw => by simp [Region.wanted] at hw⟩
                        generalize a.eval = ρ at *
                        simp [go_sem, r11]
                      · injection ho with ho
                        subst ho
                        clear hdep hgd
                        refine ⟨fun _ => ?_, fun hw => by simp [Region.wanted] at hw⟩
                        generalize a.eval = ρ at *
                        simp [go_sem, r18]
                      · injection ho with ho
                        subst ho
                        have e4 : a.eval (.tmp 136) = .slice (some ⟨bb, offb, none⟩) lb.length cb := hdep ⟨4, .data⟩ (by simp) rfl _ _ rfl rfl
                        have e5 : a.eval (.tmp 137) = .int .i64 (j : Int) := hdep ⟨5, .data⟩ (by simp) rfl _ _ rfl rfl
                        clear hdep hgd
                        refine ⟨fun _ => ?_, fun hw => by simp [Region.wanted] at hw⟩
                        generalize a.eval = ρ at *
                        simp [go_sem, e4, e5, hjb]
                      · injection ho with ho
                        subst ho
                        have e6 : a.eval (.tmp 138) = .pointer (some ⟨bb, offb + j, none⟩) := hdep ⟨6, .data⟩ (by simp) rfl _ _ rfl rfl
                        clear hdep hgd
                        refine ⟨fun _ => ?_, fun hw => by simp [Region.wanted] at hw⟩
                        generalize a.eval = ρ at *
                        simp [go_sem, e6, ebj]
                      · injection ho with ho
                        subst ho
                        have e3 : a.eval (.tmp 135) = .int .i64 y1 := hdep ⟨3, .data⟩ (by simp) rfl _ _ rfl rfl
                        have e7 : a.eval (.tmp 139) = .int .i64 y2 := hdep ⟨7, .data⟩ (by simp) rfl _ _ rfl rfl
                        clear hdep hgd
                        refine ⟨fun _ => ?_, fun hw => by simp [Region.wanted] at hw⟩
                        generalize a.eval = ρ at *
                        simp [go_sem, e3, e7, t1]
                      · injection ho with ho
                        subst ho
                        have e8 : a.eval (.tmp 140) = .bool true := hdep ⟨8, .data⟩ (by simp) rfl _ _ rfl rfl
                        clear hdep hgd
                        refine ⟨fun _ => ?_, fun hw => by simp [Region.wanted] at hw⟩
                        generalize a.eval = ρ at *
                        simp [go_sem, e8]
                      · injection ho with ho
                        subst ho
                        have h8 : a.tmps.getD 141 undef = .bool true := hdep ⟨9, .guard⟩ (by simp) rfl _ _ rfl rfl
                        have hwd := hgd 9 true rfl _ _ rfl rfl true h8
                        clear hdep hgd
                        refine ⟨fun _ => ?_, fun hw => (by rw [hwd] at hw; cases hw)⟩
                        clear h8 hwd
                        generalize a.eval = ρ at *
                        simp [go_sem, r9]
                      · injection ho with ho
                        subst ho
                        have h8 : a.tmps.getD 141 undef = .bool true := hdep ⟨9, .guard⟩ (by simp) rfl _ _ rfl rfl
                        have hwd := hgd 9 true rfl _ _ rfl rfl true h8
                        clear hdep hgd
                        refine ⟨fun _ => ?_, fun hw => (by rw [hwd] at hw; cases hw)⟩
                        clear h8 hwd
                        generalize a.eval = ρ at *
                        simp [go_sem, r17]
                      · injection ho with ho
                        subst ho
                        have e10 : a.eval (.tmp 142) = .slice (some ⟨ba, offa, none⟩) la.length ca := hdep ⟨10, .data⟩ (by simp) rfl _ _ rfl rfl
                        have e11 : a.eval (.tmp 143) = .int .i64 (k : Int) := hdep ⟨11, .data⟩ (by simp) rfl _ _ rfl rfl
                        have h8 : a.tmps.getD 141 undef = .bool true := hdep ⟨9, .guard⟩ (by simp) rfl _ _ rfl rfl
                        have hwd := hgd 9 true rfl _ _ rfl rfl true h8
                        clear hdep hgd
                        refine ⟨fun _ => ?_, fun hw => (by rw [hwd] at hw; cases hw)⟩
                        clear h8 hwd
                        generalize a.eval = ρ at *
                        simp [go_sem, e10, e11, hka]
                      · injection ho with ho
                        subst ho
                        have e12 : a.eval (.tmp 144) = .pointer (some ⟨ba, offa + k, none⟩) := hdep ⟨12, .data⟩ (by simp) rfl _ _ rfl rfl
                        have h8 : a.tmps.getD 141 undef = .bool true := hdep ⟨9, .guard⟩ (by simp) rfl _ _ rfl rfl
                        have hwd := hgd 9 true rfl _ _ rfl rfl true h8
                        clear hdep hgd
                        refine ⟨fun _ => ?_, fun hw => (by rw [hwd] at hw; cases hw)⟩
                        clear h8 hwd
                        generalize a.eval = ρ at *
                        simp [go_sem, e12, eak]
                      · injection ho with ho
                        subst ho
                        have h8 : a.tmps.getD 141 undef = .bool true := hdep ⟨9, .guard⟩ (by simp) rfl _ _ rfl rfl
                        have hwd := hgd 9 true rfl _ _ rfl rfl true h8
                        clear hdep hgd
                        refine ⟨fun _ => ?_, fun hw => (by rw [hwd] at hw; cases hw)⟩
                        clear h8 hwd
                        generalize a.eval = ρ at *
                        simp [go_sem, r9]
                      · injection ho with ho
                        subst ho
                        have h8 : a.tmps.getD 141 undef = .bool true := hdep ⟨9, .guard⟩ (by simp) rfl _ _ rfl rfl
                        have hwd := hgd 9 true rfl _ _ rfl rfl true h8
                        clear hdep hgd
                        refine ⟨fun _ => ?_, fun hw => (by rw [hwd] at hw; cases hw)⟩
                        clear h8 hwd
                        generalize a.eval = ρ at *
                        simp [go_sem, r18]
                      · injection ho with ho
                        subst ho
                        have e14 : a.eval (.tmp 146) = .slice (some ⟨ba, offa, none⟩) la.length ca := hdep ⟨14, .data⟩ (by simp) rfl _ _ rfl rfl
                        have e15 : a.eval (.tmp 147) = .int .i64 (j : Int) := hdep ⟨15, .data⟩ (by simp) rfl _ _ rfl rfl
                        have h8 : a.tmps.getD 141 undef = .bool true := hdep ⟨9, .guard⟩ (by simp) rfl _ _ rfl rfl
                        have hwd := hgd 9 true rfl _ _ rfl rfl true h8
                        clear hdep hgd
                        refine ⟨fun _ => ?_, fun hw => (by rw [hwd] at hw; cases hw)⟩
                        clear h8 hwd
                        generalize a.eval = ρ at *
                        simp [go_sem, e14, e15, hja]
                      · injection ho with ho
                        subst ho
                        have e16 : a.eval (.tmp 148) = .pointer (some ⟨ba, offa + j, none⟩) := hdep ⟨16, .data⟩ (by simp) rfl _ _ rfl rfl
                        have h8 : a.tmps.getD 141 undef = .bool true := hdep ⟨9, .guard⟩ (by simp) rfl _ _ rfl rfl
                        have hwd := hgd 9 true rfl _ _ rfl rfl true h8
                        clear hdep hgd
                        refine ⟨fun _ => ?_, fun hw => (by rw [hwd] at hw; cases hw)⟩
                        clear h8 hwd
                        generalize a.eval = ρ at *
                        simp [go_sem, e16, eaj]
                      · injection ho with ho
                        subst ho
                        have e13 : a.eval (.tmp 145) = .int .i64 z1 := hdep ⟨13, .data⟩ (by simp) rfl _ _ rfl rfl
                        have e17 : a.eval (.tmp 149) = .int .i64 z2 := hdep ⟨17, .data⟩ (by simp) rfl _ _ rfl rfl
                        have h8 : a.tmps.getD 141 undef = .bool true := hdep ⟨9, .guard⟩ (by simp) rfl _ _ rfl rfl
                        have hwd := hgd 9 true rfl _ _ rfl rfl true h8
                        clear hdep hgd
                        refine ⟨fun _ => ?_, fun hw => (by rw [hwd] at hw; cases hw)⟩
                        clear h8 hwd
                        generalize a.eval = ρ at *
                        simp [go_sem, e13, e17, t2]
                      · injection ho with ho
                        subst ho
                        have e9 : a.eval (.tmp 141) = .bool true := hdep ⟨9, .data⟩ (by simp) rfl _ _ rfl rfl
                        have e18 : a.eval (.tmp 150) = .bool false := hdep ⟨18, .data⟩ (by simp) rfl _ _ rfl rfl
                        clear hdep hgd
                        refine ⟨fun _ => ?_, fun hw => by simp [Region.wanted] at hw⟩
                        generalize a.eval = ρ at *
                        simp [go_sem, e9, e18, hc]
                      · simp at ho
                    simp only [putAll, Act.put, List.setIfInBounds_toArray, List.set_cons_zero, List.set_cons_succ, Nat.reduceAdd]
                    go_wp2_with fail
                    go_roundg g2
                    case measure => omega
                    case rel => exact ⟨j + 1, by have := HG2.out; omega, by go_num, nq + 1, rfl⟩
                  · clear hfn
                    go_wp2_with fail
                    refine region_quiet (fun jq => match jq with | 0 => .slice (some ⟨bb, offb, none⟩) lb.length cb | 1 => .int .i64 (k : Int) | 2 => .pointer (some ⟨bb, offb + k, none⟩) | 3 => .int .i64 y1 | 4 => .slice (some ⟨bb, offb, none⟩) lb.length cb | 5 => .int .i64 (j : Int) | 6 => .pointer (some ⟨bb, offb + j, none⟩) | 7 => .int .i64 y2 | 8 => .bool false | 9 => .bool false | 10 => undef | 11 => undef | 12 => undef | 13 => undef | 14 => undef | 15 => undef | 16 => undef | 17 => undef | 18 => undef | 19 => .bool false | _ => undef) (by kernel_rfl) (by kernel_rfl) ?_ ?_
                    · intro i o ho a hdep hrest hgd
                      have r9 : a.eval (.tmp 9) = .slice (some ⟨ba, offa, none⟩) la.length ca := hrest 9 (apart_of (by kernel_rfl))
                      have r11 : a.eval (.tmp 11) = .slice (some ⟨bb, offb, none⟩) lb.length cb := hrest 11 (apart_of (by kernel_rfl))
                      have r17 : a.eval (.tmp 17) = .int .i64 (k : Int) := hrest 17 (apart_of (by kernel_rfl))
                      have r18 : a.eval (.tmp 18) = .int .i64 (j : Int) := hrest 18 (apart_of (by kernel_rfl))
                      have hc : ∀ v, a.eval (.const v) = v := fun _ => rfl
                      clear hrest
                      rcases i with _ | _ | _ | _ | _ | _ | _ | _ | _ | _ | _ | _ | _ | _ | _ | _ | _ | _ | _ | _ | i
                      · injection ho with ho
                        subst ho
                        clear hdep hgd
                        refine ⟨fun _ => ?_, fun hw => by simp [Region.wanted] at hw⟩
                        generalize a.eval = ρ at *
                        simp [go_sem, r11]
                      · injection ho with ho
                        subst ho
                        clear hdep hgd
                        refine ⟨fun _ => ?_, fun hw => by simp [Region.wanted] at hw⟩
                        generalize a.eval = ρ at *
                        simp [go_sem, r17]
                      · injection ho with ho
                        subst ho
                        have e0 : a.eval (.tmp 132) = .slice (some ⟨bb, offb, none⟩) lb.length cb := hdep ⟨0, .data⟩ (by simp) rfl _ _ rfl rfl
                        have e1 : a.eval (.tmp 133) = .int .i64 (k : Int) := hdep ⟨1, .data⟩ (by simp) rfl _ _ rfl rfl
                        clear hdep hgd
                        refine ⟨fun _ => ?_, fun hw => by simp [Region.wanted] at hw⟩
                        generalize a.eval = ρ at *
                        simp [go_sem, e0, e1, hkb]
                      · injection ho with ho
                        subst ho
                        have e2 : a.eval (.tmp 134) = .pointer (some ⟨bb, offb + k, none⟩) := hdep ⟨2, .data⟩ (by simp) rfl _ _ rfl rfl
                        clear hdep hgd
                        refine ⟨fun _ => ?_, fun hw => by simp [Region.wanted] at hw⟩
                        generalize a.eval = ρ at *
                        simp [go_sem, e2, ebk]
                      · injection ho with ho
                        subst ho
                        clear hdep hgd
                        refine ⟨fun _ => ?_, fun hw => by simp [Region.wanted] at hw⟩
                        generalize a.eval = ρ at *
                        simp [go_sem, r11]
                      · injection ho with ho
                        subst ho
                        clear hdep hgd
                        refine ⟨fun _ => ?_, fun hw => by simp [Region.wanted] at hw⟩
                        generalize a.eval = ρ at *
                        simp [go_sem, r18]
                      · injection ho with ho
                        subst ho
                        have e4 : a.eval (.tmp 136) = .slice (some ⟨bb, offb, none⟩) lb.length cb := hdep ⟨4, .data⟩ (by simp) rfl _ _ rfl rfl
                        have e5 : a.eval (.tmp 137) = .int .i64 (j : Int) := hdep ⟨5, .data⟩ (by simp) rfl _ _ rfl rfl
                        clear hdep hgd
                        refine ⟨fun _ => ?_, fun hw => by simp [Region.wanted] at hw⟩
                        generalize a.eval = ρ at *
                        simp [go_sem, e4, e5, hjb]
                      · injection ho with ho
                        subst ho
                        have e6 : a.eval (.tmp 138) = .pointer (some ⟨bb, offb + j, none⟩) := hdep ⟨6, .data⟩ (by simp) rfl _ _ rfl rfl
                        clear hdep hgd
                        refine ⟨fun _ => ?_, fun hw => by simp [Region.wanted] at hw⟩
                        generalize a.eval = ρ at *
                        simp [go_sem, e6, ebj]
                      · injection ho with ho
                        subst ho
                        have e3 : a.eval (.tmp 135) = .int .i64 y1 := hdep ⟨3, .data⟩ (by simp) rfl _ _ rfl rfl
                        have e7 : a.eval (.tmp 139) = .int .i64 y2 := hdep ⟨7, .data⟩ (by simp) rfl _ _ rfl rfl
                        clear hdep hgd
                        refine ⟨fun _ => ?_, fun hw => by simp [Region.wanted] at hw⟩
                        generalize a.eval = ρ at *
                        simp [go_sem, e3, e7, t1]
                      · injection ho with ho
                        subst ho
                        have e8 : a.eval (.tmp 140) = .bool false := hdep ⟨8, .data⟩ (by simp) rfl _ _ rfl rfl
                        clear hdep hgd
                        refine ⟨fun _ => ?_, fun hw => by simp [Region.wanted] at hw⟩
                        generalize a.eval = ρ at *
                        simp [go_sem, e8]
                      · injection ho with ho
                        subst ho
                        have h8 : a.tmps.getD 141 undef = .bool false := hdep ⟨9, .guard⟩ (by simp) rfl _ _ rfl rfl
                        have hwd := hgd 9 true rfl _ _ rfl rfl false h8
                        clear hdep hgd
                        exact ⟨fun hw => (by rw [hwd] at hw; cases hw), fun _ => rfl⟩
                      · injection ho with ho
                        subst ho
                        have h8 : a.tmps.getD 141 undef = .bool false := hdep ⟨9, .guard⟩ (by simp) rfl _ _ rfl rfl
                        have hwd := hgd 9 true rfl _ _ rfl rfl false h8
                        clear hdep hgd
                        exact ⟨fun hw => (by rw [hwd] at hw; cases hw), fun _ => rfl⟩
                      · injection ho with ho
                        subst ho
                        have e10 : a.eval (.tmp 142) = undef := hdep ⟨10, .data⟩ (by simp) rfl _ _ rfl rfl
                        have e11 : a.eval (.tmp 143) = undef := hdep ⟨11, .data⟩ (by simp) rfl _ _ rfl rfl
                        have h8 : a.tmps.getD 141 undef = .bool false := hdep ⟨9, .guard⟩ (by simp) rfl _ _ rfl rfl
                        have hwd := hgd 9 true rfl _ _ rfl rfl false h8
                        clear hdep hgd
                        exact ⟨fun hw => (by rw [hwd] at hw; cases hw), fun _ => rfl⟩
                      · injection ho with ho
                        subst ho
                        have e12 : a.eval (.tmp 144) = undef := hdep ⟨12, .data⟩ (by simp) rfl _ _ rfl rfl
                        have h8 : a.tmps.getD 141 undef = .bool false := hdep ⟨9, .guard⟩ (by simp) rfl _ _ rfl rfl
                        have hwd := hgd 9 true rfl _ _ rfl rfl false h8
                        clear hdep hgd
                        exact ⟨fun hw => (by rw [hwd] at hw; cases hw), fun _ => rfl⟩
                      · injection ho with ho
                        subst ho
                        have h8 : a.tmps.getD 141 undef = .bool false := hdep ⟨9, .guard⟩ (by simp) rfl _ _ rfl rfl
                        have hwd := hgd 9 true rfl _ _ rfl rfl false h8
                        clear hdep hgd
                        exact ⟨fun hw => (by rw [hwd] at hw; cases hw), fun _ => rfl⟩
                      · injection ho with ho
                        subst ho
                        have h8 : a.tmps.getD 141 undef = .bool false := hdep ⟨9, .guard⟩ (by simp) rfl _ _ rfl rfl
                        have hwd := hgd 9 true rfl _ _ rfl rfl false h8
                        clear hdep hgd
                        exact ⟨fun hw => (by rw [hwd] at hw; cases hw), fun _ => rfl⟩
                      · injection ho with ho
                        subst ho
                        have e14 : a.eval (.tmp 146) = undef := hdep ⟨14, .data⟩ (by simp) rfl _ _ rfl rfl
                        have e15 : a.eval (.tmp 147) = undef := hdep ⟨15, .data⟩ (by simp) rfl _ _ rfl rfl
                        have h8 : a.tmps.getD 141 undef = .bool false := hdep ⟨9, .guard⟩ (by simp) rfl _ _ rfl rfl
                        have hwd := hgd 9 true rfl _ _ rfl rfl false h8
                        clear hdep hgd
                        exact ⟨fun hw => (by rw [hwd] at hw; cases hw), fun _ => rfl⟩
                      · injection ho with ho
                        subst ho
                        have e16 : a.eval (.tmp 148) = undef := hdep ⟨16, .data⟩ (by simp) rfl _ _ rfl rfl
                        have h8 : a.tmps.getD 141 undef = .bool false := hdep ⟨9, .guard⟩ (by simp) rfl _ _ rfl rfl
                        have hwd := hgd 9 true rfl _ _ rfl rfl false h8
                        clear hdep hgd
                        exact ⟨fun hw => (by rw [hwd] at hw; cases hw), fun _ => rfl⟩
                      · injection ho with ho
                        subst ho
                        have e13 : a.eval (.tmp 145) = undef := hdep ⟨13, .data⟩ (by simp) rfl _ _ rfl rfl
                        have e17 : a.eval (.tmp 149) = undef := hdep ⟨17, .data⟩ (by simp) rfl _ _ rfl rfl
                        have h8 : a.tmps.getD 141 undef = .bool false := hdep ⟨9, .guard⟩ (by simp) rfl _ _ rfl rfl
                        have hwd := hgd 9 true rfl _ _ rfl rfl false h8
                        clear hdep hgd
                        exact ⟨fun hw => (by rw [hwd] at hw; cases hw), fun _ => rfl⟩
                      · injection ho with ho
                        subst ho
                        have e9 : a.eval (.tmp 141) = .bool false := hdep ⟨9, .data⟩ (by simp) rfl _ _ rfl rfl
                        clear hdep hgd
                        refine ⟨fun _ => ?_, fun hw => by simp [Region.wanted] at hw⟩
                        generalize a.eval = ρ at *
                        simp [go_sem, e9, hc]
                      · simp at ho
                    simp only [putAll, Act.put, List.setIfInBounds_toArray, List.set_cons_zero, List.set_cons_succ, Nat.reduceAdd]
                    go_wp2_with fail
                    go_roundg g2
                    case measure => omega
                    case rel => exact ⟨j + 1, by have := HG2.out; omega, by go_num, nq + 1, rfl⟩
    · have b1 : (outsE nb ls out != 0) = true := by rw [bne_iff_ne]; exact he
      generalize outsE nb ls out = er at *
      have KO := Lib.hid ko
      clear ko he
      have HB0 := Lib.hid (Below.refl w.heap.size w)
      go_enter Try.func11, Try.ntmps11
      go_wp2_with fail
      have hb := below_alloc2 w (.cells #[.int .i64 nb, .slice A ls.length c] 24) (.cells #[.slice O out.length co] 25)
      have q0 : ((w.alloc (.cells #[.int .i64 nb, .slice A ls.length c] 24)).alloc (.cells #[.slice O out.length co] 25)).cell? ⟨w.heap.size, 0, none⟩ = some (.int .i64 nb) := by simp
      have q1 : ((w.alloc (.cells #[.int .i64 nb, .slice A ls.length c] 24)).alloc (.cells #[.slice O out.length co] 25)).cell? ⟨w.heap.size, 1, none⟩ = some (.slice A ls.length c) := by simp
      have hz : w.heap.size < ((w.alloc (.cells #[.int .i64 nb, .slice A ls.length c] 24)).alloc (.cells #[.slice O out.length co] 25)).heap.size := by simp; omega
      have HB1 := Lib.hid (HB0.out.trans (hb.mono HB0.out.size))
      clear HB0
      replace HL := Lib.hid (HL.out.upto hb)
      replace HO := Lib.hid (HO.out.upto hb)
      clear hb
      refine (KL.out (w.alloc (.cells #[.int .i64 nb, .slice A ls.length c] 24)) _ (by simp)).mono ?_
      rintro e w2 ⟨rfl, hb⟩
      rw [← World.size_alloc (w.alloc (.cells #[.int .i64 nb, .slice A ls.length c] 24)) (.cells #[.slice O out.length co] 25)] at hb
      have HB2 := Lib.hid (HB1.out.trans (hb.mono HB1.out.size))
      clear HB1
      replace HL := Lib.hid (HL.out.upto hb)
      replace HO := Lib.hid (HO.out.upto hb)
      replace q0 := (hb.cell (p := ⟨w.heap.size, 0, none⟩) hz).trans q0
      replace q1 := (hb.cell (p := ⟨w.heap.size, 1, none⟩) hz).trans q1
      replace hz : w.heap.size < w2.heap.size := Nat.lt_of_lt_of_le hz hb.size
      clear hb
      go_wp2_with fail
      refine (awake_any _).mono ?_
      rintro e w3 ⟨rfl, hb⟩
      have HB3 := Lib.hid (HB2.out.trans (hb.mono HB2.out.size))
      clear HB2
      replace HL := Lib.hid (HL.out.upto hb)
      replace HO := Lib.hid (HO.out.upto hb)
      replace q0 := (hb.cell (p := ⟨w.heap.size, 0, none⟩) hz).trans q0
      replace q1 := (hb.cell (p := ⟨w.heap.size, 1, none⟩) hz).trans q1
      replace hz : w.heap.size < w3.heap.size := Nat.lt_of_lt_of_le hz hb.size
      clear hb
      go_wp2_with fail
      refine (KO.out _ HL.out HO.out).mono ?_
      rintro e w4 ⟨rfl, hb⟩
      have HB4 := Lib.hid (HB3.out.trans (hb.mono HB3.out.size))
      clear HB3
      replace HL := Lib.hid (HL.out.upto hb)
      replace HO := Lib.hid (HO.out.upto hb)
      replace q0 := (hb.cell (p := ⟨w.heap.size, 0, none⟩) hz).trans q0
      replace q1 := (hb.cell (p := ⟨w.heap.size, 1, none⟩) hz).trans q1
      replace hz : w.heap.size < w4.heap.size := Nat.lt_of_lt_of_le hz hb.size
      clear hb
      go_wp2_with fail
      refine (awake_any _).mono ?_
      rintro e w5 ⟨rfl, hb⟩
      have HB5 := Lib.hid (HB4.out.trans (hb.mono HB4.out.size))
      clear HB4
      replace HL := Lib.hid (HL.out.upto hb)
      replace HO := Lib.hid (HO.out.upto hb)
      replace q0 := (hb.cell (p := ⟨w.heap.size, 0, none⟩) hz).trans q0
      replace q1 := (hb.cell (p := ⟨w.heap.size, 1, none⟩) hz).trans q1
      replace hz : w.heap.size < w5.heap.size := Nat.lt_of_lt_of_le hz hb.size
      clear hb
      go_wp2_with fail
      go_ret
      exact ⟨rfl, HB5.out⟩
end Go.Proofs.Ytcacaiakkfgdpaa
