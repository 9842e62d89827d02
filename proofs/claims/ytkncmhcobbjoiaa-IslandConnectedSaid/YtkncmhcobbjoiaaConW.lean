/- The walk of IslandConnected. -/
import Derived.Test.YtkncmhcobbjoiaaStrB
import Derived.Test.YtkncmhcobbjoiaaIslF
import Derived.Test.YtkncmhcobbjoiaaIslG
namespace Go.Proofs.Ytkncmhcobbjoiaa
open Go.RowKit
set_option linter.unusedVariables false

theorem connE_in {nb : Int} {ls : List Ln} {out : List Int} {a b : Nat} (he : outsE nb ls out = 0) (ha : (a : Int) < nb) (hb : (b : Int) < nb) : connE nb ls out a b = 0 := by
  rw [connE, if_pos he, if_neg (by omega)]
theorem connB_in {nb : Int} {ls : List Ln} {out : List Int} {a b : Nat} (he : outsE nb ls out = 0) (ha : (a : Int) < nb) (hb : (b : Int) < nb) : connB nb ls out a b = ((ofL nb ls out).getD a 0 == (ofL nb ls out).getD b 0) := by
  rw [connB, if_pos ⟨he, by omega⟩]
  simp
theorem conn_line {nb : Int} {ls : List Ln} {out : List Int} (he : outsE nb ls out = 0) (i : Nat) (hi : i < (pick ls (svcL out ls.length)).length) :
    connB nb ls out ((pick ls (svcL out ls.length)).getD i (0, 0, 0, 0)).1 ((pick ls (svcL out ls.length)).getD i (0, 0, 0, 0)).2.1 = true ∧ connE nb ls out ((pick ls (svcL out ls.length)).getD i (0, 0, 0, 0)).1 ((pick ls (svcL out ls.length)).getD i (0, 0, 0, 0)).2.1 = 0 := by
  have hi' : i < (svcL out ls.length).length := by rw [pick_length] at hi; exact hi
  have hk := svcL_range out ls.length _ (List.getElem_mem hi')
  have hv := valid_of_check (check_of_outs he).1
  have hok := hv.ok ((svcL out ls.length)[i]).toNat (by omega)
  have e : (pick ls (svcL out ls.length)).getD i (0, 0, 0, 0) = ls.getD ((svcL out ls.length)[i]).toNat (0, 0, 0, 0) := by
    unfold pick
    rw [List.getD_eq_getElem?_getD, List.getElem?_map, List.getElem?_eq_getElem hi']
    rfl
  rw [e]
  generalize hl : ls.getD ((svcL out ls.length)[i]).toNat (0, 0, 0, 0) = l at *
  have ha := of_alike he
  unfold alike at ha
  rw [List.all_eq_true] at ha
  have hm : (l.1.toNat, l.2.1.toNat) ∈ ends ls (svcL out ls.length) := by
    unfold ends
    rw [List.mem_map]
    exact ⟨_, List.getElem_mem hi', by rw [hl]⟩
  have h1 := ha _ hm
  refine ⟨?_, ?_⟩
  · rw [connB, if_pos ⟨he, by omega⟩]
    exact h1
  · rw [connE, if_pos he, if_neg (by omega)]

/-- What lies through the loops. -/
structure ConSt (nb : Int) (ls : List Ln) (out l : List Int) (b0 : Nat) (A A' A1 : Option Addr) (c : Nat) (W : World) : Prop where
  q0 : W.cell? ⟨b0, 0, none⟩ = some (.int .i64 nb)
  q1 : W.cell? ⟨b0, 1, none⟩ = some (.slice A ls.length c)
  hl : LinesR W W.heap.size A ls
  ho : IntsR W W.heap.size A' out
  h1 : IntsR W W.heap.size A1 l
  lt0 : b0 < W.heap.size
theorem ConSt.upto {nb : Int} {ls : List Ln} {out l : List Int} {b0 : Nat} {A A' A1 : Option Addr} {c : Nat} {W W' : World} (h : ConSt nb ls out l b0 A A' A1 c W) (hb : Below W.heap.size W W') : ConSt nb ls out l b0 A A' A1 c W' :=
  ⟨(hb.cell h.lt0).trans h.q0, (hb.cell h.lt0).trans h.q1, h.hl.upto hb, h.ho.upto hb, h.h1.upto hb, Nat.lt_of_lt_of_le h.lt0 hb.size⟩

set_option maxRecDepth 100000 in
set_option maxHeartbeats 8000000 in
theorem con_walk (nb : Int) (A : Option Addr) (c : Nat) (ls : List Ln) (A' : Option Addr) (c' : Nat) (out : List Int) (w : World) (hl : LinesR w w.heap.size A ls) (ho : IntsR w w.heap.size A' out) :
    Calls Try.prog 6 #[.agg #[.int .i64 nb, .slice A ls.length c], .slice A' out.length c'] w fun e w' => e = .returned (.bool true) ∧ Below w.heap.size w w' := by
  have HL := Lib.hid hl
  have HO := Lib.hid ho
  clear hl ho
  have k1 := fun b W hb => long_lit1 (.int .i64 nb) A ls.length c 25 W b hb A' out.length c'
  cases hlong : longB [out.length] ls.length with
  | true =>
    rw [hlong] at k1
    have K1 := Lib.hid k1
    clear k1 hlong
    go_enter Try.func6, Try.ntmps6
    go_wp2_with fail
    refine (K1.out _ _ (by simp)).mono ?_
    rintro e w1 ⟨rfl, hb1⟩
    have hz := hb1.size
    go_wp2_with fail
    refine (awake_any _).mono ?_
    rintro e w2 ⟨rfl, hb2⟩
    go_wp2_with fail
    go_ret
    refine ⟨rfl, (below_alloc2 w _ _).trans ((hb1.mono (by simp; omega)).trans (hb2.mono ?_))⟩
    simp at hz
    omega
  | false =>
    rw [hlong] at k1
    have hb100 := longB_false hlong
    have ho1 : out.length ≤ 100 := hb100.1 _ (by simp)
    have hm1 : ls.length ≤ 100 := hb100.2
    have K1 := Lib.hid k1
    clear k1 hlong hb100
    go_enter Try.func6, Try.ntmps6
    go_wp2_with fail
    refine (K1.out _ _ (by simp)).mono ?_
    rintro e w1 ⟨rfl, hb1⟩
    have hz := hb1.size
    simp only [World.size_alloc] at hz
    have hB1 : Below w.heap.size w w1 := (below_alloc2 w _ _).trans (hb1.mono (by simp; omega))
    have q0 : w1.cell? ⟨w.heap.size, 0, none⟩ = some (.int .i64 nb) := (hb1.cell (by simp; omega)).trans (by simp)
    have q1 : w1.cell? ⟨w.heap.size, 1, none⟩ = some (.slice A ls.length c) := (hb1.cell (by simp; omega)).trans (by simp)
    have HB1 := Lib.hid hB1
    clear hb1 hB1
    go_wp2_with fail
    refine (awake_any _).mono ?_
    rintro e w2 ⟨rfl, hb2⟩
    replace q0 := (hb2.cell (p := ⟨w.heap.size, 0, none⟩) (by show w.heap.size < _; omega)).trans q0
    replace q1 := (hb2.cell (p := ⟨w.heap.size, 1, none⟩) (by show w.heap.size < _; omega)).trans q1
    have HB2 := Lib.hid (HB1.out.trans (hb2.mono HB1.out.size))
    have hz2 : w.heap.size + 1 ≤ w2.heap.size := by have := hb2.size; omega
    clear hb2 HB1 hz K1
    replace HL := Lib.hid (HL.out.upto HB2.out)
    replace HO := Lib.hid (HO.out.upto HB2.out)
    have ka := fun W hl ho => of_any nb A A' c c' ls out W hl ho (by omega) (by omega)
    by_cases he : outsE nb ls out = 0
    · have hol := ofL_length he
      have hnb := (valid_of_check (check_of_outs he).1).lo
      have hnb6 := ofL_length_le nb ls out
      rw [he] at ka
      have ks := fun W hl ho => strip_any nb A A' c c' ls out W hl ho (by omega) (by omega)
      rw [stripNb, stripL, stripK, if_pos he, if_pos he, if_pos he, he] at ks
      have kc := fun (a b : Int) W hl ho => conn_any nb A A' c c' ls out a b W hl ho (by omega) (by omega)
      have hE := fun a b ha hb => connE_in (a := a) (b := b) he ha hb
      have hB := fun a b ha hb => connB_in (a := a) (b := b) he ha hb
      have hS := conn_line he
      have hlen : (pick ls (svcL out ls.length)).length ≤ 100 := by rw [pick_length]; have := svcL_le out ls.length; omega
      generalize hms : pick ls (svcL out ls.length) = ms at *
      generalize svcL out ls.length = L at *
      generalize ofL nb ls out = l at *
      obtain ⟨n, rfl⟩ := Int.eq_ofNat_of_zero_le (show 0 ≤ nb by omega)
      rw [Int.toNat_natCast] at hol
      have KA := Lib.hid ka
      have KS := Lib.hid ks
      have KC := Lib.hid (And.intro kc (And.intro hE (And.intro hB hS)))
      clear ka ks kc hE hB hS he hms
      have hn6 : n ≤ 6 := by omega
      have hn1 : 1 ≤ n := by omega
      clear hnb hnb6
      have hlenB : ((l.length : Int) != (n : Int)) = false := by simp [hol]
      have HOL := Lib.hid hol
      clear hol
      go_wp2_with fail
      refine (KA.out _ HL.out HO.out).mono ?_
      rintro e w3 ⟨v, rfl, hown, hb⟩
      obtain ⟨A1, c1, rfl, hI⟩ := ownsRow_ints hown
      have HB3 := Lib.hid (HB2.out.trans (hb.mono HB2.out.size))
      have hS3 : ConSt n ls out l w.heap.size A A' A1 c w3 := ⟨(hb.cell (p := ⟨w.heap.size, 0, none⟩) (by show w.heap.size < _; omega)).trans q0, (hb.cell (p := ⟨w.heap.size, 1, none⟩) (by show w.heap.size < _; omega)).trans q1, HL.out.upto hb, HO.out.upto hb, hI, by have := hb.size; omega⟩
      have HS3 := Lib.hid hS3
      have q0' := hS3.q0
      have q1' := hS3.q1
      clear hb hI hown hS3 q0 q1 HL HO HB2 hz2
      go_wp2_with fail
      refine (KS.out _ HS3.out.hl HS3.out.ho).mono ?_
      rintro e w4 ⟨A4, c4, A5, c5, rfl, hown, _, hb⟩
      obtain ⟨A4', c4', he4, hI4⟩ := ownsRow_linesR hown
      simp only [Value.slice.injEq] at he4
      obtain ⟨rfl, _, rfl⟩ := he4
      have HB4 := Lib.hid (HB3.out.trans (hb.mono HB3.out.size))
      have HS4 := Lib.hid (HS3.out.upto hb)
      have HI4 := Lib.hid hI4
      have hzz : w.heap.size < w4.heap.size := HS4.out.lt0
      have q0 := HS4.out.q0
      clear hb hI4 hown HB3 HS3 q0' q1'
      go_wp2_with fail
      have hb : Below w4.heap.size w4 (w4.alloc (.cells #[.int .i64 (n : Int), .slice A4 ms.length c4] 24)) := (Below.refl _ _).alloc (Nat.le_refl _) _
      have p1 : (w4.alloc (.cells #[.int .i64 (n : Int), .slice A4 ms.length c4] 24)).cell? ⟨w4.heap.size, 1, none⟩ = some (.slice A4 ms.length c4) := cell_alloc_at _ _ _ _ _ rfl
      have hsz : (w4.alloc (.cells #[.int .i64 (n : Int), .slice A4 ms.length c4] 24)).heap.size = w4.heap.size + 1 := by simp
      generalize w4.alloc (.cells #[.int .i64 (n : Int), .slice A4 ms.length c4] 24) = w5 at *
      have HB5 := Lib.hid (HB4.out.trans (hb.mono HB4.out.size))
      have HS5 := Lib.hid (HS4.out.upto hb)
      have HI5 := Lib.hid (HI4.out.upto hb)
      have hBm : w4.heap.size < w5.heap.size := by omega
      clear hb hsz HB4 HS4 HI4 q0 hzz
      generalize w4.heap.size = Bm at *
      have P1 := Lib.hid p1
      clear p1
      go_loopg [4, 10, 11, 12] ms.length (fun g s4 i s11 s12 wr => ∃ k : Nat, k + g = ms.length ∧ i = .int .i64 k ∧ ConSt n ls out l w.heap.size A A' A1 c wr ∧ LinesR wr wr.heap.size A4 ms ∧ wr.cell? ⟨Bm, 1, none⟩ = some (.slice A4 ms.length c4) ∧ Bm < wr.heap.size ∧ Below w.heap.size w wr)
      case atStart => exact ⟨0, by omega, rfl, HS5.out, HI5.out, P1.out, hBm, HB5.out⟩
      case round =>
        obtain ⟨k, hkg, rfl, hS, hI, p1, hBw, hBelow⟩ := hrel
        have HS := Lib.hid hS
        have HI := Lib.hid hI
        have HB := Lib.hid hBelow
        have q0 := hS.q0
        have q1 := hS.q1
        clear hS hI hBelow HB5 HS5 HI5 hBm P1
        cases gk with
        | zero =>
          obtain rfl : k = ms.length := by omega
          clear hkg
          go_wp2_with fail
          clear HI p1 hBw
          go_loopg [4, 13, 14, 15, 16, 17, 18, 19, 20, 21, 22, 23] n (fun g s4 i s14 s15 s16 s17 s18 s19 s20 s21 s22 s23 wr => ∃ a : Nat, a + g = n ∧ i = .int .i64 a ∧ ConSt n ls out l w.heap.size A A' A1 c wr ∧ Below w.heap.size w wr)
          case atStart => exact ⟨0, by omega, rfl, HS.out, HB.out⟩
          case round =>
            clear HS HB q0 q1
            obtain ⟨a, hag, rfl, hS, hBelow⟩ := hrel
            have HS := Lib.hid hS
            have HB := Lib.hid hBelow
            have q0 := hS.q0
            have q1 := hS.q1
            clear hS hBelow
            cases gk with
            | zero =>
              obtain rfl : a = n := by omega
              clear hag
              go_wp2_with fail
              go_ret
              exact ⟨rfl, HB.out⟩
            | succ g =>
              have ha : a < n := by omega
              have HG := Lib.hid hag
              clear hag
              go_wp2_with fail
              go_loopg [4, 14, 15, 16, 17, 18, 19, 20, 21, 22, 23] n (fun g s4 i s15 s16 s17 s18 s19 s20 s21 s22 s23 wr => ∃ b : Nat, b + g = n ∧ i = .int .i64 b ∧ ConSt n ls out l w.heap.size A A' A1 c wr ∧ Below w.heap.size w wr)
              case atStart => exact ⟨0, by omega, rfl, HS.out, HB.out⟩
              case round =>
                clear HS HB q0 q1
                obtain ⟨b, hbg, rfl, hS, hBelow⟩ := hrel
                have HS := Lib.hid hS
                have HB := Lib.hid hBelow
                have q0 := hS.q0
                have q1 := hS.q1
                clear hS hBelow
                cases gk with
                | zero =>
                  obtain rfl : b = n := by omega
                  clear hbg
                  go_wp2_with fail
                  go_roundg g
                  case measure => omega
                  case rel => exact ⟨a + 1, by have := HG.out; omega, by go_num, HS.out, HB.out⟩
                | succ g2 =>
                  have hb : b < n := by omega
                  have HG2 := Lib.hid hbg
                  clear hbg
                  have k1 := fun W hl ho => KC.out.1 (a : Int) (b : Int) W hl ho
                  have k2 := fun W hl ho => KC.out.1 (b : Int) (a : Int) W hl ho
                  have hsym : (l.getD b 0 == l.getD a 0) = (l.getD a 0 == l.getD b 0) := by rw [Bool.eq_iff_iff, beq_iff_eq, beq_iff_eq]; exact ⟨Eq.symm, Eq.symm⟩
                  rw [KC.out.2.1 a b (by omega) (by omega), KC.out.2.2.1 a b (by omega) (by omega)] at k1
                  rw [KC.out.2.1 b a (by omega) (by omega), KC.out.2.2.1 b a (by omega) (by omega), hsym] at k2
                  clear hsym
                  have k3 := fun (d : Nat) (hd : d < n) W hl ho => KC.out.1 (b : Int) (d : Int) W hl ho
                  have k4 := fun (d : Nat) (hd : d < n) W hl ho => KC.out.1 (a : Int) (d : Int) W hl ho
                  have e3 := fun (d : Nat) (hd : d < n) => KC.out.2.1 b d (by omega) (by omega)
                  have e4 := fun (d : Nat) (hd : d < n) => KC.out.2.1 a d (by omega) (by omega)
                  have f3 := fun (d : Nat) (hd : d < n) => KC.out.2.2.1 b d (by omega) (by omega)
                  have f4 := fun (d : Nat) (hd : d < n) => KC.out.2.2.1 a d (by omega) (by omega)
                  have hself : a = b → l.getD a 0 = l.getD b 0 := fun h => by rw [h]
                  by_cases hx : l.getD a 0 = l.getD b 0
                  · have hxb : (l.getD a 0 == l.getD b 0) = true := by rw [beq_iff_eq]; exact hx
                    rw [hxb] at k1 k2
                    have K34 := Lib.hid (show ∀ d : Nat, d < n → ∃ pq : Bool, (∀ W, LinesR W W.heap.size A ls → IntsR W W.heap.size A' out → Calls Try.prog 28 #[.agg #[.int .i64 (n : Int), .slice A ls.length c], .slice A' out.length c', .int .i64 (b : Int), .int .i64 (d : Int)] W (BoolE W pq 0)) ∧ (∀ W, LinesR W W.heap.size A ls → IntsR W W.heap.size A' out → Calls Try.prog 28 #[.agg #[.int .i64 (n : Int), .slice A ls.length c], .slice A' out.length c', .int .i64 (a : Int), .int .i64 (d : Int)] W (BoolE W pq 0)) from fun d hd => by
                      refine ⟨l.getD b 0 == l.getD d 0, fun W hl ho => ?_, fun W hl ho => ?_⟩
                      · have h := k3 d hd W hl ho
                        rw [e3 d hd, f3 d hd] at h
                        exact h
                      · have h := k4 d hd W hl ho
                        rw [e4 d hd, f4 d hd, hx] at h
                        exact h)
                    have K1 := Lib.hid k1
                    have K2 := Lib.hid k2
                    clear k1 k2 k3 k4 e3 e4 f3 f4 hself hx
                    go_wp2_with fail
                    refine (K1.out _ HS.out.hl HS.out.ho).mono ?_
                    rintro e w6 ⟨rfl, hbw⟩
                    have HS6 := Lib.hid (HS.out.upto hbw)
                    have HB6 := Lib.hid (HB.out.trans (hbw.mono HB.out.size))
                    have q0' := HS6.out.q0
                    have q1' := HS6.out.q1
                    clear hbw q0 q1 HS HB
                    go_wp2_with fail
                    refine (K2.out _ HS6.out.hl HS6.out.ho).mono ?_
                    rintro e w7 ⟨rfl, hbw⟩
                    have HS7 := Lib.hid (HS6.out.upto hbw)
                    have HB7 := Lib.hid (HB6.out.trans (hbw.mono HB6.out.size))
                    have q0 := HS7.out.q0
                    have q1 := HS7.out.q1
                    clear hbw q0' q1' HS6 HB6
                    obtain ⟨bl, off, rfl, hbb, hcc⟩ := HS7.out.h1 (by have := HOL.out; omega)
                    have ea := hcc a (by have := HOL.out; omega)
                    have eb := hcc b (by have := HOL.out; omega)
                    clear hcc
                    have i1 : (0 : Int) ≤ (a : Int) := by omega
                    have i2 : (a : Int) < (l.length : Int) := by have := HOL.out; omega
                    have i3 : (0 : Int) ≤ (b : Int) := by omega
                    have i4 : (b : Int) < (l.length : Int) := by have := HOL.out; omega
                    generalize l.getD a 0 = la at *
                    generalize l.getD b 0 = lb at *
                    go_wp2_with fail
                    have hab' : ((a : Int) == (b : Int)) = true ∨ ((a : Int) == (b : Int)) = false := by cases ((a : Int) == (b : Int)) <;> simp
                    rcases hab' with hab | hab
                    all_goals
                      go_quiet (fail)
                      go_wp2_with fail
                      go_loopg [4, 19, 20, 21, 22, 23] n (fun g s4 i s20 s21 s22 s23 wr => ∃ d : Nat, d + g = n ∧ i = .int .i64 d ∧ ConSt n ls out l w.heap.size A A' (some ⟨bl, off, none⟩) c wr ∧ Below w.heap.size w wr)
                      case atStart => exact ⟨0, by omega, rfl, HS7.out.upto (below_drewN (Below.refl _ _) _), below_drewN HB7.out _⟩
                      case round =>
                        clear HS7 HB7 q0 q1 ea eb
                        obtain ⟨d, hdg, rfl, hS, hBelow⟩ := hrel
                        have HS := Lib.hid hS
                        have HB := Lib.hid hBelow
                        have q0 := hS.q0
                        have q1 := hS.q1
                        clear hS hBelow
                        cases gk with
                        | zero =>
                          obtain rfl : d = n := by omega
                          clear hdg
                          go_wp2_with fail
                          go_roundg g2
                          case measure => omega
                          case rel => exact ⟨b + 1, by have := HG2.out; omega, by go_num, HS.out, HB.out⟩
                        | succ g3 =>
                          have hd : d < n := by omega
                          have HG3 := Lib.hid hdg
                          clear hdg
                          obtain ⟨pq, k3, k4⟩ := K34.out d hd
                          have K3 := Lib.hid k3
                          have K4 := Lib.hid k4
                          clear k3 k4
                          have hpq : (pq != pq) = false := by cases pq <;> rfl
                          go_wp2_with fail
                          refine (K3.out _ HS.out.hl HS.out.ho).mono ?_
                          rintro e w8 ⟨rfl, hbw⟩
                          have HS8 := Lib.hid (HS.out.upto hbw)
                          have HB8 := Lib.hid (HB.out.trans (hbw.mono HB.out.size))
                          have q0' := HS8.out.q0
                          have q1' := HS8.out.q1
                          clear hbw q0 q1 HS HB
                          go_wp2_with fail
                          refine (K4.out _ HS8.out.hl HS8.out.ho).mono ?_
                          rintro e w9 ⟨rfl, hbw⟩
                          have HS9 := Lib.hid (HS8.out.upto hbw)
                          have HB9 := Lib.hid (HB8.out.trans (hbw.mono HB8.out.size))
                          clear hbw q0' q1' HS8 HB8
                          go_wp2_with fail
                          go_roundg g3
                          case measure => omega
                          case rel => exact ⟨d + 1, by have := HG3.out; omega, by go_num, HS9.out, HB9.out⟩
                  · have hxb : (l.getD a 0 == l.getD b 0) = false := by rw [beq_eq_false_iff_ne]; exact hx
                    have hab : ((a : Int) == (b : Int)) = false := by rw [beq_eq_false_iff_ne]; intro h; exact hx (hself (by omega))
                    rw [hxb] at k1 k2
                    have K1 := Lib.hid k1
                    have K2 := Lib.hid k2
                    clear k1 k2 k3 k4 e3 e4 f3 f4 hself hx
                    go_wp2_with fail
                    refine (K1.out _ HS.out.hl HS.out.ho).mono ?_
                    rintro e w6 ⟨rfl, hbw⟩
                    have HS6 := Lib.hid (HS.out.upto hbw)
                    have HB6 := Lib.hid (HB.out.trans (hbw.mono HB.out.size))
                    have q0' := HS6.out.q0
                    have q1' := HS6.out.q1
                    clear hbw q0 q1 HS HB
                    go_wp2_with fail
                    refine (K2.out _ HS6.out.hl HS6.out.ho).mono ?_
                    rintro e w7 ⟨rfl, hbw⟩
                    have HS7 := Lib.hid (HS6.out.upto hbw)
                    have HB7 := Lib.hid (HB6.out.trans (hbw.mono HB6.out.size))
                    have q0 := HS7.out.q0
                    have q1 := HS7.out.q1
                    clear hbw q0' q1' HS6 HB6
                    obtain ⟨bl, off, rfl, hbb, hcc⟩ := HS7.out.h1 (by have := HOL.out; omega)
                    have ea := hcc a (by have := HOL.out; omega)
                    have eb := hcc b (by have := HOL.out; omega)
                    clear hcc
                    have i1 : (0 : Int) ≤ (a : Int) := by omega
                    have i2 : (a : Int) < (l.length : Int) := by have := HOL.out; omega
                    have i3 : (0 : Int) ≤ (b : Int) := by omega
                    have i4 : (b : Int) < (l.length : Int) := by have := HOL.out; omega
                    generalize l.getD a 0 = la at *
                    generalize l.getD b 0 = lb at *
                    go_wp2_with fail
                    go_quiet (fail)
                    go_wp2_with fail
                    go_loopg [4, 19, 20, 21, 22, 23] 1 (fun g s4 i s20 s21 s22 s23 wr => i = .int .i64 0 ∧ ConSt n ls out l w.heap.size A A' (some ⟨bl, off, none⟩) c wr ∧ Below w.heap.size w wr)
                    case atStart => exact ⟨rfl, HS7.out.upto (below_drewN (Below.refl _ _) _), below_drewN HB7.out _⟩
                    case round =>
                      clear HS7 HB7 q0 q1 ea eb
                      obtain ⟨rfl, hS, hBelow⟩ := hrel
                      have HS := Lib.hid hS
                      have HB := Lib.hid hBelow
                      have q0 := hS.q0
                      have hn0 : 0 < n := by omega
                      clear hS hBelow
                      go_wp2_with fail
                      go_roundg g2
                      case measure => omega
                      case rel => exact ⟨b + 1, by have := HG2.out; omega, by go_num, HS.out, HB.out⟩
        | succ g =>
          have hk : k < ms.length := by omega
          have HG := Lib.hid hkg
          clear hkg
          obtain ⟨b, off, rfl, hbb, hcc⟩ := HI.out (by omega)
          obtain ⟨l0, l1, l2, l3⟩ := hcc k hk
          clear hcc l2 l3
          have i1 : (0 : Int) ≤ (k : Int) := by omega
          have i2 : (k : Int) < (ms.length : Int) := by omega
          obtain ⟨hc1, hc2⟩ := KC.out.2.2.2 k hk
          have kk := fun W hl ho => KC.out.1 (ms.getD k (0, 0, 0, 0)).1 (ms.getD k (0, 0, 0, 0)).2.1 W hl ho
          rw [hc1, hc2] at kk
          clear hc1 hc2
          generalize (ms.getD k (0, 0, 0, 0)).1 = fx at *
          generalize (ms.getD k (0, 0, 0, 0)).2.1 = tx at *
          have KK := Lib.hid kk
          clear kk
          go_upto_region 12 with fail
          go_cut [11, 12] (fun s11 s12 wx => s11 = .bool true ∧ s12 = .int .i64 0 ∧ Below wr.heap.size wr wx)
          case first =>
            go_region_held3 (fun w' => w'.cell? ⟨w.heap.size, 0, none⟩ = some (.int .i64 (n : Int)) ∧ w'.cell? ⟨w.heap.size, 1, none⟩ = some (.slice A ls.length c) ∧ w'.cell? ⟨Bm, 1, none⟩ = some (.slice (some ⟨b, off, none⟩) ms.length c4) ∧ w'.cell? ⟨b, off + k * 4, none⟩ = some (.int .i64 fx) ∧ w'.cell? ⟨b, off + k * 4 + 1, none⟩ = some (.int .i64 tx))
              (first | go_keep | exact SV.out)
              (first | (go_at_call 28; refine (KK.out _ (by exact HS.out.hl) (by exact HS.out.ho)).mono ?_; rintro e wC ⟨rfl, hb⟩; have SV := Lib.hid (And.intro ((hb.cell (p := ⟨w.heap.size, 0, none⟩) HS.out.lt0).trans q0) (And.intro ((hb.cell (p := ⟨w.heap.size, 1, none⟩) HS.out.lt0).trans q1) (And.intro ((hb.cell (p := ⟨Bm, 1, none⟩) hBw).trans p1) (And.intro ((hb.cell (p := ⟨b, off + k * 4, none⟩) hbb).trans l0) ((hb.cell (p := ⟨b, off + k * 4 + 1, none⟩) hbb).trans l1))))); have HBC := Lib.hid hb; clear hb))
            all_goals (go_wp2_with fail; go_meet; exact ⟨rfl, rfl, (Below.refl _ _).drew.trans HBC.out⟩)
          case rest =>
            obtain ⟨rfl, rfl, hb⟩ := hcut
            have HBW := Lib.hid hb
            clear hb
            go_wp2_with fail
            go_roundg g
            case measure => omega
            case rel => exact ⟨k + 1, by have := HG.out; omega, by go_num, HS.out.upto HBW.out, HI.out.upto HBW.out, (HBW.out.cell (p := ⟨Bm, 1, none⟩) hBw).trans p1, Nat.lt_of_lt_of_le hBw HBW.out.size, HB.out.trans (HBW.out.mono HB.out.size)⟩
    · have hnil := ofL_nil he
      rw [hnil] at ka
      have kb := fun W hl ho => outs_any nb A A' c c' ls out W hl ho (by omega) (by omega)
      have he' : (outsE nb ls out != 0) = true := by rw [bne_iff_ne]; exact he
      have he2 : (outsE nb ls out == outsE nb ls out) = true := by simp
      generalize outsE nb ls out = er at *
      have KA := Lib.hid ka
      have KB := Lib.hid kb
      clear ka kb he hnil
      go_wp2_with fail
      refine (KA.out _ HL.out HO.out).mono ?_
      rintro e w3 ⟨v, rfl, hown, hb⟩
      obtain ⟨A1, c1, rfl, hI⟩ := ownsRow_ints hown
      have HB3 := Lib.hid (HB2.out.trans (hb.mono HB2.out.size))
      replace q0 := (hb.cell (p := ⟨w.heap.size, 0, none⟩) (by show w.heap.size < _; omega)).trans q0
      replace q1 := (hb.cell (p := ⟨w.heap.size, 1, none⟩) (by show w.heap.size < _; omega)).trans q1
      replace HL := Lib.hid (HL.out.upto hb)
      replace HO := Lib.hid (HO.out.upto hb)
      clear hb hI hown HB2
      go_wp2_with fail
      refine (KB.out _ HL.out HO.out).mono ?_
      rintro e w4 ⟨rfl, hb⟩
      have HB4 := Lib.hid (HB3.out.trans (hb.mono HB3.out.size))
      clear hb
      go_wp2_with fail
      go_ret
      exact ⟨rfl, HB4.out⟩
end Go.Proofs.Ytkncmhcobbjoiaa
