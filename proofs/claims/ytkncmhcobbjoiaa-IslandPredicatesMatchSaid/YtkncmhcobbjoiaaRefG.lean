/- The contracts of the reference functions at and Alike of layer 15. -/
import Derived.Test.YtkncmhcobbjoiaaRefE
namespace Go.Proofs.Ytkncmhcobbjoiaa
open Go.RowKit
set_option linter.unusedVariables false

theorem quiet_add_left {P : Program} {f : FuncId} {args : Array Value} {w : World} {a n : Nat} {v : Value}
    (h : Calls P f args (w.drewN (a + n)) fun e w' => e = .returned v ∧ w.drewN (a + n) = w') :
    Calls P f args (w.drewN (a + n)) fun e w'' => e = .returned v ∧ ∃ m, w'' = w.drewN (a + m) :=
  h.mono fun _ _ ⟨he, hm⟩ => ⟨he, n, hm.symm⟩

set_option maxHeartbeats 1000000 in
theorem at_any (A : Option Addr) (c : Nat) (l : List Int) (i : Nat) (w : World) (B : Nat) (hl : IntsR w B A l) (hn : l.length ≤ 1000000) (hi : i ≤ 1000000) :
    Calls Try.prog 40 #[.slice A l.length c, .int .i64 (i : Int)] w fun e w' => e = .returned (.int .i64 (lab l i)) ∧ w = w' := by
  by_cases h : i < l.length
  · obtain ⟨b, off, rfl, hb, hc⟩ := hl (by omega)
    have e := hc i h
    unfold lab
    generalize l.getD i 0 = x at *
    clear hc hl
    go_enter Try.func40, Try.ntmps40
    go_wp2_with fail
    go_ret
    exact ⟨rfl, rfl⟩
  · have e : lab l i = 0 := by unfold lab; rw [List.getD_eq_getElem?_getD, List.getElem?_eq_none (by omega)]; rfl
    rw [e]
    clear hl e
    have h' : l.length ≤ i := by omega
    go_enter Try.func40, Try.ntmps40
    go_wp2_with fail
    go_ret
    exact ⟨rfl, rfl⟩

set_option maxRecDepth 100000 in
set_option maxHeartbeats 4000000 in
theorem alike_ok (n : Nat) (A A' A2 : Option Addr) (c c' c2 : Nat) (ls : List Ln) (out labels : List Int) (w : World) (hl : LinesR w w.heap.size A ls) (ho : IntsR w w.heap.size A' out) (hlb : IntsR w w.heap.size A2 labels)
    (hm : ls.length ≤ 1000000) (hn : out.length ≤ 1000000) (he : outsE n ls out = 0) (hll : labels.length ≤ n) :
    Calls Try.prog 30 #[.agg #[.int .i64 (n : Int), .slice A ls.length c], .slice A' out.length c', .slice A2 labels.length c2] w
      (BoolE w (alike labels (ends ls (notIn out ls.length))) 0) := by
  have hv := valid_of_check (check_of_outs he).1
  have hn6 : n ≤ 6 := by have := hv.hi; omega
  have hn1 : 1 ≤ n := by have := hv.lo; omega
  have HV := Lib.hid hv
  have hcall := fun W hl ho => refouts_any n A A' c c' ls out W hl ho hm hn
  rw [he] at hcall
  have HCALL := Lib.hid hcall
  have HL := Lib.hid hl
  have HO := Lib.hid ho
  have HLB := Lib.hid hlb
  have hLr := notIn_range out ls.length
  have hLl := notIn_le out ls.length
  have hm10 : ls.length ≤ 10 := hv.len
  have cin := fun W ho => refin_any (.int .i64 (n : Int)) A A' c c' ls.length out W ho hm hn
  clear hcall hl ho he hv hlb
  generalize notIn out ls.length = L at *
  have HLr := Lib.hid hLr
  have CIN := Lib.hid cin
  clear hLr cin
  go_enter Try.func30, Try.ntmps30
  go_wp2_with fail
  refine (HCALL.out _ (by exact (HL.out.alloc (Nat.le_refl _) _).more (by simp)) (by exact (HO.out.alloc (Nat.le_refl _) _).more (by simp))).mono ?_
  rintro e w1 ⟨rfl, hb1⟩
  have k0 : w1.cell? ⟨w.heap.size, 0, none⟩ = some (.int .i64 (n : Int)) := (hb1.cell (by simp)).trans (by simp)
  have k1 : w1.cell? ⟨w.heap.size, 1, none⟩ = some (.slice A ls.length c) := (hb1.cell (by simp)).trans (by simp)
  have hz1 : w.heap.size < w1.heap.size := by have := hb1.size; simp at this; omega
  have hBw : Below w.heap.size w w1 := ((Below.refl _ _).alloc (Nat.le_refl _) _).trans (hb1.mono (by simp))
  have HBw := Lib.hid hBw
  have hO1 := HO.out.upto hBw
  have HO1 := Lib.hid hO1
  clear hb1 hBw hO1
  have hlt' : decide (n < labels.length) = false := by simp; omega
  go_wp2_with fail
  refine (CIN.out w1 HO1.out).mono ?_
  rintro e w2 ⟨v, rfl, hown, hb2⟩
  obtain ⟨A1, c1, rfl, hI⟩ := ownsRow_ints hown
  have HI := Lib.hid hI
  have HB2 := Lib.hid (HBw.out.trans (hb2.mono HBw.out.size))
  have K1 := Lib.hid ((hb2.cell (p := ⟨w.heap.size, 1, none⟩) hz1).trans k1)
  have hz2 : w.heap.size < w2.heap.size := by have := hb2.size; omega
  clear hown hI hb2 HBw k0 k1 HCALL CIN HO HO1 hz1
  go_wp2_with fail
  go_loopg [6, 7, 10, 11] L.length (fun g s6 s7 i s11 wr => ∃ j : Nat, j + g = L.length ∧ i = .int .i64 j ∧ alike labels (ends ls (L.take j)) = true ∧ Below w2.heap.size w2 wr)
  case atStart => exact ⟨0, by omega, rfl, by simp [ends, alike], Below.refl _ _⟩
  case round =>
    obtain ⟨j, hjg, rfl, hal, hbw⟩ := hrel
    have HAL := Lib.hid hal
    have HBW := Lib.hid hbw
    have k1 := (hbw.cell (p := ⟨w.heap.size, 1, none⟩) hz2).trans K1.out
    have hzr := hbw.size
    clear hal hbw
    cases gk with
    | zero =>
      obtain rfl : j = L.length := by omega
      clear hjg
      have hA := HAL.out
      rw [List.take_length] at hA
      go_wp2_with fail
      go_ret2
      exact ⟨by rw [hA]; rfl, HB2.out.trans (HBW.out.mono (by omega))⟩
    | succ g =>
      have hj : j < L.length := by omega
      have HG := Lib.hid hjg
      clear hjg
      obtain ⟨b, off, rfl, hb, hc⟩ := HI.out (by omega)
      obtain ⟨t, ht⟩ : ∃ t : Nat, L.getD j 0 = (t : Int) := Int.eq_ofNat_of_zero_le (HLr.out _ (by rw [getD_eq _ _ _ hj]; exact List.getElem_mem hj)).1
      have htm : t < ls.length := by have := (HLr.out (L.getD j 0) (by rw [getD_eq _ _ _ hj]; exact List.getElem_mem hj)).2; omega
      have q0 := (HBW.out.cell (p := ⟨b, off + j, none⟩) hb).trans (hc j hj)
      rw [ht] at q0
      clear hc
      obtain ⟨b', off', rfl, hb', hc'⟩ := HL.out (by omega)
      obtain ⟨e0, e1, e2, e3⟩ := hc' t htm
      have q1 := (HBW.out.cell (p := ⟨b', off' + t * 4, none⟩) (by show b' < _; omega)).trans ((HB2.out.cell (p := ⟨b', off' + t * 4, none⟩) hb').trans e0)
      have q2 := (HBW.out.cell (p := ⟨b', off' + t * 4 + 1, none⟩) (by show b' < _; omega)).trans ((HB2.out.cell (p := ⟨b', off' + t * 4 + 1, none⟩) hb').trans e1)
      have q3 := (HBW.out.cell (p := ⟨b', off' + t * 4 + 2, none⟩) (by show b' < _; omega)).trans ((HB2.out.cell (p := ⟨b', off' + t * 4 + 2, none⟩) hb').trans e2)
      have q4 := (HBW.out.cell (p := ⟨b', off' + t * 4 + 3, none⟩) (by show b' < _; omega)).trans ((HB2.out.cell (p := ⟨b', off' + t * 4 + 3, none⟩) hb').trans e3)
      clear hc' e0 e1 e2 e3
      obtain ⟨v0, v1, v2, v3, _⟩ := HV.out.ok t htm
      have hsn := ends_snoc (ls := ls) hj
      rw [ht, Int.toNat_natCast] at hsn
      obtain ⟨f, hf⟩ := Int.eq_ofNat_of_zero_le v0
      obtain ⟨u, hu⟩ := Int.eq_ofNat_of_zero_le v2
      rw [hf] at q1 v1 hsn
      rw [hu] at q2 v3 hsn
      rw [Int.toNat_natCast, Int.toNat_natCast] at hsn
      have hfn : f < n := by omega
      have hun : u < n := by omega
      have hal2 : alike labels (ends ls (L.take (j + 1))) = (lab labels f == lab labels u) := by rw [hsn, alike_snoc, HAL.out]; rfl
      have HS := Lib.hid hal2
      clear hsn hf hu ht v0 v1 v2 v3 hal2
      generalize (ls.getD t (0, 0, 0, 0)).2.2.1 = x3 at *
      generalize (ls.getD t (0, 0, 0, 0)).2.2.2 = x4 at *
      have z1 : b < wr.heap.size := by omega
      have z2 : b' < wr.heap.size := by omega
      have z3 : w.heap.size < wr.heap.size := by omega
      have cat := fun (i : Nat) (hi : i < n) (W : World) (h : IntsR W w.heap.size A2 labels) => at_any A2 c2 labels i W w.heap.size h (by omega) (by omega)
      have CAT := Lib.hid cat
      have hlr : IntsR (wr.alloc (.cells #[.int .i64 (f : Int), .int .i64 (u : Int), .int .i64 x3, .int .i64 x4] 37)) w.heap.size A2 labels := ((HLB.out.below HB2.out).below (HBW.out.mono (by omega))).alloc (by omega) _
      have HLR := Lib.hid hlr
      clear cat hlr
      by_cases heq : lab labels f = lab labels u
      · have hne : (lab labels f != lab labels u) = false := by rw [heq]; simp
        have HE := Lib.hid heq
        clear heq
        go_wp2_with fail
        go_region
        go_wp2_with fail
        go_quiet ((go_at_call 40; first | exact quiet_add_left (CAT.out _ (by omega) _ HLR.out) | exact quiet_left (CAT.out _ (by omega) _ HLR.out)))
        go_wp2_with fail
        go_roundg g
        case measure => omega
        case rel => exact ⟨j + 1, by have := HG.out; omega, by go_num, by rw [HS.out, HE.out]; simp, below_drewN (HBW.out.alloc (by omega) _) _⟩
      · have hne : (lab labels f != lab labels u) = true := by rw [bne_iff_ne]; exact heq
        have HE : Hid (alike labels (ends ls L) = false) := by
          apply alike_not labels _ j
          rw [← ends_take, HS.out, beq_eq_false_iff_ne]; exact heq
        clear heq HS
        go_wp2_with fail
        go_region
        go_wp2_with fail
        go_quiet ((go_at_call 40; first | exact quiet_add_left (CAT.out _ (by omega) _ HLR.out) | exact quiet_left (CAT.out _ (by omega) _ HLR.out)))
        go_wp2_with fail
        go_ret2
        exact ⟨by rw [HE.out]; rfl, HB2.out.trans ((below_drewN ((HBW.out.alloc (by omega) _).drew) _).mono (by omega))⟩

set_option maxHeartbeats 1000000 in
theorem refalike_any (nb : Int) (A A' A2 : Option Addr) (c c' c2 : Nat) (ls : List Ln) (out labels : List Int) (w : World) (hl : LinesR w w.heap.size A ls) (ho : IntsR w w.heap.size A' out) (hlb : IntsR w w.heap.size A2 labels)
    (hm : ls.length ≤ 1000000) (hn : out.length ≤ 1000000) (hk : labels.length ≤ 1000000) :
    Calls Try.prog 30 #[.agg #[.int .i64 nb, .slice A ls.length c], .slice A' out.length c', .slice A2 labels.length c2] w
      (BoolE w (consB nb ls out labels) (consE nb ls out labels)) := by
  by_cases he : outsE nb ls out = 0
  · have hv := valid_of_check (check_of_outs he).1
    obtain ⟨n, rfl⟩ := Int.eq_ofNat_of_zero_le (show 0 ≤ nb by have := hv.lo; omega)
    by_cases hlen : (n : Int) < labels.length
    · rw [consB, if_neg (by omega), consE, if_pos he, if_pos hlen]
      have hcall := fun W hl ho => refouts_any n A A' c c' ls out W hl ho hm hn
      rw [he] at hcall
      have HCALL := Lib.hid hcall
      have HL := Lib.hid hl
      have HO := Lib.hid ho
      have hln : n < labels.length := by omega
      clear hl ho hcall he hlb hv hlen
      go_enter Try.func30, Try.ntmps30
      go_wp2_with (go_at_call 36; refine (HCALL.out _ (by exact (HL.out.alloc (Nat.le_refl _) _).more (by simp)) (by exact (HO.out.alloc (Nat.le_refl _) _).more (by simp))).mono ?_; rintro e w1 ⟨rfl, hb1⟩; have k0 : w1.cell? ⟨w.heap.size, 0, none⟩ = some (.int .i64 (n : Int)) := (hb1.cell (by simp)).trans (by simp); have HB1 := Lib.hid hb1; clear hb1)
      go_ret2
      exact ⟨rfl, ((Below.refl _ _).alloc (Nat.le_refl _) _).trans (HB1.out.mono (by simp))⟩
    · rw [consB, if_pos ⟨he, hlen⟩, consE, if_pos he, if_neg hlen, svcL_eq (check_of_outs he).2]
      exact alike_ok n A A' A2 c c' c2 ls out labels w hl ho hlb hm hn he (by omega)
  · rw [consB, if_neg (by omega), consE, if_neg he]
    have hcall := fun W hl ho => refouts_any nb A A' c c' ls out W hl ho hm hn
    have he' : (outsE nb ls out != 0) = true := by rw [bne_iff_ne]; exact he
    generalize outsE nb ls out = e at *
    have HCALL := Lib.hid hcall
    have HL := Lib.hid hl
    have HO := Lib.hid ho
    clear hl ho hcall he hlb
    go_enter Try.func30, Try.ntmps30
    go_wp2_with (go_at_call 36; refine (HCALL.out _ (by exact (HL.out.alloc (Nat.le_refl _) _).more (by simp)) (by exact (HO.out.alloc (Nat.le_refl _) _).more (by simp))).mono ?_; rintro e w1 ⟨rfl, hb1⟩)
    go_ret2
    exact ⟨rfl, ((Below.refl _ _).alloc (Nat.le_refl _) _).trans (hb1.mono (by simp))⟩
end Go.Proofs.Ytkncmhcobbjoiaa
