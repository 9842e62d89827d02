/- The text RefE. -/
import Derived.Test.YtmojjfdamdgegaaMg33
/- The contract of the reference function Of of layer 15: it answers what island.Of answers. -/
namespace Go.Proofs.Ytmojjfdamdgegaa
open Go.RowKit
set_option linter.unusedVariables false

theorem firstT_false (bs : List Bool) (i : Nat) (h : i < firstT bs) : bs.getD i false = false := by
  have := List.not_of_lt_findIdx h
  have hl : i < bs.length := Nat.lt_of_lt_of_le h List.findIdx_le_length
  rw [getD_eq _ _ _ hl]
  simpa using this
theorem firstT_true (bs : List Bool) (h : firstT bs < bs.length) : bs.getD (firstT bs) false = true := by
  rw [getD_eq _ _ _ h]
  have h2 := List.findIdx_getElem (w := h)
  simp only [id] at h2
  exact h2

set_option maxRecDepth 100000 in
set_option maxHeartbeats 4000000 in
theorem refof_ok (n : Nat) (A A' : Option Addr) (c c' : Nat) (ls : List Ln) (out : List Int) (w : World) (hl : LinesR w w.heap.size A ls) (ho : IntsR w w.heap.size A' out)
    (hm : ls.length ≤ 1000000) (hn : out.length ≤ 1000000) (he : outsE n ls out = 0) :
    Calls Try.prog 57 #[.agg #[.int .i64 (n : Int), .slice A ls.length c], .slice A' out.length c'] w
      (IntsE w ((numR (refRoot n ls out) n).1.map fun x : Nat => (x : Int)) 0) := by
  have hv := valid_of_check (check_of_outs he).1
  have hn6 : n ≤ 6 := by have := hv.hi; omega
  have hn1 : 1 ≤ n := by have := hv.lo; omega
  have hrt : ∀ b, b < n → refRoot n ls out b ≤ b := fun b hb => by
    have := refRoot_eq (nb := (n : Int)) he b (by simpa using hb)
    rw [Int.toNat_natCast] at this
    rw [this]; exact rootOf_le _ _ _ _
  have HRT := Lib.hid hrt
  have HV := Lib.hid hv
  have hcall := fun W hl ho => refouts_any n A A' c c' ls out W hl ho hm hn
  rw [he] at hcall
  have HCALL := Lib.hid hcall
  have HL := Lib.hid hl
  have HO := Lib.hid ho
  have hmk := fun W => run_make_row' (P := Try.prog) 25 3 (.int .i64 0) 8 Try.underlying25 info_int rfl .i64 .i64 n (by omega) (by omega) W
  clear hcall hl ho he hv hrt
  go_enter Try.func57, Try.ntmps57
  go_wp2_with (go_at_call 34; refine (HCALL.out _ (by exact (HL.out.alloc (Nat.le_refl _) _).more (by simp)) (by exact (HO.out.alloc (Nat.le_refl _) _).more (by simp))).mono ?_; rintro e w1 ⟨rfl, hb1⟩; have k0 : w1.cell? ⟨w.heap.size, 0, none⟩ = some (.int .i64 (n : Int)) := (hb1.cell (by simp)).trans (by simp); have k1 : w1.cell? ⟨w.heap.size, 1, none⟩ = some (.slice A ls.length c) := (hb1.cell (by simp)).trans (by simp); have hz1 : w.heap.size < w1.heap.size := (by have := hb1.size; simp at this; omega); have hBw : Below w.heap.size w w1 := ((Below.refl _ _).alloc (Nat.le_refl _) _).trans (hb1.mono (by simp)); have HBw := Lib.hid hBw; clear hb1 hBw)
  have r1 := RowN.made w1 3 n
  have b1 : Below w1.heap.size w1 (w1.alloc (.cells (madeCells #[.int .i64 0] n) 3)) := (Below.refl _ _).alloc (Nat.le_refl _) _
  have HK0 := Lib.hid k0
  have HK1 := Lib.hid k1
  clear hmk k0 k1
  generalize w1.alloc (.cells (madeCells #[.int .i64 0] n) 3) = W2 at *
  go_loopg [8, 9, 10, 11] n (fun g ct i s10 s11 wr => ∃ (k : Nat) (q : List Nat), k + g = n ∧ i = .int .i64 k ∧ ct = .int .i64 ((numR (refRoot n ls out) k).2 : Nat) ∧ q.length = n ∧ q.take k = (numR (refRoot n ls out) k).1 ∧ RowN 3 wr w1.heap.size q ∧ Below w1.heap.size w1 wr)
  case atStart => exact ⟨0, _, by omega, rfl, rfl, by simp, by simp [numR], r1, b1⟩
  case round =>
    clear r1 b1
    obtain ⟨k, q, hkg, rfl, rfl, hql, hqt, hr, hbw⟩ := hrel
    have HR := Lib.hid hr
    have HBW := Lib.hid hbw
    have HQ : Hid (q.length = n ∧ q.take k = (numR (refRoot n ls out) k).1) := ⟨hql, hqt⟩
    have k0 := (hbw.cell (p := ⟨w.heap.size, 0, none⟩) hz1).trans HK0.out
    have k1 := (hbw.cell (p := ⟨w.heap.size, 1, none⟩) hz1).trans HK1.out
    have hnl := numR_le (refRoot n ls out) k
    clear hr hbw hql hqt
    cases gk with
    | zero =>
      obtain rfl : n = k := by omega
      clear hkg
      go_wp2_with fail
      go_ret2
      have hq : q = (numR (refRoot n ls out) n).1 := by have := HQ.out.2; rwa [List.take_of_length_le (by rw [HQ.out.1]; exact Nat.le_refl _)] at this
      refine ⟨_, rfl, ?_, ?_⟩
      · rw [← hq]
        exact HR.out.owns (by omega) HQ.out.1 (by omega)
      · exact HBw.out.trans (HBW.out.mono (by omega))
    | succ g =>
      have hk : k < n := by omega
      have HG := Lib.hid hkg
      clear hkg
      have hB2 : Below w.heap.size w wr := HBw.out.trans (HBW.out.mono (by omega))
      have cr := reach_any n A A' c c' k ls out wr (HL.out.upto hB2) (HO.out.upto hB2) HV.out hn hk
      have hln := reachL_length n (ends ls (notIn out ls.length)) k
      have hself := reach_self n (ends ls (notIn out ls.length)) k hk
      have hfe : firstT (reachL n (ends ls (notIn out ls.length)) k) = refRoot n ls out k := rfl
      have hfk : refRoot n ls out k ≤ k := HRT.out k hk
      have CR := Lib.hid cr
      have HFE := Lib.hid hfe
      have HLN := Lib.hid hln
      clear cr hB2 hself hfe hln
      generalize reachL n (ends ls (notIn out ls.length)) k = bs at *
      go_wp2_with fail
      refine CR.out.mono ?_
      rintro e w3 ⟨gb, rfl, hrb, hgb, hb3⟩
      have HR3 := Lib.hid (HR.out.keep (hb3.block _ HR.out.lt))
      have HB3 := Lib.hid (HBW.out.trans (hb3.mono HBW.out.size))
      have hgne : w1.heap.size ≠ gb := by have := HR.out.lt; omega
      have HRB := Lib.hid hrb
      clear hrb hb3 HBW HR k0 k1
      rw [HLN.out]
      go_wp2_with fail
      go_loopg [11] (refRoot n ls out k) (fun g i wr => ∃ j : Nat, j + g = refRoot n ls out k ∧ i = .int .i64 j ∧ w3 = wr)
      case atStart => exact ⟨0, by omega, rfl, rfl⟩
      case round =>
        obtain ⟨j, hjg, rfl, rfl⟩ := hrel
        have hjn : j < n := by omega
        have cj := HRB.out.cell (i := j) (by rw [HLN.out]; exact hjn)
        cases gk with
        | succ g2 =>
          have hf := firstT_false bs j (by rw [HFE.out]; omega)
          rw [hf] at cj
          have HG2 := Lib.hid hjg
          clear hjg hf
          go_wp2_with fail
          go_roundg g2
          case measure => omega
          case rel => exact ⟨j + 1, by have := HG2.out; omega, by go_num, rfl⟩
        | zero =>
          have hj0 : j = refRoot n ls out k := by omega
          have hf : bs.getD j false = true := by rw [hj0, ← HFE.out]; exact firstT_true bs (by rw [HFE.out, HLN.out]; omega)
          rw [hf] at cj
          have HJ := Lib.hid hj0
          clear hjg hj0 hf
          have hjk : j ≤ k := by rw [HJ.out]; exact hfk
          have hck := HR3.out.cell (i := k) (by rw [HQ.out.1]; exact hk)
          have hfk' := HR3.out.frozen k
          by_cases hroot : j = k
          · have HN := Lib.hid (numR_root (r := refRoot n ls out) (k := k) (by rw [← HJ.out]; exact hroot))
            have hne : ((j : Int) == (k : Int)) = true := by rw [hroot]; simp
            clear hroot
            go_wp2_with fail
            go_roundg g
            case measure => omega
            case rel =>
              refine ⟨k + 1, q.set k (numR (refRoot n ls out) k).2, by have := HG.out; omega, by go_num, by rw [HN.out]; go_num, by simpa using HQ.out.1, ?_, HR3.out.set_ k _, HB3.out.setCell (p := ⟨w1.heap.size, k, none⟩) (Nat.le_refl _) _⟩
              rw [HN.out, take_set_succ _ _ _ (by rw [HQ.out.1]; exact hk), HQ.out.2]
          · have HN := Lib.hid (numR_other (r := refRoot n ls out) (k := k) (by rw [← HJ.out]; exact hroot))
            have hne : ((j : Int) == (k : Int)) = false := by rw [beq_eq_false_iff_ne]; omega
            have hcx := HR3.out.cell (i := j) (by rw [HQ.out.1]; exact hjn)
            have hjk' : j < k := by omega
            have hq2 : (numR (refRoot n ls out) k).1.getD (refRoot n ls out k) 0 = q.getD j 0 := by rw [← HQ.out.2, ← HJ.out]; exact getD_take _ _ _ _ hjk'
            rw [hq2] at HN
            clear hroot hq2
            generalize q.getD j 0 = y at *
            go_wp2_with fail
            go_roundg g
            case measure => omega
            case rel =>
              refine ⟨k + 1, q.set k y, by have := HG.out; omega, by go_num, by rw [HN.out], by simpa using HQ.out.1, ?_, HR3.out.set_ k _, HB3.out.setCell (p := ⟨w1.heap.size, k, none⟩) (Nat.le_refl _) _⟩
              rw [HN.out, take_set_succ _ _ _ (by rw [HQ.out.1]; exact hk), HQ.out.2]

set_option maxHeartbeats 1000000 in
theorem refof_any (nb : Int) (A A' : Option Addr) (c c' : Nat) (ls : List Ln) (out : List Int) (w : World) (hl : LinesR w w.heap.size A ls) (ho : IntsR w w.heap.size A' out)
    (hm : ls.length ≤ 1000000) (hn : out.length ≤ 1000000) :
    Calls Try.prog 57 #[.agg #[.int .i64 nb, .slice A ls.length c], .slice A' out.length c'] w (IntsE w (ofL nb ls out) (outsE nb ls out)) := by
  by_cases he : outsE nb ls out = 0
  · have hv := valid_of_check (check_of_outs he).1
    rw [ofL, if_pos he, ← refOf_eq he, he]
    obtain ⟨n, rfl⟩ := Int.eq_ofNat_of_zero_le (show 0 ≤ nb by have := hv.lo; omega)
    rw [Int.toNat_natCast]
    exact refof_ok n A A' c c' ls out w hl ho hm hn he
  · rw [ofL, if_neg he]
    have hcall := fun W hl ho => refouts_any nb A A' c c' ls out W hl ho hm hn
    have he' : (outsE nb ls out != 0) = true := by rw [bne_iff_ne]; exact he
    generalize outsE nb ls out = e at *
    have HCALL := Lib.hid hcall
    have HL := Lib.hid hl
    have HO := Lib.hid ho
    clear hl ho hcall he
    go_enter Try.func57, Try.ntmps57
    go_wp2_with (go_at_call 34; refine (HCALL.out _ (by exact (HL.out.alloc (Nat.le_refl _) _).more (by simp)) (by exact (HO.out.alloc (Nat.le_refl _) _).more (by simp))).mono ?_; rintro e w1 ⟨rfl, hb1⟩)
    go_ret2
    exact ⟨_, rfl, World.ownsRow_nil _ _ _ _, ((Below.refl _ _).alloc (Nat.le_refl _) _).trans (hb1.mono (by simp))⟩
end Go.Proofs.Ytmojjfdamdgegaa
