/- The text BalW. -/
import Derived.Deep.DeepCutAuto
import Derived.Test.YtmojjfdamdgegaaMg35
import Derived.Test.YtmojjfdamdgegaaMg42
import Derived.Test.YtmojjfdamdgegaaMg44
import Derived.Test.YtmojjfdamdgegaaMg40
import Derived.Test.YtmojjfdamdgegaaMg46
import Derived.Test.YtmojjfdamdgegaaMg47
/- The walk of TreeBalance. -/
namespace Go.Proofs.Ytmojjfdamdgegaa
open Go.RowKit
set_option linter.unusedVariables false

def balR (n : Nat) (l : List Int) (t : Nat) (g : Value) (W : World) : Prop := ∃ b, g = .slice (some ⟨b, 0, none⟩) n n ∧ RowI 3 W b l
theorem balR_up {n : Nat} {l : List Int} : ∀ t g W W', Below W.heap.size W W' → balR n l t g W → balR n l t g W' := by
  rintro t g W W' hb ⟨b, h1, h2⟩
  exact ⟨b, h1, h2.grow hb⟩

set_option maxRecDepth 100000 in
set_option maxHeartbeats 8000000 in
theorem bal_walk (nb : Int) (A : Option Addr) (c : Nat) (ls : List Ln) (O : Option Addr) (co : Nat) (out : List Int) (fr tw : Int) (w : World) (hl : LinesR w w.heap.size A ls) (ho : IntsR w w.heap.size O out) :
    Calls Try.prog 9 #[.agg #[.int .i64 nb, .slice A ls.length c], .slice O out.length co, .int .i64 fr, .int .i64 tw] w fun e w' => e = .returned (.bool true) ∧ Below w.heap.size w w' := by
  obtain ⟨i0, hi0, hz0, hz1, hz2⟩ := info_parts info_int
  have HL := Lib.hid hl
  have HO := Lib.hid ho
  clear hl ho
  have kl := fun W b hb => long_lit1 (.int .i64 nb) A ls.length c 25 W b hb O out.length co
  cases hlong : longB [out.length] ls.length with
  | true =>
    rw [hlong] at kl
    have KL := Lib.hid kl
    clear kl hlong
    have HB0 := Lib.hid (Below.refl w.heap.size w)
    go_enter Try.func9, Try.ntmps9
    go_wp2_with fail
    have hb := below_alloc2 w (.cells #[.int .i64 nb, .slice A ls.length c] 24) (.cells #[.slice O out.length co] 25)
    have q0 : ((w.alloc (.cells #[.int .i64 nb, .slice A ls.length c] 24)).alloc (.cells #[.slice O out.length co] 25)).cell? ⟨w.heap.size, 0, none⟩ = some (.int .i64 nb) := by simp
    have q1 : ((w.alloc (.cells #[.int .i64 nb, .slice A ls.length c] 24)).alloc (.cells #[.slice O out.length co] 25)).cell? ⟨w.heap.size, 1, none⟩ = some (.slice A ls.length c) := by simp
    have hz : w.heap.size < ((w.alloc (.cells #[.int .i64 nb, .slice A ls.length c] 24)).alloc (.cells #[.slice O out.length co] 25)).heap.size := by simp; omega
    have HB1 := Lib.hid (HB0.out.trans (hb.mono HB0.out.size))
    clear HB0
    replace HL := Lib.hid (HL.out.upto hb)
    replace HO := Lib.hid (HO.out.upto hb)
    clear hb
    refine (KL.out (w.alloc (.cells #[.int .i64 nb, .slice A ls.length c] 24)) _ (by simp)).mono ?_
    rintro e w2 ⟨rfl, hb⟩
    rw [← World.size_alloc (w.alloc (.cells #[.int .i64 nb, .slice A ls.length c] 24)) (.cells #[.slice O out.length co] 25)] at hb
    have HB2 := Lib.hid (HB1.out.trans (hb.mono HB1.out.size))
    clear HB1
    replace HL := Lib.hid (HL.out.upto hb)
    replace HO := Lib.hid (HO.out.upto hb)
    replace q0 := (hb.cell (p := ⟨w.heap.size, 0, none⟩) hz).trans q0
    replace q1 := (hb.cell (p := ⟨w.heap.size, 1, none⟩) hz).trans q1
    replace hz : w.heap.size < w2.heap.size := Nat.lt_of_lt_of_le hz hb.size
    clear hb
    go_wp2_with fail
    refine (awake16_any _).mono ?_
    rintro e w3 ⟨rfl, hb⟩
    have HB3 := Lib.hid (HB2.out.trans (hb.mono HB2.out.size))
    clear HB2
    replace HL := Lib.hid (HL.out.upto hb)
    replace HO := Lib.hid (HO.out.upto hb)
    replace q0 := (hb.cell (p := ⟨w.heap.size, 0, none⟩) hz).trans q0
    replace q1 := (hb.cell (p := ⟨w.heap.size, 1, none⟩) hz).trans q1
    replace hz : w.heap.size < w3.heap.size := Nat.lt_of_lt_of_le hz hb.size
    clear hb
    go_wp2_with fail
    go_ret
    exact ⟨rfl, HB3.out⟩
  | false =>
    rw [hlong] at kl
    have hb100 := longB_false hlong
    have h1 : out.length ≤ 100 := hb100.1 _ (by simp)
    have h2 : ls.length ≤ 100 := hb100.2
    have KL := Lib.hid kl
    clear kl hlong hb100
    have ko := fun W hl ho => outs_any nb A O c co ls out W hl ho (by omega) (by omega)
    by_cases he : outsE nb ls out = 0
    · have hc := (check_of_outs he).1
      have hvv := valid_of_check hc
      have hlo := hvv.lo
      have hhi := hvv.hi
      have hin := tree_in he
      obtain ⟨n, rfl⟩ : ∃ n : Nat, nb = (n : Int) := ⟨nb.toNat, by omega⟩
      have hen : ∀ j, j < ls.length → ∃ f g : Nat, (ls.getD j (0, 0, 0, 0)).1 = (f : Int) ∧ (ls.getD j (0, 0, 0, 0)).2.1 = (g : Int) ∧ f < n ∧ g < n := fun j hj => by
        have := hvv.ok j hj
        exact ⟨(ls.getD j (0, 0, 0, 0)).1.toNat, (ls.getD j (0, 0, 0, 0)).2.1.toNat, by omega, by omega, by omega, by omega⟩
      have kt := fun W hl ho => tree_any n A O c co ls out W hl ho (by omega) (by omega)
      have kp := fun W hl ho => path_any n A O c co ls out fr tw W hl ho (by omega) (by omega)
      have kc := fun W hl ho => cycles_ok n A O c co ls out _ W hl ho (by omega) (by omega) he (cyc_dfs he)
      rw [he] at ko kt
      have hcb := fun i hi => cyc_bal he n i hi
      have hrl : (cycL n ls out).length ≤ 1000000 := by
        rw [cyc_len he]
        have h := List.length_filter_le (fun x => !hasB (treeL n ls out) x) (svcL out ls.length)
        have hsl := svcL_le out ls.length
        unfold ownL
        omega
      have e1 : cycTo ls (treeL n ls out) ((treeL n ls out).length + 1) (svcL out ls.length) (svcL out ls.length).length = cycL n ls out := rfl
      rw [e1] at kc
      have HEN := Lib.hid hen
      have KO := Lib.hid ko
      have KT := Lib.hid kt
      have KC := Lib.hid kc
      have HCB := Lib.hid hcb
      clear e1 hen ko kt kc hcb hvv
      by_cases hpe : pathE n ls out fr tw = 0
      · have hpz := path_zero hpe
        obtain ⟨ha, hb, hway⟩ := hpz
        obtain ⟨a, rfl⟩ : ∃ a : Nat, fr = (a : Int) := ⟨fr.toNat, by omega⟩
        obtain ⟨b, rfl⟩ : ∃ b : Nat, tw = (b : Int) := ⟨tw.toNat, by omega⟩
        have han : a < n := by omega
        have hbn : b < n := by omega
        have hwb := way_bal he rfl han hbn hway
        have hwt := fun x hx hv => way_tree he hway x hx hv
        have hwl := hway.len
        have hwl2 : (pathL n ls out a b).length ≤ 1000000 := by omega
        have hws := hway.small
        have hbb := fun v => bal_bound ls (pathL n ls out a b) v ls.length hws
        have hva : -1000000 ≤ (balV ls (pathL n ls out a b) n ls.length).getD a 0 ∧ (balV ls (pathL n ls out a b) n ls.length).getD a 0 ≤ 1000000 := by
          rw [balV_get _ _ _ _ _ han]
          have := hbb (a : Int)
          omega
        have hyb : -1000000 ≤ ((balV ls (pathL n ls out a b) n ls.length).set a ((balV ls (pathL n ls out a b) n ls.length).getD a 0 - 1)).getD b 0 ∧ ((balV ls (pathL n ls out a b) n ls.length).set a ((balV ls (pathL n ls out a b) n ls.length).getD a 0 - 1)).getD b 0 ≤ 1000000 := by
          have h1 := hbb (a : Int)
          have h2 := hbb (b : Int)
          rw [getD_set', balV_get _ _ _ _ _ han, balV_get _ _ _ _ _ hbn]
          split <;> omega
        have hlb := balV_len ls (pathL n ls out a b) n ls.length
        have kbw := fun X cx W hl hi => balance_ok n A c ls X cx (pathL n ls out a b) W hl hi hwl (by omega) (by omega) HEN.out hws
        rw [hpe] at kp
        clear he hpe hc ha hb hway hbb hws
        generalize cycL n ls out = rows at *
        generalize treeL n ls out = tl at *
        generalize pathL n ls out a b = wl at *
        generalize balV ls wl n ls.length = bv at *
        have KP := Lib.hid kp
        have KBW := Lib.hid kbw
        have HWB := Lib.hid hwb
        have HWT := Lib.hid hwt
        have HWL := Lib.hid hwl
        have HVA := Lib.hid hva
        have HYB := Lib.hid hyb
        have HLB := Lib.hid hlb
        clear kp kbw hwb hwt hwl hva hyb hlb
        have HB0 := Lib.hid (Below.refl w.heap.size w)
        go_enter Try.func9, Try.ntmps9
        go_wp2_with fail
        have hb := below_alloc2 w (.cells #[.int .i64 (n : Int), .slice A ls.length c] 24) (.cells #[.slice O out.length co] 25)
        have q0 : ((w.alloc (.cells #[.int .i64 (n : Int), .slice A ls.length c] 24)).alloc (.cells #[.slice O out.length co] 25)).cell? ⟨w.heap.size, 0, none⟩ = some (.int .i64 (n : Int)) := by simp
        have q1 : ((w.alloc (.cells #[.int .i64 (n : Int), .slice A ls.length c] 24)).alloc (.cells #[.slice O out.length co] 25)).cell? ⟨w.heap.size, 1, none⟩ = some (.slice A ls.length c) := by simp
        have hz : w.heap.size < ((w.alloc (.cells #[.int .i64 (n : Int), .slice A ls.length c] 24)).alloc (.cells #[.slice O out.length co] 25)).heap.size := by simp; omega
        have HB1 := Lib.hid (HB0.out.trans (hb.mono HB0.out.size))
        clear HB0
        replace HL := Lib.hid (HL.out.upto hb)
        replace HO := Lib.hid (HO.out.upto hb)
        clear hb
        refine (KL.out (w.alloc (.cells #[.int .i64 (n : Int), .slice A ls.length c] 24)) _ (by simp)).mono ?_
        rintro e w2 ⟨rfl, hb⟩
        rw [← World.size_alloc (w.alloc (.cells #[.int .i64 (n : Int), .slice A ls.length c] 24)) (.cells #[.slice O out.length co] 25)] at hb
        have HB2 := Lib.hid (HB1.out.trans (hb.mono HB1.out.size))
        clear HB1
        replace HL := Lib.hid (HL.out.upto hb)
        replace HO := Lib.hid (HO.out.upto hb)
        replace q0 := (hb.cell (p := ⟨w.heap.size, 0, none⟩) hz).trans q0
        replace q1 := (hb.cell (p := ⟨w.heap.size, 1, none⟩) hz).trans q1
        replace hz : w.heap.size < w2.heap.size := Nat.lt_of_lt_of_le hz hb.size
        clear hb
        go_wp2_with fail
        refine (awake16_any _).mono ?_
        rintro e w3 ⟨rfl, hb⟩
        have HB3 := Lib.hid (HB2.out.trans (hb.mono HB2.out.size))
        clear HB2
        replace HL := Lib.hid (HL.out.upto hb)
        replace HO := Lib.hid (HO.out.upto hb)
        replace q0 := (hb.cell (p := ⟨w.heap.size, 0, none⟩) hz).trans q0
        replace q1 := (hb.cell (p := ⟨w.heap.size, 1, none⟩) hz).trans q1
        replace hz : w.heap.size < w3.heap.size := Nat.lt_of_lt_of_le hz hb.size
        clear hb
        go_wp2_with fail
        refine (KO.out _ HL.out HO.out).mono ?_
        rintro e w4 ⟨rfl, hb⟩
        have HB4 := Lib.hid (HB3.out.trans (hb.mono HB3.out.size))
        clear HB3
        replace HL := Lib.hid (HL.out.upto hb)
        replace HO := Lib.hid (HO.out.upto hb)
        replace q0 := (hb.cell (p := ⟨w.heap.size, 0, none⟩) hz).trans q0
        replace q1 := (hb.cell (p := ⟨w.heap.size, 1, none⟩) hz).trans q1
        replace hz : w.heap.size < w4.heap.size := Nat.lt_of_lt_of_le hz hb.size
        clear hb
        go_wp2_with fail
        refine (KC.out _ HL.out HO.out).mono ?_
        rintro e w5 ⟨v, rfl, hown, hb⟩
        obtain ⟨Ar, cr, rfl, hR⟩ := hown.read
        have HR := Lib.hid hR
        clear hown hR
        have HB5 := Lib.hid (HB4.out.trans (hb.mono HB4.out.size))
        clear HB4
        replace HL := Lib.hid (HL.out.upto hb)
        replace HO := Lib.hid (HO.out.upto hb)
        replace q0 := (hb.cell (p := ⟨w.heap.size, 0, none⟩) hz).trans q0
        replace q1 := (hb.cell (p := ⟨w.heap.size, 1, none⟩) hz).trans q1
        replace hz : w.heap.size < w5.heap.size := Nat.lt_of_lt_of_le hz hb.size
        clear hb
        go_wp2_with fail
        refine (KP.out _ HL.out HO.out).mono ?_
        rintro e w6 ⟨v, rfl, hown, hb⟩
        obtain ⟨Aw, cw, rfl, hI⟩ := ownsRow_ints hown
        have HIw := Lib.hid hI
        clear hown hI
        have HB6 := Lib.hid (HB5.out.trans (hb.mono HB5.out.size))
        clear HB5
        replace HL := Lib.hid (HL.out.upto hb)
        replace HO := Lib.hid (HO.out.upto hb)
        replace HR := Lib.hid (HR.out.upto hb)
        replace q0 := (hb.cell (p := ⟨w.heap.size, 0, none⟩) hz).trans q0
        replace q1 := (hb.cell (p := ⟨w.heap.size, 1, none⟩) hz).trans q1
        replace hz : w.heap.size < w6.heap.size := Nat.lt_of_lt_of_le hz hb.size
        clear hb
        go_wp2_with fail
        refine (KT.out _ HL.out HO.out).mono ?_
        rintro e w7 ⟨v, rfl, hown, hb⟩
        obtain ⟨At, ct, rfl, hI⟩ := ownsRow_ints hown
        have HIt := Lib.hid hI
        clear hown hI
        have HB7 := Lib.hid (HB6.out.trans (hb.mono HB6.out.size))
        clear HB6
        replace HL := Lib.hid (HL.out.upto hb)
        replace HO := Lib.hid (HO.out.upto hb)
        replace HR := Lib.hid (HR.out.upto hb)
        replace HIw := Lib.hid (HIw.out.upto hb)
        replace q0 := (hb.cell (p := ⟨w.heap.size, 0, none⟩) hz).trans q0
        replace q1 := (hb.cell (p := ⟨w.heap.size, 1, none⟩) hz).trans q1
        replace hz : w.heap.size < w7.heap.size := Nat.lt_of_lt_of_le hz hb.size
        clear hb
        go_wp2_with fail
        go_loopg [15, 16, 17, 18, 19] rows.length (fun g i s16 s17 s18 s19 wr => ∃ k : Nat, k + g = rows.length ∧ i = .int .i64 k ∧ Below w7.heap.size w7 wr)
        case atStart => exact ⟨0, by omega, rfl, Below.refl _ _⟩
        case round =>
          obtain ⟨d, hdg, rfl, hbx⟩ := hrel
          have HBX := Lib.hid hbx
          have hsx := hbx.size
          clear hbx
          cases gk with
          | zero =>
            obtain rfl : d = rows.length := by omega
            clear hdg
            replace HL := Lib.hid (HL.out.upto HBX.out)
            replace HIw := Lib.hid (HIw.out.upto HBX.out)
            replace HIt := Lib.hid (HIt.out.upto HBX.out)
            replace q0 := (HBX.out.cell (p := ⟨w.heap.size, 0, none⟩) hz).trans q0
            replace q1 := (HBX.out.cell (p := ⟨w.heap.size, 1, none⟩) hz).trans q1
            replace hz : w.heap.size < wr.heap.size := Nat.lt_of_lt_of_le hz hsx
            have HBY := Lib.hid (HB7.out.trans (HBX.out.mono HB7.out.size))
            clear HB7 HBX hsx HO HR
            generalize wr = wy at *
            go_wp2_with fail
            refine (KBW.out _ _ _ HL.out HIw.out).mono ?_
            rintro e w81 ⟨go, rfl, hgo, hrow, hb⟩
            replace q0 := (hb.cell (p := ⟨w.heap.size, 0, none⟩) hz).trans q0
            have ea := hrow.cell (i := a) (by rw [HLB.out]; exact han)
            have hfa := hrow.frz a
            have hrow2 := hrow.put a (bv.getD a 0 - 1)
            have hbw2 : Below wy.heap.size wy (w81.setCell ⟨go, a, none⟩ (.int .i64 (bv.getD a 0 - 1))) := hb.setCell (p := ⟨go, a, none⟩) hgo _
            have eb := hrow2.cell (i := b) (by rw [List.length_set, HLB.out]; exact hbn)
            have hfb := hrow2.frz b
            have hrow3 := hrow2.put b ((bv.set a (bv.getD a 0 - 1)).getD b 0 + 1)
            rw [HWB.out] at hrow3
            have hva := HVA.out
            have hyb := HYB.out
            generalize (bv.set a (bv.getD a 0 - 1)).getD b 0 = yb at *
            generalize bv.getD a 0 = va at *
            have ew : IntKind.i64.wrap (va - 1) = va - 1 := IntWalk.i64_in _ (by omega)
            have ew2 : IntKind.i64.wrap (yb + 1) = yb + 1 := IntWalk.i64_in _ (by omega)
            have HR3 := Lib.hid hrow3
            have HEB := Lib.hid eb
            have HFB := Lib.hid hfb
            have HB2 := Lib.hid hbw2
            have HEW2 := Lib.hid ew2
            have i1 : ¬ (a : Int) < 0 := by omega
            have i2 : ¬ (b : Int) < 0 := by omega
            have i3 : ¬ (n : Int) ≤ (a : Int) := by omega
            have i4 : ¬ (n : Int) ≤ (b : Int) := by omega
            clear hrow hrow2 hrow3 hb hbw2 HWB HVA HYB HLB eb hfb HL hva hyb ew2
            go_upto_region 30 with fail
            generalize w81.setCell ⟨go, a, none⟩ (.int .i64 (va - 1)) = w82 at *
            have eb := HEB.out
            have hfb := HFB.out
            have ew2 := HEW2.out
            have hbw3 : Below wy.heap.size wy (w82.setCell ⟨go, b, none⟩ (.int .i64 (yb + 1))) := HB2.out.setCell (p := ⟨go, b, none⟩) hgo _
            have HB3 := Lib.hid hbw3
            replace HIw := Lib.hid (HIw.out.upto hbw3)
            replace HIt := Lib.hid (HIt.out.upto hbw3)
            replace HBY := Lib.hid (HBY.out.trans (hbw3.mono HBY.out.size))
            clear hbw3 HB2 HEB HFB HEW2 ea hfa ew HB3 q0 q1 hz
            go_wp2_with fail
            clear eb hfb ew2
            generalize w82.setCell ⟨go, b, none⟩ (.int .i64 (yb + 1)) = w83 at *
            go_loopg [22] n (fun g i wr => ∃ k : Nat, k + g = n ∧ i = .int .i64 k ∧ Below w83.heap.size w83 wr)
            case atStart => exact ⟨0, by omega, rfl, Below.refl _ _⟩
            case round =>
              obtain ⟨k, hkg, rfl, hbx⟩ := hrel
              have HBW := Lib.hid hbx
              clear hbx
              cases gk with
              | zero =>
                obtain rfl : k = n := by omega
                clear hkg
                replace HIw := Lib.hid (HIw.out.upto HBW.out)
                replace HIt := Lib.hid (HIt.out.upto HBW.out)
                replace HBY := Lib.hid (HBY.out.trans (HBW.out.mono HBY.out.size))
                clear HBW HR3
                generalize wr = w84 at *
                go_wp2_with fail
                go_loopg [23] wl.length (fun g i wr => ∃ k : Nat, k + g = wl.length ∧ i = .int .i64 k ∧ Below w84.heap.size w84 wr)
                case atStart => exact ⟨0, by omega, rfl, Below.refl _ _⟩
                case round =>
                  obtain ⟨k, hkg, rfl, hbx⟩ := hrel
                  have HBW := Lib.hid hbx
                  clear hbx
                  cases gk with
                  | zero =>
                    obtain rfl : k = wl.length := by omega
                    clear hkg
                    go_wp2_with fail
                    go_ret
                    exact ⟨rfl, HBY.out.trans (HBW.out.mono HBY.out.size)⟩
                  | succ g2 =>
                    have hk : k < wl.length := by omega
                    have HG2 := Lib.hid hkg
                    clear hkg
                    obtain ⟨bq, offq, hAq, hbq, hcq⟩ := HIw.out (by omega)
                    subst hAq
                    have ex := (HBW.out.cell (p := ⟨bq, offq + k, none⟩) hbq).trans (hcq k hk)
                    have hse := HWT.out k (by rw [← HWL.out]; exact hk)
                    generalize wl.getD k 0 = v at *
                    clear hcq
                    by_cases hv : v = 0
                    · subst hv
                      clear hse
                      go_wp2_with fail
                      go_roundg g2
                      case measure => omega
                      case rel => exact ⟨k + 1, by have := HG2.out; omega, by go_num, HBW.out⟩
                    · have kh := has16_any At ct tl (k : Int) wr wr.heap.size (HIt.out.upto HBW.out) (by omega)
                      rw [hse hv] at kh
                      have KH := Lib.hid kh
                      have hv2 : (v != 0) = true := by simpa using hv
                      clear kh hse hv
                      go_wp2_with fail
                      refine KH.out.mono ?_
                      rintro e w' ⟨rfl, rfl⟩
                      go_wp2_with fail
                      go_roundg g2
                      case measure => omega
                      case rel => exact ⟨k + 1, by have := HG2.out; omega, by go_num, HBW.out⟩
              | succ g2 =>
                have hk : k < n := by omega
                have HG2 := Lib.hid hkg
                clear hkg
                have eb := (HBW.out.cell (p := ⟨go, k, none⟩) HR3.out.lt).trans (HR3.out.cell (i := k) (by simpa using hk))
                rw [replicate_getD] at eb
                go_wp2_with fail
                go_roundg g2
                case measure => omega
                case rel => exact ⟨k + 1, by have := HG2.out; omega, by go_num, HBW.out⟩
          | succ g =>
            have hdr : d < rows.length := by omega
            have HG := Lib.hid hdg
            clear hdg
            have hcb := HCB.out d hdr
            obtain ⟨br, offr, hAr, hbr, hcr⟩ := HR.out (by omega)
            subst hAr
            obtain ⟨Aq, cq, er0, hIq⟩ := hcr d hdr
            rw [hcb.len] at er0
            have er := (HBX.out.cell (p := ⟨br, offr + d, none⟩) hbr).trans er0
            have HQ := Lib.hid ((show IntsR w7 w7.heap.size Aq (rows.getD d []) from hIq).upto HBX.out)
            replace hbr : br < wr.heap.size := Nat.lt_of_lt_of_le hbr hsx
            replace q0 := (HBX.out.cell (p := ⟨w.heap.size, 0, none⟩) hz).trans q0
            replace q1 := (HBX.out.cell (p := ⟨w.heap.size, 1, none⟩) hz).trans q1
            replace hz : w.heap.size < wr.heap.size := Nat.lt_of_lt_of_le hz hsx
            replace HL := Lib.hid (HL.out.upto HBX.out)
            replace HO := Lib.hid (HO.out.upto HBX.out)
            have kbl := fun W hl hi => balance_ok n A c ls Aq cq (rows.getD d []) W hl hi hcb.len (by omega) (by omega) HEN.out hcb.small
            rw [hcb.bal, hcb.len] at kbl
            have hsv := hcb.serv
            have hql := hcb.len
            generalize rows.getD d [] = row at *
            have KBL := Lib.hid kbl
            have HSV := Lib.hid hsv
            have HQL := Lib.hid hql
            clear kbl hcb hcr er0 hIq hsv hql HR HIt HIw
            go_wp2_with fail
            refine region_K (w0 := wr) (fun jq => match jq with | 0 => .inl (.agg #[.int .i64 (n : Int), .slice A ls.length c]) | 1 => .inl (.slice (some ⟨br, offr, none⟩) rows.length cr) | 2 => .inl (.int .i64 (d : Int)) | 3 => .inl (.pointer (some ⟨br, offr + d, none⟩)) | 4 => .inl (.slice Aq ls.length cq) | 5 => .inr (0, fun g => .tuple #[g, .bool true]) | 6 => .inr (0, fun g => .tuple #[g, .bool true]) | 7 => .inr (0, fun g => g) | 8 => .inl (.bool true) | 9 => .inr (0, fun g => g) | 10 => .inl (.bool true) | _ => .inl undef) (balR n (List.replicate n 0)) balR_up (by kernel_rfl) (by kernel_rfl) ?_ ?_
            · intro iq oq ho aq W hI hdep hrest hgd
              have hc : ∀ v, aq.eval (.const v) = v := fun _ => rfl
              have hfn : ∀ f, aq.eval (.func f) = .func (.func f) #[] #[] := fun _ => rfl
              rcases iq with _ | _ | _ | _ | _ | _ | _ | _ | _ | _ | _ | iq
              · injection ho with ho
                subst ho
                have r4 : aq.eval (.tmp 4) = .pointer (some ⟨w.heap.size, 0, none⟩) := hrest 4 (by kernel_rfl)
                clear hrest
                clear hdep hgd
                have x0 := (hI.cell (p := ⟨w.heap.size, 0, none⟩) hz).trans q0
                have x1 := (hI.cell (p := ⟨w.heap.size, 1, none⟩) hz).trans q1
                refine ⟨fun _ => .inl ⟨.agg #[.int .i64 (n : Int), .slice A ls.length c], ?_, rfl⟩, fun hw => (by simp [Region.wanted] at hw)⟩
                clear hI
                generalize aq.eval = ρ at *
                simp [go_sem, r4, x0, x1]
              · injection ho with ho
                subst ho
                have r9 : aq.eval (.tmp 9) = .slice (some ⟨br, offr, none⟩) rows.length cr := hrest 9 (by kernel_rfl)
                clear hrest
                clear hdep hgd
                refine ⟨fun _ => .inl ⟨.slice (some ⟨br, offr, none⟩) rows.length cr, ?_, rfl⟩, fun hw => (by simp [Region.wanted] at hw)⟩
                clear hI
                generalize aq.eval = ρ at *
                simp [go_sem, r9]
              · injection ho with ho
                subst ho
                have r15 : aq.eval (.tmp 15) = .int .i64 (d : Int) := hrest 15 (by kernel_rfl)
                clear hrest
                clear hdep hgd
                refine ⟨fun _ => .inl ⟨.int .i64 (d : Int), ?_, rfl⟩, fun hw => (by simp [Region.wanted] at hw)⟩
                clear hI
                generalize aq.eval = ρ at *
                simp [go_sem, r15]
              · injection ho with ho
                subst ho
                clear hrest
                have d1 : aq.eval (.tmp 82) = .slice (some ⟨br, offr, none⟩) rows.length cr := hdep ⟨1, .data⟩ (by simp) rfl _ _ rfl rfl
                have d2 : aq.eval (.tmp 83) = .int .i64 (d : Int) := hdep ⟨2, .data⟩ (by simp) rfl _ _ rfl rfl
                clear hdep hgd
                refine ⟨fun _ => .inl ⟨.pointer (some ⟨br, offr + d, none⟩), ?_, rfl⟩, fun hw => (by simp [Region.wanted] at hw)⟩
                clear hI
                generalize aq.eval = ρ at *
                simp [go_sem, d1, d2, hdr]
              · injection ho with ho
                subst ho
                clear hrest
                have d3 : aq.eval (.tmp 84) = .pointer (some ⟨br, offr + d, none⟩) := hdep ⟨3, .data⟩ (by simp) rfl _ _ rfl rfl
                clear hdep hgd
                have x0 := (hI.cell (p := ⟨br, offr + d, none⟩) hbr).trans er
                refine ⟨fun _ => .inl ⟨.slice Aq ls.length cq, ?_, rfl⟩, fun hw => (by simp [Region.wanted] at hw)⟩
                clear hI
                generalize aq.eval = ρ at *
                simp [go_sem, d3, x0]
              · injection ho with ho
                subst ho
                clear hrest
                have d0 : aq.eval (.tmp 81) = .agg #[.int .i64 (n : Int), .slice A ls.length c] := hdep ⟨0, .data⟩ (by simp) rfl _ _ rfl rfl
                have d4 : aq.eval (.tmp 85) = .slice Aq ls.length cq := hdep ⟨4, .data⟩ (by simp) rfl _ _ rfl rfl
                clear hdep hgd
                refine ⟨fun _ => .inr ⟨33, #[.agg #[.int .i64 (n : Int), .slice A ls.length c], .slice Aq ls.length cq], ?_, (KBL.out W (HL.out.upto hI) (HQ.out.upto hI)).mono fun e w' ⟨g, he, hg, hr, hb⟩ => ⟨_, he, ⟨.slice (some ⟨g, 0, none⟩) n n, rfl, g, rfl, hr⟩, hb⟩⟩, fun hw => (by simp [Region.wanted] at hw)⟩
                clear hI
                generalize aq.eval = ρ at *
                simp [go_sem, d0, d4, hfn]
              · injection ho with ho
                subst ho
                clear hrest
                obtain ⟨g5, d5, hR5⟩ : ∃ g, aq.eval (.tmp 86) = .tuple #[g, .bool true] ∧ (balR n (List.replicate n 0)) 0 g W := hdep ⟨5, .data⟩ (by simp) rfl _ _ rfl rfl
                clear hdep hgd
                refine ⟨fun _ => .inl ⟨.tuple #[g5, .bool true], ?_, g5, rfl, hR5⟩, fun hw => (by simp [Region.wanted] at hw)⟩
                clear hI
                generalize aq.eval = ρ at *
                simp [go_sem, d5]
              · injection ho with ho
                subst ho
                clear hrest
                obtain ⟨g6, d6, hR6⟩ : ∃ g, aq.eval (.tmp 80) = .tuple #[g, .bool true] ∧ (balR n (List.replicate n 0)) 0 g W := hdep ⟨6, .data⟩ (by simp) rfl _ _ rfl rfl
                clear hdep hgd
                refine ⟨fun _ => .inl ⟨g6, ?_, g6, rfl, hR6⟩, fun hw => (by simp [Region.wanted] at hw)⟩
                clear hI
                generalize aq.eval = ρ at *
                simp [go_sem, d6]
              · injection ho with ho
                subst ho
                clear hrest
                obtain ⟨g6, d6, hR6⟩ : ∃ g, aq.eval (.tmp 80) = .tuple #[g, .bool true] ∧ (balR n (List.replicate n 0)) 0 g W := hdep ⟨6, .data⟩ (by simp) rfl _ _ rfl rfl
                clear hdep hgd
                refine ⟨fun _ => .inl ⟨.bool true, ?_, rfl⟩, fun hw => (by simp [Region.wanted] at hw)⟩
                clear hI
                generalize aq.eval = ρ at *
                simp [go_sem, d6]
              · injection ho with ho
                subst ho
                clear hrest
                obtain ⟨g7, d7, hR7⟩ : ∃ g, aq.eval (.tmp 87) = g ∧ (balR n (List.replicate n 0)) 0 g W := hdep ⟨7, .data⟩ (by simp) rfl _ _ rfl rfl
                clear hdep hgd
                refine ⟨fun _ => .inl ⟨g7, ?_, g7, rfl, hR7⟩, fun hw => (by simp [Region.wanted] at hw)⟩
                clear hI
                generalize aq.eval = ρ at *
                simp [go_sem, d7]
              · injection ho with ho
                subst ho
                clear hrest
                have d8 : aq.eval (.tmp 88) = .bool true := hdep ⟨8, .data⟩ (by simp) rfl _ _ rfl rfl
                clear hdep hgd
                refine ⟨fun _ => .inl ⟨.bool true, ?_, rfl⟩, fun hw => (by simp [Region.wanted] at hw)⟩
                clear hI
                generalize aq.eval = ρ at *
                simp [go_sem, d8]
              · simp at ho
            intro vs wq hb hF
            have hv0 : vs 0 = .agg #[.int .i64 (n : Int), .slice A ls.length c] := hF 0 (by decide)
            have hv1 : vs 1 = .slice (some ⟨br, offr, none⟩) rows.length cr := hF 1 (by decide)
            have hv2 : vs 2 = .int .i64 (d : Int) := hF 2 (by decide)
            have hv3 : vs 3 = .pointer (some ⟨br, offr + d, none⟩) := hF 3 (by decide)
            have hv4 : vs 4 = .slice Aq ls.length cq := hF 4 (by decide)
            obtain ⟨gg5, hv5, hR5⟩ : ∃ g, vs 5 = .tuple #[g, .bool true] ∧ (balR n (List.replicate n 0)) 0 g wq := hF 5 (by decide)
            obtain ⟨gg6, hv6, hR6⟩ : ∃ g, vs 6 = .tuple #[g, .bool true] ∧ (balR n (List.replicate n 0)) 0 g wq := hF 6 (by decide)
            obtain ⟨gg7, hv7, hR7⟩ : ∃ g, vs 7 = g ∧ (balR n (List.replicate n 0)) 0 g wq := hF 7 (by decide)
            have hv8 : vs 8 = .bool true := hF 8 (by decide)
            obtain ⟨gg9, hv9, hR9⟩ : ∃ g, vs 9 = g ∧ (balR n (List.replicate n 0)) 0 g wq := hF 9 (by decide)
            have hv10 : vs 10 = .bool true := hF 10 (by decide)
            clear hF
            simp only [putAll, Act.put, List.setIfInBounds_toArray, List.set_cons_zero, List.set_cons_succ, Nat.reduceAdd, hv0, hv1, hv2, hv3, hv4, hv5, hv6, hv7, hv8, hv9, hv10]
            clear hv0 hv1 hv2 hv3 hv4 hv5 hv6 hv7 hv8 hv9 hv10
            obtain ⟨go, rfl, hrow⟩ := hR9
            have HROW := Lib.hid hrow
            replace er := (hb.cell (p := ⟨br, offr + d, none⟩) hbr).trans er
            replace hbr : br < wq.heap.size := Nat.lt_of_lt_of_le hbr hb.size
            replace HQ := Lib.hid (HQ.out.upto hb)
            replace HO := Lib.hid (HO.out.upto hb)
            have HBQ := Lib.hid (HBX.out.trans (hb.mono HBX.out.size))
            clear hR5 hR6 hR7 hrow hb HBX q0 q1 hz hsx HL
            go_wp2_with fail
            go_loopg [18] n (fun g i wr => ∃ k : Nat, k + g = n ∧ i = .int .i64 k ∧ Below wq.heap.size wq wr)
            case atStart => exact ⟨0, by omega, rfl, Below.refl _ _⟩
            case round =>
              obtain ⟨k, hkg, rfl, hbx⟩ := hrel
              have HBW := Lib.hid hbx
              clear hbx
              cases gk with
              | zero =>
                obtain rfl : k = n := by omega
                clear hkg
                replace er := (HBW.out.cell (p := ⟨br, offr + d, none⟩) hbr).trans er
                replace hbr : br < wr.heap.size := Nat.lt_of_lt_of_le hbr HBW.out.size
                replace HQ := Lib.hid (HQ.out.upto HBW.out)
                replace HO := Lib.hid (HO.out.upto HBW.out)
                replace HBQ := Lib.hid (HBQ.out.trans (HBW.out.mono HBQ.out.size))
                clear HBW HROW
                generalize wr = wv at *
                go_wp2_with fail
                go_loopg [19] ls.length (fun g i wr => ∃ k : Nat, k + g = ls.length ∧ i = .int .i64 k ∧ Below wv.heap.size wv wr)
                case atStart => exact ⟨0, by omega, rfl, Below.refl _ _⟩
                case round =>
                  obtain ⟨k, hkg, rfl, hbx⟩ := hrel
                  have HBW := Lib.hid hbx
                  clear hbx
                  replace er := (HBW.out.cell (p := ⟨br, offr + d, none⟩) hbr).trans er
                  cases gk with
                  | zero =>
                    obtain rfl : k = ls.length := by omega
                    clear hkg
                    go_wp2_with fail
                    go_roundg g
                    case measure => omega
                    case rel => exact ⟨d + 1, by have := HG.out; omega, by go_num, HBQ.out.trans (HBW.out.mono HBQ.out.size)⟩
                  | succ g2 =>
                    have hk : k < ls.length := by omega
                    have HG2 := Lib.hid hkg
                    clear hkg
                    obtain ⟨bq, offq, hAq, hbq, hcq⟩ := HQ.out (by rw [HQL.out]; omega)
                    subst hAq
                    have ex := (HBW.out.cell (p := ⟨bq, offq + k, none⟩) hbq).trans (hcq k (by rw [HQL.out]; omega))
                    have hse := HSV.out k hk
                    generalize row.getD k 0 = v at *
                    clear hcq
                    by_cases hv : v = 0
                    · subst hv
                      clear hse
                      go_wp2_with fail
                      go_roundg g2
                      case measure => omega
                      case rel => exact ⟨k + 1, by have := HG2.out; omega, by go_num, HBW.out⟩
                    · have kh := has16_any O co out (k : Int) wr wr.heap.size (HO.out.upto HBW.out) (by omega)
                      rw [hse hv] at kh
                      have KH := Lib.hid kh
                      have hv2 : (v != 0) = true := by simpa using hv
                      clear kh hse hv
                      go_wp2_with fail
                      refine KH.out.mono ?_
                      rintro e w' ⟨rfl, rfl⟩
                      go_wp2_with fail
                      go_roundg g2
                      case measure => omega
                      case rel => exact ⟨k + 1, by have := HG2.out; omega, by go_num, HBW.out⟩
              | succ g2 =>
                have hk : k < n := by omega
                have HG2 := Lib.hid hkg
                clear hkg
                have eb := (HBW.out.cell (p := ⟨go, k, none⟩) HROW.out.lt).trans (HROW.out.cell (i := k) (by simpa using hk))
                rw [replicate_getD] at eb
                go_wp2_with fail
                go_roundg g2
                case measure => omega
                case rel => exact ⟨k + 1, by have := HG2.out; omega, by go_num, HBW.out⟩
      · obtain ⟨hpl, hpo⟩ := path_bad he hpe
        rw [hpl] at kp
        have b1 : (pathE n ls out fr tw != 0) = true := by simpa using hpe
        clear he hpl hpe hc
        generalize cycL n ls out = rows at *
        generalize treeL n ls out = tl at *
        generalize pathE n ls out fr tw = er at *
        have KP := Lib.hid kp
        have HOR := Lib.hid hpo
        clear kp hpo
        have HB0 := Lib.hid (Below.refl w.heap.size w)
        go_enter Try.func9, Try.ntmps9
        go_wp2_with fail
        have hb := below_alloc2 w (.cells #[.int .i64 (n : Int), .slice A ls.length c] 24) (.cells #[.slice O out.length co] 25)
        have q0 : ((w.alloc (.cells #[.int .i64 (n : Int), .slice A ls.length c] 24)).alloc (.cells #[.slice O out.length co] 25)).cell? ⟨w.heap.size, 0, none⟩ = some (.int .i64 (n : Int)) := by simp
        have q1 : ((w.alloc (.cells #[.int .i64 (n : Int), .slice A ls.length c] 24)).alloc (.cells #[.slice O out.length co] 25)).cell? ⟨w.heap.size, 1, none⟩ = some (.slice A ls.length c) := by simp
        have hz : w.heap.size < ((w.alloc (.cells #[.int .i64 (n : Int), .slice A ls.length c] 24)).alloc (.cells #[.slice O out.length co] 25)).heap.size := by simp; omega
        have HB1 := Lib.hid (HB0.out.trans (hb.mono HB0.out.size))
        clear HB0
        replace HL := Lib.hid (HL.out.upto hb)
        replace HO := Lib.hid (HO.out.upto hb)
        clear hb
        refine (KL.out (w.alloc (.cells #[.int .i64 (n : Int), .slice A ls.length c] 24)) _ (by simp)).mono ?_
        rintro e w2 ⟨rfl, hb⟩
        rw [← World.size_alloc (w.alloc (.cells #[.int .i64 (n : Int), .slice A ls.length c] 24)) (.cells #[.slice O out.length co] 25)] at hb
        have HB2 := Lib.hid (HB1.out.trans (hb.mono HB1.out.size))
        clear HB1
        replace HL := Lib.hid (HL.out.upto hb)
        replace HO := Lib.hid (HO.out.upto hb)
        replace q0 := (hb.cell (p := ⟨w.heap.size, 0, none⟩) hz).trans q0
        replace q1 := (hb.cell (p := ⟨w.heap.size, 1, none⟩) hz).trans q1
        replace hz : w.heap.size < w2.heap.size := Nat.lt_of_lt_of_le hz hb.size
        clear hb
        go_wp2_with fail
        refine (awake16_any _).mono ?_
        rintro e w3 ⟨rfl, hb⟩
        have HB3 := Lib.hid (HB2.out.trans (hb.mono HB2.out.size))
        clear HB2
        replace HL := Lib.hid (HL.out.upto hb)
        replace HO := Lib.hid (HO.out.upto hb)
        replace q0 := (hb.cell (p := ⟨w.heap.size, 0, none⟩) hz).trans q0
        replace q1 := (hb.cell (p := ⟨w.heap.size, 1, none⟩) hz).trans q1
        replace hz : w.heap.size < w3.heap.size := Nat.lt_of_lt_of_le hz hb.size
        clear hb
        go_wp2_with fail
        refine (KO.out _ HL.out HO.out).mono ?_
        rintro e w4 ⟨rfl, hb⟩
        have HB4 := Lib.hid (HB3.out.trans (hb.mono HB3.out.size))
        clear HB3
        replace HL := Lib.hid (HL.out.upto hb)
        replace HO := Lib.hid (HO.out.upto hb)
        replace q0 := (hb.cell (p := ⟨w.heap.size, 0, none⟩) hz).trans q0
        replace q1 := (hb.cell (p := ⟨w.heap.size, 1, none⟩) hz).trans q1
        replace hz : w.heap.size < w4.heap.size := Nat.lt_of_lt_of_le hz hb.size
        clear hb
        go_wp2_with fail
        refine (KC.out _ HL.out HO.out).mono ?_
        rintro e w5 ⟨v, rfl, hown, hb⟩
        obtain ⟨Ar, cr, rfl, hR⟩ := hown.read
        have HR := Lib.hid hR
        clear hown hR
        have HB5 := Lib.hid (HB4.out.trans (hb.mono HB4.out.size))
        clear HB4
        replace HL := Lib.hid (HL.out.upto hb)
        replace HO := Lib.hid (HO.out.upto hb)
        replace q0 := (hb.cell (p := ⟨w.heap.size, 0, none⟩) hz).trans q0
        replace q1 := (hb.cell (p := ⟨w.heap.size, 1, none⟩) hz).trans q1
        replace hz : w.heap.size < w5.heap.size := Nat.lt_of_lt_of_le hz hb.size
        clear hb
        go_wp2_with fail
        refine (KP.out _ HL.out HO.out).mono ?_
        rintro e w6 ⟨v, rfl, hown, hb⟩
        obtain ⟨Aw, cw, rfl, hI⟩ := ownsRow_ints hown
        have HIw := Lib.hid hI
        clear hown hI
        have HB6 := Lib.hid (HB5.out.trans (hb.mono HB5.out.size))
        clear HB5
        replace HL := Lib.hid (HL.out.upto hb)
        replace HO := Lib.hid (HO.out.upto hb)
        replace HR := Lib.hid (HR.out.upto hb)
        replace q0 := (hb.cell (p := ⟨w.heap.size, 0, none⟩) hz).trans q0
        replace q1 := (hb.cell (p := ⟨w.heap.size, 1, none⟩) hz).trans q1
        replace hz : w.heap.size < w6.heap.size := Nat.lt_of_lt_of_le hz hb.size
        clear hb
        go_wp2_with fail
        refine (KT.out _ HL.out HO.out).mono ?_
        rintro e w7 ⟨v, rfl, hown, hb⟩
        obtain ⟨At, ct, rfl, hI⟩ := ownsRow_ints hown
        have HIt := Lib.hid hI
        clear hown hI
        have HB7 := Lib.hid (HB6.out.trans (hb.mono HB6.out.size))
        clear HB6
        replace HL := Lib.hid (HL.out.upto hb)
        replace HO := Lib.hid (HO.out.upto hb)
        replace HR := Lib.hid (HR.out.upto hb)
        replace HIw := Lib.hid (HIw.out.upto hb)
        replace q0 := (hb.cell (p := ⟨w.heap.size, 0, none⟩) hz).trans q0
        replace q1 := (hb.cell (p := ⟨w.heap.size, 1, none⟩) hz).trans q1
        replace hz : w.heap.size < w7.heap.size := Nat.lt_of_lt_of_le hz hb.size
        clear hb
        go_wp2_with fail
        go_loopg [15, 16, 17, 18, 19] rows.length (fun g i s16 s17 s18 s19 wr => ∃ k : Nat, k + g = rows.length ∧ i = .int .i64 k ∧ Below w7.heap.size w7 wr)
        case atStart => exact ⟨0, by omega, rfl, Below.refl _ _⟩
        case round =>
          obtain ⟨d, hdg, rfl, hbx⟩ := hrel
          have HBX := Lib.hid hbx
          have hsx := hbx.size
          clear hbx
          cases gk with
          | zero =>
            obtain rfl : d = rows.length := by omega
            clear hdg
            have HBY := Lib.hid (HB7.out.trans (HBX.out.mono HB7.out.size))
            clear HB7 HBX hsx HL HO HR HIt HIw KP
            rcases HOR.out with rfl | rfl
            · go_wp2_with fail
              go_ret
              exact ⟨rfl, HBY.out⟩
            · go_wp2_with fail
              go_ret
              exact ⟨rfl, HBY.out⟩
          | succ g =>
            have hdr : d < rows.length := by omega
            have HG := Lib.hid hdg
            clear hdg
            have hcb := HCB.out d hdr
            obtain ⟨br, offr, hAr, hbr, hcr⟩ := HR.out (by omega)
            subst hAr
            obtain ⟨Aq, cq, er0, hIq⟩ := hcr d hdr
            rw [hcb.len] at er0
            have er := (HBX.out.cell (p := ⟨br, offr + d, none⟩) hbr).trans er0
            have HQ := Lib.hid ((show IntsR w7 w7.heap.size Aq (rows.getD d []) from hIq).upto HBX.out)
            replace hbr : br < wr.heap.size := Nat.lt_of_lt_of_le hbr hsx
            replace q0 := (HBX.out.cell (p := ⟨w.heap.size, 0, none⟩) hz).trans q0
            replace q1 := (HBX.out.cell (p := ⟨w.heap.size, 1, none⟩) hz).trans q1
            replace hz : w.heap.size < wr.heap.size := Nat.lt_of_lt_of_le hz hsx
            replace HL := Lib.hid (HL.out.upto HBX.out)
            replace HO := Lib.hid (HO.out.upto HBX.out)
            have kbl := fun W hl hi => balance_ok n A c ls Aq cq (rows.getD d []) W hl hi hcb.len (by omega) (by omega) HEN.out hcb.small
            rw [hcb.bal, hcb.len] at kbl
            have hsv := hcb.serv
            have hql := hcb.len
            generalize rows.getD d [] = row at *
            have KBL := Lib.hid kbl
            have HSV := Lib.hid hsv
            have HQL := Lib.hid hql
            clear kbl hcb hcr er0 hIq hsv hql HR HIt HIw
            go_wp2_with fail
            refine region_K (w0 := wr) (fun jq => match jq with | 0 => .inl (.agg #[.int .i64 (n : Int), .slice A ls.length c]) | 1 => .inl (.slice (some ⟨br, offr, none⟩) rows.length cr) | 2 => .inl (.int .i64 (d : Int)) | 3 => .inl (.pointer (some ⟨br, offr + d, none⟩)) | 4 => .inl (.slice Aq ls.length cq) | 5 => .inr (0, fun g => .tuple #[g, .bool true]) | 6 => .inr (0, fun g => .tuple #[g, .bool true]) | 7 => .inr (0, fun g => g) | 8 => .inl (.bool true) | 9 => .inr (0, fun g => g) | 10 => .inl (.bool true) | _ => .inl undef) (balR n (List.replicate n 0)) balR_up (by kernel_rfl) (by kernel_rfl) ?_ ?_
            · intro iq oq ho aq W hI hdep hrest hgd
              have hc : ∀ v, aq.eval (.const v) = v := fun _ => rfl
              have hfn : ∀ f, aq.eval (.func f) = .func (.func f) #[] #[] := fun _ => rfl
              rcases iq with _ | _ | _ | _ | _ | _ | _ | _ | _ | _ | _ | iq
              · injection ho with ho
                subst ho
                have r4 : aq.eval (.tmp 4) = .pointer (some ⟨w.heap.size, 0, none⟩) := hrest 4 (by kernel_rfl)
                clear hrest
                clear hdep hgd
                have x0 := (hI.cell (p := ⟨w.heap.size, 0, none⟩) hz).trans q0
                have x1 := (hI.cell (p := ⟨w.heap.size, 1, none⟩) hz).trans q1
                refine ⟨fun _ => .inl ⟨.agg #[.int .i64 (n : Int), .slice A ls.length c], ?_, rfl⟩, fun hw => (by simp [Region.wanted] at hw)⟩
                clear hI
                generalize aq.eval = ρ at *
                simp [go_sem, r4, x0, x1]
              · injection ho with ho
                subst ho
                have r9 : aq.eval (.tmp 9) = .slice (some ⟨br, offr, none⟩) rows.length cr := hrest 9 (by kernel_rfl)
                clear hrest
                clear hdep hgd
                refine ⟨fun _ => .inl ⟨.slice (some ⟨br, offr, none⟩) rows.length cr, ?_, rfl⟩, fun hw => (by simp [Region.wanted] at hw)⟩
                clear hI
                generalize aq.eval = ρ at *
                simp [go_sem, r9]
              · injection ho with ho
                subst ho
                have r15 : aq.eval (.tmp 15) = .int .i64 (d : Int) := hrest 15 (by kernel_rfl)
                clear hrest
                clear hdep hgd
                refine ⟨fun _ => .inl ⟨.int .i64 (d : Int), ?_, rfl⟩, fun hw => (by simp [Region.wanted] at hw)⟩
                clear hI
                generalize aq.eval = ρ at *
                simp [go_sem, r15]
              · injection ho with ho
                subst ho
                clear hrest
                have d1 : aq.eval (.tmp 82) = .slice (some ⟨br, offr, none⟩) rows.length cr := hdep ⟨1, .data⟩ (by simp) rfl _ _ rfl rfl
                have d2 : aq.eval (.tmp 83) = .int .i64 (d : Int) := hdep ⟨2, .data⟩ (by simp) rfl _ _ rfl rfl
                clear hdep hgd
                refine ⟨fun _ => .inl ⟨.pointer (some ⟨br, offr + d, none⟩), ?_, rfl⟩, fun hw => (by simp [Region.wanted] at hw)⟩
                clear hI
                generalize aq.eval = ρ at *
                simp [go_sem, d1, d2, hdr]
              · injection ho with ho
                subst ho
                clear hrest
                have d3 : aq.eval (.tmp 84) = .pointer (some ⟨br, offr + d, none⟩) := hdep ⟨3, .data⟩ (by simp) rfl _ _ rfl rfl
                clear hdep hgd
                have x0 := (hI.cell (p := ⟨br, offr + d, none⟩) hbr).trans er
                refine ⟨fun _ => .inl ⟨.slice Aq ls.length cq, ?_, rfl⟩, fun hw => (by simp [Region.wanted] at hw)⟩
                clear hI
                generalize aq.eval = ρ at *
                simp [go_sem, d3, x0]
              · injection ho with ho
                subst ho
                clear hrest
                have d0 : aq.eval (.tmp 81) = .agg #[.int .i64 (n : Int), .slice A ls.length c] := hdep ⟨0, .data⟩ (by simp) rfl _ _ rfl rfl
                have d4 : aq.eval (.tmp 85) = .slice Aq ls.length cq := hdep ⟨4, .data⟩ (by simp) rfl _ _ rfl rfl
                clear hdep hgd
                refine ⟨fun _ => .inr ⟨33, #[.agg #[.int .i64 (n : Int), .slice A ls.length c], .slice Aq ls.length cq], ?_, (KBL.out W (HL.out.upto hI) (HQ.out.upto hI)).mono fun e w' ⟨g, he, hg, hr, hb⟩ => ⟨_, he, ⟨.slice (some ⟨g, 0, none⟩) n n, rfl, g, rfl, hr⟩, hb⟩⟩, fun hw => (by simp [Region.wanted] at hw)⟩
                clear hI
                generalize aq.eval = ρ at *
                simp [go_sem, d0, d4, hfn]
              · injection ho with ho
                subst ho
                clear hrest
                obtain ⟨g5, d5, hR5⟩ : ∃ g, aq.eval (.tmp 86) = .tuple #[g, .bool true] ∧ (balR n (List.replicate n 0)) 0 g W := hdep ⟨5, .data⟩ (by simp) rfl _ _ rfl rfl
                clear hdep hgd
                refine ⟨fun _ => .inl ⟨.tuple #[g5, .bool true], ?_, g5, rfl, hR5⟩, fun hw => (by simp [Region.wanted] at hw)⟩
                clear hI
                generalize aq.eval = ρ at *
                simp [go_sem, d5]
              · injection ho with ho
                subst ho
                clear hrest
                obtain ⟨g6, d6, hR6⟩ : ∃ g, aq.eval (.tmp 80) = .tuple #[g, .bool true] ∧ (balR n (List.replicate n 0)) 0 g W := hdep ⟨6, .data⟩ (by simp) rfl _ _ rfl rfl
                clear hdep hgd
                refine ⟨fun _ => .inl ⟨g6, ?_, g6, rfl, hR6⟩, fun hw => (by simp [Region.wanted] at hw)⟩
                clear hI
                generalize aq.eval = ρ at *
                simp [go_sem, d6]
              · injection ho with ho
                subst ho
                clear hrest
                obtain ⟨g6, d6, hR6⟩ : ∃ g, aq.eval (.tmp 80) = .tuple #[g, .bool true] ∧ (balR n (List.replicate n 0)) 0 g W := hdep ⟨6, .data⟩ (by simp) rfl _ _ rfl rfl
                clear hdep hgd
                refine ⟨fun _ => .inl ⟨.bool true, ?_, rfl⟩, fun hw => (by simp [Region.wanted] at hw)⟩
                clear hI
                generalize aq.eval = ρ at *
                simp [go_sem, d6]
              · injection ho with ho
                subst ho
                clear hrest
                obtain ⟨g7, d7, hR7⟩ : ∃ g, aq.eval (.tmp 87) = g ∧ (balR n (List.replicate n 0)) 0 g W := hdep ⟨7, .data⟩ (by simp) rfl _ _ rfl rfl
                clear hdep hgd
                refine ⟨fun _ => .inl ⟨g7, ?_, g7, rfl, hR7⟩, fun hw => (by simp [Region.wanted] at hw)⟩
                clear hI
                generalize aq.eval = ρ at *
                simp [go_sem, d7]
              · injection ho with ho
                subst ho
                clear hrest
                have d8 : aq.eval (.tmp 88) = .bool true := hdep ⟨8, .data⟩ (by simp) rfl _ _ rfl rfl
                clear hdep hgd
                refine ⟨fun _ => .inl ⟨.bool true, ?_, rfl⟩, fun hw => (by simp [Region.wanted] at hw)⟩
                clear hI
                generalize aq.eval = ρ at *
                simp [go_sem, d8]
              · simp at ho
            intro vs wq hb hF
            have hv0 : vs 0 = .agg #[.int .i64 (n : Int), .slice A ls.length c] := hF 0 (by decide)
            have hv1 : vs 1 = .slice (some ⟨br, offr, none⟩) rows.length cr := hF 1 (by decide)
            have hv2 : vs 2 = .int .i64 (d : Int) := hF 2 (by decide)
            have hv3 : vs 3 = .pointer (some ⟨br, offr + d, none⟩) := hF 3 (by decide)
            have hv4 : vs 4 = .slice Aq ls.length cq := hF 4 (by decide)
            obtain ⟨gg5, hv5, hR5⟩ : ∃ g, vs 5 = .tuple #[g, .bool true] ∧ (balR n (List.replicate n 0)) 0 g wq := hF 5 (by decide)
            obtain ⟨gg6, hv6, hR6⟩ : ∃ g, vs 6 = .tuple #[g, .bool true] ∧ (balR n (List.replicate n 0)) 0 g wq := hF 6 (by decide)
            obtain ⟨gg7, hv7, hR7⟩ : ∃ g, vs 7 = g ∧ (balR n (List.replicate n 0)) 0 g wq := hF 7 (by decide)
            have hv8 : vs 8 = .bool true := hF 8 (by decide)
            obtain ⟨gg9, hv9, hR9⟩ : ∃ g, vs 9 = g ∧ (balR n (List.replicate n 0)) 0 g wq := hF 9 (by decide)
            have hv10 : vs 10 = .bool true := hF 10 (by decide)
            clear hF
            simp only [putAll, Act.put, List.setIfInBounds_toArray, List.set_cons_zero, List.set_cons_succ, Nat.reduceAdd, hv0, hv1, hv2, hv3, hv4, hv5, hv6, hv7, hv8, hv9, hv10]
            clear hv0 hv1 hv2 hv3 hv4 hv5 hv6 hv7 hv8 hv9 hv10
            obtain ⟨go, rfl, hrow⟩ := hR9
            have HROW := Lib.hid hrow
            replace er := (hb.cell (p := ⟨br, offr + d, none⟩) hbr).trans er
            replace hbr : br < wq.heap.size := Nat.lt_of_lt_of_le hbr hb.size
            replace HQ := Lib.hid (HQ.out.upto hb)
            replace HO := Lib.hid (HO.out.upto hb)
            have HBQ := Lib.hid (HBX.out.trans (hb.mono HBX.out.size))
            clear hR5 hR6 hR7 hrow hb HBX q0 q1 hz hsx HL
            go_wp2_with fail
            go_loopg [18] n (fun g i wr => ∃ k : Nat, k + g = n ∧ i = .int .i64 k ∧ Below wq.heap.size wq wr)
            case atStart => exact ⟨0, by omega, rfl, Below.refl _ _⟩
            case round =>
              obtain ⟨k, hkg, rfl, hbx⟩ := hrel
              have HBW := Lib.hid hbx
              clear hbx
              cases gk with
              | zero =>
                obtain rfl : k = n := by omega
                clear hkg
                replace er := (HBW.out.cell (p := ⟨br, offr + d, none⟩) hbr).trans er
                replace hbr : br < wr.heap.size := Nat.lt_of_lt_of_le hbr HBW.out.size
                replace HQ := Lib.hid (HQ.out.upto HBW.out)
                replace HO := Lib.hid (HO.out.upto HBW.out)
                replace HBQ := Lib.hid (HBQ.out.trans (HBW.out.mono HBQ.out.size))
                clear HBW HROW
                generalize wr = wv at *
                go_wp2_with fail
                go_loopg [19] ls.length (fun g i wr => ∃ k : Nat, k + g = ls.length ∧ i = .int .i64 k ∧ Below wv.heap.size wv wr)
                case atStart => exact ⟨0, by omega, rfl, Below.refl _ _⟩
                case round =>
                  obtain ⟨k, hkg, rfl, hbx⟩ := hrel
                  have HBW := Lib.hid hbx
                  clear hbx
                  replace er := (HBW.out.cell (p := ⟨br, offr + d, none⟩) hbr).trans er
                  cases gk with
                  | zero =>
                    obtain rfl : k = ls.length := by omega
                    clear hkg
                    go_wp2_with fail
                    go_roundg g
                    case measure => omega
                    case rel => exact ⟨d + 1, by have := HG.out; omega, by go_num, HBQ.out.trans (HBW.out.mono HBQ.out.size)⟩
                  | succ g2 =>
                    have hk : k < ls.length := by omega
                    have HG2 := Lib.hid hkg
                    clear hkg
                    obtain ⟨bq, offq, hAq, hbq, hcq⟩ := HQ.out (by rw [HQL.out]; omega)
                    subst hAq
                    have ex := (HBW.out.cell (p := ⟨bq, offq + k, none⟩) hbq).trans (hcq k (by rw [HQL.out]; omega))
                    have hse := HSV.out k hk
                    generalize row.getD k 0 = v at *
                    clear hcq
                    by_cases hv : v = 0
                    · subst hv
                      clear hse
                      go_wp2_with fail
                      go_roundg g2
                      case measure => omega
                      case rel => exact ⟨k + 1, by have := HG2.out; omega, by go_num, HBW.out⟩
                    · have kh := has16_any O co out (k : Int) wr wr.heap.size (HO.out.upto HBW.out) (by omega)
                      rw [hse hv] at kh
                      have KH := Lib.hid kh
                      have hv2 : (v != 0) = true := by simpa using hv
                      clear kh hse hv
                      go_wp2_with fail
                      refine KH.out.mono ?_
                      rintro e w' ⟨rfl, rfl⟩
                      go_wp2_with fail
                      go_roundg g2
                      case measure => omega
                      case rel => exact ⟨k + 1, by have := HG2.out; omega, by go_num, HBW.out⟩
              | succ g2 =>
                have hk : k < n := by omega
                have HG2 := Lib.hid hkg
                clear hkg
                have eb := (HBW.out.cell (p := ⟨go, k, none⟩) HROW.out.lt).trans (HROW.out.cell (i := k) (by simpa using hk))
                rw [replicate_getD] at eb
                go_wp2_with fail
                go_roundg g2
                case measure => omega
                case rel => exact ⟨k + 1, by have := HG2.out; omega, by go_num, HBW.out⟩
    · have b1 : (outsE nb ls out != 0) = true := by rw [bne_iff_ne]; exact he
      generalize outsE nb ls out = er at *
      have KO := Lib.hid ko
      clear ko he
      have HB0 := Lib.hid (Below.refl w.heap.size w)
      go_enter Try.func9, Try.ntmps9
      go_wp2_with fail
      have hb := below_alloc2 w (.cells #[.int .i64 nb, .slice A ls.length c] 24) (.cells #[.slice O out.length co] 25)
      have q0 : ((w.alloc (.cells #[.int .i64 nb, .slice A ls.length c] 24)).alloc (.cells #[.slice O out.length co] 25)).cell? ⟨w.heap.size, 0, none⟩ = some (.int .i64 nb) := by simp
      have q1 : ((w.alloc (.cells #[.int .i64 nb, .slice A ls.length c] 24)).alloc (.cells #[.slice O out.length co] 25)).cell? ⟨w.heap.size, 1, none⟩ = some (.slice A ls.length c) := by simp
      have hz : w.heap.size < ((w.alloc (.cells #[.int .i64 nb, .slice A ls.length c] 24)).alloc (.cells #[.slice O out.length co] 25)).heap.size := by simp; omega
      have HB1 := Lib.hid (HB0.out.trans (hb.mono HB0.out.size))
      clear HB0
      replace HL := Lib.hid (HL.out.upto hb)
      replace HO := Lib.hid (HO.out.upto hb)
      clear hb
      refine (KL.out (w.alloc (.cells #[.int .i64 nb, .slice A ls.length c] 24)) _ (by simp)).mono ?_
      rintro e w2 ⟨rfl, hb⟩
      rw [← World.size_alloc (w.alloc (.cells #[.int .i64 nb, .slice A ls.length c] 24)) (.cells #[.slice O out.length co] 25)] at hb
      have HB2 := Lib.hid (HB1.out.trans (hb.mono HB1.out.size))
      clear HB1
      replace HL := Lib.hid (HL.out.upto hb)
      replace HO := Lib.hid (HO.out.upto hb)
      replace q0 := (hb.cell (p := ⟨w.heap.size, 0, none⟩) hz).trans q0
      replace q1 := (hb.cell (p := ⟨w.heap.size, 1, none⟩) hz).trans q1
      replace hz : w.heap.size < w2.heap.size := Nat.lt_of_lt_of_le hz hb.size
      clear hb
      go_wp2_with fail
      refine (awake16_any _).mono ?_
      rintro e w3 ⟨rfl, hb⟩
      have HB3 := Lib.hid (HB2.out.trans (hb.mono HB2.out.size))
      clear HB2
      replace HL := Lib.hid (HL.out.upto hb)
      replace HO := Lib.hid (HO.out.upto hb)
      replace q0 := (hb.cell (p := ⟨w.heap.size, 0, none⟩) hz).trans q0
      replace q1 := (hb.cell (p := ⟨w.heap.size, 1, none⟩) hz).trans q1
      replace hz : w.heap.size < w3.heap.size := Nat.lt_of_lt_of_le hz hb.size
      clear hb
      go_wp2_with fail
      refine (KO.out _ HL.out HO.out).mono ?_
      rintro e w4 ⟨rfl, hb⟩
      have HB4 := Lib.hid (HB3.out.trans (hb.mono HB3.out.size))
      clear HB3
      replace HL := Lib.hid (HL.out.upto hb)
      replace HO := Lib.hid (HO.out.upto hb)
      replace q0 := (hb.cell (p := ⟨w.heap.size, 0, none⟩) hz).trans q0
      replace q1 := (hb.cell (p := ⟨w.heap.size, 1, none⟩) hz).trans q1
      replace hz : w.heap.size < w4.heap.size := Nat.lt_of_lt_of_le hz hb.size
      clear hb
      go_wp2_with fail
      refine (awake16_any _).mono ?_
      rintro e w5 ⟨rfl, hb⟩
      have HB5 := Lib.hid (HB4.out.trans (hb.mono HB4.out.size))
      clear HB4
      replace HL := Lib.hid (HL.out.upto hb)
      replace HO := Lib.hid (HO.out.upto hb)
      replace q0 := (hb.cell (p := ⟨w.heap.size, 0, none⟩) hz).trans q0
      replace q1 := (hb.cell (p := ⟨w.heap.size, 1, none⟩) hz).trans q1
      replace hz : w.heap.size < w5.heap.size := Nat.lt_of_lt_of_le hz hb.size
      clear hb
      go_wp2_with fail
      go_ret
      exact ⟨rfl, HB5.out⟩
end Go.Proofs.Ytmojjfdamdgegaa
