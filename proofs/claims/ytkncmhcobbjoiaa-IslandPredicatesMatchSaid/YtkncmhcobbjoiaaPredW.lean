/- The walk of IslandPredicatesMatch. -/
import Derived.Test.YtkncmhcobbjoiaaIslF
import Derived.Test.YtkncmhcobbjoiaaRefF
import Derived.Test.YtkncmhcobbjoiaaRefG
import Derived.Test.YtkncmhcobbjoiaaAppd
namespace Go.Proofs.Ytkncmhcobbjoiaa
open Go.RowKit
set_option linter.unusedVariables false

set_option maxRecDepth 100000 in
set_option maxHeartbeats 4000000 in
theorem pred_walk (nb : Int) (A : Option Addr) (c : Nat) (ls : List Ln) (A' : Option Addr) (c' : Nat) (out : List Int) (A2 : Option Addr) (c2 : Nat) (labels : List Int) (a b : Int) (w : World) (hl : LinesR w w.heap.size A ls) (ho : IntsR w w.heap.size A' out) (hlb : IntsR w w.heap.size A2 labels)
    (_ : -9223372036854775808 ≤ a) (_ : a ≤ 9223372036854775807) (_ : -9223372036854775808 ≤ b) (_ : b ≤ 9223372036854775807) :
    Calls Try.prog 8 #[.agg #[.int .i64 nb, .slice A ls.length c], .slice A' out.length c', .slice A2 labels.length c2, .int .i64 a, .int .i64 b] w fun e w' => e = .returned (.bool true) ∧ Below w.heap.size w w' := by
  have HL := Lib.hid hl
  have HO := Lib.hid ho
  have HLB := Lib.hid hlb
  clear hl ho hlb
  have k1 := fun b W hb => long_lit2 (.int .i64 nb) A ls.length c 25 W b hb A' A2 out.length c' labels.length c2
  cases hlong : longB [out.length, labels.length] ls.length with
  | true =>
    rw [hlong] at k1
    have K1 := Lib.hid k1
    clear k1 hlong
    go_enter Try.func8, Try.ntmps8
    go_wp2_with fail
    refine (K1.out _ _ (by simp)).mono ?_
    rintro e w1 ⟨rfl, hb1⟩
    have hz := hb1.size
    go_wp2_with fail
    refine (awake_any _).mono ?_
    rintro e w2 ⟨rfl, hb2⟩
    go_wp2_with fail
    go_ret
    refine ⟨rfl, (below_alloc2 w _ _).trans ((hb1.mono (by simp; omega)).trans (hb2.mono ?_))⟩
    simp at hz
    omega
  | false =>
    rw [hlong] at k1
    have hb100 := longB_false hlong
    have ho1 : out.length ≤ 100 := hb100.1 _ (by simp)
    have hl1 : labels.length ≤ 100 := hb100.1 _ (by simp)
    have hm1 : ls.length ≤ 100 := hb100.2
    have K1 := Lib.hid k1
    clear k1 hlong hb100
    have k28 := fun W hl ho => conn_any nb A A' c c' ls out a b W hl ho (by omega) (by omega)
    have k29 := fun W hl ho => joined_any nb A A' c c' ls out a b W hl ho (by omega) (by omega)
    have k13 := fun A2 c2 W hl ho hlb => cons_any nb A A' A2 c c' c2 ls out labels W hl ho hlb (by omega) (by omega) (by omega)
    have k30 := fun W hl ho hlb => refalike_any nb A A' A2 c c' c2 ls out labels W hl ho hlb (by omega) (by omega) (by omega)
    generalize connB nb ls out a b = xb at *
    generalize connE nb ls out a b = xe at *
    generalize consB nb ls out labels = yb at *
    generalize consE nb ls out labels = ye at *
    have K28 := Lib.hid k28
    have K29 := Lib.hid k29
    have K13 := Lib.hid k13
    have K30 := Lib.hid k30
    clear k28 k29 k13 k30
    have t1 : (xb == xb) = true := by simp
    have t2 : (xe == xe) = true := by simp
    have t3 : (yb == yb) = true := by simp
    have t4 : (ye == ye) = true := by simp
    obtain ⟨i0, hi, hz0, hzz1, hz2⟩ := info_parts info_int
    go_enter Try.func8, Try.ntmps8
    go_wp2_with fail
    refine (K1.out _ _ (by simp)).mono ?_
    rintro e w1 ⟨rfl, hb1⟩
    have hz := hb1.size
    simp only [World.size_alloc] at hz
    have hB1 : Below w.heap.size w w1 := (below_alloc2 w _ _).trans (hb1.mono (by simp; omega))
    have q0 : w1.cell? ⟨w.heap.size, 0, none⟩ = some (.int .i64 nb) := (hb1.cell (by simp; omega)).trans (by simp)
    have q1 : w1.cell? ⟨w.heap.size, 1, none⟩ = some (.slice A ls.length c) := (hb1.cell (by simp; omega)).trans (by simp)
    have HB1 := Lib.hid hB1
    clear hb1 hB1
    replace HL := Lib.hid (HL.out.upto HB1.out)
    replace HO := Lib.hid (HO.out.upto HB1.out)
    replace HLB := Lib.hid (HLB.out.upto HB1.out)
    go_wp2_with (at_builtin; refine wpList_append_any _ rfl (.const (.slice none 0 0)) (.tmp 26) _ rfl w1.heap.size 3 i0 _ 1 8 Try.underlying25 hi hz0 hzz1 hz2 rfl (by omega) (.slice none 0 0) 0 [] rfl ⟨by simp, .inl ⟨rfl, rfl⟩⟩ A2 labels.length c2 (labels.map (Value.int .i64)) rfl HLB.out.toSrc (one_ints _) (by simp only [maxLen]; omega) (by omega) (Nat.le_refl _) ?_; intro v1 w2 hown1 hg1 _; simp only [Nat.zero_add, List.nil_append] at hown1; have hown2 : w2.ownsRow w1.heap.size 3 1 v1 labels.length (labels.map (Value.int .i64)) := hown1; obtain ⟨A3, c3, rfl, hI3⟩ := ownsRow_ints hown2; have hb : Below w1.heap.size w1 w2 := (Below.refl _ _).grown hg1 (Nat.le_refl _) (by simp [Value.ownBlock]); have HB2 := Lib.hid (HB1.out.trans (hb.mono HB1.out.size)); have q0' := (hb.cell (p := ⟨w.heap.size, 0, none⟩) (by show w.heap.size < _; omega)).trans q0; have q1' := (hb.cell (p := ⟨w.heap.size, 1, none⟩) (by show w.heap.size < _; omega)).trans q1; have hz' : w.heap.size + 1 + 1 ≤ w2.heap.size := (by have := hb.size; omega); have HL2 := Lib.hid (HL.out.upto hb); have HO2 := Lib.hid (HO.out.upto hb); have HLB2 := Lib.hid (HLB.out.upto hb); have HC2 := Lib.hid hI3; clear hown1 hown2 hg1 hb hI3 q0 q1 hz HL HO HLB)
    have q0 := q0'
    have q1 := q1'
    have hz := hz'
    clear q0' q1' hz'
    refine (K28.out w2 HL2.out HO2.out).mono ?_
    rintro e w3 ⟨rfl, hb⟩
    have HB3 := Lib.hid (HB2.out.trans (hb.mono HB2.out.size))
    replace q0 := (hb.cell (p := ⟨w.heap.size, 0, none⟩) (by show w.heap.size < _; omega)).trans q0
    replace q1 := (hb.cell (p := ⟨w.heap.size, 1, none⟩) (by show w.heap.size < _; omega)).trans q1
    replace hz : w.heap.size + 1 + 1 ≤ w3.heap.size := by have := hb.size; omega
    have HL3 := Lib.hid (HL2.out.upto hb)
    have HO3 := Lib.hid (HO2.out.upto hb)
    have HLB3 := Lib.hid (HLB2.out.upto hb)
    have HC3 := Lib.hid (HC2.out.upto hb)
    clear hb HB2 HL2 HO2 HLB2 HC2
    go_wp2_with fail
    refine (K29.out w3 HL3.out HO3.out).mono ?_
    rintro e w4 ⟨rfl, hb⟩
    have HB4 := Lib.hid (HB3.out.trans (hb.mono HB3.out.size))
    replace q0 := (hb.cell (p := ⟨w.heap.size, 0, none⟩) (by show w.heap.size < _; omega)).trans q0
    replace q1 := (hb.cell (p := ⟨w.heap.size, 1, none⟩) (by show w.heap.size < _; omega)).trans q1
    replace hz : w.heap.size + 1 + 1 ≤ w4.heap.size := by have := hb.size; omega
    have HL4 := Lib.hid (HL3.out.upto hb)
    have HO4 := Lib.hid (HO3.out.upto hb)
    have HLB4 := Lib.hid (HLB3.out.upto hb)
    have HC4 := Lib.hid (HC3.out.upto hb)
    clear hb HB3 HL3 HO3 HLB3 HC3
    go_wp2_with fail
    refine (K13.out _ _ w4 HL4.out HO4.out HC4.out).mono ?_
    rintro e w5 ⟨rfl, hb⟩
    have HB5 := Lib.hid (HB4.out.trans (hb.mono HB4.out.size))
    replace q0 := (hb.cell (p := ⟨w.heap.size, 0, none⟩) (by show w.heap.size < _; omega)).trans q0
    replace q1 := (hb.cell (p := ⟨w.heap.size, 1, none⟩) (by show w.heap.size < _; omega)).trans q1
    replace hz : w.heap.size + 1 + 1 ≤ w5.heap.size := by have := hb.size; omega
    have HL5 := Lib.hid (HL4.out.upto hb)
    have HO5 := Lib.hid (HO4.out.upto hb)
    have HLB5 := Lib.hid (HLB4.out.upto hb)
    have HC5 := Lib.hid (HC4.out.upto hb)
    clear hb HB4 HL4 HO4 HLB4 HC4
    go_wp2_with fail
    refine (K30.out w5 HL5.out HO5.out HLB5.out).mono ?_
    rintro e w6 ⟨rfl, hb⟩
    have HB6 := Lib.hid (HB5.out.trans (hb.mono HB5.out.size))
    replace q0 := (hb.cell (p := ⟨w.heap.size, 0, none⟩) (by show w.heap.size < _; omega)).trans q0
    replace q1 := (hb.cell (p := ⟨w.heap.size, 1, none⟩) (by show w.heap.size < _; omega)).trans q1
    replace hz : w.heap.size + 1 + 1 ≤ w6.heap.size := by have := hb.size; omega
    have HL6 := Lib.hid (HL5.out.upto hb)
    have HO6 := Lib.hid (HO5.out.upto hb)
    have HLB6 := Lib.hid (HLB5.out.upto hb)
    have HC6 := Lib.hid (HC5.out.upto hb)
    clear hb HB5 HL5 HO5 HLB5 HC5
    go_wp2_with fail
    refine (ints_same A3 A2 c3 c2 labels w6 HC6.out HLB6.out (by omega)).mono ?_
    rintro e w7 ⟨rfl, hb⟩
    have HB7 := Lib.hid (HB6.out.trans (hb.mono HB6.out.size))
    clear hb
    go_wp2_with fail
    refine (awake_any _).mono ?_
    rintro e w8 ⟨rfl, hb⟩
    have HB8 := Lib.hid (HB7.out.trans (hb.mono HB7.out.size))
    clear hb
    go_wp2_with fail
    go_ret
    exact ⟨rfl, HB8.out⟩
end Go.Proofs.Ytkncmhcobbjoiaa
