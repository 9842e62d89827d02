/- The text LnB. -/
import Derived.RangeFuncNested
import Derived.RangeFuncBox
import Derived.RangeFuncLeaves
import Derived.RangeFuncWrites
import Derived.Shelf.Abstract
import Derived.WalkKit
import Derived.OwnWalkIn
import Derived.TacticsInMore
import Derived.LoopNIn
import Derived.LoopIn
import Derived.Maps.AppendAt
import Derived.Test.YtklanoppbbaolaaGreatMg13
/- model.columns: the iterator over the columns. -/
namespace Go.Proofs.YtklanoppbbaolaaGreat
open Go.RowKit Go.Shelf
set_option linter.unusedVariables false
set_option linter.unusedSimpArgs false
set_option maxRecDepth 100000
attribute [local go_sem] Oper.semAt_some
/-- Below n₁ only the block B may have turned. -/
structure KeptT (n₁ B : Nat) (W W' : World) : Prop where
  size : W.heap.size ≤ W'.heap.size
  kept : ∀ k, k < n₁ → k ≠ B → W'.heap[k]? = W.heap[k]?
theorem KeptT.refl (n₁ B : Nat) (W : World) : KeptT n₁ B W W := ⟨Nat.le_refl _, fun _ _ _ => rfl⟩
theorem KeptT.trans {n₁ B : Nat} {X Y Z : World} (h : KeptT n₁ B X Y) (k : KeptT n₁ B Y Z) : KeptT n₁ B X Z := ⟨Nat.le_trans h.size k.size, fun i h1 h2 => (k.kept i h1 h2).trans (h.kept i h1 h2)⟩
theorem KeptT.cell {n₁ B : Nat} {W W' : World} (h : KeptT n₁ B W W') {p : Addr} (h1 : p.block < n₁) (h2 : p.block ≠ B) : W'.cell? p = W.cell? p := World.cell?_of_block (h.kept p.block h1 h2)
theorem KeptT.alloc {n₁ B : Nat} {W W' : World} (h : KeptT n₁ B W W') (hn : n₁ ≤ W.heap.size) (o : Obj) : KeptT n₁ B W (W'.alloc o) :=
  ⟨Nat.le_trans h.size (by simp), fun k hk hne => (Below.heap_alloc W' o k (Nat.lt_of_lt_of_le (Nat.lt_of_lt_of_le hk hn) h.size)).trans (h.kept k hk hne)⟩
theorem keptT_put {n₁ B : Nat} {w : World} (hn : n₁ ≤ w.heap.size) (W : World) (l : Nat) (o o' : Obj) (hl : w.heap.size ≤ l) (_ : W.heap[l]? = some o) (_ : o.isCells = false) (_ : o.isWalk = false) : KeptT n₁ B W (W.putObj l o') :=
  ⟨by simp, fun k hk _ => World.putObj_heap_other (by omega)⟩
def BoE : Enc Bool := fun _ _ c b => c = [.bool b]
theorem BoE.keep : EKeep BoE := ⟨fun _ _ h => h⟩
/-- A column with its index. -/
abbrev Cl := Nat × Bool × Nat × Nat
def clV (x : Cl) : Array Value := #[.int .i64 (x.1 : Int), .agg #[.bool x.2.1, .int .i64 (x.2.2.1 : Int), .int .i64 (x.2.2.2 : Int)]]
set_option maxHeartbeats 4000000 in
theorem columns1_in (n : Nat) (hn : 1 ≤ n) (l Bu Bo Bb n₀ n₁ B : Nat) (A2 A3 A4 : Option Addr) (c2 c3 c4 : Nat) (us : List Un) (os : List Bool) (bs : List Bd) (J Jx : List Cl → World → Prop) (hsh : Shrt us bs) (hos : os.length ≤ 1000000)
    (h01 : n₀ ≤ n₁) (hB : n₀ ≤ B) (hBu : Bu < n₁) (hBo : Bo < n₁) (hBb : Bb < n₁) (q1 : Bu ≠ B) (q2 : Bo ≠ B) (q3 : Bb ≠ B) (W : World) (hA : AbidesFrom W.heap.size J)
    (hY : ∀ pre (x : Cl) W1, J pre W1 → pre.length < 144 → YieldAt Fence.wide (n - 1) Tryz.prog l (clV x) W1 fun e W' =>
      (e = .returned (.bool true) ∧ J (pre ++ [x]) W' ∧ KeptT n₁ B W1 W') ∨ (e = .returned (.bool false) ∧ Jx (pre ++ [x]) W'))
    (hcu : W.cell? ⟨Bu, 0, none⟩ = some (.slice A2 us.length c2)) (hco : W.cell? ⟨Bo, 0, none⟩ = some (.slice A3 os.length c3)) (hcb : W.cell? ⟨Bb, 0, none⟩ = some (.slice A4 bs.length c4))
    (h2 : RowR UnR 9 W n₀ A2 us) (h3 : RowR BoE 1 W n₀ A3 os) (h4 : RowR BdR 2 W n₀ A4 bs) (hn1 : n₁ ≤ W.heap.size) (h0 : J [] W) :
    CallsIn Fence.wide n Tryz.prog 170 #[.func (.yield l) #[] #[], .pointer (some ⟨Bu, 0, none⟩), .pointer (some ⟨Bo, 0, none⟩), .pointer (some ⟨Bb, 0, none⟩)] W fun e W' => (∃ v, e = .returned v) ∧
      ((∃ ys, True ∧ J ys W') ∨ (∃ pre, True ∧ Jx pre W')) := by
  have HU := Lib.hid h2
  have HO := Lib.hid h3
  have HD := Lib.hid h4
  have HQ : Hid (Bo < n₁ ∧ Bo ≠ B ∧ Bb < n₁ ∧ Bb ≠ B) := ⟨hBo, q2, hBb, q3⟩
  have HN : Hid (n₀ ≤ n₁ ∧ n₀ ≤ B) := ⟨h01, hB⟩
  have HCo := Lib.hid hco
  have HCb := Lib.hid hcb
  have HS := Lib.hid hsh
  have hul : us.length ≤ 12 := hsh.1
  have hbl : bs.length ≤ 12 := hsh.2.1
  clear h2 h3 h4 q1 q2 q3 hBo hBb h01 hB hsh
  have hAl : ∀ s W1 o, J s W1 → J s (W1.alloc o) := fun s W1 o hs => hA s W1 _ none hs (World.grownBy_alloc W1 o none) (fun r e => by cases e)
  have HAL := Lib.hid hAl
  clear hAl hA
  have HJ0 := Lib.hid h0
  clear h0
  refine callsIn_of_wp Tryz.func170 rfl trivial ?_ rfl
  simp only [Tryz.ntmps170, List.size_toArray, List.length_cons, List.length_nil, Nat.reduceAdd, Nat.reduceSub, Array.replicate_succ, Array.replicate_zero, List.push_toArray, List.append_toArray, List.nil_append, List.cons_append]
  gi_wp2
  clear hcu hco hcb
  gi_loopw [5, 6, 7, 8, 14] (fun s5 s6 s7 s8 i wr => ∃ (k : Nat) (pre : List Cl), k ≤ us.length ∧ i = .int .i64 k ∧ s5 = .int .i64 (pre.length : Int) ∧ pre.length ≤ 6 * k ∧ J pre wr ∧ KeptT n₁ B W wr)
    (fun _ _ _ _ i _ => us.length - (intOf i).toNat)
  case atStart => exact ⟨0, [], Nat.zero_le _, rfl, rfl, Nat.zero_le _, HJ0.out, KeptT.refl _ _ _⟩
  case round =>
    obtain ⟨k, pre, hk, rfl, rfl, hp6, hJs, hkb⟩ := hrel
    have HJ := Lib.hid hJs
    have HKB := Lib.hid hkb
    have hsz := hkb.size
    clear hJs hkb HJ0
    have g2 := (HKB.out.cell (p := ⟨Bo, 0, none⟩) HQ.out.1 HQ.out.2.1).trans HCo.out
    have g3 := (HKB.out.cell (p := ⟨Bb, 0, none⟩) HQ.out.2.2.1 HQ.out.2.2.2).trans HCb.out
    have hBo : Bo < wr.heap.size := by have := HQ.out.1; omega
    have hBb : Bb < wr.heap.size := by have := HQ.out.2.2.1; omega
    by_cases hlt : k < us.length
    · obtain ⟨b, off, cc, rfl, hb, hc1, hc2, hc3⟩ := HU.out.at_ k un0 hlt
      have h6 : (us.getD k un0).steps.length ≤ 6 := HS.out.2.2.1 k hlt
      generalize us.getD k un0 = u at *
      obtain ⟨Ax, cx, rfl, _, _⟩ := hc2
      have kp : ∀ j, wr.cell? ⟨b, off + k * 9 + j, none⟩ = W.cell? ⟨b, off + k * 9 + j, none⟩ := fun j => HKB.out.cell (p := ⟨b, off + k * 9 + j, none⟩) (by show b < _; have := HN.out; omega) (by show b ≠ _; have := HN.out; omega)
      have f0 : wr.cell? ⟨b, off + k * 9, none⟩ = _ := (kp 0).trans (hc3 0 _ rfl)
      have f1 := (kp 1).trans (hc3 1 _ rfl)
      have f2 := (kp 2).trans (hc3 2 _ rfl)
      have f3 := (kp 3).trans (hc3 3 _ rfl)
      have f4 := (kp 4).trans (hc3 4 _ rfl)
      have f5 := (kp 5).trans (hc3 5 _ rfl)
      have f6 := (kp 6).trans (hc3 6 _ rfl)
      have f7 := (kp 7).trans (hc3 7 _ rfl)
      have f8 := (kp 8).trans (hc3 8 _ rfl)
      clear hc3 hc1 kp
      have hbw : b < wr.heap.size := by have := HN.out; omega
      have i2 : (k : Int) < (us.length : Int) := by omega
      by_cases ho : k < os.length
      · have d1 : decide ((os.length : Int) ≤ (k : Int)) = false := decide_eq_false (by omega)
        have d1n : decide (os.length ≤ k) = false := decide_eq_false (by omega)
        have i3 : (k : Int) < (os.length : Int) := by omega
        obtain ⟨b3, off3, cc3, rfl, hb3, hcc1, hcc2, hcc3⟩ := HO.out.at_ k false ho
        rw [show cc3 = [.bool (os.getD k false)] from hcc2] at hcc3
        have e0 : wr.cell? ⟨b3, off3 + k, none⟩ = some (.bool (os.getD k false)) := by
          have := (HKB.out.cell (p := ⟨b3, off3 + k * 1 + 0, none⟩) (by show b3 < _; have := HN.out; omega) (by show b3 ≠ _; have := HN.out; omega)).trans (hcc3 0 _ rfl)
          rw [Nat.mul_one, Nat.add_zero] at this
          exact this
        have hb3w : b3 < wr.heap.size := by have := HN.out; omega
        clear hcc3 hcc1 hcc2
        cases hon : os.getD k false with
        | false =>
          rw [hon] at e0
          clear hon
          gi_wp2
          go_roundw
          case rel => exact ⟨k + 1, pre, by omega, by go_num, rfl, by omega, HAL.out _ _ _ HJ.out, HKB.out.alloc hn1 _⟩
          case measure => simp [intOf]; omega
        | true =>
          rw [hon] at e0
          clear hon
          gi_wp2
          gi_loopw [5, 8, 33] (fun s5 s8 i2' wr2 => ∃ (j : Nat) (pre2 : List Cl), j ≤ u.steps.length ∧ i2' = .int .i64 j ∧ s5 = .int .i64 (pre2.length : Int) ∧ pre2.length ≤ 6 * k + j ∧ J pre2 wr2 ∧ KeptT n₁ B W wr2)
            (fun _ _ i2' _ => u.steps.length - (intOf i2').toNat)
          case atStart => exact ⟨0, pre, Nat.zero_le _, rfl, rfl, by omega, HAL.out _ _ _ HJ.out, HKB.out.alloc hn1 _⟩
          case round =>
            obtain ⟨j, pre2, hj, rfl, rfl, hp2, hJs2, hkb2⟩ := hrel
            have HJ2 := Lib.hid hJs2
            have HKB2 := Lib.hid hkb2
            clear hJs2 hkb2
            by_cases hjl : j < u.steps.length
            · obtain ⟨fn, tmps, assign, body, hy, hR⟩ := hY pre2 (pre2.length, false, k, j) wr HJ2.out (by omega)
              simp only [clV] at hy
              have HR := Lib.hid hR
              clear hR
              gi_wp2
              refine HR.out.mono ?_
              rintro e W3 (⟨rfl, hJ3, hk3⟩ | ⟨rfl, hJx3⟩)
              · gi_wp2
                go_roundw
                case rel => exact ⟨j + 1, pre2 ++ [(pre2.length, false, k, j)], by omega, by go_num, by simp, by simp; omega, hJ3, HKB2.out.trans hk3⟩
                case measure => simp [intOf]; omega
              · gi_wp2
                refine bodyPost_ret (results_none rfl _ _ _) rfl ?_
                exact ⟨⟨_, rfl⟩, .inr ⟨_, trivial, hJx3⟩⟩
            · obtain rfl : j = u.steps.length := by omega
              gi_wp2
              go_roundw
              case rel => exact ⟨k + 1, pre2, by omega, by go_num, rfl, by omega, HJ2.out, HKB2.out⟩
              case measure => simp [intOf]; omega
      · have d1 : decide ((os.length : Int) ≤ (k : Int)) = true := decide_eq_true (by omega)
        have d1n : decide (os.length ≤ k) = true := decide_eq_true (by omega)
        gi_wp2
        go_roundw
        case rel => exact ⟨k + 1, pre, by omega, by go_num, rfl, by omega, HAL.out _ _ _ HJ.out, HKB.out.alloc hn1 _⟩
        case measure => simp [intOf]; omega
    · obtain rfl : k = us.length := by omega
      gi_wp2
      gi_loopw [5, 9, 10, 11, 49] (fun s5 s9 s10 s11 i wr => ∃ (k : Nat) (pre : List Cl), k ≤ bs.length ∧ i = .int .i64 k ∧ s5 = .int .i64 (pre.length : Int) ∧ pre.length ≤ 6 * us.length + 6 * k ∧ J pre wr ∧ KeptT n₁ B W wr)
        (fun _ _ _ _ i _ => bs.length - (intOf i).toNat)
      case atStart => exact ⟨0, pre, Nat.zero_le _, rfl, rfl, by omega, HJ.out, HKB.out⟩
      case round =>
        clear HJ HKB hsz g2 g3 hBo hBb hp6
        obtain ⟨k, pre, hk, rfl, rfl, hp6, hJs, hkb⟩ := hrel
        have HJ := Lib.hid hJs
        have HKB := Lib.hid hkb
        have hsz := hkb.size
        clear hJs hkb
        by_cases hlt : k < bs.length
        · obtain ⟨b, off, cc, rfl, hb, hc1, hc2, hc3⟩ := HD.out.at_ k bd0 hlt
          have h6 : (bs.getD k bd0).steps.length ≤ 6 := HS.out.2.2.2 k hlt
          generalize bs.getD k bd0 = u at *
          obtain ⟨Ax, cx, rfl, _, _⟩ := hc2
          have kp : ∀ j, wr.cell? ⟨b, off + k * 2 + j, none⟩ = W.cell? ⟨b, off + k * 2 + j, none⟩ := fun j => HKB.out.cell (p := ⟨b, off + k * 2 + j, none⟩) (by show b < _; have := HN.out; omega) (by show b ≠ _; have := HN.out; omega)
          have f0 : wr.cell? ⟨b, off + k * 2, none⟩ = _ := (kp 0).trans (hc3 0 _ rfl)
          have f1 := (kp 1).trans (hc3 1 _ rfl)
          clear hc3 hc1 kp
          have hbw : b < wr.heap.size := by have := HN.out; omega
          have i2 : (k : Int) < (bs.length : Int) := by omega
          gi_wp2
          gi_loopw [5, 11, 57] (fun s5 s11 i2' wr2 => ∃ (j : Nat) (pre2 : List Cl), j ≤ u.steps.length ∧ i2' = .int .i64 j ∧ s5 = .int .i64 (pre2.length : Int) ∧ pre2.length ≤ 6 * us.length + 6 * k + j ∧ J pre2 wr2 ∧ KeptT n₁ B W wr2)
            (fun _ _ i2' _ => u.steps.length - (intOf i2').toNat)
          case atStart => exact ⟨0, pre, Nat.zero_le _, rfl, rfl, by omega, HAL.out _ _ _ HJ.out, HKB.out.alloc hn1 _⟩
          case round =>
            obtain ⟨j, pre2, hj, rfl, rfl, hp2, hJs2, hkb2⟩ := hrel
            have HJ2 := Lib.hid hJs2
            have HKB2 := Lib.hid hkb2
            clear hJs2 hkb2
            by_cases hjl : j < u.steps.length
            · obtain ⟨fn, tmps, assign, body, hy, hR⟩ := hY pre2 (pre2.length, true, k, j) wr HJ2.out (by omega)
              simp only [clV] at hy
              have HR := Lib.hid hR
              clear hR
              gi_wp2
              refine HR.out.mono ?_
              rintro e W3 (⟨rfl, hJ3, hk3⟩ | ⟨rfl, hJx3⟩)
              · gi_wp2
                go_roundw
                case rel => exact ⟨j + 1, pre2 ++ [(pre2.length, true, k, j)], by omega, by go_num, by simp, by simp; omega, hJ3, HKB2.out.trans hk3⟩
                case measure => simp [intOf]; omega
              · gi_wp2
                refine bodyPost_ret (results_none rfl _ _ _) rfl ?_
                exact ⟨⟨_, rfl⟩, .inr ⟨_, trivial, hJx3⟩⟩
            · obtain rfl : j = u.steps.length := by omega
              gi_wp2
              go_roundw
              case rel => exact ⟨k + 1, pre2, by omega, by go_num, rfl, by omega, HJ2.out, HKB2.out⟩
              case measure => simp [intOf]; omega
        · obtain rfl : k = bs.length := by omega
          gi_wp2
          go_end0
          exact ⟨⟨_, rfl⟩, .inl ⟨_, trivial, HJ.out⟩⟩
end Go.Proofs.YtklanoppbbaolaaGreat
