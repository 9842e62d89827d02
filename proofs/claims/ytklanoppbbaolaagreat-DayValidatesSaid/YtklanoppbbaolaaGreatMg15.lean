/- Texts in one: LnC, LnD. -/
import Derived.Test.YtklanoppbbaolaaGreatMg14
/- model.Cols: a slice of not too many columns. -/
namespace Go.Proofs.YtklanoppbbaolaaGreat
open Go.RowKit Go.Shelf
set_option linter.unusedVariables false
set_option linter.unusedSimpArgs false
set_option maxRecDepth 100000
attribute [local go_sem] Oper.semAt_some
set_option maxHeartbeats 1000000 in
theorem columns_in (n : Nat) (O2 O3 O4 : Value) (A2 A3 A4 : Option Addr) (c2 c3 c4 n2 n3 n4 : Nat) (w : World) (h2 : O2 = .slice A2 n2 c2) (h3 : O3 = .slice A3 n3 c3) (h4 : O4 = .slice A4 n4 c4) :
    CallsIn Fence.wide n Tryz.prog 96 #[O2, O3, O4] w fun e w' => e = .returned (.func (.func 170) #[] #[.pointer (some ⟨w.heap.size, 0, none⟩), .pointer (some ⟨w.heap.size + 1, 0, none⟩), .pointer (some ⟨w.heap.size + 2, 0, none⟩)]) ∧
      w' = ((w.alloc (.cells #[O2] 29)).alloc (.cells #[O3] 66)).alloc (.cells #[O4] 23) := by
  subst h2 h3 h4
  refine callsIn_of_wp Tryz.func96 rfl trivial ?_ rfl
  simp only [Tryz.ntmps96, List.size_toArray, List.length_cons, List.length_nil, Nat.reduceAdd, Nat.reduceSub, Array.replicate_succ, Array.replicate_zero, List.push_toArray, List.append_toArray, List.nil_append, List.cons_append]
  gi_wp2
  go_ret
  exact ⟨rfl, rfl⟩
theorem columns_stops (n : Nat) (hn : 1 ≤ n) (Bu Bo Bb n₀ n₁ B : Nat) (A2 A3 A4 : Option Addr) (c2 c3 c4 : Nat) (us : List Un) (os : List Bool) (bs : List Bd) (hsh : Shrt us bs) (hos : os.length ≤ 1000000)
    (h01 : n₀ ≤ n₁) (hB : n₀ ≤ B) (hBu : Bu < n₁) (hBo : Bo < n₁) (hBb : Bb < n₁) (q1 : Bu ≠ B) (q2 : Bo ≠ B) (q3 : Bb ≠ B) (w : World) (hw : n₁ ≤ w.heap.size)
    (hcu : w.cell? ⟨Bu, 0, none⟩ = some (.slice A2 us.length c2)) (hco : w.cell? ⟨Bo, 0, none⟩ = some (.slice A3 os.length c3)) (hcb : w.cell? ⟨Bb, 0, none⟩ = some (.slice A4 bs.length c4))
    (h2 : RowR UnR 9 w n₀ A2 us) (h3 : RowR BoE 1 w n₀ A3 os) (h4 : RowR BdR 2 w n₀ A4 bs) :
    SeqStopsK Fence.wide n Tryz.prog 170 #[.pointer (some ⟨Bu, 0, none⟩), .pointer (some ⟨Bo, 0, none⟩), .pointer (some ⟨Bb, 0, none⟩)] (fun x : Cl => clV x) (KeptT n₁ B) (fun _ => True) (fun _ => True) 144 w := fun l J Jx W hW hJ _ hY h0 =>
  columns1_in n hn l Bu Bo Bb n₀ n₁ B A2 A3 A4 c2 c3 c4 us os bs J Jx hsh hos h01 hB hBu hBo hBb q1 q2 q3 W hJ (fun pre x W hj hp => hY pre x W hj hp) ((hW.cell (p := ⟨Bu, 0, none⟩) (by show Bu < _; omega)).trans hcu)
    ((hW.cell (p := ⟨Bo, 0, none⟩) (by show Bo < _; omega)).trans hco) ((hW.cell (p := ⟨Bb, 0, none⟩) (by show Bb < _; omega)).trans hcb) (h2.up UnR.keep (hW.mono (by omega))) (h3.up BoE.keep (hW.mono (by omega))) (h4.up BdR.keep (hW.mono (by omega))) (Nat.le_trans hw hW.size) h0
theorem box_appT {W w1 : World} {base B : Nat} {t e : TypeId} {size : Nat} {v v' : Value} {k m : Nat} {xs ys : List Value} {tmp : Obj}
    (hv : Boxed W B t v) (hte : t ≠ e) (hrow : W.ownsRow base e size v k xs) (hbase : base ≤ W.heap.size) (hB : B < base)
    (hown' : w1.ownsRow base e size v' m ys) (hgrow : (W.alloc tmp).grownBy w1 v.ownBlock) :
    Boxed w1 B t v ∧ Boxed (w1.setCell ⟨B, 0, none⟩ v') B t v' ∧ (w1.setCell ⟨B, 0, none⟩ v').ownsRow base e size v' m ys ∧ KeepsOthers W (w1.setCell ⟨B, 0, none⟩ v') ∧
      KeptT base B W (w1.setCell ⟨B, 0, none⟩ v') ∧ Below B W (w1.setCell ⟨B, 0, none⟩ v') := by
  have hv1 : Boxed w1 B t v := (hv.alloc tmp).kept hgrow (hv.not_row hte hrow)
  have hrb : ∀ j, v.ownBlock = some j → base ≤ j := fun j ej => by
    rcases hrow.2 with ⟨rfl, _⟩ | ⟨g, cap, cur, rfl, hb, _, _⟩
    · simp [Value.ownBlock] at ej
    · obtain rfl : g = j := by simpa [Value.ownBlock] using ej
      exact hb
  have hbl : Below base W w1 := ((Below.refl base W).alloc hbase tmp).grown hgrow (by simp; omega) hrb
  refine ⟨hv1, hv1.set v', hown'.kept (grownBy_setCell' w1 B v') (.inr (hv1.not_row hte hown').symm), ?_, ⟨?_, ?_⟩, (hbl.mono (B' := B) (by omega)).setCell (p := ⟨B, 0, none⟩) (Nat.le_refl _) v'⟩
  · refine ((KeepsOthers.alloc W tmp).trans (KeepsOthers.of_grownBy hgrow fun j o ej hj => ?_)).trans (KeepsOthers.setCell _ _ _)
    rcases (hrow.alloc tmp).2 with ⟨rfl, _⟩ | ⟨g, cap, cur, rfl, _, hgb, _⟩
    · simp [Value.ownBlock] at ej
    · obtain rfl : g = j := by simpa [Value.ownBlock] using ej
      rw [hgb] at hj; cases hj; rfl
  · simpa [World.setCell] using hbl.size
  · intro j hj hne
    exact (Below.heap_setCell w1 ⟨B, 0, none⟩ v' j hne).trans (hbl.block j hj)
def clC (x : Cl) : List Value := [.bool x.2.1, .int .i64 (x.2.2.1 : Int), .int .i64 (x.2.2.2 : Int)]
def clsL (pre : List Cl) : List Value := pre.flatMap clC
def BoxC (W : World) (B : Nat) (x : Cl) : Prop := W.heap[B]? = some (.cells #[.bool x.2.1, .int .i64 (x.2.2.1 : Int), .int .i64 (x.2.2.2 : Int)] 189 (0, 0))
theorem info_col : (Tryz.prog.info? 189).map (fun i => (i.zero, i.size, i.bytes)) = some (some (.agg #[.bool false, .int .i64 0, .int .i64 0]), 3, 24) := by kernel_rfl
/-- A slice, not too long, comes back. -/
def ClsE (w : World) (e : Ending) (w' : World) : Prop := ∃ A n c, e = .returned (.slice A n c) ∧ n ≤ 1000 ∧ Below w.heap.size w w'
set_option maxHeartbeats 4000000 in
theorem cols_any (A2 A3 A4 : Option Addr) (c2 c3 c4 : Nat) (us : List Un) (os : List Bool) (bs : List Bd) (w : World) (hsh : Shrt us bs) (hos : os.length ≤ 1000000)
    (h2 : RowR UnR 9 w w.heap.size A2 us) (h3 : RowR BoE 1 w w.heap.size A3 os) (h4 : RowR BdR 2 w w.heap.size A4 bs) :
    Calls Tryz.prog 44 #[.slice A2 us.length c2, .slice A3 os.length c3, .slice A4 bs.length c4] w (ClsE w) := by
  obtain ⟨i0, hi, hz0, hz1, hz2⟩ := info_parts info_col
  have HU := Lib.hid h2
  have HO := Lib.hid h3
  have HD := Lib.hid h4
  have HS := Lib.hid hsh
  clear h2 h3 h4 hsh
  refine (callsIn_wide (n := 8)).1 ?_
  refine callsIn_of_wp_marks Tryz.func44 rfl trivial ?_ rfl
  simp only [Tryz.ntmps44, List.size_toArray, List.length_cons, List.length_nil, Nat.reduceAdd, Nat.reduceSub, Array.replicate_succ, Array.replicate_zero, List.push_toArray, List.append_toArray, List.nil_append, List.cons_append]
  gi_wp2_with (refine ⟨trivial, ?_⟩; gi_at_call 96; refine (columns_in _ _ _ _ A2 A3 A4 c2 c3 c4 _ _ _ _ rfl rfl rfl).mono ?_; rintro e w' ⟨rfl, rfl⟩)
  have bS0 := Boxed.new w 115 (.slice none 0 0)
  have bU0 := Boxed.new (w.alloc (.cells #[.slice none 0 0] 115)) 29 (.slice A2 us.length c2)
  have bO0 := Boxed.new ((w.alloc (.cells #[.slice none 0 0] 115)).alloc (.cells #[.slice A2 us.length c2] 29)) 66 (.slice A3 os.length c3)
  have bB0 := Boxed.new (((w.alloc (.cells #[.slice none 0 0] 115)).alloc (.cells #[.slice A2 us.length c2] 29)).alloc (.cells #[.slice A3 os.length c3] 66)) 23 (.slice A4 bs.length c4)
  have bS1 := ((bS0.alloc (.cells #[.slice A2 us.length c2] 29)).alloc (.cells #[.slice A3 os.length c3] 66)).alloc (.cells #[.slice A4 bs.length c4] 23)
  have bU1 := (bU0.alloc (.cells #[.slice A3 os.length c3] 66)).alloc (.cells #[.slice A4 bs.length c4] 23)
  have bO1 := bO0.alloc (.cells #[.slice A4 bs.length c4] 23)
  simp only [World.size_alloc] at bU1 bO1 bB0
  have hB0 : Below w.heap.size w ((((w.alloc (.cells #[.slice none 0 0] 115)).alloc (.cells #[.slice A2 us.length c2] 29)).alloc (.cells #[.slice A3 os.length c3] 66)).alloc (.cells #[.slice A4 bs.length c4] 23)) :=
    ((((Below.refl _ w).alloc (Nat.le_refl _) _).alloc (by simp) _).alloc (by simp; omega) _).alloc (by simp; omega) _
  have hsz : ((((w.alloc (.cells #[.slice none 0 0] 115)).alloc (.cells #[.slice A2 us.length c2] 29)).alloc (.cells #[.slice A3 os.length c3] 66)).alloc (.cells #[.slice A4 bs.length c4] 23)).heap.size = w.heap.size + 4 := by simp
  obtain ⟨W0, hW0⟩ : ∃ W0, (((w.alloc (.cells #[.slice none 0 0] 115)).alloc (.cells #[.slice A2 us.length c2] 29)).alloc (.cells #[.slice A3 os.length c3] 66)).alloc (.cells #[.slice A4 bs.length c4] 23) = W0 := ⟨_, rfl⟩
  rw [hW0] at bS1 bU1 bO1 bB0 hB0 hsz ⊢
  clear hW0 bS0 bU0 bO0
  refine wpIn_rangeFunc_ownH rfl (by omega) (gf := 170) (lb := #[.pointer (some ⟨w.heap.size + 1, 0, none⟩), .pointer (some ⟨w.heap.size + 2, 0, none⟩), .pointer (some ⟨w.heap.size + 3, 0, none⟩)]) (by simp [Act.eval]) trivial (enters_of Tryz.func170 (by kernel_rfl) rfl)
    (columns_stops (8 - 1) (by omega) (w.heap.size + 1) (w.heap.size + 2) (w.heap.size + 3) w.heap.size (w.heap.size + 4) w.heap.size A2 A3 A4 c2 c3 c4 us os bs HS.out hos (by omega) (by omega) (by omega) (by omega) (by omega) (by omega) (by omega) (by omega) W0 (by omega) bU1.cell bO1.cell bB0.cell (HU.out.up UnR.keep hB0) (HO.out.up BoE.keep hB0) (HD.out.up BdR.keep hB0)) KeptT.trans (keptT_put (by omega)) (Below.refl _ _) (fun _ => rfl)
    (fun pre W => (∃ v, Boxed W w.heap.size 115 v ∧ W.ownsRow (w.heap.size + 4) 189 3 v pre.length (clsL pre) ∧ True) ∧ (Below w.heap.size w W ∧ (w.heap.size + 4 ≤ W.heap.size ∧ pre.length ≤ 144)))
    (fun _ _ _ => False)
    (OwnFrom.and (Own.from (holdsRow_own (w.heap.size + 4) w.heap.size 115 189 3 (fun pre : List Cl => pre.length) clsL (fun _ _ => True)) _) (OwnFrom.and (ownFrom_below (Nat.le_refl _) (by omega)) (OwnFrom.and (fun _ _ _ _ hs hg _ => Nat.le_trans hs hg.size) (ownFrom_pure _ (fun pre : List Cl => pre.length ≤ 144)))))
    (fun _ _ _ _ _ hs _ _ => hs)
    ⟨⟨_, bS1, World.ownsRow_nil _ _ _ _, trivial⟩, hB0, by omega, by simp⟩
    (fun x a' W => ∃ Bx, w.heap.size + 4 ≤ Bx ∧ BoxC W Bx x ∧ a' = { tmps := #[.slice A2 us.length c2, .slice A3 os.length c3, .slice A4 bs.length c4, undef, undef, undef, .slice none 0 0, .pointer (some ⟨w.heap.size, 0, none⟩), undef, .pointer (some ⟨Bx, 0, none⟩), .slice A2 us.length c2, .slice A3 os.length c3, .slice A4 bs.length c4, .func (.func 170) #[] #[.pointer (some ⟨w.heap.size + 1, 0, none⟩), .pointer (some ⟨w.heap.size + 2, 0, none⟩), .pointer (some ⟨w.heap.size + 3, 0, none⟩)], .int .i64 (x.1 : Int), .agg #[.bool x.2.1, .int .i64 (x.2.2.1 : Int), .int .i64 (x.2.2.2 : Int)], undef, undef, undef, undef, undef], defers := [] })
    (fun x a' _ X Y row hs hg hr => by
      obtain ⟨Bx, h1, h2, h3⟩ := hs
      refine ⟨Bx, h1, (hg.block Bx (Array.getElem?_eq_some_iff.1 h2).1 fun e' => ?_).trans h2, h3⟩
      obtain ⟨_, o, ho, hc⟩ := hr Bx e'.symm
      rw [show X.heap[Bx]? = _ from h2] at ho; cases ho; cases hc)
    ?assign ?body ?done ?stop
  case assign =>
    rintro l pre x W K ⟨⟨v, hv, hrow, _⟩, hB, hz3, hpl⟩ hK
    obtain ⟨xi, xb, xu, xk⟩ := x
    simp only [clV] at hK ⊢
    have HK := Lib.hid hK
    clear hK
    gi_wp2
    exact HK.out _ _ ((KeepsOthers.alloc _ _).from _) ((KeptT.refl _ _ W).alloc hz3 _) ⟨⟨v, hv.alloc _, hrow.alloc _, trivial⟩, hB.alloc hB.size _, by simp; omega, hpl⟩ ⟨W.heap.size, hz3, World.alloc_heap_new W _, rfl⟩
  case body =>
    rintro l pre x a' W hlw ⟨r, hr⟩ ⟨⟨v, hv, hrow, _⟩, hB, hz3, hpl⟩ ⟨Bx, hBx, hbo, rfl⟩ hlt
    have hc := hv.cell
    obtain ⟨xi, xb, xu, xk⟩ := x
    have x0 : W.cell? ⟨Bx, 0, none⟩ = some (.bool xb) := by simp [World.cell?, show W.heap[Bx]? = _ from hbo]
    have x1 : W.cell? ⟨Bx, 1, none⟩ = some (.int .i64 (xu : Int)) := by simp [World.cell?, show W.heap[Bx]? = _ from hbo]
    have x2 : W.cell? ⟨Bx, 2, none⟩ = some (.int .i64 (xk : Int)) := by simp [World.cell?, show W.heap[Bx]? = _ from hbo]
    have hBxl : Bx < W.heap.size := (Array.getElem?_eq_some_iff.1 hbo).1
    clear hbo
    gi_wp2_with (gi_at_builtin; refine wpListIn_append_own _ rfl _ _ 115 rfl (w.heap.size + 4) 189 i0 (.agg #[.bool false, .int .i64 0, .int .i64 0]) 3 24 Tryz.underlying115 hi hz0 hz1 hz2 rfl (by decide) _ _ _ rfl (hrow.alloc _) ⟨W.heap.size, 0, none⟩ 1 1 [.bool xb, .int .i64 (xu : Int), .int .i64 (xk : Int)] rfl rfl (by intro j u hj; rcases j with _ | _ | _ | j <;> simp [Addr.add] at hj ⊢ <;> exact hj) (by simp [Value.oneCell']) (by unfold maxLen; omega) (by omega) (by simp; omega) ?_; intro v' w2 hown' hgrow _; obtain ⟨g', cap', rfl⟩ := ownsRow_succ hown'; obtain ⟨hv1, hv2, hr2, hk2, hkp, hb2⟩ := box_appT hv (by decide) hrow hz3 (by omega) hown' hgrow; have hc1 := hv1.cell; have hf1 := hv1.frozen)
    exact ⟨hk2.from _, hkp, ⟨_, hv2, by rw [show (pre ++ [(xi, xb, xu, xk)]).length = pre.length + 1 by simp, show clsL (pre ++ [(xi, xb, xu, xk)]) = clsL pre ++ [.bool xb, .int .i64 (xu : Int), .int .i64 (xk : Int)] by simp [clsL, clC]]; exact hr2⟩, hB.trans hb2, Nat.le_trans hz3 hk2.size, by simp; omega⟩
  case done =>
    rintro D ys W hD _ ⟨⟨v, hv, hrow, _⟩, hB, hz3, hpl⟩ hK
    have hc := hv.cell
    obtain ⟨Av, cv, rfl, _⟩ := ownsRow_slice hrow
    gi_wp2
    refine ⟨by simp, .inl ⟨_, _, rfl, run_takeDeferred hK, ?_⟩⟩
    refine ⟨_, results_tmp rfl _ _ _, _, _, _, rfl, by omega, ?_⟩
    exact hB.trans (belowK_b (w := w) (Nat.le_refl _) W D _ _ (by omega) hK rfl rfl)
  case stop =>
    rintro D c pre W _ _ h _
    exact h.elim
end Go.Proofs.YtklanoppbbaolaaGreat
/- pylonlaw34.Long: some answer; if it is no, the lists are short. -/
namespace Go.Proofs.YtklanoppbbaolaaGreat
open Go.RowKit
set_option linter.unusedVariables false
set_option linter.unusedSimpArgs false
set_option maxRecDepth 100000
set_option maxHeartbeats 4000000 in
theorem long34_any (nb : Int) (us : List Un) (os : List Bool) (bs : List Bd) (A1 A2 A3 A4 : Option Addr) (n1 c1 c2 c3 c4 : Nat) (w : World) (hos : os.length ≤ 1000000) (h2 : RowR UnR 9 w w.heap.size A2 us) (h3 : RowR BoE 1 w w.heap.size A3 os) (h4 : RowR BdR 2 w w.heap.size A4 bs) :
    Calls Tryz.prog 43 #[.agg #[.int .i64 nb, .slice A1 n1 c1, .slice none 0 0, .slice A2 us.length c2, .slice A3 os.length c3, .slice A4 bs.length c4]] w (ShE us bs w) := by
  have K1 := Lib.hid fun W h2 h4 => long32_any nb us bs A1 A2 A3 A4 n1 os.length c1 c2 c3 c4 W h2 h4
  have K2 := Lib.hid fun W hs h2 h3 h4 => cols_any A2 A3 A4 c2 c3 c4 us os bs W hs hos h2 h3 h4
  have HB : Hid (Below w.heap.size w (w.alloc (.cells #[.int .i64 nb, .slice A1 n1 c1, .slice none 0 0, .slice A2 us.length c2, .slice A3 os.length c3, .slice A4 bs.length c4] 113))) := (Below.refl _ _).alloc (Nat.le_refl _) _
  have HU := Lib.hid h2
  have HO := Lib.hid h3
  have HD := Lib.hid h4
  clear h2 h3 h4
  go_enter Tryz.func43, Tryz.ntmps43
  go_wp2_with fail
  refine (K1.out _ (HU.out.upto UnR.keep HB.out) (HD.out.upto BdR.keep HB.out)).mono ?_
  rintro e w1 ⟨b, rfl, hsh, hb1⟩
  have HX1 := Lib.hid ((Box.new w #[.int .i64 nb, .slice A1 n1 c1, .slice none 0 0, .slice A2 us.length c2, .slice A3 os.length c3, .slice A4 bs.length c4] 113).up hb1 (by simp))
  have HB1 := Lib.hid (HB.out.trans (hb1.mono (by simp)))
  have hlt : w.heap.size < w1.heap.size := by have := hb1.size; simp at this; omega
  have HSH := Lib.hid hsh
  clear hb1 hsh
  have q3 := HX1.out.c 3 _ rfl
  have q4 := HX1.out.c 4 _ rfl
  have q5 := HX1.out.c 5 _ rfl
  have s3 := HX1.out.f 3 (by simp)
  have s4 := HX1.out.f 4 (by simp)
  have s5 := HX1.out.f 5 (by simp)
  cases b with
  | true =>
    go_wp2_with fail
    go_ret
    exact ShE.yes HB1.out
  | false =>
    go_wp2_with fail
    refine (K2.out _ (HSH.out (by trivial)) (HU.out.upto UnR.keep HB1.out) (HO.out.upto BoE.keep HB1.out) (HD.out.upto BdR.keep HB1.out)).mono ?_
    rintro e w2 ⟨A, n, c, rfl, hn, hb2⟩
    have HB2 := Lib.hid (HB1.out.trans (hb2.mono (by omega)))
    clear hb2
    by_cases h12 : 12 < n
    · have d1 : decide ((12 : Int) < (n : Int)) = true := decide_eq_true (by omega)
      go_wp2_with fail
      go_ret
      exact ShE.yes HB2.out
    · have d1 : decide ((12 : Int) < (n : Int)) = false := decide_eq_false (by omega)
      go_wp2_with fail
      go_ret
      exact ShE.no (HSH.out (by trivial)) HB2.out
end Go.Proofs.YtklanoppbbaolaaGreat
