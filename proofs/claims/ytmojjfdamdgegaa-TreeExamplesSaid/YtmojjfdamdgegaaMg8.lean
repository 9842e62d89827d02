/- The text NetE. -/
import Derived.Test.YtmojjfdamdgegaaMg7
/- The contract of net.In. -/
namespace Go.Proofs.Ytmojjfdamdgegaa
open Go.RowKit Go.Shelf
set_option linter.unusedVariables false
attribute [local go_sem] Oper.semAt_some

theorem info_int : (Try.prog.info? 3).map (fun i => (i.zero, i.size, i.bytes)) = some (some (.int .i64 0), 1, 8) := by kernel_rfl

/-- A slice of the call's own and an error code come back; nothing that lay has turned. -/
def IntsE (w : World) (xs : List Int) (er : Int) (e : Ending) (w' : World) : Prop :=
  ∃ v, e = .returned (.tuple #[v, .int .i64 er]) ∧ w'.ownsRow w.heap.size 3 1 v xs.length (xs.map (Value.int .i64)) ∧ Below w.heap.size w w'

theorem ownsRow_ints {w : World} {base : Nat} {v : Value} {xs : List Int} (h : w.ownsRow base 3 1 v xs.length (xs.map (Value.int .i64))) : ∃ A c, v = .slice A xs.length c ∧ IntsR w w.heap.size A xs := by
  rcases h.2 with ⟨rfl, h0⟩ | ⟨g, cap, cur, rfl, hb, hg, h1, h2, h3, h4⟩
  · obtain rfl : xs = [] := List.eq_nil_of_length_eq_zero h0
    exact ⟨none, 0, rfl, IntsR.nil_⟩
  · refine ⟨_, _, rfl, fun hn => ⟨g, 0, rfl, (Array.getElem?_eq_some_iff.1 hg).1, fun i hi => ?_⟩⟩
    have hcell : w.cell? ⟨g, 0 + i, none⟩ = cur[i]? := by simp [World.cell?, hg]
    rw [hcell]
    have : (cur.toList.take (xs.length * 1))[i]? = (xs.map (Value.int .i64))[i]? := by rw [h4]
    rw [List.getElem?_take_of_lt (by omega)] at this
    rw [← Array.getElem?_toList, this]
    simp [hi]

theorem ownsRow_base {w : World} {base base' : Nat} {e : TypeId} {size : Nat} {v : Value} {n : Nat} {xs : List Value} (h : w.ownsRow base e size v n xs) (hb : base' ≤ base) : w.ownsRow base' e size v n xs := by
  obtain ⟨h1, h2⟩ := h
  refine ⟨h1, ?_⟩
  rcases h2 with h2 | ⟨g, cap, cur, hv, hg, r⟩
  · exact .inl h2
  · exact .inr ⟨g, cap, cur, hv, by omega, r⟩

theorem box_append {W w1 : World} {base B : Nat} {t e : TypeId} {size : Nat} {v v' : Value} {k m : Nat} {xs ys : List Value} {tmp : Obj}
    (hv : Boxed W B t v) (hte : t ≠ e) (hrow : W.ownsRow base e size v k xs) (hbase : base ≤ W.heap.size) (hB : B < base)
    (hown' : w1.ownsRow base e size v' m ys) (hgrow : (W.alloc tmp).grownBy w1 v.ownBlock) :
    Boxed w1 B t v ∧ Boxed (w1.setCell ⟨B, 0, none⟩ v') B t v' ∧ (w1.setCell ⟨B, 0, none⟩ v').ownsRow base e size v' m ys ∧ KeepsOthers W (w1.setCell ⟨B, 0, none⟩ v') ∧
      KeptBut base B B W (w1.setCell ⟨B, 0, none⟩ v') ∧ Below B W (w1.setCell ⟨B, 0, none⟩ v') := by
  have hv1 : Boxed w1 B t v := (hv.alloc tmp).kept hgrow (hv.not_row hte hrow)
  have hrb : ∀ j, v.ownBlock = some j → base ≤ j := fun j ej => by
    rcases hrow.2 with ⟨rfl, _⟩ | ⟨g, cap, cur, rfl, hb, _, _⟩
    · simp [Value.ownBlock] at ej
    · obtain rfl : g = j := by simpa [Value.ownBlock] using ej
      exact hb
  have hbl : Below base W w1 := ((Below.refl base W).alloc hbase tmp).grown hgrow (by simp; omega) hrb
  refine ⟨hv1, hv1.set v', hown'.kept (grownBy_setCell' w1 B v') (.inr (hv1.not_row hte hown').symm), ?_, ?_, (hbl.mono (B' := B) (by omega)).setCell (p := ⟨B, 0, none⟩) (Nat.le_refl _) v'⟩
  · refine ((KeepsOthers.alloc W tmp).trans (KeepsOthers.of_grownBy hgrow fun j o ej hj => ?_)).trans (KeepsOthers.setCell _ _ _)
    rcases (hrow.alloc tmp).2 with ⟨rfl, _⟩ | ⟨g, cap, cur, rfl, _, hgb, _⟩
    · simp [Value.ownBlock] at ej
    · obtain rfl : g = j := by simpa [Value.ownBlock] using ej
      rw [hgb] at hj; cases hj; rfl
  · intro j hj hne _
    exact (Below.heap_setCell w1 ⟨B, 0, none⟩ v' j hne).trans (hbl.block j hj)

set_option maxRecDepth 100000 in
set_option maxHeartbeats 2000000 in
theorem in_ok (nb : Int) (A A' : Option Addr) (c c' : Nat) (ls : List Ln) (out : List Int) (w : World) (hl : LinesR w w.heap.size A ls) (ho : IntsR w w.heap.size A' out)
    (hm : ls.length ≤ 1000000) (hn : out.length ≤ 1000000) (he : outsE nb ls out = 0) :
    Calls Try.prog 30 #[.agg #[.int .i64 nb, .slice A ls.length c], .slice A' out.length c'] w (IntsE w (svcL out ls.length) 0) := by
  obtain ⟨i0, hi, hz0, hz1, hz2⟩ := info_parts info_int
  have hcall := fun W hl ho => outs_any nb A A' c c' ls out W hl ho hm hn
  rw [he] at hcall
  have HCALL := Lib.hid hcall
  have HL := Lib.hid hl
  have HO := Lib.hid ho
  clear hcall hl ho he
  refine (callsIn_wide (n := 8)).1 ?_
  refine callsIn_of_wp_marks Try.func30 rfl trivial ?_ rfl
  simp only [Try.ntmps30, List.size_toArray, List.length_cons, List.length_nil, Nat.reduceAdd, Nat.reduceSub, Array.replicate_succ, Array.replicate_zero, List.push_toArray, List.append_toArray, List.nil_append, List.cons_append]
  gi_wp2_with (first
    | (refine ⟨trivial, ?_⟩; gi_at_call 25; refine (callsIn_wide.2 (HCALL.out _ (by exact (HL.out.alloc (Nat.le_refl _) _).more (by simp)) (by exact (HO.out.alloc (Nat.le_refl _) _).more (by simp)))).mono ?_; rintro e w1 ⟨rfl, hb1⟩
       have c0 : w1.cell? ⟨w.heap.size, 0, none⟩ = some (.int .i64 nb) := (hb1.cell (by simp)).trans (by simp)
       have c1 : w1.cell? ⟨w.heap.size, 1, none⟩ = some (.slice A ls.length c) := (hb1.cell (by simp)).trans (by simp)
       have hz : w.heap.size < w1.heap.size := by have := hb1.size; simp at this; omega)
    | (refine ⟨trivial, ?_⟩; gi_at_call 46; refine (inService_in _ _ _ _ A A' c c' _ _ _ rfl rfl).mono ?_; rintro e w' ⟨rfl, rfl⟩))
  have hb0 : Below w.heap.size w w1 := ((Below.refl _ _).alloc (Nat.le_refl _) _).trans (hb1.mono (by simp))
  have bO := Boxed.new w1 25 (.slice none 0 0)
  have hB0 : Below w1.heap.size w1 (((w1.alloc (.cells #[.slice none 0 0] 25)).alloc (.cells #[.int .i64 nb, .slice A ls.length c] 24)).alloc (.cells #[.slice A' out.length c'] 25)) :=
    (((Below.refl _ w1).alloc (Nat.le_refl _) _).alloc (by simp) _).alloc (by simp; omega) _
  have hO1 : IntsR w1 w.heap.size A' out := HO.out.below hb0
  have bN : (((w1.alloc (.cells #[.slice none 0 0] 25)).alloc (.cells #[.int .i64 nb, .slice A ls.length c] 24)).alloc (.cells #[.slice A' out.length c'] 25)).cell? ⟨w1.heap.size + 1, 1, none⟩ = some (.slice A ls.length c) := cell_alloc_of _ (cell_alloc_at _ _ _ _ _ (by simp))
  have bP : (((w1.alloc (.cells #[.slice none 0 0] 25)).alloc (.cells #[.int .i64 nb, .slice A ls.length c] 24)).alloc (.cells #[.slice A' out.length c'] 25)).cell? ⟨w1.heap.size + 2, 0, none⟩ = some (.slice A' out.length c') := cell_alloc_at _ _ _ _ _ (by simp)
  clear hb1
  refine wpIn_rangeFunc_ownG rfl (by omega) (gf := 59) (lb := #[.pointer (some ⟨w1.heap.size + 1, 0, none⟩), .pointer (some ⟨w1.heap.size + 2, 0, none⟩)]) (by simp [Act.eval]) trivial (enters_of Try.func59 (by kernel_rfl) rfl)
    (inService_stops (8 - 1) (by omega) (w1.heap.size + 1) (w1.heap.size + 2) w.heap.size (w1.heap.size + 3) w1.heap.size w1.heap.size ls.length A A' c c' out hm hn (by omega) (by omega) (by omega) (by omega) (by omega) (by omega) (by omega) (by omega) (by omega) _ (by simp) bN bP (hO1.below (hB0.mono (by omega)))) KeptBut.trans (keptBut_put (by simp)) (Below.refl _ _) (fun _ => rfl)
    (fun pre W => (∃ v, Boxed W w1.heap.size 25 v ∧ W.ownsRow (w1.heap.size + 3) 3 1 v pre.length (pre.map (Value.int .i64)) ∧ True) ∧ Below w1.heap.size w1 W ∧ w1.heap.size + 3 ≤ W.heap.size)
    (fun _ _ _ => False)
    (OwnFrom.and (Own.from (holdsRow_own (w1.heap.size + 3) w1.heap.size 25 3 1 (fun pre : List Int => pre.length) (fun pre => pre.map (Value.int .i64)) (fun _ _ => True)) _) (OwnFrom.and (ownFrom_below (Nat.le_refl _) (by simp; omega)) (fun _ _ _ _ hs hg _ => Nat.le_trans hs hg.size)))
    (fun _ _ _ _ _ hs _ _ => hs)
    ⟨⟨_, (bO.alloc _).alloc _, World.ownsRow_nil _ _ _ _, trivial⟩, hB0, by simp⟩
    (fun x => { tmps := #[.agg #[.int .i64 nb, .slice A ls.length c], .slice A' out.length c', .pointer (some ⟨w.heap.size, 0, none⟩), undef, .slice none 0 0, .int .i64 0, .int .i64 0, .pointer (some ⟨w1.heap.size, 0, none⟩), .int .i64 x, .agg #[.int .i64 nb, .slice A ls.length c], .slice A' out.length c', .int .i64 0, .int .i64 0, .bool false, undef, .agg #[.int .i64 nb, .slice A ls.length c], .slice A' out.length c', .func (.func 59) #[] #[.pointer (some ⟨w1.heap.size + 1, 0, none⟩), .pointer (some ⟨w1.heap.size + 2, 0, none⟩)], .int .i64 x, undef, undef, undef, undef, undef], defers := [] }) ?assign ?body ?done ?stop
  case assign =>
    intro l x W K hK
    gi_wp2
    exact hK
  case body =>
    rintro l pre x W ⟨⟨v, hv, hrow, _⟩, hB, hz3⟩ hlt
    have hc := hv.cell
    gi_wp2_with (gi_at_builtin; refine wpListIn_append_own _ rfl _ _ 25 rfl (w1.heap.size + 3) 3 i0 (.int .i64 0) 1 8 Try.underlying25 hi hz0 hz1 hz2 rfl (by decide) _ _ _ rfl (hrow.alloc _) ⟨W.heap.size, 0, none⟩ 1 1 [.int .i64 x] rfl rfl (cell_one_new _ _ _) (by simp [Value.oneCell']) (by unfold maxLen; omega) (by omega) (by simp; omega) ?_; intro v' w2 hown' hgrow _; obtain ⟨g', cap', rfl⟩ := ownsRow_succ hown'; obtain ⟨hv1, hv2, hr2, hk2, hkp, hb2⟩ := box_append hv (by decide) hrow hz3 (by omega) hown' hgrow; have hc1 := hv1.cell; have hf1 := hv1.frozen)
    exact ⟨hk2.from _, hkp, ⟨_, hv2, by simpa using hr2, trivial⟩, hB.trans hb2, Nat.le_trans hz3 hk2.size⟩
  case done =>
    rintro D ys W hD rfl ⟨⟨v, hv, hrow, _⟩, hB, hz3⟩ hK
    have hc := hv.cell
    gi_wp2
    refine ⟨by simp, .inl ⟨_, _, rfl, run_takeDeferred hK, ?_⟩⟩
    refine ⟨_, results_tmp2 rfl _ _ _, v, rfl, ?_, ?_⟩
    · have := ownsRow_putObj hrow (.deferred none) hK rfl
      exact ownsRow_base this (by omega)
    · exact hb0.trans ((hB.trans (belowK_b (w := w1) (Nat.le_refl _) W D _ _ (by simp at hD; omega) hK rfl rfl)).mono (by omega))
  case stop =>
    rintro D c pre W _ _ h _
    exact h.elim

/-- What In answers. -/
def inL (nb : Int) (ls : List Ln) (out : List Int) : List Int := if outsE nb ls out = 0 then svcL out ls.length else []

set_option maxHeartbeats 1000000 in
theorem in_any (nb : Int) (A A' : Option Addr) (c c' : Nat) (ls : List Ln) (out : List Int) (w : World) (hl : LinesR w w.heap.size A ls) (ho : IntsR w w.heap.size A' out)
    (hm : ls.length ≤ 1000000) (hn : out.length ≤ 1000000) :
    Calls Try.prog 30 #[.agg #[.int .i64 nb, .slice A ls.length c], .slice A' out.length c'] w (IntsE w (inL nb ls out) (outsE nb ls out)) := by
  by_cases he : outsE nb ls out = 0
  · rw [inL, if_pos he, he]
    exact in_ok nb A A' c c' ls out w hl ho hm hn he
  · rw [inL, if_neg he]
    have hcall := fun W hl ho => outs_any nb A A' c c' ls out W hl ho hm hn
    have he' : (outsE nb ls out != 0) = true := by rw [bne_iff_ne]; exact he
    generalize outsE nb ls out = e at *
    have HCALL := Lib.hid hcall
    have HL := Lib.hid hl
    have HO := Lib.hid ho
    clear hl ho hcall he
    go_enter Try.func30, Try.ntmps30
    go_wp2_with (go_at_call 25; refine (HCALL.out _ (by exact (HL.out.alloc (Nat.le_refl _) _).more (by simp)) (by exact (HO.out.alloc (Nat.le_refl _) _).more (by simp))).mono ?_; rintro e w1 ⟨rfl, hb1⟩)
    go_ret2
    exact ⟨_, rfl, World.ownsRow_nil _ _ _ _, ((Below.refl _ _).alloc (Nat.le_refl _) _).trans (hb1.mono (by simp))⟩
end Go.Proofs.Ytmojjfdamdgegaa
