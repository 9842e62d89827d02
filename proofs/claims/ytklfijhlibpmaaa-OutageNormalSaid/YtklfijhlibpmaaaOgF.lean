/- outage.affected, Ahead, Now, Trips. -/
import Derived.Test.YtklfijhlibpmaaaOgE
import Derived.Test.YtklfijhlibpmaaaSrtO
namespace Go.Proofs.Ytklfijhlibpmaaa
open Go.RowKit Go.Shelf
set_option linter.unusedVariables false
attribute [local go_sem] Oper.semAt_some

/-- The lines of those kinds. -/
def selL (ks : List Int) (l : List Og) : List Int := (l.filter fun o => decide (o.1 ∈ ks)).map (·.2.1)
/-- The line set of some kinds in an hour. -/
def affL (ks : List Int) (l : List Og) (h : Int) : List Int := Lib.compact ((selL ks (l.filter (covB · h))).mergeSort fun x y => decide (x ≤ y))
theorem selL_yes {ks : List Int} {o : Og} (h : o.1 ∈ ks) (l : List Og) : selL ks (l ++ [o]) = selL ks l ++ [o.2.1] := by simp [selL, h]
theorem selL_no {ks : List Int} {o : Og} (h : ¬ o.1 ∈ ks) (l : List Og) : selL ks (l ++ [o]) = selL ks l := by simp [selL, h]
theorem selL_length (ks : List Int) (l : List Og) : (selL ks l).length ≤ l.length := by unfold selL; rw [List.length_map]; exact List.length_filter_le _ _
theorem affL_length (ks : List Int) (l : List Og) (h : Int) : (affL ks l h).length ≤ l.length := by
  refine Nat.le_trans (Lib.compact_length_le _) ?_
  rw [List.length_mergeSort]
  exact Nat.le_trans (selL_length _ _) (List.length_filter_le _ _)

theorem box_app {W w1 : World} {base n₁ B : Nat} {t e : TypeId} {size : Nat} {v v' : Value} {k m : Nat} {xs ys : List Value} {tmp : Obj}
    (hv : Boxed W B t v) (hte : t ≠ e) (hrow : W.ownsRow base e size v k xs) (hbase : base ≤ W.heap.size) (hB : B < base)
    (hown' : w1.ownsRow base e size v' m ys) (hgrow : (W.alloc tmp).grownBy w1 v.ownBlock) :
    Boxed w1 B t v ∧ Boxed (w1.setCell ⟨B, 0, none⟩ v') B t v' ∧ (w1.setCell ⟨B, 0, none⟩ v').ownsRow base e size v' m ys ∧ KeepsOthers W (w1.setCell ⟨B, 0, none⟩ v') ∧
      KeptS base B W (w1.setCell ⟨B, 0, none⟩ v') ∧ Below B W (w1.setCell ⟨B, 0, none⟩ v') := by
  have hv1 : Boxed w1 B t v := (hv.alloc tmp).kept hgrow (hv.not_row hte hrow)
  have hrb : ∀ j, v.ownBlock = some j → base ≤ j := fun j ej => by
    rcases hrow.2 with ⟨rfl, _⟩ | ⟨g, cap, cur, rfl, hb, _, _⟩
    · simp [Value.ownBlock] at ej
    · obtain rfl : g = j := by simpa [Value.ownBlock] using ej
      exact hb
  have hbl : Below base W w1 := ((Below.refl base W).alloc hbase tmp).grown hgrow (by simp; omega) hrb
  refine ⟨hv1, hv1.set v', hown'.kept (grownBy_setCell' w1 B v') (.inr (hv1.not_row hte hown').symm), ?_, ⟨?_, ?_⟩, (hbl.mono (B' := B) (by omega)).setCell (p := ⟨B, 0, none⟩) (Nat.le_refl _) v'⟩
  · refine ((KeepsOthers.alloc W tmp).trans (KeepsOthers.of_grownBy hgrow fun j o ej hj => ?_)).trans (KeepsOthers.setCell _ _ _)
    rcases (hrow.alloc tmp).2 with ⟨rfl, _⟩ | ⟨g, cap, cur, rfl, _, hgb, _⟩
    · simp [Value.ownBlock] at ej
    · obtain rfl : g = j := by simpa [Value.ownBlock] using ej
      rw [hgb] at hj; cases hj; rfl
  · simpa [World.setCell] using hbl.size
  · intro j hj hne
    exact (Below.heap_setCell w1 ⟨B, 0, none⟩ v' j hne).trans (hbl.block j hj)

/-- A block that holds one outage. -/
def BoxO (W : World) (B : Nat) (x : Og) : Prop := W.heap[B]? = some (.cells #[.int .u8 x.1, .int .i64 x.2.1, .int .i64 x.2.2.1, .int .i64 x.2.2.2] 27 (0, 0))
theorem KdR.below {w w' : World} {B : Nat} {b off : Nat} {ks : List Int} (h : KdR w (some ⟨b, off, none⟩) ks) (hb : Below B w w') (hlt : b < B) : KdR w' (some ⟨b, off, none⟩) ks := fun hn => by
  obtain ⟨b', off', e, hc⟩ := h hn
  injection e with e
  injection e with e1 e2
  subst e1 e2
  exact ⟨_, _, rfl, fun i hi => (hb.cell (p := ⟨b, off + i, none⟩) hlt).trans (hc i hi)⟩
theorem row_other {W w' : World} {base D : Nat} {e : TypeId} {size : Nat} {v : Value} {k : Nat} {xs : List Value} {o : Obj} (h : W.ownsRow base e size v k xs) (hg : W.grownBy w' v.ownBlock) (hD : W.heap[D]? = some o) (ho : o.isCells = false) : w'.heap[D]? = some o := by
  refine (hg.block D (Array.getElem?_eq_some_iff.1 hD).1 fun e' => ?_).trans hD
  rcases h.2 with ⟨rfl, _⟩ | ⟨g, cap, cur, rfl, _, hgb, _⟩
  · simp [Value.ownBlock] at e'
  · obtain rfl : D = g := by simpa [Value.ownBlock] using e'
    rw [hgb] at hD; cases hD; cases ho

set_option maxRecDepth 100000 in
set_option maxHeartbeats 4000000 in
theorem affected_any (A : Option Addr) (c : Nat) (ls : List Og) (h : Int) (kb ko ck : Nat) (ks : List Int) (w : World) (hl : OgsR w w.heap.size A ls) (hk : KdR w (some ⟨kb, ko, none⟩) ks) (hkb : kb < w.heap.size) (hm : ls.length ≤ 1000000) (hm2 : ks.length ≤ 1000) :
    Calls Try.prog 30 #[.slice A ls.length c, .int .i64 h, .slice (some ⟨kb, ko, none⟩) ks.length ck] w (RowE w (affL ks ls h)) := by
  obtain ⟨i0, hi, hz0, hz1, hz2⟩ := info_parts info_int
  have HL := Lib.hid hl
  have HK := Lib.hid hk
  clear hl hk
  refine (callsIn_wide (n := 8)).1 ?_
  refine callsIn_of_wp_marks Try.func30 rfl trivial ?_ rfl
  simp only [Try.ntmps30, List.size_toArray, List.length_cons, List.length_nil, Nat.reduceAdd, Nat.reduceSub, Array.replicate_succ, Array.replicate_zero, List.push_toArray, List.append_toArray, List.nil_append, List.cons_append]
  gi_wp2_with (refine ⟨trivial, ?_⟩; gi_at_call 36; refine (covering_in _ _ A c _ h _ rfl).mono ?_; rintro e w' ⟨rfl, rfl⟩)
  have bK0 := Boxed.new w 56 (.slice (some ⟨kb, ko, none⟩) ks.length ck)
  have bS0 := Boxed.new (w.alloc (.cells #[.slice (some ⟨kb, ko, none⟩) ks.length ck] 56)) 29 (.slice none 0 0)
  have bL0 := Boxed.new ((w.alloc (.cells #[.slice (some ⟨kb, ko, none⟩) ks.length ck] 56)).alloc (.cells #[.slice none 0 0] 29)) 22 (.slice A ls.length c)
  have bH0 := Boxed.new (((w.alloc (.cells #[.slice (some ⟨kb, ko, none⟩) ks.length ck] 56)).alloc (.cells #[.slice none 0 0] 29)).alloc (.cells #[.slice A ls.length c] 22)) 3 (.int .i64 h)
  have bK1 := ((bK0.alloc (.cells #[.slice none 0 0] 29)).alloc (.cells #[.slice A ls.length c] 22)).alloc (.cells #[.int .i64 h] 3)
  have bS1 := (bS0.alloc (.cells #[.slice A ls.length c] 22)).alloc (.cells #[.int .i64 h] 3)
  have bL1 := bL0.alloc (.cells #[.int .i64 h] 3)
  simp only [World.size_alloc] at bS1 bL1 bH0
  have hB0 : Below w.heap.size w ((((w.alloc (.cells #[.slice (some ⟨kb, ko, none⟩) ks.length ck] 56)).alloc (.cells #[.slice none 0 0] 29)).alloc (.cells #[.slice A ls.length c] 22)).alloc (.cells #[.int .i64 h] 3)) :=
    ((((Below.refl _ w).alloc (Nat.le_refl _) _).alloc (by simp) _).alloc (by simp; omega) _).alloc (by simp; omega) _
  have hsz : ((((w.alloc (.cells #[.slice (some ⟨kb, ko, none⟩) ks.length ck] 56)).alloc (.cells #[.slice none 0 0] 29)).alloc (.cells #[.slice A ls.length c] 22)).alloc (.cells #[.int .i64 h] 3)).heap.size = w.heap.size + 4 := by simp
  obtain ⟨W0, hW0⟩ : ∃ W0, (((w.alloc (.cells #[.slice (some ⟨kb, ko, none⟩) ks.length ck] 56)).alloc (.cells #[.slice none 0 0] 29)).alloc (.cells #[.slice A ls.length c] 22)).alloc (.cells #[.int .i64 h] 3) = W0 := ⟨_, rfl⟩
  rw [hW0] at bK1 bS1 bL1 bH0 hB0 hsz ⊢
  clear hW0 bK0 bS0 bL0
  have HL1 := Lib.hid (HL.out.below hB0)
  refine wpIn_rangeFunc_ownH rfl (by omega) (gf := 50) (lb := #[.pointer (some ⟨w.heap.size + 2, 0, none⟩), .pointer (some ⟨w.heap.size + 3, 0, none⟩)]) (by simp [Act.eval]) trivial (enters_of Try.func50 (by kernel_rfl) rfl)
    (covering_stops (8 - 1) (by omega) (w.heap.size + 2) (w.heap.size + 3) w.heap.size (w.heap.size + 4) (w.heap.size + 1) A c ls h hm (by omega) (by omega) (by omega) (by omega) (by omega) (by omega) W0 (by omega) bL1.cell bH0.cell HL1.out) KeptS.trans (keptS_put (by omega)) (Below.refl _ _) (fun _ => rfl)
    (fun pre W => (∃ v, Boxed W (w.heap.size + 1) 29 v ∧ W.ownsRow (w.heap.size + 4) 3 1 v (selL ks pre).length ((selL ks pre).map (Value.int .i64)) ∧ True) ∧ (Boxed W w.heap.size 56 (.slice (some ⟨kb, ko, none⟩) ks.length ck) ∧ (Below w.heap.size w W ∧ w.heap.size + 4 ≤ W.heap.size)))
    (fun _ _ _ => False)
    (OwnFrom.and (Own.from (holdsRow_own (w.heap.size + 4) (w.heap.size + 1) 29 3 1 (fun pre : List Og => (selL ks pre).length) (fun pre => (selL ks pre).map (Value.int .i64)) (fun _ _ => True)) _) (OwnFrom.and (Own.from (boxed_own _ _ _) _) (OwnFrom.and (ownFrom_below (Nat.le_refl _) (by omega)) (fun _ _ _ _ hs hg _ => Nat.le_trans hs hg.size))))
    (fun _ _ _ _ _ hs _ _ => hs)
    ⟨⟨_, bS1, World.ownsRow_nil _ _ _ _, trivial⟩, bK1, hB0, by omega⟩
    (fun x a' W => ∃ Bx, w.heap.size + 4 ≤ Bx ∧ BoxO W Bx x ∧ a' = { tmps := #[.slice A ls.length c, .int .i64 h, .slice (some ⟨kb, ko, none⟩) ks.length ck, undef, undef, .pointer (some ⟨w.heap.size, 0, none⟩), .slice none 0 0, .pointer (some ⟨w.heap.size + 1, 0, none⟩), .pointer (some ⟨Bx, 0, none⟩), .slice A ls.length c, .int .i64 h, .func (.func 50) #[] #[.pointer (some ⟨w.heap.size + 2, 0, none⟩), .pointer (some ⟨w.heap.size + 3, 0, none⟩)], ogV x, undef, undef, undef, undef, undef, undef, undef, undef, undef, undef, undef, undef, undef], defers := [] })
    (fun x a' _ X Y row hs hg hr => by
      obtain ⟨Bx, h1, h2, h3⟩ := hs
      refine ⟨Bx, h1, (hg.block Bx (Array.getElem?_eq_some_iff.1 h2).1 fun e' => ?_).trans h2, h3⟩
      obtain ⟨_, o, ho, hc⟩ := hr Bx e'.symm
      rw [show X.heap[Bx]? = _ from h2] at ho; cases ho; cases hc)
    ?assign ?body ?done ?stop
  case assign =>
    rintro l pre x W K ⟨⟨v, hv, hrow, _⟩, hbk, hB, hz3⟩ hK
    obtain ⟨ok, ox, of', ot⟩ := x
    simp only [ogV] at hK ⊢
    have HK := Lib.hid hK
    clear hK
    gi_wp2
    exact HK.out _ _ ((KeepsOthers.alloc _ _).from _) ((KeptS.refl _ _ W).alloc hz3 _) ⟨⟨v, hv.alloc _, hrow.alloc _, trivial⟩, hbk.alloc _, hB.alloc hB.size _, by simp; omega⟩ ⟨W.heap.size, hz3, World.alloc_heap_new W _, rfl⟩
  case body =>
    rintro l pre x a' W hlw ⟨r, hr⟩ ⟨⟨v, hv, hrow, _⟩, hbk, hB, hz3⟩ ⟨Bx, hBx, hbo, rfl⟩ hlt
    have hc := hv.cell
    have ck' := hbk.cell
    obtain ⟨ok, ox, of', ot⟩ := x
    have x0 : W.cell? ⟨Bx, 0, none⟩ = some (.int .u8 ok) := by simp [World.cell?, show W.heap[Bx]? = _ from hbo]
    have x1 : W.cell? ⟨Bx, 1, none⟩ = some (.int .i64 ox) := by simp [World.cell?, show W.heap[Bx]? = _ from hbo]
    have hBxl : Bx < W.heap.size := (Array.getElem?_eq_some_iff.1 hbo).1
    have hkd : KdR W (some ⟨kb, ko, none⟩) ks := HK.out.below hB hkb
    have HC := Lib.hid (contains_any (some ⟨kb, ko, none⟩) ck ks ok W hkd (by omega))
    clear hkd
    have hsl := selL_length ks pre
    simp only [ogV]
    by_cases hin : ok ∈ ks
    · have hin' : decide (ok ∈ ks) = true := decide_eq_true hin
      have HS := Lib.hid (selL_yes (o := (ok, ox, of', ot)) hin pre)
      rw [hin'] at HC
      clear hin hin'
      have HW := Lib.hid (And.intro hbk hbo)
      clear hbo
      gi_wp2_with (first
        | (refine ⟨trivial, ?_⟩; gi_at_call 37; refine (CallsIn.inRound l (callsIn_wide.2 HC.out)).mono ?_; rintro e w' ⟨rfl, rfl⟩)
        | (gi_at_builtin; refine wpListIn_append_own _ rfl _ _ 29 rfl (w.heap.size + 4) 3 i0 (.int .i64 0) 1 8 Try.underlying29 hi hz0 hz1 hz2 rfl (by decide) _ _ _ rfl (hrow.alloc _) ⟨w'.heap.size, 0, none⟩ 1 1 [.int .i64 ox] rfl rfl (cell_one_new _ _ _) (by simp [Value.oneCell']) (by unfold maxLen; omega) (by omega) (by simp; omega) ?_; intro v' w2 hown' hgrow _; obtain ⟨g', cap', rfl⟩ := ownsRow_succ hown'; obtain ⟨hv1, hv2, hr2, hk2, hkp, hb2⟩ := box_app (n₁ := w.heap.size + 4) hv (by decide) hrow hz3 (by omega) hown' hgrow; have hc1 := hv1.cell; have hf1 := hv1.frozen))
      refine ⟨hk2.from _, hkp, ⟨_, hv2, by rw [HS.out]; simpa using hr2, trivial⟩, ?_, hB.trans (hb2.mono (by omega)), Nat.le_trans hz3 hk2.size⟩
      exact (hkp.kept w.heap.size (by omega) (by omega)).trans HW.out.1
    · have hin' : decide (ok ∈ ks) = false := decide_eq_false hin
      have HS := Lib.hid (selL_no (o := (ok, ox, of', ot)) hin pre)
      rw [hin'] at HC
      clear hin hin'
      have HW := Lib.hid (And.intro hbk hbo)
      clear hbo
      gi_wp2_with (refine ⟨trivial, ?_⟩; gi_at_call 37; refine (CallsIn.inRound l (callsIn_wide.2 HC.out)).mono ?_; rintro e w' ⟨rfl, rfl⟩)
      exact ⟨KeepsFrom.refl _ _, KeptS.refl _ _ _, ⟨_, hv, by rw [HS.out]; exact hrow, trivial⟩, hbk, hB, hz3⟩
  case done =>
    rintro D ys W hD rfl ⟨⟨v, hv, hrow, _⟩, hbk, hB, hz3⟩ hK
    have hc := hv.cell
    have hsl := selL_length ks (ls.filter (covB · h))
    have hfl : (ls.filter (covB · h)).length ≤ ls.length := List.length_filter_le _ _
    have hlt : ∀ j, v.ownBlock = some j → w.heap.size ≤ j := fun j ej => by have := (hrow.lt j ej).1; omega
    have HS := Lib.hid (sort_own (w.heap.size + 4) v (selL ks (ls.filter (covB · h))) W hrow (by omega))
    have HA := Lib.hid (show affL ks ls h = Lib.compact ((selL ks (ls.filter (covB · h))).mergeSort fun x y => decide (x ≤ y)) from rfl)
    obtain ⟨Av, cv, rfl, _⟩ := ownsRow_ints hrow
    generalize selL ks (ls.filter (covB · h)) = xs at *
    gi_wp2_with (first
      | (refine ⟨trivial, ?_⟩; gi_at_call 38; refine (callsIn_wide.2 HS.out).mono ?_
         rintro e w3 ⟨rfl, hown3, hg3⟩
         have hv3 := hv.kept hg3 (hv.not_row (by decide) hrow)
         have hc3 := hv3.cell
         have hK3 := row_other hrow hg3 hK rfl
         have hB3 := hB.grown hg3 (by omega) hlt)
      | (refine ⟨trivial, ?_⟩; gi_at_call 39; refine (callsIn_wide.2 (compact_own (w.heap.size + 4) (.slice Av xs.length cv) (xs.mergeSort fun x y => decide (x ≤ y)) w3 (by rw [List.length_mergeSort]; exact hown3) (by rw [List.length_mergeSort]; omega))).mono ?_
         rintro e w4 ⟨v4, rfl, hown4, hg4⟩
         have hK4 := row_other hown3 hg4 hK3 rfl
         have hB4 := hB3.grown hg4 (by have := hB3.size; omega) hlt))
    refine ⟨by simp, .inl ⟨_, _, rfl, run_takeDeferred hK4, ?_⟩⟩
    refine ⟨_, results_tmp rfl _ _ _, v4, rfl, ?_, ?_⟩
    · rw [HA.out]
      exact ownsRow_base (ownsRow_putObj hown4 (.deferred none) hK4 rfl) (by omega)
    · exact hB4.trans (belowK_b (w := w) (Nat.le_refl _) w4 D _ _ (by omega) hK4 rfl rfl)
  case stop =>
    rintro D c pre W _ _ h _
    exact h.elim
end Go.Proofs.Ytklfijhlibpmaaa
