/- pylonref14.Turn. -/
import Derived.Test.YtcacaiakkfgdpaaAnyX
import Derived.Test.YtcacaiakkfgdpaaLawD
import Derived.Test.YtcacaiakkfgdpaaRevB
import Derived.Deep.DeepCutAuto
namespace Go.Proofs.Ytcacaiakkfgdpaa
open Go.RowKit
set_option linter.unusedVariables false

theorem ownsRow_setNe {w : World} {base : Nat} {e e' : TypeId} {size : Nat} {v : Value} {n : Nat} {xs : List Value} (h : w.ownsRow base e size v n xs) {b i : Nat} {cs : Array Value} (hb : w.heap[b]? = some (.cells cs e')) (hne : e ≠ e') (u : Value) : (w.setCell ⟨b, i, none⟩ u).ownsRow base e size v n xs := by
  refine ⟨h.1, ?_⟩
  rcases h.2 with h' | ⟨g, cap, cur, h1, h2, h3, h4⟩
  · exact .inl h'
  · refine .inr ⟨g, cap, cur, h1, h2, (Below.heap_setCell w _ u g ?_).trans h3, h4⟩
    intro (e : g = b)
    subst e
    rw [hb] at h3
    injection h3 with h3
    injection h3 with _ h3
    exact hne h3.symm

theorem set_same {l : List Value} {i : Nat} {v : Value} (h : l[i]? = some v) : l.set i v = l := by
  refine List.ext_getElem? fun j => ?_
  rw [List.getElem?_set]
  split
  · rename_i e; subst e; rw [h]; split
    · rfl
    · rename_i hn; exact absurd (List.getElem?_eq_some_iff.1 h).1 hn
  · rfl

structure TuI (w2 : World) (nb : Int) (A : Option Addr) (m c s : Nat) (W : World) : Prop where
  x0 : W.cell? ⟨s, 0, none⟩ = some (.int .i64 nb)
  x1 : W.cell? ⟨s, 1, none⟩ = some (.slice A m c)
  below : Below w2.heap.size w2 W
def TuF (nb : Int) (A : Option Addr) (ls : List Ln) (c s B : Nat) (done : Nat → Prop) (j : Nat) (v : Value) (W : World) : Prop :=
  match j with
  | 0 => v = .pointer (some ⟨s, 0, none⟩)
  | 1 => v = .int .i64 nb
  | 2 => v = .pointer (some ⟨s, 1, none⟩)
  | 3 => v = .slice A ls.length c
  | 4 => W.ownsRow B 51 4 v ls.length (lnCells ls)
  | 5 => ∃ u, v = .agg #[.int .i64 nb, u] ∧ W.ownsRow B 51 4 u ls.length (lnCells ls)
  | 6 => ∃ b, v = .pointer (some ⟨b, 0, none⟩) ∧ B ≤ b ∧ (∃ x y, W.heap[b]? = some (.cells #[x, y] 24)) ∧ (done 7 → W.cell? ⟨b, 0, none⟩ = some (.int .i64 nb) ∧ ∃ u, W.cell? ⟨b, 1, none⟩ = some u ∧ W.ownsRow B 51 4 u ls.length (lnCells ls))
  | _ => True
theorem TuF.up {nb : Int} {A : Option Addr} {ls : List Ln} {c s B j : Nat} {done done' : Nat → Prop} {v : Value} {W W' : World} (h : TuF nb A ls c s B done j v W) (hb : Below W.heap.size W W') (hd : done' 7 → done 7) : TuF nb A ls c s B done' j v W' := by
  unfold TuF at h ⊢
  split at h
  all_goals first
    | exact h
    | exact ownsRow_below h hb
    | (obtain ⟨u, h1, h2⟩ := h; exact ⟨u, h1, ownsRow_below h2 hb⟩)
    | (obtain ⟨b, h1, h2, ⟨x, y, h3⟩, h4⟩ := h
       have hlt : b < W.heap.size := (Array.getElem?_eq_some_iff.1 h3).1
       refine ⟨b, h1, h2, ⟨x, y, (hb.block b hlt).trans h3⟩, fun h => ?_⟩
       obtain ⟨k0, u, k1, k2⟩ := h4 (hd h)
       exact ⟨(hb.cell (p := ⟨b, 0, none⟩) hlt).trans k0, u, (hb.cell (p := ⟨b, 1, none⟩) hlt).trans k1, ownsRow_below k2 hb⟩)

set_option maxRecDepth 100000 in
set_option maxHeartbeats 8000000 in
theorem turn_any (nb : Int) (A : Option Addr) (c : Nat) (ls : List Ln) (x : Nat) (w : World) (hl : LinesR w w.heap.size A ls) (hm : ls.length ≤ 1000000) (hx : x < ls.length) :
    Calls Try.prog 39 #[.agg #[.int .i64 nb, .slice A ls.length c], .int .i64 (x : Int)] w (OwnE w nb (swapAt ls x)) := by
  obtain ⟨j0, hj, hy0, hy1, hy2⟩ := info_parts info_lineR
  have HL := Lib.hid hl
  clear hl
  go_enter Try.func39, Try.ntmps39
  go_wp2_with fail
  have hb0 : Below w.heap.size w ((w.alloc (.cells #[.int .i64 nb, .slice A ls.length c] 24)).alloc (.cells #[.int .i64 0, .slice none 0 0] 24)) := below_alloc2 _ _ _
  have q0 : ((w.alloc (.cells #[.int .i64 nb, .slice A ls.length c] 24)).alloc (.cells #[.int .i64 0, .slice none 0 0] 24)).cell? ⟨w.heap.size, 0, none⟩ = some (.int .i64 nb) := by simp
  have q1 : ((w.alloc (.cells #[.int .i64 nb, .slice A ls.length c] 24)).alloc (.cells #[.int .i64 0, .slice none 0 0] 24)).cell? ⟨w.heap.size, 1, none⟩ = some (.slice A ls.length c) := by simp
  have y0 : ((w.alloc (.cells #[.int .i64 nb, .slice A ls.length c] 24)).alloc (.cells #[.int .i64 0, .slice none 0 0] 24)).cell? ⟨w.heap.size + 1, 0, none⟩ = some (.int .i64 0) := by simp
  have y1 : ((w.alloc (.cells #[.int .i64 nb, .slice A ls.length c] 24)).alloc (.cells #[.int .i64 0, .slice none 0 0] 24)).cell? ⟨w.heap.size + 1, 1, none⟩ = some (.slice none 0 0) := by simp
  have z0 : ((w.alloc (.cells #[.int .i64 nb, .slice A ls.length c] 24)).alloc (.cells #[.int .i64 0, .slice none 0 0] 24)).frozen? ⟨w.heap.size + 1, 0, none⟩ = false := by simp
  have z1 : ((w.alloc (.cells #[.int .i64 nb, .slice A ls.length c] 24)).alloc (.cells #[.int .i64 0, .slice none 0 0] 24)).frozen? ⟨w.heap.size + 1, 1, none⟩ = false := by simp
  have hz : w.heap.size + 2 ≤ ((w.alloc (.cells #[.int .i64 nb, .slice A ls.length c] 24)).alloc (.cells #[.int .i64 0, .slice none 0 0] 24)).heap.size := by simp
  generalize (w.alloc (.cells #[.int .i64 nb, .slice A ls.length c] 24)).alloc (.cells #[.int .i64 0, .slice none 0 0] 24) = w2 at *
  have HL2 := Lib.hid (HL.out.upto hb0)
  clear HL
  refine region_eachX (TuF nb A ls c w.heap.size w2.heap.size) (fun _ => TuI w2 nb A ls.length c w.heap.size) (by kernel_rfl) (by kernel_rfl) ⟨q0, q1, (Below.refl _ _).drew⟩ ?_ ?_
  · intro i o ho done a W hni hcl hI hdep hrest
    have r2 : a.eval (.tmp 2) = .pointer (some ⟨w.heap.size, 0, none⟩) := hrest 2 (apart_of (by kernel_rfl))
    have hc : ∀ v, a.eval (.const v) = v := fun _ => rfl
    clear hrest
    have up : ∀ (W' : World), Below W.heap.size W W' → TuI w2 nb A ls.length c w.heap.size W' := fun W' hb =>
      ⟨(hb.cell (p := ⟨w.heap.size, 0, none⟩) (by have := hI.below.size; show w.heap.size < _; omega)).trans hI.x0, (hb.cell (p := ⟨w.heap.size, 1, none⟩) (by have := hI.below.size; show w.heap.size < _; omega)).trans hI.x1, hI.below.trans (hb.mono hI.below.size)⟩
    have hkeep : i ≠ 7 → ∀ (W' : World), Below W.heap.size W W' → ∀ (j : Nat) (u : Value), done j → TuF nb A ls c w.heap.size w2.heap.size done j u W → TuF nb A ls c w.heap.size w2.heap.size (more done i) j u W' := fun hi W' hb j u _ h => h.up hb (fun hd => hd.resolve_left fun e => hi e.symm)
    rcases i with _ | _ | _ | _ | _ | _ | _ | _ | i
    · injection ho with ho
      subst ho
      refine ⟨fun _ K Q hK => wp_of_value (v := .pointer (some ⟨w.heap.size, 0, none⟩)) ?_ (hK _ _ hI rfl (fun j u hd _ h => hkeep (by omega) _ (Below.refl _ _) j u hd h)), fun hw => by simp [Region.wanted] at hw⟩
      clear hK hkeep hdep up hcl
      generalize a.eval = ρ at *
      simp [go_sem, r2]
    · injection ho with ho
      subst ho
      have e0 : a.eval (.tmp 7) = _ := ((hdep ⟨0, .data⟩ (by simp) rfl).2 _ rfl).1 _ rfl
      have x0 := hI.x0
      refine ⟨fun _ K Q hK => wp_of_value (v := .int .i64 nb) ?_ (hK _ _ hI rfl (fun j u hd _ h => hkeep (by omega) _ (Below.refl _ _) j u hd h)), fun hw => by simp [Region.wanted] at hw⟩
      clear hK hkeep hdep hI up hcl
      generalize a.eval = ρ at *
      simp [go_sem, e0, x0]
    · injection ho with ho
      subst ho
      refine ⟨fun _ K Q hK => wp_of_value (v := .pointer (some ⟨w.heap.size, 1, none⟩)) ?_ (hK _ _ hI rfl (fun j u hd _ h => hkeep (by omega) _ (Below.refl _ _) j u hd h)), fun hw => by simp [Region.wanted] at hw⟩
      clear hK hkeep hdep up hcl
      generalize a.eval = ρ at *
      simp [go_sem, r2]
    · injection ho with ho
      subst ho
      have e0 : a.eval (.tmp 9) = _ := ((hdep ⟨2, .data⟩ (by simp) rfl).2 _ rfl).1 _ rfl
      have x0 := hI.x1
      refine ⟨fun _ K Q hK => wp_of_value (v := .slice A ls.length c) ?_ (hK _ _ hI rfl (fun j u hd _ h => hkeep (by omega) _ (Below.refl _ _) j u hd h)), fun hw => by simp [Region.wanted] at hw⟩
      clear hK hkeep hdep hI up hcl
      generalize a.eval = ρ at *
      simp [go_sem, e0, x0]
    · injection ho with ho
      subst ho
      have e0 : a.eval (.tmp 10) = .slice A ls.length c := ((hdep ⟨3, .data⟩ (by simp) rfl).2 _ rfl).1 _ rfl
      refine ⟨fun _ K Q hK => ?_, fun hw => by simp [Region.wanted] at hw⟩
      have hL : LinesR W W.heap.size A ls := HL2.out.upto hI.below
      refine wp_append_any W (.const (.slice none 0 0)) (.tmp 10) _ rfl w2.heap.size 51 j0 _ 4 32 Try.underlying22 hj hy0 hy1 hy2 rfl (by omega) (.slice none 0 0) 0 [] rfl ⟨by simp, .inl ⟨rfl, rfl⟩⟩ A ls.length c (lnCells ls) e0 hL.toSrcR (one_linesR _) (by simp only [maxLen]; omega) (by omega) hI.below.size ?_
      intro v w' hown hg _
      have hb : Below W.heap.size W w' := (Below.refl _ _).grown hg (Nat.le_refl _) (by simp [Value.ownBlock])
      exact hK v w' (up w' hb) (by simpa [TuF] using hown) (fun j u hd _ h => hkeep (by omega) w' hb j u hd h)
    · injection ho with ho
      subst ho
      have e0 : a.eval (.tmp 8) = .int .i64 nb := ((hdep ⟨1, .data⟩ (by simp) rfl).2 _ rfl).1 _ rfl
      have e1 : TuF nb A ls c w.heap.size w2.heap.size done 4 (a.eval (.tmp 11)) W := ((hdep ⟨4, .data⟩ (by simp) rfl).2 _ rfl).1 _ rfl
      obtain ⟨u, hu⟩ : ∃ u, a.eval (.tmp 11) = u := ⟨_, rfl⟩
      rw [hu] at e1
      refine ⟨fun _ K Q hK => wp_of_value (v := .agg #[.int .i64 nb, u]) ?_ (hK _ _ hI ⟨u, rfl, e1⟩ (fun j u hd _ h => hkeep (by omega) _ (Below.refl _ _) j u hd h)), fun hw => by simp [Region.wanted] at hw⟩
      obtain ⟨A3, c3, rfl, _⟩ := ownsRow_linesR e1
      clear hK hkeep hdep hI e1 up hcl
      generalize a.eval = ρ at *
      simp [go_sem, e0, hu]
    · injection ho with ho
      subst ho
      have n7 : ¬ done 7 := fun hd => hni (hcl 7 _ rfl hd ⟨6, .data⟩ (by simp) rfl)
      have hb : Below W.heap.size W (W.alloc (.cells #[.int .i64 0, .slice none 0 0] 24)) := (Below.refl _ _).alloc (Nat.le_refl _) _
      refine ⟨fun _ K Q hK => wp_of_value (v := .pointer (some ⟨W.heap.size, 0, none⟩)) (w' := W.alloc (.cells #[.int .i64 0, .slice none 0 0] 24)) ?_ (hK _ _ (up _ hb) ⟨_, rfl, hI.below.size, ⟨_, _, heap_alloc_new _ _⟩, fun h => absurd h (by rintro (h | h); cases h; exact n7 h)⟩ (fun j u hd _ h => hkeep (by omega) _ hb j u hd h)), fun hw => by simp [Region.wanted] at hw⟩
      clear hK hkeep hdep hI up hcl
      generalize a.eval = ρ at *
      simp [go_sem]
    · injection ho with ho
      subst ho
      have e6 : TuF nb A ls c w.heap.size w2.heap.size done 6 (a.eval (.tmp 5)) W := ((hdep ⟨6, .data⟩ (by simp) rfl).2 _ rfl).1 _ rfl
      obtain ⟨b, hb5, hBb, ⟨x', y', hblk⟩, _⟩ := e6
      have e5 : TuF nb A ls c w.heap.size w2.heap.size done 5 (a.eval (.tmp 12)) W := ((hdep ⟨5, .data⟩ (by simp) rfl).2 _ rfl).1 _ rfl
      obtain ⟨u, hu, hown⟩ := e5
      obtain ⟨A3, c3, rfl, _⟩ := ownsRow_linesR hown
      have k0 : W.cell? ⟨b, 0, none⟩ = some x' := by simp [World.cell?, hblk]
      have k1 : W.cell? ⟨b, 1, none⟩ = some y' := by simp [World.cell?, hblk]
      have s0 : W.frozen? ⟨b, 0, none⟩ = false := by simp [World.frozen?, hblk]
      have s1 : W.frozen? ⟨b, 1, none⟩ = false := by simp [World.frozen?, hblk]
      have hblk1 : (W.setCell ⟨b, 0, none⟩ (.int .i64 nb)).heap[b]? = some (.cells #[.int .i64 nb, y'] 24) := by simp [World.setCell, Array.getElem?_modify, hblk]
      have hblk2 : ((W.setCell ⟨b, 0, none⟩ (.int .i64 nb)).setCell ⟨b, 1, none⟩ (.slice A3 ls.length c3)).heap[b]? = some (.cells #[.int .i64 nb, .slice A3 ls.length c3] 24) := by simp [World.setCell, Array.getElem?_modify, hblk]
      have m0 : ((W.setCell ⟨b, 0, none⟩ (.int .i64 nb)).setCell ⟨b, 1, none⟩ (.slice A3 ls.length c3)).cell? ⟨b, 0, none⟩ = some (.int .i64 nb) := by simp [World.cell?, hblk2]
      have m1 : ((W.setCell ⟨b, 0, none⟩ (.int .i64 nb)).setCell ⟨b, 1, none⟩ (.slice A3 ls.length c3)).cell? ⟨b, 1, none⟩ = some (.slice A3 ls.length c3) := by simp [World.cell?, hblk2]
      have ko : ∀ (v : Value), W.ownsRow w2.heap.size 51 4 v ls.length (lnCells ls) → ((W.setCell ⟨b, 0, none⟩ (.int .i64 nb)).setCell ⟨b, 1, none⟩ (.slice A3 ls.length c3)).ownsRow w2.heap.size 51 4 v ls.length (lnCells ls) := fun v hv =>
        ownsRow_setNe (ownsRow_setNe hv hblk (by decide) _) hblk1 (by decide) _
      have hne : w.heap.size ≠ b := by omega
      refine ⟨fun _ K Q hK => wp_of_skip (w' := (W.setCell ⟨b, 0, none⟩ (.int .i64 nb)).setCell ⟨b, 1, none⟩ (.slice A3 ls.length c3)) ?_ (hK _ _ ⟨?_, ?_, ?_⟩ trivial ?_), fun hw => by simp [Region.wanted] at hw⟩
      · clear hK hkeep hdep hI hown up hcl hblk2 m0 m1 hblk1 ko
        generalize a.eval = ρ at *
        simp [go_sem, hu, hb5, k0, k1, s0, s1]
      · rw [World.cell?_setCell_other _ _ _ _ (by intro e; injection e with e1; omega), World.cell?_setCell_other _ _ _ _ (by intro e; injection e with e1; omega)]; exact hI.x0
      · rw [World.cell?_setCell_other _ _ _ _ (by intro e; injection e with e1; omega), World.cell?_setCell_other _ _ _ _ (by intro e; injection e with e1; omega)]; exact hI.x1
      · exact (hI.below.setCell (p := ⟨b, 0, none⟩) hBb _).setCell (p := ⟨b, 1, none⟩) hBb _
      · intro j v hd hv h
        rcases j with _ | _ | _ | _ | _ | _ | _ | _ | j
        · exact h
        · exact h
        · exact h
        · exact h
        · exact ko _ h
        · obtain ⟨u, h1, h2⟩ := h
          exact ⟨u, h1, ko _ h2⟩
        · have hv' : v = .pointer (some ⟨b, 0, none⟩) := (hv _ _ rfl rfl).trans hb5
          exact ⟨b, hv', hBb, ⟨_, _, hblk2⟩, fun _ => ⟨m0, _, m1, ko _ hown⟩⟩
        · trivial
        · trivial
    · simp at ho
  · intro done vs w3 hall hI hF
    obtain ⟨b, hb5, hBb, ⟨x', y', hblk⟩, hrow⟩ := hF 6 (by decide)
    obtain ⟨m0, u, m1, hown⟩ := hrow (hall 7 (by decide))
    simp only [putAll, Act.put, List.setIfInBounds_toArray, List.set_cons_zero, List.set_cons_succ, Nat.reduceAdd]
    rw [hb5]
    obtain ⟨g, cap, rfl⟩ : ∃ g cap, u = .slice (some ⟨g, 0, none⟩) ls.length cap := by
      rcases hown.2 with ⟨h, h0⟩ | ⟨g, cap, cur, h, _⟩
      · omega
      · exact ⟨g, cap, h⟩
    obtain ⟨hg1, hg2⟩ := hown.lt g rfl
    have hgb : ¬ g = b := by
      rintro rfl
      rcases hown.2 with ⟨h, h0⟩ | ⟨g', cap', cur', h, _, h3, _⟩
      · omega
      · simp at h
        obtain ⟨rfl, _⟩ := h
        rw [hblk] at h3
        injection h3 with h3
        injection h3 with _ h3
        exact absurd h3 (by decide)
    have hlb : b < w3.heap.size := (Array.getElem?_eq_some_iff.1 hblk).1
    have t0 : w3.frozen? ⟨b, 0, none⟩ = false := by simp [World.frozen?, hblk]
    have o0 := (hown.cellAt (x * 4) (by omega)).trans (lnCells_at ls x hx).1
    have o1 := (hown.cellAt (x * 4 + 1) (by omega)).trans (lnCells_at ls x hx).2.1
    have o2 := (hown.cellAt (x * 4 + 2) (by omega)).trans (lnCells_at ls x hx).2.2.1
    have o3 := (hown.cellAt (x * 4 + 3) (by omega)).trans (lnCells_at ls x hx).2.2.2
    have zz0 := hown.frozenAt (x * 4)
    have zz1 := hown.frozenAt (x * 4 + 1)
    have zz2 := hown.frozenAt (x * 4 + 2)
    have zz3 := hown.frozenAt (x * 4 + 3)
    have hbw := hI.below
    have hlt : w.heap.size + 1 < w2.heap.size := by omega
    replace y0 := (hbw.cell (p := ⟨w.heap.size + 1, 0, none⟩) hlt).trans y0
    replace y1 := (hbw.cell (p := ⟨w.heap.size + 1, 1, none⟩) hlt).trans y1
    replace z0 := (hbw.frozen (p := ⟨w.heap.size + 1, 0, none⟩) hlt).trans z0
    replace z1 := (hbw.frozen (p := ⟨w.heap.size + 1, 1, none⟩) hlt).trans z1
    have HOWN := Lib.hid hown
    have HBW := Lib.hid hbw
    have HB0 := Lib.hid hb0
    have i1 : (0 : Int) ≤ (x : Int) := by omega
    have i2 : (x : Int) < (ls.length : Int) := by omega
    have n1 : ¬ g = w.heap.size + 1 := by omega
    have n2 : ¬ w.heap.size + 1 = g := by omega
    have n3 : ¬ b = w.heap.size + 1 := by omega
    have n4 : ¬ w.heap.size + 1 = b := by omega
    have n5 : ¬ b = g := fun h => hgb h.symm
    have n6 : w.heap.size + 1 < w3.heap.size := by have := hbw.size; omega
    clear hown hbw hb0 hF hI hrow hall hblk q0 q1
    generalize hfx : (ls.getD x (0, 0, 0, 0)).1 = fx at *
    generalize htx : (ls.getD x (0, 0, 0, 0)).2.1 = tx at *
    generalize hrx : (ls.getD x (0, 0, 0, 0)).2.2.1 = rx at *
    generalize hcx : (ls.getD x (0, 0, 0, 0)).2.2.2 = cx at *
    have HFX := Lib.hid (And.intro hfx (And.intro htx (And.intro hrx hcx)))
    clear hfx htx hrx hcx
    go_wp2_with fail
    have e0 : (ls.getD x (0, 0, 0, 0)) = (fx, tx, rx, cx) := by
      obtain ⟨h1, h2, h3, h4⟩ := HFX.out
      rw [← h1, ← h2, ← h3, ← h4]
    have hsx : (swapAt ls x).getD x (0, 0, 0, 0) = (tx, fx, rx, cx) := by
      unfold swapAt
      rw [e0, List.getD_eq_getElem?_getD, List.getElem?_set_self hx]
      rfl
    have h2 := owns_swap HOWN.out hx
    rw [e0] at h2
    have hat := lnCells_at (swapAt ls x) x (by rw [swapAt_length]; exact hx)
    rw [hsx] at hat
    have h3 := (h2.stored (x * 4 + 2) (.int .i64 rx)).1
    rw [set_same hat.2.2.1] at h3
    have h4 := (h3.stored (x * 4 + 3) (.int .i64 cx)).1
    rw [set_same hat.2.2.2] at h4
    have h6 := (ownsRow_set (ownsRow_set h4 (p := ⟨w.heap.size + 1, 0, none⟩) (by show w.heap.size + 1 < w2.heap.size; omega) (.int .i64 nb)) (p := ⟨w.heap.size + 1, 1, none⟩) (by show w.heap.size + 1 < w2.heap.size; omega) (.slice (some ⟨g, 0, none⟩) ls.length cap)).alloc (.cells #[.int .i64 tx, .int .i64 fx, .int .i64 rx, .int .i64 cx] 51)
    have hb := HB0.out.trans (HBW.out.mono (by omega))
    have hbz : ∀ p : Addr, w.heap.size ≤ p.block → ∀ (W : World) (v : Value), Below w.heap.size w W → Below w.heap.size w (W.setCell p v) := fun p hp W v h => h.setCell hp v
    have hwg : w.heap.size ≤ g := by omega
    have k6 := hbz ⟨w.heap.size + 1, 1, none⟩ (by show w.heap.size ≤ w.heap.size + 1; omega) _ (.slice (some ⟨g, 0, none⟩) ls.length cap) (hbz ⟨w.heap.size + 1, 0, none⟩ (by show w.heap.size ≤ w.heap.size + 1; omega) _ (.int .i64 nb) (hbz ⟨g, x * 4 + 3, none⟩ hwg _ (.int .i64 cx) (hbz ⟨g, x * 4 + 2, none⟩ hwg _ (.int .i64 rx) (hbz ⟨g, x * 4 + 1, none⟩ hwg _ (.int .i64 fx) (hbz ⟨g, x * 4, none⟩ hwg _ (.int .i64 tx) hb)))))
    have k7 := k6.alloc k6.size (.cells #[.int .i64 tx, .int .i64 fx, .int .i64 rx, .int .i64 cx] 51)
    refine bodyPost_ret (v := .agg #[.int .i64 nb, .slice (some ⟨g, 0, none⟩) ls.length cap]) ?_ rfl ?_
    · clear h2 h3 h4 h6 k6 k7 hbz hat hsx e0
      simp [results, Try.results39, go_sem, y0, y1, n6]
    · refine ⟨_, cap, by rw [swapAt_length], ?_, k7⟩
      exact ownsRow_base h6 (by omega)
end Go.Proofs.Ytcacaiakkfgdpaa
