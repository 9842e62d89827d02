/- pylonlaw14.own. -/
import Derived.Test.YtcacaiakkfgdpaaAnyW
import Derived.Test.YtcacaiakkfgdpaaLawC
import Derived.Test.YtcacaiakkfgdpaaRevA
import Derived.Deep.DeepCutAuto
namespace Go.Proofs.Ytcacaiakkfgdpaa
open Go.RowKit
set_option linter.unusedVariables false

/-- A network of the call's own comes back; nothing that lay has turned. -/
def OwnE (w : World) (nb : Int) (ls : List Ln) (e : Ending) (w' : World) : Prop :=
  ∃ A c, e = .returned (.agg #[.int .i64 nb, .slice A ls.length c]) ∧ w'.ownsRow w.heap.size 51 4 (.slice A ls.length c) ls.length (lnCells ls) ∧ Below w.heap.size w w'

/-- Between own's operations. -/
structure OwnI (w : World) (nb : Int) (A : Option Addr) (m c s : Nat) (W : World) : Prop where
  x0 : W.cell? ⟨s, 0, none⟩ = some (.int .i64 nb)
  x1 : W.cell? ⟨s, 1, none⟩ = some (.slice A m c)
  y0 : ∃ u, W.cell? ⟨s + 1, 0, none⟩ = some u
  y1 : ∃ u, W.cell? ⟨s + 1, 1, none⟩ = some u
  z0 : W.frozen? ⟨s + 1, 0, none⟩ = false
  z1 : W.frozen? ⟨s + 1, 1, none⟩ = false
  size : s + 2 ≤ W.heap.size
  below : Below w.heap.size w W
def OwnF (nb : Int) (A : Option Addr) (ls : List Ln) (c s : Nat) (j : Nat) (v : Value) (W : World) : Prop :=
  match j with
  | 0 => v = .pointer (some ⟨s, 0, none⟩)
  | 1 => v = .int .i64 nb
  | 2 => v = .pointer (some ⟨s, 1, none⟩)
  | 3 => v = .slice A ls.length c
  | 4 => W.ownsRow (s + 2) 51 4 v ls.length (lnCells ls)
  | 5 => ∃ u, v = .agg #[.int .i64 nb, u] ∧ W.ownsRow (s + 2) 51 4 u ls.length (lnCells ls)
  | 6 => ∃ u, W.cell? ⟨s + 1, 0, none⟩ = some (.int .i64 nb) ∧ W.cell? ⟨s + 1, 1, none⟩ = some u ∧ W.ownsRow (s + 2) 51 4 u ls.length (lnCells ls)
  | _ => True
theorem ownsRow_below {w w' : World} {base : Nat} {e : TypeId} {size : Nat} {v : Value} {n : Nat} {xs : List Value} (h : w.ownsRow base e size v n xs) (hb : Below w.heap.size w w') : w'.ownsRow base e size v n xs := by
  refine ⟨h.1, ?_⟩
  rcases h.2 with h' | ⟨g, cap, cur, h1, h2, h3, h4⟩
  · exact .inl h'
  · exact .inr ⟨g, cap, cur, h1, h2, (hb.block g (Array.getElem?_eq_some_iff.1 h3).1).trans h3, h4⟩
theorem ownsRow_set {w : World} {base : Nat} {e : TypeId} {size : Nat} {v : Value} {n : Nat} {xs : List Value} (h : w.ownsRow base e size v n xs) {p : Addr} (hp : p.block < base) (u : Value) : (w.setCell p u).ownsRow base e size v n xs := by
  refine ⟨h.1, ?_⟩
  rcases h.2 with h' | ⟨g, cap, cur, h1, h2, h3, h4⟩
  · exact .inl h'
  · exact .inr ⟨g, cap, cur, h1, h2, (Below.heap_setCell w p u g (by omega)).trans h3, h4⟩
theorem OwnF.up {nb : Int} {A : Option Addr} {ls : List Ln} {c s j : Nat} {v : Value} {W W' : World} (h : OwnF nb A ls c s j v W) (hb : Below W.heap.size W W') (hs : s + 2 ≤ W.heap.size) : OwnF nb A ls c s j v W' := by
  unfold OwnF at h ⊢
  split at h
  all_goals first
    | exact h
    | exact ownsRow_below h hb
    | (obtain ⟨u, h1, h2⟩ := h; exact ⟨u, h1, ownsRow_below h2 hb⟩)
    | (obtain ⟨u, h1, h2, h3⟩ := h; exact ⟨u, (hb.cell (p := ⟨s + 1, 0, none⟩) (by show s + 1 < _; omega)).trans h1, (hb.cell (p := ⟨s + 1, 1, none⟩) (by show s + 1 < _; omega)).trans h2, ownsRow_below h3 hb⟩)
theorem OwnI.up {w : World} {nb : Int} {A : Option Addr} {m c s : Nat} {W W' : World} (h : OwnI w nb A m c s W) (hb : Below W.heap.size W W') : OwnI w nb A m c s W' := by
  have hs := h.size
  have l0 : s < W.heap.size := by omega
  have l1 : s + 1 < W.heap.size := by omega
  obtain ⟨u0, e0⟩ := h.y0
  obtain ⟨u1, e1⟩ := h.y1
  exact ⟨(hb.cell (p := ⟨s, 0, none⟩) l0).trans h.x0, (hb.cell (p := ⟨s, 1, none⟩) l0).trans h.x1, ⟨u0, (hb.cell (p := ⟨s + 1, 0, none⟩) l1).trans e0⟩, ⟨u1, (hb.cell (p := ⟨s + 1, 1, none⟩) l1).trans e1⟩,
    (hb.frozen (p := ⟨s + 1, 0, none⟩) l1).trans h.z0, (hb.frozen (p := ⟨s + 1, 1, none⟩) l1).trans h.z1, Nat.le_trans hs hb.size, h.below.trans (hb.mono h.below.size)⟩

set_option maxRecDepth 100000 in
set_option maxHeartbeats 4000000 in
theorem own_any (nb : Int) (A : Option Addr) (c : Nat) (ls : List Ln) (w : World) (hl : LinesR w w.heap.size A ls) (hm : ls.length ≤ 1000000) :
    Calls Try.prog 15 #[.agg #[.int .i64 nb, .slice A ls.length c]] w (OwnE w nb ls) := by
  obtain ⟨j0, hj, hy0, hy1, hy2⟩ := info_parts info_lineR
  have hI0 : OwnI w nb A ls.length c w.heap.size ((w.alloc (.cells #[.int .i64 nb, .slice A ls.length c] 24)).alloc (.cells #[.int .i64 0, .slice none 0 0] 24)) :=
    ⟨by simp, by simp, ⟨.int .i64 0, by simp⟩, ⟨.slice none 0 0, by simp⟩, by simp, by simp, by simp, below_alloc2 _ _ _⟩
  have HI0 := Lib.hid hI0
  have HL := Lib.hid hl
  clear hI0 hl
  go_enter Try.func15, Try.ntmps15
  go_wp2_with fail
  generalize hs : w.heap.size = s at *
  generalize (w.alloc (.cells #[.int .i64 nb, .slice A ls.length c] 24)).alloc (.cells #[.int .i64 0, .slice none 0 0] 24) = w2 at *
  refine region_eachW (OwnF nb A ls c s) (OwnI w nb A ls.length c s) (by kernel_rfl) (by kernel_rfl) (HI0.out.up (Below.refl _ _).drew) ?_ ?_
  · intro i o ho a W hI hdep hrest
    have r1 : a.eval (.tmp 1) = .pointer (some ⟨s, 0, none⟩) := hrest 1 (apart_of (by kernel_rfl))
    have r2 : a.eval (.tmp 2) = .pointer (some ⟨s + 1, 0, none⟩) := hrest 2 (apart_of (by kernel_rfl))
    have hc : ∀ v, a.eval (.const v) = v := fun _ => rfl
    clear hrest
    have hkeep : ∀ (W' : World), Below W.heap.size W W' → ∀ (j : Nat) (u : Value), OwnF nb A ls c s j u W → OwnF nb A ls c s j u W' := fun W' hb j u h => h.up hb hI.size
    rcases i with _ | _ | _ | _ | _ | _ | _ | i
    · injection ho with ho
      subst ho
      refine ⟨fun _ K Q hK => wp_of_value (v := .pointer (some ⟨s, 0, none⟩)) ?_ (hK _ _ hI rfl fun _ _ h => h), fun hw => by simp [Region.wanted] at hw⟩
      clear hK hkeep hdep
      generalize a.eval = ρ at *
      simp [go_sem, r1]
    · injection ho with ho
      subst ho
      have e0 : a.eval (.tmp 3) = _ := (hdep ⟨0, .data⟩ (by simp) rfl _ rfl).1 _ rfl
      have x0 := hI.x0
      refine ⟨fun _ K Q hK => wp_of_value (v := .int .i64 nb) ?_ (hK _ _ hI rfl fun _ _ h => h), fun hw => by simp [Region.wanted] at hw⟩
      clear hK hkeep hdep hI
      generalize a.eval = ρ at *
      simp [go_sem, e0, x0]
    · injection ho with ho
      subst ho
      refine ⟨fun _ K Q hK => wp_of_value (v := .pointer (some ⟨s, 1, none⟩)) ?_ (hK _ _ hI rfl fun _ _ h => h), fun hw => by simp [Region.wanted] at hw⟩
      clear hK hkeep hdep
      generalize a.eval = ρ at *
      simp [go_sem, r1]
    · injection ho with ho
      subst ho
      have e0 : a.eval (.tmp 5) = _ := (hdep ⟨2, .data⟩ (by simp) rfl _ rfl).1 _ rfl
      have x0 := hI.x1
      refine ⟨fun _ K Q hK => wp_of_value (v := .slice A ls.length c) ?_ (hK _ _ hI rfl fun _ _ h => h), fun hw => by simp [Region.wanted] at hw⟩
      clear hK hkeep hdep hI
      generalize a.eval = ρ at *
      simp [go_sem, e0, x0]
    · injection ho with ho
      subst ho
      have e0 : a.eval (.tmp 6) = .slice A ls.length c := (hdep ⟨3, .data⟩ (by simp) rfl _ rfl).1 _ rfl
      refine ⟨fun _ K Q hK => ?_, fun hw => by simp [Region.wanted] at hw⟩
      have hL : LinesR W W.heap.size A ls := (HL.out.below (hs ▸ hI.below)).more (by have := hI.size; omega)
      refine wp_append_any W (.const (.slice none 0 0)) (.tmp 6) _ rfl (s + 2) 51 j0 _ 4 32 Try.underlying22 hj hy0 hy1 hy2 rfl (by omega) (.slice none 0 0) 0 [] rfl ⟨by simp, .inl ⟨rfl, rfl⟩⟩ A ls.length c (lnCells ls) e0 hL.toSrcR (one_linesR _) (by simp only [maxLen]; omega) (by omega) hI.size ?_
      intro v w' hown hg _
      have hb : Below W.heap.size W w' := (Below.refl _ _).grown hg (Nat.le_refl _) (by simp [Value.ownBlock])
      exact hK v w' (hI.up hb) (by simpa [OwnF] using hown) (hkeep w' hb)
    · injection ho with ho
      subst ho
      have e0 : a.eval (.tmp 4) = .int .i64 nb := (hdep ⟨1, .data⟩ (by simp) rfl _ rfl).1 _ rfl
      have e1 : OwnF nb A ls c s 4 (a.eval (.tmp 7)) W := (hdep ⟨4, .data⟩ (by simp) rfl _ rfl).1 _ rfl
      obtain ⟨u, hu⟩ : ∃ u, a.eval (.tmp 7) = u := ⟨_, rfl⟩
      rw [hu] at e1
      refine ⟨fun _ K Q hK => wp_of_value (v := .agg #[.int .i64 nb, u]) ?_ (hK _ _ hI ⟨u, rfl, e1⟩ fun _ _ h => h), fun hw => by simp [Region.wanted] at hw⟩
      obtain ⟨A3, c3, rfl, _⟩ := ownsRow_linesR e1
      clear hK hkeep hdep hI e1
      generalize a.eval = ρ at *
      simp [go_sem, e0, hu]
    · injection ho with ho
      subst ho
      have e1 : OwnF nb A ls c s 5 (a.eval (.tmp 8)) W := (hdep ⟨5, .data⟩ (by simp) rfl _ rfl).1 _ rfl
      obtain ⟨u, hu, hown⟩ := e1
      obtain ⟨A3, c3, rfl, _⟩ := ownsRow_linesR hown
      obtain ⟨u0, y0⟩ := hI.y0
      obtain ⟨u1, y1⟩ := hI.y1
      have z0 := hI.z0
      have z1 := hI.z1
      refine ⟨fun _ K Q hK => wp_of_skip (w' := (W.setCell ⟨s + 1, 0, none⟩ (.int .i64 nb)).setCell ⟨s + 1, 1, none⟩ (.slice A3 ls.length c3)) ?_ ?_, fun hw => by simp [Region.wanted] at hw⟩
      · clear hK hkeep hdep hI hown
        generalize a.eval = ρ at *
        simp [go_sem, hu, r2, y0, y1, z0, z1]
      · have k0 : ((W.setCell ⟨s + 1, 0, none⟩ (.int .i64 nb)).setCell ⟨s + 1, 1, none⟩ (.slice A3 ls.length c3)).cell? ⟨s + 1, 0, none⟩ = some (.int .i64 nb) := by
          rw [World.cell?_setCell_other _ _ _ _ (by simp)]
          exact World.cell?_setCell_same _ _ _ y0
        have k1 : ((W.setCell ⟨s + 1, 0, none⟩ (.int .i64 nb)).setCell ⟨s + 1, 1, none⟩ (.slice A3 ls.length c3)).cell? ⟨s + 1, 1, none⟩ = some (.slice A3 ls.length c3) := by
          refine World.cell?_setCell_same _ _ _ (u := u1) ?_
          rw [World.cell?_setCell_other _ _ _ _ (by simp)]
          exact y1
        have ko : ∀ (v : Value), W.ownsRow (s + 2) 51 4 v ls.length (lnCells ls) → ((W.setCell ⟨s + 1, 0, none⟩ (.int .i64 nb)).setCell ⟨s + 1, 1, none⟩ (.slice A3 ls.length c3)).ownsRow (s + 2) 51 4 v ls.length (lnCells ls) := fun v hv =>
          ownsRow_set (ownsRow_set hv (p := ⟨s + 1, 0, none⟩) (by show s + 1 < s + 2; omega) _) (p := ⟨s + 1, 1, none⟩) (by show s + 1 < s + 2; omega) _
        refine hK _ _ ⟨?_, ?_, ⟨_, k0⟩, ⟨_, k1⟩, ?_, ?_, ?_, ?_⟩ ⟨_, k0, k1, ko _ hown⟩ ?_
        · rw [World.cell?_setCell_other _ _ _ _ (by simp), World.cell?_setCell_other _ _ _ _ (by simp)]; exact hI.x0
        · rw [World.cell?_setCell_other _ _ _ _ (by simp), World.cell?_setCell_other _ _ _ _ (by simp)]; exact hI.x1
        · rw [World.frozen?_setCell, World.frozen?_setCell]; exact z0
        · rw [World.frozen?_setCell, World.frozen?_setCell]; exact z1
        · simpa using hI.size
        · exact (hI.below.setCell (p := ⟨s + 1, 0, none⟩) (by show w.heap.size ≤ s + 1; omega) _).setCell (p := ⟨s + 1, 1, none⟩) (by show w.heap.size ≤ s + 1; omega) _
        · intro j v h
          rcases j with _ | _ | _ | _ | _ | _ | _ | j
          · exact h
          · exact h
          · exact h
          · exact h
          · exact ko _ h
          · obtain ⟨u, h1, h2⟩ := h
            exact ⟨u, h1, ko _ h2⟩
          · exact ⟨_, k0, k1, ko _ hown⟩
          · trivial
    · simp at ho
  · intro vs w3 hI hF
    obtain ⟨u, c0, c1, hown⟩ := hF 6 (by decide)
    obtain ⟨A3, c3, rfl, _⟩ := ownsRow_linesR hown
    have HOWN := Lib.hid (ownsRow_base (base' := w.heap.size) hown (by omega))
    have HI := Lib.hid hI
    clear hown hF hI
    simp only [putAll, Act.put, List.setIfInBounds_toArray, List.set_cons_zero, List.set_cons_succ, Nat.reduceAdd]
    go_wp2_with fail
    refine bodyPost_ret (v := .agg #[.int .i64 nb, .slice A3 ls.length c3]) (by simp [results, Try.results15, go_sem, c0, c1]) rfl ?_
    exact ⟨_, _, rfl, HOWN.out, HI.out.below⟩
end Go.Proofs.Ytcacaiakkfgdpaa
