/- The text Spl. -/
import Derived.Test.YtmojjfdamdgegaaMg30
import Derived.Test.YtmojjfdamdgegaaMg21
import Derived.Test.YtmojjfdamdgegaaMg48
/- Contracts of spoil of law 16: what it overwrites is the program's own. -/
namespace Go.Proofs.Ytmojjfdamdgegaa
open Go.RowKit
set_option linter.unusedVariables false

/-- What spoil may write: every row's cells are there, and lie from base on, apart from the rows' own headers. -/
structure Spoil (w : World) (base b off : Nat) (ns : List Nat) (row : Nat → Nat × Nat × Nat) : Prop where
  head : ∀ i, i < ns.length → 0 < ns.getD i 0 → w.cell? ⟨b, off + i, none⟩ = some (.slice (some ⟨(row i).1, (row i).2.1, none⟩) (ns.getD i 0) (row i).2.2)
  empty : ∀ i, i < ns.length → ns.getD i 0 = 0 → ∃ A c, w.cell? ⟨b, off + i, none⟩ = some (.slice A 0 c)
  cells : ∀ i, i < ns.length → ∀ j, j < ns.getD i 0 → (∃ v, w.cell? ⟨(row i).1, (row i).2.1 + j, none⟩ = some v) ∧ w.frozen? ⟨(row i).1, (row i).2.1 + j, none⟩ = false
  low : ∀ i, i < ns.length → 0 < ns.getD i 0 → base ≤ (row i).1
  apart : ∀ i, i < ns.length → 0 < ns.getD i 0 → (row i).1 ≠ b
theorem Spoil.set {w : World} {base b off : Nat} {ns : List Nat} {row : Nat → Nat × Nat × Nat} (h : Spoil w base b off ns row) {i j : Nat} (hi : i < ns.length) (hj : j < ns.getD i 0) (v : Value) :
    Spoil (w.setCell ⟨(row i).1, (row i).2.1 + j, none⟩ v) base b off ns row := by
  have hne : (row i).1 ≠ b := h.apart i hi (by omega)
  refine ⟨fun k hk h0 => ?_, fun k hk h0 => ?_, fun k hk l hl => ?_, h.low, h.apart⟩
  · rw [World.cell?_setCell_other _ _ _ _ (by intro e; injection e with e1; exact hne e1)]; exact h.head k hk h0
  · obtain ⟨A, c, hc⟩ := h.empty k hk h0
    exact ⟨A, c, by rw [World.cell?_setCell_other _ _ _ _ (by intro e; injection e with e1; exact hne e1)]; exact hc⟩
  · obtain ⟨⟨u, hu⟩, hf⟩ := h.cells k hk l hl
    refine ⟨cell?_setCell_some hu, ?_⟩
    rw [World.frozen?_setCell]; exact hf

set_option maxRecDepth 100000 in
set_option maxHeartbeats 2000000 in
theorem spoil_any (P : World → Prop) (base b off c n : Nat) (ns : List Nat) (row : Nat → Nat × Nat × Nat) (w : World) (hlen : ns.length = n) (hs : Spoil w base b off ns row) (h1 : n ≤ 1000000) (h2 : ∀ i, i < ns.length → ns.getD i 0 ≤ 1000000) (hP0 : P w) (hP : ∀ W i j v, i < ns.length → j < ns.getD i 0 → P W → P (W.setCell ⟨(row i).1, (row i).2.1 + j, none⟩ v)) :
    Calls Try.prog 21 #[.slice (some ⟨b, off, none⟩) n c] w fun e w' => (∃ v, e = .returned v) ∧ Below base w w' ∧ P w' := by
  have HP := Lib.hid hP
  have HP0 := Lib.hid hP0
  clear hP hP0
  have HS := Lib.hid hs
  have H2 := Lib.hid h2
  have HLEN := Lib.hid hlen
  clear hs h2 hlen
  go_enter Try.func21, Try.ntmps21
  go_wp2_with fail
  go_loopg [2, 3] n (fun g i s3 wr => ∃ k : Nat, k + g = n ∧ i = .int .i64 k ∧ Spoil wr base b off ns row ∧ (Below base w wr ∧ P wr))
  case atStart => exact ⟨0, by omega, rfl, HS.out, Below.refl _ _, HP0.out⟩
  case round =>
    clear HS
    obtain ⟨k, hkg, rfl, hsp, hbw⟩ := hrel
    have HSP := Lib.hid hsp
    have HBW := Lib.hid hbw
    clear hsp hbw
    cases gk with
    | zero =>
      obtain rfl : k = n := by omega
      clear hkg
      go_wp2_with fail
      go_end0
      exact ⟨⟨_, rfl⟩, HBW.out⟩
    | succ g =>
      have hk : k < n := by omega
      have hk' : k < ns.length := by have := HLEN.out; omega
      have HG := Lib.hid hkg
      clear hkg
      obtain ⟨wo, rfl⟩ : ∃ wo : World, wo = wr := ⟨_, rfl⟩
      have hle := H2.out k hk'
      go_wp2_with fail
      go_loopg [3] (ns.getD k 0) (fun g i wr => ∃ j : Nat, j + g = ns.getD k 0 ∧ i = .int .i64 j ∧ Spoil wr base b off ns row ∧ (Below base w wr ∧ P wr))
      case atStart => exact ⟨0, by omega, rfl, HSP.out, HBW.out⟩
      case round =>
        clear HSP HBW
        obtain ⟨j, hjg, rfl, hsp, hbw⟩ := hrel
        have HBW := Lib.hid hbw
        clear hbw
        cases gk with
        | zero =>
          have hj0 : j = ns.getD k 0 := by omega
          clear hjg
          by_cases hz : ns.getD k 0 = 0
          · obtain ⟨Ae, ce, hc⟩ := hsp.empty k hk' hz
            have HSP := Lib.hid hsp
            obtain rfl : j = 0 := by omega
            clear hsp hj0 hz
            go_wp2_with fail
            go_roundg g
            case measure => omega
            case rel => exact ⟨k + 1, by have := HG.out; omega, by go_num, HSP.out, HBW.out⟩
          · have hc := hsp.head k hk' (by omega)
            rw [← hj0] at hc
            have HSP := Lib.hid hsp
            clear hsp hz
            have hjle : j ≤ 1000000 := by omega
            clear hj0
            go_wp2_with fail
            go_roundg g
            case measure => omega
            case rel => exact ⟨k + 1, by have := HG.out; omega, by go_num, HSP.out, HBW.out⟩
        | succ g2 =>
          have hj : j < ns.getD k 0 := by omega
          have HG2 := Lib.hid hjg
          clear hjg
          have hc := hsp.head k hk' (by omega)
          obtain ⟨⟨v, hv⟩, hf⟩ := hsp.cells k hk' j hj
          have hset := hsp.set hk' hj (.int .i64 (-7))
          have hlow := hsp.low k hk' (by omega)
          have HSET := Lib.hid hset
          have HPP := Lib.hid (fun W => HP.out W k j (.int .i64 (-7)) hk' hj)
          clear hsp hset
          generalize ns.getD k 0 = m at *
          generalize row k = rk at *
          obtain ⟨r0, r1, r2⟩ := rk
          dsimp only at hc hv hf hlow HSET HPP
          go_wp2_with fail
          go_roundg g2
          case measure => omega
          case rel => exact ⟨j + 1, by have := HG2.out; omega, by go_num, HSET.out, HBW.out.1.setCell (p := ⟨r0, r1 + j, none⟩) hlow _, HPP.out _ HBW.out.2⟩
def rowOf : Value → Nat × Nat × Nat
  | .slice (some a) _ c => (a.block, a.off, c)
  | _ => (0, 0, 0)

theorem spoil_of {w : World} {base b off : Nat} {vs : List Value} {ns : List Nat} {cs : Array Value} {t : TypeId} (ht : t ≠ 3) (hblk : w.heap[b]? = some (.cells cs t (0, 0)))
    (hc : ∀ i u, vs[i]? = some u → w.cell? ⟨b, off + i, none⟩ = some u) (hown : ∀ i, i < ns.length → ∃ u xs, vs[i]? = some u ∧ w.ownsRow base 3 1 u (ns.getD i 0) xs) :
    Spoil w base b off ns (fun i => rowOf (vs.getD i (.slice none 0 0))) := by
  have hget : ∀ i u, vs[i]? = some u → vs.getD i (.slice none 0 0) = u := fun i u h => by rw [List.getD_eq_getElem?_getD, h]; rfl
  refine ⟨fun i hi h0 => ?_, fun i hi h0 => ?_, fun i hi j hj => ?_, fun i hi h0 => ?_, fun i hi h0 => ?_⟩
  · obtain ⟨u, xs, hu, hr⟩ := hown i hi
    rcases hr.2 with ⟨_, h⟩ | ⟨g, cap, cur, e, hb, hg, h1, h2, h3, h4⟩
    · omega
    · show _ = some (Value.slice (some ⟨(rowOf (vs.getD i (.slice none 0 0))).1, (rowOf (vs.getD i (.slice none 0 0))).2.1, none⟩) _ (rowOf (vs.getD i (.slice none 0 0))).2.2)
      rw [hget i u hu, hc i u hu, e]; rfl
  · obtain ⟨u, xs, hu, hr⟩ := hown i hi
    obtain ⟨A, c, e⟩ := own_slice hr
    refine ⟨A, c, ?_⟩
    rw [hc i u hu, e, h0]
  · obtain ⟨u, xs, hu, hr⟩ := hown i hi
    rcases hr.2 with ⟨_, h⟩ | ⟨g, cap, cur, e, hb, hg, h1, h2, h3, h4⟩
    · omega
    · show (∃ v, w.cell? ⟨(rowOf (vs.getD i (.slice none 0 0))).1, (rowOf (vs.getD i (.slice none 0 0))).2.1 + j, none⟩ = some v) ∧ w.frozen? ⟨(rowOf (vs.getD i (.slice none 0 0))).1, (rowOf (vs.getD i (.slice none 0 0))).2.1 + j, none⟩ = false
      rw [hget i u hu, e]
      show (∃ v, w.cell? ⟨g, 0 + j, none⟩ = some v) ∧ w.frozen? ⟨g, 0 + j, none⟩ = false
      refine ⟨⟨cur[j]'(by omega), ?_⟩, by simp [World.frozen?, hg]⟩
      have hcell : w.cell? ⟨g, 0 + j, none⟩ = cur[j]? := by simp [World.cell?, hg]
      rw [hcell, Array.getElem?_eq_getElem]
  · obtain ⟨u, xs, hu, hr⟩ := hown i hi
    rcases hr.2 with ⟨_, h⟩ | ⟨g, cap, cur, e, hb, hg, h1, h2, h3, h4⟩
    · omega
    · show _ ≤ (rowOf (vs.getD i (.slice none 0 0))).1
      rw [hget i u hu, e]; exact hb
  · obtain ⟨u, xs, hu, hr⟩ := hown i hi
    rcases hr.2 with ⟨_, h⟩ | ⟨g, cap, cur, e, hb, hg, h1, h2, h3, h4⟩
    · omega
    · show (rowOf (vs.getD i (.slice none 0 0))).1 ≠ b
      rw [hget i u hu, e]
      intro h
      have h' : g = b := h
      rw [h', hblk] at hg
      injection hg with hg
      injection hg with _ hg
      exact ht hg

/-- These rows may be spoilt. -/
def CanSpoil (w : World) (base : Nat) (v : Value) (rows : List (List Int)) : Prop :=
  v = .slice none 0 0 ∨ ∃ g cap row, v = .slice (some ⟨g, 0, none⟩) rows.length cap ∧ Spoil w base g 0 (rows.map List.length) row
theorem Spoil.far {w : World} {base b off : Nat} {ns : List Nat} {row : Nat → Nat × Nat × Nat} (h : Spoil w base b off ns row) {p : Addr} (hne : p.block ≠ b) (v : Value) : Spoil (w.setCell p v) base b off ns row := by
  refine ⟨fun k hk h0 => ?_, fun k hk h0 => ?_, fun k hk l hl => ?_, h.low, h.apart⟩
  · rw [World.cell?_setCell_other _ _ _ _ (by intro e; rw [e] at hne; exact hne rfl)]; exact h.head k hk h0
  · obtain ⟨A, c, hc⟩ := h.empty k hk h0
    exact ⟨A, c, by rw [World.cell?_setCell_other _ _ _ _ (by intro e; rw [e] at hne; exact hne rfl)]; exact hc⟩
  · obtain ⟨⟨u, hu⟩, hf⟩ := h.cells k hk l hl
    refine ⟨cell?_setCell_some hu, ?_⟩
    rw [World.frozen?_setCell]; exact hf
theorem can_of {w : World} {base : Nat} {v : Value} {rows : List (List Int)} (h : RowsOwn w base v rows) : CanSpoil w base v rows := by
  obtain ⟨vs, hl, ho, hr, _⟩ := h
  rcases ho.2 with ⟨rfl, h0⟩ | ⟨g, cap, cur, rfl, hb, hg, g1, g2, g3, g4⟩
  · exact .inl rfl
  · have hns : ∀ i, i < rows.length → (rows.map List.length).getD i 0 = (rows.getD i []).length := fun i hi => by
      rw [List.getD_eq_getElem?_getD, List.getD_eq_getElem?_getD, List.getElem?_map, List.getElem?_eq_getElem hi]; rfl
    refine .inr ⟨g, cap, _, rfl, spoil_of (w := w) (base := base) (b := g) (off := 0) (vs := vs) (ns := rows.map List.length) (by decide) hg (fun i x hx => ?_) (fun i hi => ?_)⟩
    · rw [Nat.zero_add]
      have hi : i < rows.length := by rw [← hl]; exact (List.getElem?_eq_some_iff.1 hx).1
      exact (ho.cellAt i (by omega)).trans hx
    · rw [List.length_map] at hi
      have hri : rows[i]? = some (rows.getD i []) := by rw [List.getD_eq_getElem?_getD, List.getElem?_eq_getElem hi]; rfl
      obtain ⟨u, hu, hq⟩ := hr i _ hri
      rw [hns i hi]
      exact ⟨u, _, hu, hq⟩
theorem CanSpoil.far {w : World} {base : Nat} {v : Value} {rows : List (List Int)} (h : CanSpoil w base v rows) {p : Addr} (hne : v.ownBlock ≠ some p.block) (x : Value) : CanSpoil (w.setCell p x) base v rows := by
  rcases h with h | ⟨g, cap, row, rfl, hs⟩
  · exact .inl h
  · exact .inr ⟨g, cap, row, rfl, hs.far (by intro e; exact hne (by rw [e]; rfl)) x⟩

theorem spoil_pair (w : World) (base : Nat) (t : TypeId) (u v : Value) (xs ys : List Int) (c : Nat) (ht : t ≠ 3) (hu : w.ownsRow base 3 1 u xs.length (xs.map (Value.int .i64))) (hv : w.ownsRow base 3 1 v ys.length (ys.map (Value.int .i64))) (h1 : xs.length ≤ 1000000) (h2 : ys.length ≤ 1000000)
    (z : Value) (rows : List (List Int)) (hz : RowsOwn w base z rows) (hbase : base ≤ w.heap.size) :
    Calls Try.prog 21 #[.slice (some ⟨w.heap.size, 0, none⟩) 2 c] (w.alloc (.cells #[u, v] t)) fun e w' => (∃ v, e = .returned v) ∧ Below base w w' ∧ CanSpoil w' base z rows := by
  have hz' : RowsOwn (w.alloc (.cells #[u, v] t)) base z rows := by
    obtain ⟨vs, a1, a2, a3, a4⟩ := hz
    refine ⟨vs, a1, a2.alloc _, fun i r hr => ?_, a4⟩
    obtain ⟨q, hq, ho⟩ := a3 i r hr
    exact ⟨q, hq, ho.alloc _⟩
  have hzo : ∃ vs, w.ownsRow base 25 1 z rows.length vs := by obtain ⟨vs, _, a2, _⟩ := hz; exact ⟨vs, a2⟩
  obtain ⟨vs, hzo⟩ := hzo
  have hs := spoil_of (w := w.alloc (.cells #[u, v] t)) (base := base) (b := w.heap.size) (off := 0) (vs := [u, v]) (ns := [xs.length, ys.length]) ht (heap_alloc_new w _) (fun i x hx => ?_) (fun i hi => ?_)
  · refine (spoil_any (fun W => CanSpoil W base z rows) base w.heap.size 0 c 2 [xs.length, ys.length] _ _ rfl hs (by omega) (fun i hi => ?_) (can_of hz') (fun W i j x hi hj hW => ?_)).mono ?_
    · match i with
      | 0 => exact h1
      | 1 => exact h2
      | k + 2 => (simp at hi; omega)
    · refine hW.far ?_ x
      have key : ∀ (q : Value) (m : Nat) (qs : List Value), w.ownsRow base 3 1 q m qs → 0 < m → z.ownBlock ≠ some (rowOf q).1 := by
        intro q m qs hq hm
        obtain ⟨g, cap, rfl, _⟩ := own_slice_pos hq hm
        rcases own_ne hq hzo (by decide) with h | h
        · rw [h]; simp
        · exact h
      match i, hj with
      | 0, hj => exact key u _ _ hu (Nat.lt_of_le_of_lt (Nat.zero_le _) hj)
      | 1, hj => exact key v _ _ hv (Nat.lt_of_le_of_lt (Nat.zero_le _) hj)
      | k + 2, hj => (simp at hi; omega)
    · rintro e w' ⟨he, hb, hc⟩
      exact ⟨he, ((Below.refl base w).alloc hbase _).trans hb, hc⟩
  · rw [cell_alloc_at _ _ _ _ _ rfl, Nat.zero_add]
    match i, hx with
    | 0, hx => exact hx
    | 1, hx => exact hx
    | k + 2, hx => simp at hx
  · match i with
    | 0 => exact ⟨u, _, rfl, hu.alloc _⟩
    | 1 => exact ⟨v, _, rfl, hv.alloc _⟩
    | k + 2 => (simp at hi; omega)

set_option maxHeartbeats 1000000 in
theorem spoil_nil (w : World) : Calls Try.prog 21 #[.slice none 0 0] w fun e w' => (∃ v, e = .returned v) ∧ w' = w := by
  go_enter Try.func21, Try.ntmps21
  go_wp2_with fail
  go_loopg [2, 3] 0 (fun g i s3 wr => i = .int .i64 0 ∧ wr = w)
  case atStart => exact ⟨rfl, rfl⟩
  case round =>
    obtain ⟨rfl, rfl⟩ := hrel
    go_wp2_with fail
    go_end0
    exact ⟨⟨_, rfl⟩, rfl⟩

theorem spoil_rows (w : World) (base : Nat) (v : Value) (rows : List (List Int)) (h : CanSpoil w base v rows) (h1 : rows.length ≤ 1000000) (h2 : ∀ i, i < rows.length → (rows.getD i []).length ≤ 1000000) :
    Calls Try.prog 21 #[v] w fun e w' => (∃ v, e = .returned v) ∧ Below base w w' := by
  rcases h with rfl | ⟨g, cap, row, rfl, hs⟩
  · refine (spoil_nil w).mono ?_
    rintro e w' ⟨he, rfl⟩
    exact ⟨he, Below.refl _ _⟩
  · have hns : ∀ i, i < rows.length → (rows.map List.length).getD i 0 = (rows.getD i []).length := fun i hi => by
      rw [List.getD_eq_getElem?_getD, List.getD_eq_getElem?_getD, List.getElem?_map, List.getElem?_eq_getElem hi]; rfl
    refine (spoil_any (fun _ => True) base g 0 cap rows.length (rows.map List.length) row w (by simp) hs h1 (fun i hi => ?_) trivial (fun _ _ _ _ _ _ _ => trivial)).mono ?_
    · rw [List.length_map] at hi
      rw [hns i hi]; exact h2 i hi
    · rintro e w' ⟨he, hb, _⟩
      exact ⟨he, hb⟩
theorem own_ints {w : World} {base : Nat} {A : Option Addr} {m c : Nat} {xs : List Int} (h : w.ownsRow base 3 1 (.slice A m c) xs.length (xs.map (Value.int .i64))) : IntsR w w.heap.size A xs := by
  obtain ⟨A', c', e, hI⟩ := ownsRow_ints h
  simp only [Value.slice.injEq] at e
  obtain ⟨rfl, _, _⟩ := e
  exact hI
theorem own_rows {w : World} {base : Nat} {A : Option Addr} {m c : Nat} {rows : List (List Int)} (h : RowsOwn w base (.slice A m c) rows) : RowsR w w.heap.size A rows := by
  obtain ⟨A', c', e, hI⟩ := h.read
  simp only [Value.slice.injEq] at e
  obtain ⟨rfl, _, _⟩ := e
  exact hI
theorem spoil_one16 (w : World) (base : Nat) (t : TypeId) (u : Value) (xs : List Int) (c : Nat) (ht : t ≠ 3) (hu : w.ownsRow base 3 1 u xs.length (xs.map (Value.int .i64))) (h1 : xs.length ≤ 1000000) (hbase : base ≤ w.heap.size) :
    Calls Try.prog 21 #[.slice (some ⟨w.heap.size, 0, none⟩) 1 c] (w.alloc (.cells #[u] t)) fun e w' => (∃ v, e = .returned v) ∧ Below base w w' := by
  have hs := spoil_of (w := w.alloc (.cells #[u] t)) (base := base) (b := w.heap.size) (off := 0) (vs := [u]) (ns := [xs.length]) ht (heap_alloc_new w _) (fun i x hx => ?_) (fun i hi => ?_)
  · refine (spoil_any (fun _ => True) base w.heap.size 0 c 1 [xs.length] _ _ rfl hs (by omega) (fun i hi => ?_) trivial (fun _ _ _ _ _ _ _ => trivial)).mono ?_
    · match i with
      | 0 => exact h1
      | k + 1 => (simp at hi)
    · rintro e w' ⟨he, hb, _⟩
      exact ⟨he, ((Below.refl base w).alloc hbase _).trans hb⟩
  · rw [cell_alloc_at _ _ _ _ _ rfl, Nat.zero_add]
    match i, hx with
    | 0, hx => exact hx
    | k + 1, hx => simp at hx
  · match i with
    | 0 => exact ⟨u, _, rfl, hu.alloc _⟩
    | k + 1 => (simp at hi)
end Go.Proofs.Ytmojjfdamdgegaa
