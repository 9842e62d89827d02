/- Contracts of pylonlaw14.ints, pylonlaw14.spoil and pylonref14.Rises. -/
import Derived.Test.YtcacaiakkfgdpaaUniA
import Derived.Test.YtcacaiakkfgdpaaNetB
import Derived.IntWalk
namespace Go.Proofs.Ytcacaiakkfgdpaa
open Go.RowKit
set_option linter.unusedVariables false

def RowE (w : World) (xs : List Int) (e : Ending) (w' : World) : Prop :=
  ∃ v, e = .returned v ∧ w'.ownsRow w.heap.size 3 1 v xs.length (xs.map (Value.int .i64)) ∧ Below w.heap.size w w'

set_option maxHeartbeats 1000000 in
theorem copy_any (A : Option Addr) (c : Nat) (l : List Int) (w : World) (hl : IntsR w w.heap.size A l) (hm : l.length ≤ 1000000) :
    Calls Try.prog 16 #[.slice A l.length c] w (RowE w l) := by
  obtain ⟨i0, hi, hz0, hz1, hz2⟩ := info_parts info_int
  have HA := Lib.hid hl
  clear hl
  go_enter Try.func16, Try.ntmps16
  go_wp2_with (at_builtin; refine wpList_append_any _ rfl (.const (.slice none 0 0)) (.tmp 3) _ rfl w.heap.size 3 i0 _ 1 8 Try.underlying25 hi hz0 hz1 hz2 rfl (by omega) (.slice none 0 0) 0 [] rfl ⟨by simp, .inl ⟨rfl, rfl⟩⟩ A l.length c (l.map (Value.int .i64)) rfl HA.out.toSrc (one_ints _) (by simp only [maxLen]; omega) (by omega) (Nat.le_refl _) ?_; intro v1 w1 hown1 hg1 _; simp only [Nat.zero_add, List.nil_append] at hown1; have HO1 := Lib.hid hown1; have HB1 := Lib.hid (show Below w.heap.size w w1 from (Below.refl _ _).grown hg1 (Nat.le_refl _) (by simp [Value.ownBlock])); clear hown1 hg1)
  go_ret
  exact ⟨_, rfl, HO1.out, HB1.out⟩

/-- Every cell that may be written stays one. -/
def Stay (w w' : World) : Prop := ∀ p v, w.cell? p = some v → w.frozen? p = false → (∃ u, w'.cell? p = some u) ∧ w'.frozen? p = false
theorem Stay.refl (w : World) : Stay w w := fun p v h h' => ⟨⟨v, h⟩, h'⟩
theorem Stay.trans {a b c : World} (h : Stay a b) (h' : Stay b c) : Stay a c := fun p v e e' => by
  obtain ⟨⟨u, hu⟩, hf⟩ := h p v e e'
  exact h' p u hu hf
theorem setCell_some {w : World} {p p' : Addr} {v u : Value} (h : w.cell? p = some u) : ∃ u', (w.setCell p' v).cell? p = some u' := by
  by_cases e : p = p'
  · subst e; exact ⟨v, World.cell?_setCell_same _ _ _ h⟩
  · exact ⟨u, by rw [World.cell?_setCell_other _ _ _ _ (fun e' => e e'.symm)]; exact h⟩
theorem Stay.set {a b : World} (h : Stay a b) (p : Addr) (v : Value) : Stay a (b.setCell p v) := fun p' v' e e' => by
  obtain ⟨⟨u, hu⟩, hf⟩ := h p' v' e e'
  refine ⟨setCell_some hu, ?_⟩
  rw [World.frozen?_setCell]; exact hf
theorem cell_block {w : World} {p : Addr} {v : Value} (h : w.cell? p = some v) : p.block < w.heap.size := by
  apply Classical.byContradiction
  intro hn
  have : w.heap[p.block]? = none := Array.getElem?_eq_none (by omega)
  simp [World.cell?, this] at h
theorem Stay.below {a b : World} (h : Below a.heap.size a b) : Stay a b := fun p v e e' => by
  have hp := cell_block e
  exact ⟨⟨v, (h.cell hp).trans e⟩, (h.frozen hp).trans e'⟩
/-- A row that may be overwritten: n cells from base on, apart from the block hb. -/
def RowOk (w : World) (base hb : Nat) (A : Option Addr) (n : Nat) : Prop :=
  0 < n → ∃ g off, A = some ⟨g, off, none⟩ ∧ base ≤ g ∧ g ≠ hb ∧ ∀ j, j < n → (∃ v, w.cell? ⟨g, off + j, none⟩ = some v) ∧ w.frozen? ⟨g, off + j, none⟩ = false
theorem RowOk.stay {w w' : World} {base hb : Nat} {A : Option Addr} {n : Nat} (h : RowOk w base hb A n) (s : Stay w w') : RowOk w' base hb A n := fun hn => by
  obtain ⟨g, off, rfl, h1, h2, h3⟩ := h hn
  refine ⟨g, off, rfl, h1, h2, fun j hj => ?_⟩
  obtain ⟨⟨v, hv⟩, hf⟩ := h3 j hj
  exact s _ _ hv hf
theorem RowOk.nil {w : World} {base hb : Nat} {A : Option Addr} : RowOk w base hb A 0 := fun h => absurd h (by simp)
theorem RowOk.own {w : World} {base B hb : Nat} {e : TypeId} {size : Nat} {v : Value} {n : Nat} {xs : List Value} (h : w.ownsRow base e size v n xs) (hB : B ≤ base) (hh : hb < base ∨ w.heap.size ≤ hb) : ∃ A c, v = .slice A n c ∧ RowOk w B hb A (n * size) := by
  rcases h.2 with ⟨rfl, h0⟩ | ⟨g, cap, cur, rfl, hb', hg, h1, h2, h3, h4⟩
  · subst h0
    exact ⟨none, 0, rfl, by rw [Nat.zero_mul]; exact RowOk.nil⟩
  · refine ⟨_, _, rfl, fun hn => ⟨g, 0, rfl, Nat.le_trans hB hb', ?_, fun j hj => ?_⟩⟩
    · have := (Array.getElem?_eq_some_iff.1 hg).1
      omega
    · rw [Nat.zero_add]
      refine ⟨?_, h.frozenAt j⟩
      have hl := h.1
      rw [h.cellAt j (by omega)]
      exact ⟨xs[j]'(by omega), List.getElem?_eq_getElem (by omega)⟩
/-- The rows' headers lie at the block b. -/
def Heads (w : World) (b off : Nat) (rows : List (Option Addr × Nat × Nat)) : Prop :=
  ∀ i, i < rows.length → w.cell? ⟨b, off + i, none⟩ = some (.slice (rows.getD i (none, 0, 0)).1 (rows.getD i (none, 0, 0)).2.1 (rows.getD i (none, 0, 0)).2.2)
theorem Heads.set {w : World} {b off : Nat} {rows : List (Option Addr × Nat × Nat)} (h : Heads w b off rows) {p : Addr} (hp : p.block ≠ b) (v : Value) : Heads (w.setCell p v) b off rows := fun i hi => by
  rw [World.cell?_setCell_other _ _ _ _ (fun e => hp (by rw [e]))]
  exact h i hi

set_option maxRecDepth 100000 in
set_option maxHeartbeats 4000000 in
theorem spoil14_any (base b off : Nat) (nb : Int) (A : Option Addr) (c m : Nat) (R : Option Addr) (cr : Nat) (rows : List (Option Addr × Nat × Nat)) (w : World)
    (hR : 0 < rows.length → R = some ⟨b, off, none⟩ ∧ b < w.heap.size) (hh : Heads w b off rows) (hl : RowOk w base b A (m * 4)) (hr : ∀ i, i < rows.length → RowOk w base b (rows.getD i (none, 0, 0)).1 (rows.getD i (none, 0, 0)).2.1)
    (hbase : base ≤ w.heap.size) (h1 : m ≤ 1000000) (h2 : rows.length ≤ 1000000) (h3 : ∀ i, i < rows.length → (rows.getD i (none, 0, 0)).2.1 ≤ 1000000) :
    Calls Try.prog 27 #[.agg #[.int .i64 nb, .slice A m c], .slice R rows.length cr] w fun e w' => (∃ v, e = .returned v) ∧ Below base w w' ∧ Stay w w' := by
  have hS0 : Stay w (w.alloc (.cells #[.int .i64 nb, .slice A m c] 24)) := Stay.below ((Below.refl _ _).alloc (Nat.le_refl _) _)
  have hB0 : Below base w (w.alloc (.cells #[.int .i64 nb, .slice A m c] 24)) := (Below.refl _ _).alloc hbase _
  have hX0 : (w.alloc (.cells #[.int .i64 nb, .slice A m c] 24)).cell? ⟨w.heap.size, 1, none⟩ = some (.slice A m c) := by simp
  have hH0 : Heads (w.alloc (.cells #[.int .i64 nb, .slice A m c] 24)) b off rows := fun i hi => by
    have := (hR (by omega)).2
    exact (((Below.refl w.heap.size w).alloc (Nat.le_refl _) _).cell (p := ⟨b, off + i, none⟩) this).trans (hh i hi)
  have hlt : ∀ g o, (∃ v, w.cell? ⟨g, o, none⟩ = some v) → g ≠ w.heap.size := fun g o ⟨v, hv⟩ => by have := cell_block hv; simp at this; omega
  have HLT := Lib.hid hlt
  have HR := Lib.hid (fun h => (hR h).1)
  have HL := Lib.hid hl
  have HRR := Lib.hid hr
  have H3 := Lib.hid h3
  have HB0 := Lib.hid hB0
  have HS0 := Lib.hid hS0
  have HX0 := Lib.hid hX0
  have HH0 := Lib.hid hH0
  clear hlt hR hh hl hr h3 hS0 hB0 hX0 hH0
  go_enter Try.func27, Try.ntmps27
  go_wp2_with fail
  go_loopg [4] m (fun g i wr => ∃ k : Nat, k + g = m ∧ i = .int .i64 k ∧ wr.cell? ⟨w.heap.size, 1, none⟩ = some (.slice A m c) ∧ Heads wr b off rows ∧ Below base w wr ∧ Stay w wr)
  case atStart => exact ⟨0, by omega, rfl, HX0.out, HH0.out, HB0.out, HS0.out⟩
  case round =>
    clear HX0 HH0 HB0 HS0
    obtain ⟨k, hkg, rfl, hx, hh, hb, hs⟩ := hrel
    cases gk with
    | zero =>
      obtain rfl : k = m := by omega
      clear hkg
      have HH := Lib.hid hh
      have HB := Lib.hid hb
      have HS := Lib.hid hs
      clear hh hb hs
      go_wp2_with fail
      clear hx
      go_loopg [5, 6] rows.length (fun g i s6 wr => ∃ k : Nat, k + g = rows.length ∧ i = .int .i64 k ∧ Heads wr b off rows ∧ Below base w wr ∧ Stay w wr)
      case atStart => exact ⟨0, by omega, rfl, HH.out, HB.out, HS.out⟩
      case round =>
        clear HH HB HS
        obtain ⟨k, hkg, rfl, hh, hb, hs⟩ := hrel
        cases gk with
        | zero =>
          obtain rfl : k = rows.length := by omega
          clear hkg
          have HB := Lib.hid hb
          have HS := Lib.hid hs
          clear hh hb hs
          go_wp2_with fail
          go_end0
          exact ⟨⟨_, rfl⟩, HB.out, HS.out⟩
        | succ g =>
          have hk : k < rows.length := by omega
          have HG := Lib.hid hkg
          clear hkg
          obtain rfl := HR.out (by omega)
          have hrk := HRR.out k hk
          have hle := H3.out k hk
          obtain ⟨⟨Ak, nk, ck⟩, hgk⟩ : ∃ q, rows.getD k (none, 0, 0) = q := ⟨_, rfl⟩
          rw [hgk] at hrk hle
          dsimp only at hrk hle
          have hhk : ∀ W, Heads W b off rows → W.cell? ⟨b, off + k, none⟩ = some (.slice Ak nk ck) := fun W hW => by
            have := hW k hk
            rw [hgk] at this
            exact this
          have HHK := Lib.hid hhk
          have HRK := Lib.hid hrk
          have HH := Lib.hid hh
          have HB := Lib.hid hb
          have HS := Lib.hid hs
          clear hh hb hs hhk hrk hgk
          go_wp2_with fail
          go_loopg [6] nk (fun g i wr => ∃ j : Nat, j + g = nk ∧ i = .int .i64 j ∧ Heads wr b off rows ∧ Below base w wr ∧ Stay w wr)
          case atStart => exact ⟨0, by omega, rfl, HH.out, HB.out, HS.out⟩
          case round =>
            clear HH HB HS
            obtain ⟨j, hjg, rfl, hh, hb, hs⟩ := hrel
            have hc := HHK.out _ hh
            cases gk with
            | zero =>
              obtain rfl : j = nk := by omega
              clear hjg
              have HH := Lib.hid hh
              have HB := Lib.hid hb
              have HS := Lib.hid hs
              clear hh hb hs
              go_wp2_with fail
              go_roundg g
              case measure => omega
              case rel => exact ⟨k + 1, by have := HG.out; omega, by go_num, HH.out, HB.out, HS.out⟩
            | succ g2 =>
              have hj : j < nk := by omega
              have HG2 := Lib.hid hjg
              clear hjg
              obtain ⟨r0, r1, rfl, hb0, hne, hcc⟩ := HRK.out (by omega)
              obtain ⟨⟨v0, hv0⟩, hf0⟩ := hcc j hj
              obtain ⟨⟨v, hv⟩, hf⟩ := hs _ _ hv0 hf0
              have HH := Lib.hid hh
              have HB := Lib.hid hb
              have HS := Lib.hid hs
              clear hh hb hs hv0 hf0 hcc
              go_wp2_with fail
              go_roundg g2
              case measure => omega
              case rel => exact ⟨j + 1, by have := HG2.out; omega, by go_num, HH.out.set (p := ⟨r0, r1 + j, none⟩) hne _, HB.out.setCell (p := ⟨r0, r1 + j, none⟩) hb0 _, HS.out.set _ _⟩
    | succ g =>
      have hk : k < m := by omega
      have HG := Lib.hid hkg
      clear hkg
      obtain ⟨r0, r1, rfl, hb0, hne, hcc⟩ := HL.out (by omega)
      have hnz : r0 ≠ w.heap.size := HLT.out r0 (r1 + 0) (hcc 0 (by omega)).1
      have key : ∀ j, j < m * 4 → (∃ v, wr.cell? ⟨r0, r1 + j, none⟩ = some v) ∧ wr.frozen? ⟨r0, r1 + j, none⟩ = false := fun j hj => by
        obtain ⟨⟨v0, hv0⟩, hf0⟩ := hcc j hj
        exact hs _ _ hv0 hf0
      obtain ⟨⟨v0, c0⟩, z0⟩ := key (k * 4) (by omega)
      obtain ⟨⟨v1, c1⟩, z1⟩ := key (k * 4 + 1) (by omega)
      obtain ⟨⟨v2, c2⟩, z2⟩ := key (k * 4 + 2) (by omega)
      obtain ⟨⟨v3, c3⟩, z3⟩ := key (k * 4 + 3) (by omega)
      rw [← Nat.add_assoc] at c1 c2 c3 z1 z2 z3
      have HH := Lib.hid hh
      have HB := Lib.hid hb
      have HS := Lib.hid hs
      have HNE := Lib.hid hne
      have HX := Lib.hid hx
      have HNZ := Lib.hid hnz
      clear hh hb hs key hcc hnz hne
      go_wp2_with fail
      go_roundg g
      case measure => omega
      case rel =>
        refine ⟨k + 1, by have := HG.out; omega, by go_num, ?_, ?_, ?_, ?_⟩
        · have := HNZ.out
          iterate 4 rw [World.cell?_setCell_other _ _ _ _ (by intro e; injection e with e1; exact this e1)]
          exact HX.out
        · exact (((HH.out.set (p := ⟨r0, _, none⟩) HNE.out _).set (p := ⟨r0, _, none⟩) HNE.out _).set (p := ⟨r0, _, none⟩) HNE.out _).set (p := ⟨r0, _, none⟩) HNE.out _
        · exact (((HB.out.setCell (p := ⟨r0, _, none⟩) hb0 _).setCell (p := ⟨r0, _, none⟩) hb0 _).setCell (p := ⟨r0, _, none⟩) hb0 _).setCell (p := ⟨r0, _, none⟩) hb0 _
        · exact (((HS.out.set _ _).set _ _).set _ _).set _ _

set_option maxRecDepth 100000 in
set_option maxHeartbeats 4000000 in
theorem rises_any (A : Option Addr) (c : Nat) (l : List Int) (w : World) (hl : IntsR w w.heap.size A l) (hm : l.length ≤ 1000000) :
    Calls Try.prog 28 #[.slice A l.length c] w fun e w' => e = .returned (.bool (ascB l)) ∧ Below w.heap.size w w' := by
  have HO := Lib.hid hl
  clear hl
  go_enter Try.func28, Try.ntmps28
  go_wp2_with fail
  go_loopg [2, 3] l.length (fun g s2 i w' => ∃ k q : Nat, k + g = l.length ∧ i = .int .i64 k ∧ (∀ i, i < k → ascAt l i) ∧ w' = w.drewN q)
  case atStart => exact ⟨0, 0, by omega, rfl, fun i hi => absurd hi (by omega), rfl⟩
  case round =>
    obtain ⟨k, q, hkg, rfl, hall, rfl⟩ := hrel
    have HA := Lib.hid hall
    clear hall
    cases gk with
    | zero =>
      obtain rfl : k = l.length := by omega
      clear hkg
      go_wp2_with fail
      go_ret
      refine ⟨ret_bool ?_, below_drewN (Below.refl _ _) _⟩
      exact (decide_eq_true HA.out).symm
    | succ g =>
      have hk : k < l.length := by omega
      have HG := Lib.hid hkg
      clear hkg
      obtain ⟨b, off, rfl, hbl, hc⟩ := HO.out (by omega)
      have f0 := hc k hk
      have f1 : 0 < k → w.cell? ⟨b, off + (k - 1), none⟩ = _ := fun _ => hc (k - 1) (by omega)
      have F1 := Lib.hid f1
      clear hc f1
      obtain ⟨x, hgx⟩ : ∃ x, l.getD k 0 = x := ⟨_, rfl⟩
      obtain ⟨y, hgy⟩ : ∃ y, l.getD (k - 1) 0 = y := ⟨_, rfl⟩
      rw [hgx] at f0
      have HX := Lib.hid hgx
      have HY := Lib.hid hgy
      clear hgx hgy
      by_cases h0 : x < 0
      · have h0' : decide (x < 0) = true := decide_eq_true h0
        go_wp2_with fail
        go_quiet (fail)
        go_wp2_with fail
        go_ret
        exact ⟨ret_bool (ascB_not hk (by unfold ascAt; rw [HX.out]; omega)).symm, below_drewN (below_drewN (Below.refl _ _) _) _⟩
      have h0' : decide (x < 0) = false := decide_eq_false h0
      by_cases h2 : k = 0
      · have H2 := Lib.hid h2
        have h2' : decide (0 < k) = false := by simp [h2]
        have h3' : decide ((0 : Int) < (k : Int)) = false := by simp [h2]
        clear h2
        go_wp2_with fail
        go_quiet (fail)
        go_wp2_with fail
        go_roundg g
        case measure => omega
        case rel =>
          refine ⟨k + 1, _, by have := HG.out; omega, by go_num, fun i hi => ?_, rfl⟩
          have := H2.out
          obtain rfl : i = k := by omega
          unfold ascAt
          rw [HX.out]
          omega
      have h2' : 0 < k := by omega
      have h2'' : decide (0 < k) = true := by simp; omega
      have h3'' : decide ((0 : Int) < (k : Int)) = true := by simp; omega
      have g1 := F1.out h2'
      rw [HY.out] at g1
      have w1' : IntKind.i64.wrap ((k : Int) - 1) = (k : Int) - 1 := IntWalk.i64_in _ (by omega)
      have w2' : (0 : Int) ≤ (k : Int) - 1 := by omega
      have w3' : ((k : Int) - 1).toNat = k - 1 := by omega
      by_cases h3 : x ≤ y
      · have h3' : decide (x ≤ y) = true := decide_eq_true h3
        go_wp2_with fail
        go_quiet (fail)
        go_wp2_with fail
        go_ret
        exact ⟨ret_bool (ascB_not hk (by unfold ascAt; rw [HX.out, HY.out]; omega)).symm, below_drewN (below_drewN (Below.refl _ _) _) _⟩
      · have h3' : decide (x ≤ y) = false := decide_eq_false h3
        go_wp2_with fail
        go_quiet (fail)
        clear w1' w3'
        go_wp2_with fail
        go_roundg g
        case measure => omega
        case rel =>
          refine ⟨k + 1, _, by have := HG.out; omega, by go_num, fun i hi => ?_, rfl⟩
          rcases Nat.lt_or_ge i k with h | h
          · exact HA.out i h
          · obtain rfl : i = k := by omega
            unfold ascAt
            rw [HX.out, HY.out]
            omega
end Go.Proofs.Ytcacaiakkfgdpaa
