/- pylonlaw14.spoil writes its rows alone; Long without lists. -/
import Derived.Test.YtcacaiakkfgdpaaLawC
import Derived.Test.YtcacaiakkfgdpaaIslF
namespace Go.Proofs.Ytcacaiakkfgdpaa
open Go.RowKit
set_option linter.unusedVariables false

/-- The block b is none of the rows'. -/
def NotRow (A : Option Addr) (m : Nat) (rows : List (Option Addr × Nat × Nat)) (b : Nat) : Prop :=
  (0 < m → ∀ g off, A = some ⟨g, off, none⟩ → g ≠ b) ∧ ∀ i, i < rows.length → 0 < (rows.getD i (none, 0, 0)).2.1 → ∀ g off, (rows.getD i (none, 0, 0)).1 = some ⟨g, off, none⟩ → g ≠ b
def SameBut (A : Option Addr) (m : Nat) (rows : List (Option Addr × Nat × Nat)) (w w' : World) : Prop := ∀ b, b < w.heap.size → NotRow A m rows b → w'.heap[b]? = w.heap[b]?
theorem SameBut.set {A : Option Addr} {m : Nat} {rows : List (Option Addr × Nat × Nat)} {w w' : World} (h : SameBut A m rows w w') {g o : Nat} {v : Value} (hg : ∀ b, NotRow A m rows b → g ≠ b) : SameBut A m rows w (w'.setCell ⟨g, o, none⟩ v) := fun b hb hn =>
  (Below.heap_setCell w' _ v b (fun e => hg b hn e.symm)).trans (h b hb hn)

set_option maxRecDepth 100000 in
set_option maxHeartbeats 4000000 in
theorem spoil14_only (base b off : Nat) (nb : Int) (A : Option Addr) (c m : Nat) (R : Option Addr) (cr : Nat) (rows : List (Option Addr × Nat × Nat)) (w : World)
    (hR : 0 < rows.length → R = some ⟨b, off, none⟩ ∧ b < w.heap.size) (hh : Heads w b off rows) (hl : RowOk w base b A (m * 4)) (hr : ∀ i, i < rows.length → RowOk w base b (rows.getD i (none, 0, 0)).1 (rows.getD i (none, 0, 0)).2.1)
    (hbase : base ≤ w.heap.size) (h1 : m ≤ 1000000) (h2 : rows.length ≤ 1000000) (h3 : ∀ i, i < rows.length → (rows.getD i (none, 0, 0)).2.1 ≤ 1000000) :
    Calls Try.prog 27 #[.agg #[.int .i64 nb, .slice A m c], .slice R rows.length cr] w fun e w' => (∃ v, e = .returned v) ∧ Below base w w' ∧ Stay w w' ∧ SameBut A m rows w w' := by
  have hS0 : Stay w (w.alloc (.cells #[.int .i64 nb, .slice A m c] 24)) ∧ SameBut A m rows w (w.alloc (.cells #[.int .i64 nb, .slice A m c] 24)) := ⟨Stay.below ((Below.refl _ _).alloc (Nat.le_refl _) _), fun b' hb' _ => ((Below.refl w.heap.size w).alloc (Nat.le_refl _) _).block b' hb'⟩
  have hB0 : Below base w (w.alloc (.cells #[.int .i64 nb, .slice A m c] 24)) := (Below.refl _ _).alloc hbase _
  have hX0 : (w.alloc (.cells #[.int .i64 nb, .slice A m c] 24)).cell? ⟨w.heap.size, 1, none⟩ = some (.slice A m c) := by simp
  have hH0 : Heads (w.alloc (.cells #[.int .i64 nb, .slice A m c] 24)) b off rows := fun i hi => by
    have := (hR (by omega)).2
    exact (((Below.refl w.heap.size w).alloc (Nat.le_refl _) _).cell (p := ⟨b, off + i, none⟩) this).trans (hh i hi)
  have hlt : ∀ g o, (∃ v, w.cell? ⟨g, o, none⟩ = some v) → g ≠ w.heap.size := fun g o ⟨v, hv⟩ => by have := cell_block hv; simp at this; omega
  have HLT := Lib.hid hlt
  have HR := Lib.hid (fun h => (hR h).1)
  have HL := Lib.hid hl
  have HRR := Lib.hid hr
  have H3 := Lib.hid h3
  have HB0 := Lib.hid hB0
  have HS0 := Lib.hid hS0
  have HX0 := Lib.hid hX0
  have HH0 := Lib.hid hH0
  clear hlt hR hh hl hr h3 hS0 hB0 hX0 hH0
  go_enter Try.func27, Try.ntmps27
  go_wp2_with fail
  go_loopg [4] m (fun g i wr => ∃ k : Nat, k + g = m ∧ i = .int .i64 k ∧ wr.cell? ⟨w.heap.size, 1, none⟩ = some (.slice A m c) ∧ Heads wr b off rows ∧ Below base w wr ∧ Stay w wr ∧ SameBut A m rows w wr)
  case atStart => exact ⟨0, by omega, rfl, HX0.out, HH0.out, HB0.out, HS0.out⟩
  case round =>
    clear HX0 HH0 HB0 HS0
    obtain ⟨k, hkg, rfl, hx, hh, hb, hs⟩ := hrel
    cases gk with
    | zero =>
      obtain rfl : m = k := by omega
      clear hkg
      have HH := Lib.hid hh
      have HB := Lib.hid hb
      have HS := Lib.hid hs
      clear hh hb hs
      go_wp2_with fail
      clear hx
      go_loopg [5, 6] rows.length (fun g i s6 wr => ∃ k : Nat, k + g = rows.length ∧ i = .int .i64 k ∧ Heads wr b off rows ∧ Below base w wr ∧ Stay w wr ∧ SameBut A m rows w wr)
      case atStart => exact ⟨0, by omega, rfl, HH.out, HB.out, HS.out⟩
      case round =>
        clear HH HB HS
        obtain ⟨k, hkg, rfl, hh, hb, hs⟩ := hrel
        cases gk with
        | zero =>
          obtain rfl : k = rows.length := by omega
          clear hkg
          have HB := Lib.hid hb
          have HS := Lib.hid hs
          clear hh hb hs
          go_wp2_with fail
          go_end0
          exact ⟨⟨_, rfl⟩, HB.out, HS.out⟩
        | succ g =>
          have hk : k < rows.length := by omega
          have HG := Lib.hid hkg
          clear hkg
          obtain rfl := HR.out (by omega)
          have hrk := HRR.out k hk
          have hle := H3.out k hk
          obtain ⟨⟨Ak, nk, ck⟩, hgk⟩ : ∃ q, rows.getD k (none, 0, 0) = q := ⟨_, rfl⟩
          rw [hgk] at hrk hle
          dsimp only at hrk hle
          have hhk : ∀ W, Heads W b off rows → W.cell? ⟨b, off + k, none⟩ = some (.slice Ak nk ck) := fun W hW => by
            have := hW k hk
            rw [hgk] at this
            exact this
          have HHK := Lib.hid hhk
          have HRK := Lib.hid hrk
          have HH := Lib.hid hh
          have HB := Lib.hid hb
          have HS := Lib.hid hs
          have HGK := Lib.hid hgk
          clear hh hb hs hhk hrk hgk
          go_wp2_with fail
          go_loopg [6] nk (fun g i wr => ∃ j : Nat, j + g = nk ∧ i = .int .i64 j ∧ Heads wr b off rows ∧ Below base w wr ∧ Stay w wr ∧ SameBut A m rows w wr)
          case atStart => exact ⟨0, by omega, rfl, HH.out, HB.out, HS.out⟩
          case round =>
            clear HH HB HS
            obtain ⟨j, hjg, rfl, hh, hb, hs⟩ := hrel
            have hc := HHK.out _ hh
            cases gk with
            | zero =>
              obtain rfl : j = nk := by omega
              clear hjg
              have HH := Lib.hid hh
              have HB := Lib.hid hb
              have HS := Lib.hid hs
              clear hh hb hs
              go_wp2_with fail
              go_roundg g
              case measure => omega
              case rel => exact ⟨k + 1, by have := HG.out; omega, by go_num, HH.out, HB.out, HS.out⟩
            | succ g2 =>
              have hj : j < nk := by omega
              have HG2 := Lib.hid hjg
              have hj' : 0 < nk := by omega
              clear hjg
              obtain ⟨r0, r1, rfl, hb0, hne, hcc⟩ := HRK.out (by omega)
              obtain ⟨⟨v0, hv0⟩, hf0⟩ := hcc j hj
              obtain ⟨⟨v, hv⟩, hf⟩ := hs.1 _ _ hv0 hf0
              have HH := Lib.hid hh
              have HB := Lib.hid hb
              have HS := Lib.hid hs
              clear hh hb hs hv0 hf0 hcc
              go_wp2_with fail
              go_roundg g2
              case measure => omega
              case rel => exact ⟨j + 1, by have := HG2.out; omega, by go_num, HH.out.set (p := ⟨r0, r1 + j, none⟩) hne _, HB.out.setCell (p := ⟨r0, r1 + j, none⟩) hb0 _, HS.out.1.set _ _, HS.out.2.set (fun b' hb' => (hb'.2 k hk (by rw [HGK.out]; exact hj') r0 r1 (by rw [HGK.out])))⟩
    | succ g =>
      have hk : k < m := by omega
      have HG := Lib.hid hkg
      clear hkg
      obtain ⟨r0, r1, rfl, hb0, hne, hcc⟩ := HL.out (by omega)
      have hnz : r0 ≠ w.heap.size := HLT.out r0 (r1 + 0) (hcc 0 (by omega)).1
      have key : ∀ j, j < m * 4 → (∃ v, wr.cell? ⟨r0, r1 + j, none⟩ = some v) ∧ wr.frozen? ⟨r0, r1 + j, none⟩ = false := fun j hj => by
        obtain ⟨⟨v0, hv0⟩, hf0⟩ := hcc j hj
        exact hs.1 _ _ hv0 hf0
      obtain ⟨⟨v0, c0⟩, z0⟩ := key (k * 4) (by omega)
      obtain ⟨⟨v1, c1⟩, z1⟩ := key (k * 4 + 1) (by omega)
      obtain ⟨⟨v2, c2⟩, z2⟩ := key (k * 4 + 2) (by omega)
      obtain ⟨⟨v3, c3⟩, z3⟩ := key (k * 4 + 3) (by omega)
      rw [← Nat.add_assoc] at c1 c2 c3 z1 z2 z3
      have HH := Lib.hid hh
      have HB := Lib.hid hb
      have HS := Lib.hid hs
      have HNE := Lib.hid hne
      have HX := Lib.hid hx
      have HNZ := Lib.hid hnz
      clear hh hb hs key hcc hnz hne
      go_wp2_with fail
      go_roundg g
      case measure => omega
      case rel =>
        refine ⟨k + 1, by have := HG.out; omega, by go_num, ?_, ?_, ?_, ?_⟩
        · have := HNZ.out
          iterate 4 rw [World.cell?_setCell_other _ _ _ _ (by intro e; injection e with e1; exact this e1)]
          exact HX.out
        · exact (((HH.out.set (p := ⟨r0, _, none⟩) HNE.out _).set (p := ⟨r0, _, none⟩) HNE.out _).set (p := ⟨r0, _, none⟩) HNE.out _).set (p := ⟨r0, _, none⟩) HNE.out _
        · exact (((HB.out.setCell (p := ⟨r0, _, none⟩) hb0 _).setCell (p := ⟨r0, _, none⟩) hb0 _).setCell (p := ⟨r0, _, none⟩) hb0 _).setCell (p := ⟨r0, _, none⟩) hb0 _
        · exact ⟨(((HS.out.1.set _ _).set _ _).set _ _).set _ _, (((HS.out.2.set (fun b' hb' => hb'.1 (by omega) r0 r1 rfl)).set (fun b' hb' => hb'.1 (by omega) r0 r1 rfl)).set (fun b' hb' => hb'.1 (by omega) r0 r1 rfl)).set (fun b' hb' => hb'.1 (by omega) r0 r1 rfl)⟩

/-- spoil at one list and a network's lines. -/
theorem spoil_net (base : Nat) (nb : Int) (AL : Option Addr) (m cl : Nat) (A : Option Addr) (n c : Nat) (t : TypeId) (W : World) (hl : Spoils W base AL (m * 4)) (hr : Spoils W base A n)
    (hbase : base ≤ W.heap.size) (h1 : m ≤ 1000000) (h3 : n ≤ 1000000) :
    Calls Try.prog 27 #[.agg #[.int .i64 nb, .slice AL m cl], .slice (some ⟨W.heap.size, 0, none⟩) 1 1] (W.alloc (.cells #[.slice A n c] t)) fun e w' => (∃ v, e = .returned v) ∧ Below base W w' ∧ Stay W w' ∧ SameBut AL m [(A, n, c)] W w' := by
  have hb0 : Below W.heap.size W (W.alloc (.cells #[.slice A n c] t)) := (Below.refl _ _).alloc (Nat.le_refl _) _
  have hs0 := Stay.below hb0
  refine (spoil14_only base W.heap.size 0 nb AL cl m _ 1 [(A, n, c)] _ (fun _ => ⟨rfl, by simp⟩) (fun i hi => ?_) ((hl _ (Nat.le_refl _)).stay hs0) (fun i hi => ?_) (Nat.le_trans hbase hb0.size) h1 (by simp) (fun i hi => ?_)).mono ?_
  · obtain rfl : i = 0 := by simp at hi; omega
    rw [Nat.zero_add, cell_alloc_at _ _ _ _ _ rfl]
    rfl
  · obtain rfl : i = 0 := by simp at hi; omega
    exact (hr _ (Nat.le_refl _)).stay hs0
  · obtain rfl : i = 0 := by simp at hi; omega
    exact h3
  · rintro e w' ⟨hv, hb, hs, hsame⟩
    exact ⟨hv, (hb0.mono hbase).trans (hb.mono (Nat.le_refl _)), hs0.trans hs, fun b hb' hn => (hsame b (Nat.lt_of_lt_of_le hb' hb0.size) hn).trans (hb0.block b hb')⟩
/-- spoil at a network's lines. -/
theorem spoil_lines (base : Nat) (nb : Int) (AL : Option Addr) (m cl : Nat) (W : World) (hl : Spoils W base AL (m * 4)) (hbase : base ≤ W.heap.size) (h1 : m ≤ 1000000) :
    Calls Try.prog 27 #[.agg #[.int .i64 nb, .slice AL m cl], .slice none 0 0] W fun e w' => (∃ v, e = .returned v) ∧ Below base W w' :=
  (spoil14_only base W.heap.size 0 nb AL cl m none 0 [] W (fun h => absurd h (by simp)) (fun i hi => absurd hi (by simp)) (hl _ (Nat.le_refl _)) (fun i hi => absurd hi (by simp)) hbase h1 (by simp) (fun i hi => absurd hi (by simp))).mono fun e w' ⟨hv, hb, _⟩ => ⟨hv, hb⟩

set_option maxHeartbeats 1000000 in
theorem long_nil (nb : Value) (A : Option Addr) (m c : Nat) (w : World) :
    Calls Try.prog 13 #[.agg #[nb, .slice A m c], .slice none 0 0] w fun e w' => e = .returned (.bool (longB [] m)) ∧ Below w.heap.size w w' := by
  go_enter Try.func13, Try.ntmps13
  go_wp2
  go_loopg [4, 5] 0 (fun g s4 i wr => i = .int .i64 0 ∧ w.alloc (.cells #[nb, .slice A m c] 24) = wr)
  case atStart => exact ⟨rfl, rfl⟩
  case round =>
    obtain ⟨rfl, rfl⟩ := hrel
    go_wp2
    go_ret
    refine ⟨ret_bool ?_, (Below.refl _ _).alloc (Nat.le_refl _) _⟩
    rw [longB_end _ _ (fun i hi => absurd hi (by simp))]
    simp
    omega
end Go.Proofs.Ytcacaiakkfgdpaa
