/- Contracts of Rows and Same at equal arguments, and of spoil. -/
import Derived.Test.YtkncmhcobbjoiaaMatB
import Derived.Test.YtkncmhcobbjoiaaIslF
import Derived.Laws.StructEq
namespace Go.Proofs.Ytkncmhcobbjoiaa
open Go.RowKit
set_option linter.unusedVariables false

theorem quiet_draws {P : Program} {f : FuncId} {args : Array Value} {w : World} {a n : Nat} {v : Value}
    (h : Calls P f args (w.drewN (a + n)) fun e w' => e = .returned v ∧ ∃ m, w' = (w.drewN (a + n)).drewN m) :
    Calls P f args (w.drewN (a + n)) fun e w'' => e = .returned v ∧ ∃ m, w'' = w.drewN (a + m) :=
  h.mono fun _ _ ⟨he, m, hm⟩ => ⟨he, n + m, by rw [hm, World.drewN_drewN, Nat.add_assoc]⟩

set_option maxHeartbeats 1000000 in
theorem rows_same (A A' : Option Addr) (c c' : Nat) (rows : List (List Int)) (w : World) (hx : RowsR w w.heap.size A rows) (hy : RowsR w w.heap.size A' rows) (h1 : rows.length ≤ 1000000) (h2 : ∀ i, i < rows.length → (rows.getD i []).length ≤ 1000000) :
    Calls Try.prog 23 #[.slice A rows.length c, .slice A' rows.length c'] w fun e w' => e = .returned (.bool true) ∧ Below w.heap.size w w' := by
  have HX := Lib.hid hx
  have HY := Lib.hid hy
  have H2 := Lib.hid h2
  clear hx hy h2
  have t0 : ((rows.length : Int) != (rows.length : Int)) = false := by simp
  go_enter Try.func23, Try.ntmps23
  go_wp2_with fail
  go_loopg [4, 5] rows.length (fun g s4 i wr => ∃ k q : Nat, k + g = rows.length ∧ i = .int .i64 k ∧ wr = w.drewN q)
  case atStart => exact ⟨0, 0, by omega, rfl, rfl⟩
  case round =>
    obtain ⟨k, q, hkg, rfl, rfl⟩ := hrel
    cases gk with
    | zero =>
      obtain rfl : k = rows.length := by omega
      clear hkg
      go_wp2_with fail
      go_ret
      exact ⟨rfl, below_drewN (Below.refl _ _) _⟩
    | succ g =>
      have hk : k < rows.length := by omega
      have HG := Lib.hid hkg
      clear hkg
      obtain ⟨b, off, rfl, hb, hc⟩ := HX.out (by omega)
      obtain ⟨b', off', rfl, hb', hc'⟩ := HY.out (by omega)
      obtain ⟨Ak, ck, e1, i1⟩ := hc k hk
      obtain ⟨Ak', ck', e2, i2⟩ := hc' k hk
      have hl := H2.out k hk
      generalize rows.getD k [] = r at *
      have cI := fun (m : Nat) => ints_any Ak Ak' ck ck' r r (w.drewN m) i1 i2 hl hl
      have hd : decide (r = r) = true := by simp
      rw [hd] at cI
      have CI := Lib.hid cI
      clear cI hd hc hc'
      go_wp2_with fail
      go_quiet ((go_at_call 16; exact quiet_draws (CI.out _)))
      go_wp2_with fail
      go_roundg g
      case measure => omega
      case rel => exact ⟨k + 1, _, by have := HG.out; omega, by go_num, rfl⟩

set_option maxRecDepth 100000 in
set_option maxHeartbeats 2000000 in
theorem same_same (nb : Int) (A A' : Option Addr) (c c' : Nat) (ls : List Ln) (w : World) (hx : LinesR w w.heap.size A ls) (hy : LinesR w w.heap.size A' ls) (h1 : ls.length ≤ 1000000) :
    Calls Try.prog 24 #[.agg #[.int .i64 nb, .slice A ls.length c], .agg #[.int .i64 nb, .slice A' ls.length c']] w fun e w' => e = .returned (.bool true) ∧ Below w.heap.size w w' := by
  have HX := Lib.hid hx
  have HY := Lib.hid hy
  clear hx hy
  have t0 : ((ls.length : Int) != (ls.length : Int)) = false := by simp
  have t1 : (nb != nb) = false := by simp
  go_enter Try.func24, Try.ntmps24
  go_wp2_with fail
  go_loopg [4, 5] ls.length (fun g s4 i wr => ∃ k q : Nat, k + g = ls.length ∧ i = .int .i64 k ∧ wr = ((w.alloc (.cells #[.int .i64 nb, .slice A ls.length c] 24)).alloc (.cells #[.int .i64 nb, .slice A' ls.length c'] 24)).drewN q)
  case atStart => exact ⟨0, 0, by omega, rfl, rfl⟩
  case round =>
    obtain ⟨k, q, hkg, rfl, rfl⟩ := hrel
    cases gk with
    | zero =>
      obtain rfl : k = ls.length := by omega
      clear hkg
      go_wp2_with fail
      go_ret
      exact ⟨rfl, below_drewN (below_alloc2 _ _ _) _⟩
    | succ g =>
      have hk : k < ls.length := by omega
      have HG := Lib.hid hkg
      clear hkg
      obtain ⟨b, off, rfl, hb, hc⟩ := HX.out (by omega)
      obtain ⟨b', off', rfl, hb', hc'⟩ := HY.out (by omega)
      obtain ⟨e0, e1, e2, e3⟩ := hc k hk
      obtain ⟨f0, f1, f2, f3⟩ := hc' k hk
      generalize (ls.getD k (0, 0, 0, 0)) = l at *
      obtain ⟨l0, l1, l2, l3⟩ := l
      clear hc hc'
      have z1 : b < w.heap.size + 1 := by omega
      have z2 : b' < w.heap.size + 1 := by omega
      go_wp2_with fail
      go_quiet (fail)
      go_wp2_with fail
      go_roundg g
      case measure => omega
      case rel => exact ⟨k + 1, _, by have := HG.out; omega, by go_num, rfl⟩

/-- What spoil may write: every row's cells are there, and lie from base on, apart from the rows' own headers. -/
structure Spoil (w : World) (base b off : Nat) (ns : List Nat) (row : Nat → Nat × Nat × Nat) : Prop where
  head : ∀ i, i < ns.length → 0 < ns.getD i 0 → w.cell? ⟨b, off + i, none⟩ = some (.slice (some ⟨(row i).1, (row i).2.1, none⟩) (ns.getD i 0) (row i).2.2)
  empty : ∀ i, i < ns.length → ns.getD i 0 = 0 → ∃ A c, w.cell? ⟨b, off + i, none⟩ = some (.slice A 0 c)
  cells : ∀ i, i < ns.length → ∀ j, j < ns.getD i 0 → (∃ v, w.cell? ⟨(row i).1, (row i).2.1 + j, none⟩ = some v) ∧ w.frozen? ⟨(row i).1, (row i).2.1 + j, none⟩ = false
  low : ∀ i, i < ns.length → 0 < ns.getD i 0 → base ≤ (row i).1
  apart : ∀ i, i < ns.length → 0 < ns.getD i 0 → (row i).1 ≠ b
theorem Spoil.set {w : World} {base b off : Nat} {ns : List Nat} {row : Nat → Nat × Nat × Nat} (h : Spoil w base b off ns row) {i j : Nat} (hi : i < ns.length) (hj : j < ns.getD i 0) (v : Value) :
    Spoil (w.setCell ⟨(row i).1, (row i).2.1 + j, none⟩ v) base b off ns row := by
  have hne : (row i).1 ≠ b := h.apart i hi (by omega)
  refine ⟨fun k hk h0 => ?_, fun k hk h0 => ?_, fun k hk l hl => ?_, h.low, h.apart⟩
  · rw [World.cell?_setCell_other _ _ _ _ (by intro e; injection e with e1; exact hne e1)]; exact h.head k hk h0
  · obtain ⟨A, c, hc⟩ := h.empty k hk h0
    exact ⟨A, c, by rw [World.cell?_setCell_other _ _ _ _ (by intro e; injection e with e1; exact hne e1)]; exact hc⟩
  · obtain ⟨⟨u, hu⟩, hf⟩ := h.cells k hk l hl
    refine ⟨cell?_setCell_some hu, ?_⟩
    rw [World.frozen?_setCell]; exact hf

set_option maxRecDepth 100000 in
set_option maxHeartbeats 2000000 in
theorem spoil_any (P : World → Prop) (base b off c n : Nat) (ns : List Nat) (row : Nat → Nat × Nat × Nat) (w : World) (hlen : ns.length = n) (hs : Spoil w base b off ns row) (h1 : n ≤ 1000000) (h2 : ∀ i, i < ns.length → ns.getD i 0 ≤ 1000000) (hP0 : P w) (hP : ∀ W i j v, i < ns.length → j < ns.getD i 0 → P W → P (W.setCell ⟨(row i).1, (row i).2.1 + j, none⟩ v)) :
    Calls Try.prog 25 #[.slice (some ⟨b, off, none⟩) n c] w fun e w' => (∃ v, e = .returned v) ∧ Below base w w' ∧ P w' := by
  have HP := Lib.hid hP
  have HP0 := Lib.hid hP0
  clear hP hP0
  have HS := Lib.hid hs
  have H2 := Lib.hid h2
  have HLEN := Lib.hid hlen
  clear hs h2 hlen
  go_enter Try.func25, Try.ntmps25
  go_wp2_with fail
  go_loopg [2, 3] n (fun g i s3 wr => ∃ k : Nat, k + g = n ∧ i = .int .i64 k ∧ Spoil wr base b off ns row ∧ (Below base w wr ∧ P wr))
  case atStart => exact ⟨0, by omega, rfl, HS.out, Below.refl _ _, HP0.out⟩
  case round =>
    clear HS
    obtain ⟨k, hkg, rfl, hsp, hbw⟩ := hrel
    have HSP := Lib.hid hsp
    have HBW := Lib.hid hbw
    clear hsp hbw
    cases gk with
    | zero =>
      obtain rfl : k = n := by omega
      clear hkg
      go_wp2_with fail
      go_end0
      exact ⟨⟨_, rfl⟩, HBW.out⟩
    | succ g =>
      have hk : k < n := by omega
      have hk' : k < ns.length := by have := HLEN.out; omega
      have HG := Lib.hid hkg
      clear hkg
      obtain ⟨wo, rfl⟩ : ∃ wo : World, wo = wr := ⟨_, rfl⟩
      have hle := H2.out k hk'
      go_wp2_with fail
      go_loopg [3] (ns.getD k 0) (fun g i wr => ∃ j : Nat, j + g = ns.getD k 0 ∧ i = .int .i64 j ∧ Spoil wr base b off ns row ∧ (Below base w wr ∧ P wr))
      case atStart => exact ⟨0, by omega, rfl, HSP.out, HBW.out⟩
      case round =>
        clear HSP HBW
        obtain ⟨j, hjg, rfl, hsp, hbw⟩ := hrel
        have HBW := Lib.hid hbw
        clear hbw
        cases gk with
        | zero =>
          have hj0 : j = ns.getD k 0 := by omega
          clear hjg
          by_cases hz : ns.getD k 0 = 0
          · obtain ⟨Ae, ce, hc⟩ := hsp.empty k hk' hz
            have HSP := Lib.hid hsp
            obtain rfl : j = 0 := by omega
            clear hsp hj0 hz
            go_wp2_with fail
            go_roundg g
            case measure => omega
            case rel => exact ⟨k + 1, by have := HG.out; omega, by go_num, HSP.out, HBW.out⟩
          · have hc := hsp.head k hk' (by omega)
            rw [← hj0] at hc
            have HSP := Lib.hid hsp
            clear hsp hz
            have hjle : j ≤ 1000000 := by omega
            clear hj0
            go_wp2_with fail
            go_roundg g
            case measure => omega
            case rel => exact ⟨k + 1, by have := HG.out; omega, by go_num, HSP.out, HBW.out⟩
        | succ g2 =>
          have hj : j < ns.getD k 0 := by omega
          have HG2 := Lib.hid hjg
          clear hjg
          have hc := hsp.head k hk' (by omega)
          obtain ⟨⟨v, hv⟩, hf⟩ := hsp.cells k hk' j hj
          have hset := hsp.set hk' hj (.int .i64 (-7))
          have hlow := hsp.low k hk' (by omega)
          have HSET := Lib.hid hset
          have HPP := Lib.hid (fun W => HP.out W k j (.int .i64 (-7)) hk' hj)
          clear hsp hset
          generalize ns.getD k 0 = m at *
          generalize row k = rk at *
          obtain ⟨r0, r1, r2⟩ := rk
          dsimp only at hc hv hf hlow HSET HPP
          go_wp2_with fail
          go_roundg g2
          case measure => omega
          case rel => exact ⟨j + 1, by have := HG2.out; omega, by go_num, HSET.out, HBW.out.1.setCell (p := ⟨r0, r1 + j, none⟩) hlow _, HPP.out _ HBW.out.2⟩
end Go.Proofs.Ytkncmhcobbjoiaa
