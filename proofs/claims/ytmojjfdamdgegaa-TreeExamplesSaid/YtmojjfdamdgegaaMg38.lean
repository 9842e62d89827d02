/- The text RwsA. -/
import Derived.Test.YtmojjfdamdgegaaMg36
import Derived.Test.YtmojjfdamdgegaaMg4
import Derived.Test.YtmojjfdamdgegaaMg8
/- Rows of numbers, read and compared. -/
namespace Go.Proofs.Ytmojjfdamdgegaa
open Go.RowKit
set_option linter.unusedVariables false

theorem own_slice {w : World} {base : Nat} {e : TypeId} {size : Nat} {v : Value} {n : Nat} {xs : List Value} (h : w.ownsRow base e size v n xs) : ∃ A c, v = .slice A n c := by
  rcases h.2 with ⟨rfl, h0⟩ | ⟨g, cap, cur, rfl, _⟩
  · exact ⟨none, 0, by rw [h0]⟩
  · exact ⟨_, _, rfl⟩
theorem own_slice_pos {w : World} {base : Nat} {e : TypeId} {v : Value} {n : Nat} {xs : List Value} (h : w.ownsRow base e 1 v n xs) (hn : 0 < n) : ∃ g c, v = .slice (some ⟨g, 0, none⟩) n c ∧ g < w.heap.size ∧ base ≤ g := by
  rcases h.2 with ⟨rfl, rfl⟩ | ⟨g, cap, cur, rfl, hb, hg, _⟩
  · omega
  · exact ⟨_, _, rfl, (Array.getElem?_eq_some_iff.1 hg).1, hb⟩
def RowsR (w : World) (B : Nat) (A : Option Addr) (rows : List (List Int)) : Prop :=
  0 < rows.length → ∃ b off, A = some ⟨b, off, none⟩ ∧ b < B ∧ ∀ i, i < rows.length → ∃ Ai ci, w.cell? ⟨b, off + i, none⟩ = some (.slice Ai (rows.getD i []).length ci) ∧ IntsR w B Ai (rows.getD i [])
theorem RowsR.upto {w w' : World} {A : Option Addr} {rows : List (List Int)} (h : RowsR w w.heap.size A rows) (hb : Below w.heap.size w w') : RowsR w' w'.heap.size A rows := fun hn => by
  obtain ⟨b, off, e, hlt, hc⟩ := h hn
  refine ⟨b, off, e, Nat.lt_of_lt_of_le hlt hb.size, fun i hi => ?_⟩
  obtain ⟨Ai, ci, h1, h2⟩ := hc i hi
  exact ⟨Ai, ci, (hb.cell hlt).trans h1, h2.upto hb⟩
theorem RowsOwn.read {w : World} {base : Nat} {v : Value} {rows : List (List Int)} (h : RowsOwn w base v rows) : ∃ A c, v = .slice A rows.length c ∧ RowsR w w.heap.size A rows := by
  obtain ⟨vs, h1, h2, h3, _⟩ := h
  obtain ⟨A, c, rfl⟩ := own_slice h2
  refine ⟨A, c, rfl, fun hn => ?_⟩
  obtain ⟨g, c', e, hg, _⟩ := own_slice_pos h2 hn
  simp only [Value.slice.injEq] at e
  obtain ⟨rfl, _, rfl⟩ := e
  refine ⟨g, 0, rfl, hg, fun i hi => ?_⟩
  have hr : rows[i]? = some (rows.getD i []) := by rw [List.getD_eq_getElem?_getD, List.getElem?_eq_getElem hi]; rfl
  obtain ⟨u, hu, ho⟩ := h3 i _ hr
  obtain ⟨Ai, ci, rfl, hI⟩ := ownsRow_ints ho
  exact ⟨Ai, ci, by rw [Nat.zero_add]; exact (h2.cellAt i (by omega)).trans hu, hI⟩

theorem quiet_draws {P : Program} {f : FuncId} {args : Array Value} {w : World} {a n : Nat} {v : Value}
    (h : Calls P f args (w.drewN (a + n)) fun e w' => e = .returned v ∧ ∃ m, w' = (w.drewN (a + n)).drewN m) :
    Calls P f args (w.drewN (a + n)) fun e w'' => e = .returned v ∧ ∃ m, w'' = w.drewN (a + m) :=
  h.mono fun _ _ ⟨he, m, hm⟩ => ⟨he, n + m, by rw [hm, World.drewN_drewN, Nat.add_assoc]⟩

set_option maxHeartbeats 1000000 in
theorem rows_same (A A' : Option Addr) (c c' : Nat) (rows : List (List Int)) (w : World) (hx : RowsR w w.heap.size A rows) (hy : RowsR w w.heap.size A' rows) (h1 : rows.length ≤ 1000000) (h2 : ∀ i, i < rows.length → (rows.getD i []).length ≤ 1000000) :
    Calls Try.prog 20 #[.slice A rows.length c, .slice A' rows.length c'] w fun e w' => e = .returned (.bool true) ∧ Below w.heap.size w w' := by
  have HX := Lib.hid hx
  have HY := Lib.hid hy
  have H2 := Lib.hid h2
  clear hx hy h2
  have t0 : ((rows.length : Int) != (rows.length : Int)) = false := by simp
  go_enter Try.func20, Try.ntmps20
  go_wp2_with fail
  go_loopg [4, 5] rows.length (fun g s4 i wr => ∃ k q : Nat, k + g = rows.length ∧ i = .int .i64 k ∧ wr = w.drewN q)
  case atStart => exact ⟨0, 0, by omega, rfl, rfl⟩
  case round =>
    obtain ⟨k, q, hkg, rfl, rfl⟩ := hrel
    cases gk with
    | zero =>
      obtain rfl : k = rows.length := by omega
      clear hkg
      go_wp2_with fail
      go_ret
      exact ⟨rfl, below_drewN (Below.refl _ _) _⟩
    | succ g =>
      have hk : k < rows.length := by omega
      have HG := Lib.hid hkg
      clear hkg
      obtain ⟨b, off, rfl, hb, hc⟩ := HX.out (by omega)
      obtain ⟨b', off', rfl, hb', hc'⟩ := HY.out (by omega)
      obtain ⟨Ak, ck, e1, i1⟩ := hc k hk
      obtain ⟨Ak', ck', e2, i2⟩ := hc' k hk
      have hl := H2.out k hk
      generalize rows.getD k [] = r at *
      have cI := fun (m : Nat) => ints_any Ak Ak' ck ck' r r (w.drewN m) i1 i2 hl hl
      have hd : decide (r = r) = true := by simp
      rw [hd] at cI
      have CI := Lib.hid cI
      clear cI hd hc hc'
      go_wp2_with fail
      go_quiet ((go_at_call 19; exact quiet_draws (CI.out _)))
      go_wp2_with fail
      go_roundg g
      case measure => omega
      case rel => exact ⟨k + 1, _, by have := HG.out; omega, by go_num, rfl⟩
end Go.Proofs.Ytmojjfdamdgegaa
