/- slices.Clone at lines. -/
import Derived.Test.YtcacaiakkfgdpaaAppd
import Derived.Test.YtcacaiakkfgdpaaNetE
import Derived.Test.YtcacaiakkfgdpaaIslE
import Derived.Lib.SliceRun
namespace Go.Proofs.Ytcacaiakkfgdpaa
open Go.RowKit
set_option linter.unusedVariables false

theorem info_lineR : (Try.prog.info? 51).map (fun i => (i.zero, i.size, i.bytes)) = some (some (.agg #[.int .i64 0, .int .i64 0, .int .i64 0, .int .i64 0]), 4, 32) := by kernel_rfl
theorem one_linesR (ls : List Ln) : ∀ u ∈ lnCells ls, u.oneCell' = true := by
  intro u hu
  unfold lnCells at hu
  rw [List.mem_flatMap] at hu
  obtain ⟨l, _, hl⟩ := hu
  simp at hl
  rcases hl with rfl | rfl | rfl | rfl <;> rfl
theorem LinesR.toSrcR {w : World} {B : Nat} {A : Option Addr} {ls : List Ln} (h : LinesR w B A ls) : Src w 4 A ls.length (lnCells ls) := by
  refine ⟨lnCells_length ls, fun hp => ?_⟩
  obtain ⟨b, off, rfl, _, hc⟩ := h hp
  refine ⟨_, rfl, fun j v hv => ?_⟩
  have hjl : j < ls.length * 4 := by rw [← lnCells_length]; exact (List.getElem?_eq_some_iff.1 hv).1
  have hi : j / 4 < ls.length := by omega
  obtain ⟨c0, c1, c2, c3⟩ := hc (j / 4) hi
  obtain ⟨d0, d1, d2, d3⟩ := lnCells_at ls (j / 4) hi
  have ha : (⟨b, off, none⟩ : Addr).add j = ⟨b, off + j, none⟩ := by unfold Addr.add; split <;> simp_all
  rw [ha]
  rcases (by omega : j % 4 = 0 ∨ j % 4 = 1 ∨ j % 4 = 2 ∨ j % 4 = 3) with h | h | h | h
  · rw [show j = j / 4 * 4 by omega, d0] at hv; rw [show off + j = off + j / 4 * 4 by omega, c0]; exact hv
  · rw [show j = j / 4 * 4 + 1 by omega, d1] at hv; rw [show off + j = off + j / 4 * 4 + 1 by omega, c1]; exact hv
  · rw [show j = j / 4 * 4 + 2 by omega, d2] at hv; rw [show off + j = off + j / 4 * 4 + 2 by omega, c2]; exact hv
  · rw [show j = j / 4 * 4 + 3 by omega, d3] at hv; rw [show off + j = off + j / 4 * 4 + 3 by omega, c3]; exact hv
theorem ownsRow_linesR {w : World} {base : Nat} {v : Value} {ls : List Ln} (h : w.ownsRow base 51 4 v ls.length (lnCells ls)) : ∃ A c, v = .slice A ls.length c ∧ LinesR w w.heap.size A ls := by
  rcases h.2 with ⟨rfl, h0⟩ | ⟨g, cap, cur, rfl, hb, hg, h1, h2, h3, h4⟩
  · obtain rfl : ls = [] := List.eq_nil_of_length_eq_zero h0
    exact ⟨none, 0, rfl, LinesR.nil_⟩
  · exact ⟨_, _, rfl, LinesR.of_block hg h4⟩


set_option maxRecDepth 100000 in
set_option maxHeartbeats 2000000 in
theorem clone_any (A : Option Addr) (c : Nat) (ls : List Ln) (w : World) (hl : LinesR w w.heap.size A ls) (hm : ls.length ≤ 1000000) :
    Calls Try.prog 48 #[.slice A ls.length c] w fun e w' => ∃ v, e = .returned v ∧ w'.ownsRow w.heap.size 51 4 v ls.length (lnCells ls) ∧ Below w.heap.size w w' := by
  obtain ⟨j0, hj, hy0, hy1, hy2⟩ := info_parts info_lineR
  have HL := Lib.hid hl
  clear hl
  cases A with
  | none =>
    have h0 : ls.length = 0 := by
      by_cases h : 0 < ls.length
      · obtain ⟨b, off, e, _⟩ := HL.out h
        simp at e
      · omega
    obtain rfl : ls = [] := List.eq_nil_of_length_eq_zero h0
    have q22 : ∀ (w : World) (a : Option Addr) (n c n' c' : Nat), (binOp .eql 22 (.slice a n c) (.slice none n' c')).run Try.prog w = .ok (.bool a.isNone) w := fun w a n c n' c' => Lib.run_eql_slice_nil w _ _ a n c n' c' Try.underlying22
    go_enter Try.func48, Try.ntmps48
    go_wp2_with fail
    go_ret
    exact ⟨_, rfl, World.ownsRow_nil _ _ _ _, Below.refl _ _⟩
  | some p =>
    have q22 : ∀ (w : World) (a : Option Addr) (n c n' c' : Nat), (binOp .eql 22 (.slice a n c) (.slice none n' c')).run Try.prog w = .ok (.bool a.isNone) w := fun w a n c n' c' => Lib.run_eql_slice_nil w _ _ a n c n' c' Try.underlying22
    go_enter Try.func48, Try.ntmps48
    go_wp2_with (at_builtin; refine wpList_append_any _ rfl _ _ _ rfl w.heap.size 51 j0 _ 4 32 Try.underlying22 hj hy0 hy1 hy2 rfl (by omega) _ _ _ rfl (World.ownsRow_made w #[] 0 (Nat.le_refl _) (Nat.zero_le _) rfl) (some p) ls.length c (lnCells ls) rfl (HL.out.alloc (Nat.le_refl _) _).toSrcR (one_linesR _) (by simp only [maxLen]; omega) (by omega) (by simp) ?_; intro v' w1 hown hgrow hnil)
    go_ret
    refine ⟨v', rfl, by simpa using hown, ?_⟩
    exact ((Below.refl _ w).alloc (Nat.le_refl _) _).grown hgrow (by simp) (fun k hk => by have hk2 : some w.heap.size = some k := hk; injection hk2 with hk2; omega)
end Go.Proofs.Ytcacaiakkfgdpaa
