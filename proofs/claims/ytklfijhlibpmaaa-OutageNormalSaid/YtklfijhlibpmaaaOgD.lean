/- slices.Index and slices.Contains at bytes. -/
import Derived.Test.YtklfijhlibpmaaaOgB
namespace Go.Proofs.Ytklfijhlibpmaaa
open Go.RowKit
set_option linter.unusedVariables false

/-- The slice address A holds the bytes ks. -/
def KdR (w : World) (A : Option Addr) (ks : List Int) : Prop :=
  0 < ks.length → ∃ b off, A = some ⟨b, off, none⟩ ∧ ∀ i, i < ks.length → w.cell? ⟨b, off + i, none⟩ = some (.int .u8 (ks.getD i 0))
/-- The first place of v, or -1. -/
def idxK (v : Int) : List Int → Nat → Int
  | [], _ => -1
  | x :: l, i => if v = x then i else idxK v l (i + 1)
theorem idxK_hit {v : Int} {l : List Int} {k : Nat} (hk : k < l.length) (h : v = l.getD k 0) : idxK v (l.drop k) k = k := by
  rw [List.drop_eq_getElem_cons hk, idxK, if_pos (by rw [← getD_eq l k 0 hk]; exact h)]
theorem idxK_miss {v : Int} {l : List Int} {k : Nat} (hk : k < l.length) (h : v ≠ l.getD k 0) : idxK v (l.drop k) k = idxK v (l.drop (k + 1)) (k + 1) := by
  rw [List.drop_eq_getElem_cons hk, idxK, if_neg (by rw [← getD_eq l k 0 hk]; exact h)]
theorem idxK_nonneg (v : Int) : ∀ (l : List Int) (i : Nat), decide (0 ≤ idxK v l i) = decide (v ∈ l) := by
  intro l
  induction l with
  | nil => intro i; simp [idxK]
  | cons x l ih =>
    intro i
    rw [idxK]
    by_cases h : v = x
    · rw [if_pos h]; simp [h]
    · rw [if_neg h, ih]; simp [h]
set_option maxHeartbeats 2000000 in
theorem index_any (A : Option Addr) (c : Nat) (ks : List Int) (v : Int) (w : World) (hl : KdR w A ks) (hm : ks.length ≤ 1000000) :
    Calls Try.prog 52 #[.slice A ks.length c, .int .u8 v] w fun e w' => e = .returned (.int .i64 (idxK v ks 0)) ∧ w' = w := by
  have HL := Lib.hid hl
  clear hl
  go_enter Try.func52, Try.ntmps52
  go_wp2_with fail
  go_loopg [4, 5, 8] ks.length (fun g s4 s5 i wr => ∃ k : Nat, k + g = ks.length ∧ i = .int .i64 k ∧ s4 = .int .i64 0 ∧ idxK v ks 0 = idxK v (ks.drop k) k ∧ w = wr)
  case atStart => exact ⟨0, by omega, rfl, rfl, by rw [List.drop_zero], rfl⟩
  case round =>
    obtain ⟨k, hkg, rfl, rfl, hd, rfl⟩ := hrel
    have HD := Lib.hid hd
    clear hd
    cases gk with
    | zero =>
      obtain rfl : k = ks.length := by omega
      clear hkg
      go_wp2_with fail
      go_ret
      exact ⟨ret_int (by rw [HD.out, List.drop_length, idxK]), rfl⟩
    | succ g =>
      have hk : k < ks.length := by omega
      have HG := Lib.hid hkg
      clear hkg
      obtain ⟨b, off, rfl, hc⟩ := HL.out (by omega)
      have f0 := hc k hk
      clear hc
      by_cases h : v = ks.getD k 0
      · have h' : (v == ks.getD k 0) = true := by rw [beq_iff_eq]; exact h
        have HE := Lib.hid (HD.out.trans (idxK_hit hk h))
        clear h
        generalize ks.getD k 0 = x at *
        go_wp2_with fail
        go_ret
        exact ⟨ret_int HE.out.symm, rfl⟩
      · have h' : (v == ks.getD k 0) = false := by rw [beq_eq_false_iff_ne]; exact h
        have HE := Lib.hid (HD.out.trans (idxK_miss hk h))
        clear h
        generalize ks.getD k 0 = x at *
        go_wp2_with fail
        go_roundg g
        case measure => omega
        case rel => exact ⟨k + 1, by have := HG.out; omega, by go_num, rfl, HE.out, rfl⟩
set_option maxHeartbeats 1000000 in
theorem contains_any (A : Option Addr) (c : Nat) (ks : List Int) (v : Int) (w : World) (hl : KdR w A ks) (hm : ks.length ≤ 1000000) :
    Calls Try.prog 37 #[.slice A ks.length c, .int .u8 v] w fun e w' => e = .returned (.bool (decide (v ∈ ks))) ∧ w' = w := by
  have K := Lib.hid (index_any A c ks v w hl hm)
  have HN := Lib.hid (idxK_nonneg v ks 0)
  clear hl
  generalize idxK v ks 0 = r at *
  go_enter Try.func37, Try.ntmps37
  go_wp2_with (go_at_call 52; refine K.out.mono ?_; rintro e w' ⟨rfl, rfl⟩)
  go_ret
  exact ⟨ret_bool HN.out, rfl⟩
end Go.Proofs.Ytklfijhlibpmaaa
