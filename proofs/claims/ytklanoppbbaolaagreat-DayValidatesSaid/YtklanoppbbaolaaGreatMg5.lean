/- The text CkB. -/
import Derived.Laws.EntriesVeiled
import Derived.Test.YtklanoppbbaolaaGreatMg4
/- The contract of net.Check. -/
namespace Go.Proofs.YtklanoppbbaolaaGreat
open Go.RowKit
set_option linter.unusedSimpArgs false
set_option linter.unusedVariables false

theorem chkFn_calls (nb : Int) (f t x c : Int) (j : Nat) (hj : j < 5) : ∃ k : FuncId, chkFn j = .func (.func k) #[] #[] ∧ (k = 153 ∨ k = 155 ∨ k = 156 ∨ k = 157 ∨ k = 158) ∧
    ∀ (L : Value) (w : World), Calls Tryz.prog k #[.agg #[.int .i64 nb, L], .agg #[.int .i64 f, .int .i64 t, .int .i64 x, .int .i64 c]] w fun e w' => e = .returned (.bool (chk nb (f, t, x, c) j)) ∧ Below w.heap.size w w' := by
  match j, hj with
  | 0, _ => exact ⟨_, rfl, by simp, fun L w => chk0_any nb f t x c L w⟩
  | 1, _ => exact ⟨_, rfl, by simp, fun L w => chk1_any nb f t x c L w⟩
  | 2, _ => exact ⟨_, rfl, by simp, fun L w => chk2_any nb f t x c L w⟩
  | 3, _ => exact ⟨_, rfl, by simp, fun L w => chk3_any nb f t x c L w⟩
  | 4, _ => exact ⟨_, rfl, by simp, fun L w => chk4_any nb f t x c L w⟩

theorem lineOk_of (nb : Int) (l : Ln) (h : ∀ i, i < 5 → chk nb l i = true) : lineOk nb l = true := by
  simp [lineOk, h 0 (by omega), h 1 (by omega), h 2 (by omega), h 3 (by omega), h 4 (by omega)]
theorem lineOk_not (nb : Int) (l : Ln) (i : Nat) (hi : i < 5) (h : chk nb l i = false) : lineOk nb l = false := by
  match i, hi with
  | 0, _ => simp [lineOk, h]
  | 1, _ => simp [lineOk, h]
  | 2, _ => simp [lineOk, h]
  | 3, _ => simp [lineOk, h]
  | 4, _ => simp [lineOk, h]
theorem all_take_succ {α : Type} (p : α → Bool) (d : α) (l : List α) (k : Nat) (hk : k < l.length) (h : (l.take k).all p = true) (h1 : p (l.getD k d) = true) : (l.take (k + 1)).all p = true := by
  rw [List.take_succ_eq_append_getElem hk, List.all_append, h]
  rw [getD_eq _ _ _ hk] at h1
  simp [h1]
theorem all_not {α : Type} (p : α → Bool) (d : α) (l : List α) (k : Nat) (hk : k < l.length) (h1 : p (l.getD k d) = false) : l.all p = false := by
  rw [getD_eq _ _ _ hk] at h1
  rw [List.all_eq_false]
  exact ⟨_, List.getElem_mem hk, by simp [h1]⟩

set_option maxHeartbeats 4000000 in
theorem check_main (nb : Int) (A : Option Addr) (c : Nat) (ls : List Ln) (w : World) (hl : LinesR w w.heap.size A ls) (h0 : 1 ≤ nb) (h1 : nb ≤ 6) (h2 : ls.length ≤ 10) :
    Calls Tryz.prog 30 #[.agg #[.int .i64 nb, .slice A ls.length c]] w fun e w' => e = .returned (.int .i64 (if ls.all (lineOk nb) then 0 else 1)) ∧ Below w.heap.size w w' := by
  have HL := Lib.hid hl
  clear hl
  have b1 : decide (6 < nb) = false := by simp; omega
  have b2 : decide ((10 : Int) < ls.length) = false := by simp; omega
  go_enter Tryz.func30, Tryz.ntmps30
  go_wp2
  go_step3
  go_wp2_with (go_at_call 82; refine (checks_any _).mono ?_; rintro e w' ⟨rfl, rfl⟩)
  go_step3
  go_wp2
  go_loopg [3, 25] ls.length (fun g e i w' => ∃ k : Nat, k + g = ls.length ∧ i = .int .i64 k ∧ e = .int .i64 0 ∧ (ls.take k).all (lineOk nb) = true ∧
    w'.cell? ⟨w.heap.size, 0, none⟩ = some (.int .i64 nb) ∧ w'.cell? ⟨w.heap.size, 1, none⟩ = some (.slice A ls.length c) ∧ (∀ j, j < 5 → w'.cell? ⟨w.heap.size + 1, j, none⟩ = some (chkFn j)) ∧ w.heap.size + 2 ≤ w'.heap.size ∧ Below w.heap.size w w')
  case atStart => 
    exact ⟨0, by omega, rfl, rfl, by simp, by simp, by simp, by intro j hj; rcases j with _|_|_|_|_|j <;> first | (exfalso; omega) | simp, by simp, below_alloc2 _ _ _⟩
  case round =>
    obtain ⟨k, hkg, rfl, rfl, hall, c0, c1, cf, hz, hb⟩ := hrel
    have HA := Lib.hid hall
    have HC := Lib.hid cf
    have HB := Lib.hid hb
    clear hall cf hb
    cases gk with
    | zero =>
      obtain rfl : k = ls.length := by omega
      clear hkg
      have hA := HA.out
      rw [List.take_length] at hA
      have HA' := Lib.hid hA
      clear hA
      go_wp2
      rw [Exit.noGoto_ret]
      go_ret
      exact ⟨ret_int (by rw [if_pos HA'.out]), HB.out⟩
    | succ g =>
      have hk : k < ls.length := by omega
      have HG := Lib.hid hkg
      clear hkg
      obtain ⟨b, off, rfl, hbl, hc⟩ := HL.out (by omega)
      obtain ⟨e0, e1, e2, e3⟩ := hc k (by omega)
      have f0 := (HB.out.cell (p := ⟨b, off + k * 4, none⟩) hbl).trans e0
      have f1 := (HB.out.cell (p := ⟨b, off + k * 4 + 1, none⟩) hbl).trans e1
      have f2 := (HB.out.cell (p := ⟨b, off + k * 4 + 2, none⟩) hbl).trans e2
      have f3 := (HB.out.cell (p := ⟨b, off + k * 4 + 3, none⟩) hbl).trans e3
      clear e0 e1 e2 e3 hc
      have hgl : ∃ l, ls.getD k (0, 0, 0, 0) = l := ⟨_, rfl⟩
      obtain ⟨l, hgl⟩ := hgl
      rw [hgl] at f0 f1 f2 f3
      have HGL := Lib.hid hgl
      clear hgl
      obtain ⟨lf, lt, lx, lc⟩ := l
      obtain ⟨wo, rfl⟩ : ∃ wo : World, wo = wr := ⟨_, rfl⟩
      go_wp2
      go_loopg [3, 31] 5 (fun g e i wx => ∃ j : Nat, j + g = 5 ∧ i = .int .i64 j ∧ e = .int .i64 0 ∧ (∀ i, i < j → chk nb (lf, lt, lx, lc) i = true) ∧ Below (wo.heap.size + 1) (wo.alloc (.cells #[.int .i64 lf, .int .i64 lt, .int .i64 lx, .int .i64 lc] 170)) wx)
      case atStart => exact ⟨0, rfl, rfl, rfl, fun i hi => absurd hi (by omega), Below.refl _ _⟩
      case round =>
        obtain ⟨j, hjg, rfl, rfl, hch, hb2⟩ := hrel
        have HCH := Lib.hid hch
        have HB2 := Lib.hid hb2
        clear hch
        have hz2 : wo.heap.size + 1 ≤ wr.heap.size := by have := hb2.size; simpa using this
        have g0 : wr.cell? ⟨w.heap.size, 0, none⟩ = some (.int .i64 nb) := (hb2.cell (by show w.heap.size < _; omega)).trans ((World.cell?_alloc_lt _ _ _ (by show w.heap.size < _; omega)).trans c0)
        have g1 : wr.cell? ⟨w.heap.size, 1, none⟩ = some (.slice (some ⟨b, off, none⟩) ls.length c) := (hb2.cell (by show w.heap.size < _; omega)).trans ((World.cell?_alloc_lt _ _ _ (by show w.heap.size < _; omega)).trans c1)
        have gf : ∀ j, j < 5 → wr.cell? ⟨w.heap.size + 1, j, none⟩ = some (chkFn j) := fun j hj => (hb2.cell (by show w.heap.size + 1 < _; omega)).trans ((World.cell?_alloc_lt _ _ _ (by show w.heap.size + 1 < _; omega)).trans (HC.out j hj))
        have l0 : wr.cell? ⟨wo.heap.size, 0, none⟩ = some (.int .i64 lf) := (hb2.cell (by show wo.heap.size < _; omega)).trans (by simp)
        have l1 : wr.cell? ⟨wo.heap.size, 1, none⟩ = some (.int .i64 lt) := (hb2.cell (by show wo.heap.size < _; omega)).trans (by simp)
        have l2 : wr.cell? ⟨wo.heap.size, 2, none⟩ = some (.int .i64 lx) := (hb2.cell (by show wo.heap.size < _; omega)).trans (by simp)
        have l3 : wr.cell? ⟨wo.heap.size, 3, none⟩ = some (.int .i64 lc) := (hb2.cell (by show wo.heap.size < _; omega)).trans (by simp)
        have HF := Lib.hid gf
        have q1 : w.heap.size < wr.heap.size := by omega
        have q2 : w.heap.size + 1 < wr.heap.size := by omega
        have q3 : wo.heap.size < wr.heap.size := by omega
        clear gf c0 c1 f0 f1 f2 f3 hb2
        cases gk with
        | zero =>
          obtain rfl : j = 5 := by omega
          clear hjg
          go_wp2
          go_roundg g
          case measure => omega
          case rel =>
            refine ⟨k + 1, by have := HG.out; omega, by go_num, rfl, all_take_succ _ _ _ _ hk HA.out (by rw [HGL.out]; exact lineOk_of _ _ HCH.out), g0, g1, HF.out, by omega, ?_⟩
            exact (HB.out.alloc (by omega) _).trans (HB2.out.mono (by omega))
        | succ g2 =>
          have hj5 : j < 5 := by omega
          have HJG := Lib.hid hjg
          clear hjg
          obtain ⟨fk, hfk, hwh, hcall⟩ := chkFn_calls nb lf lt lx lc j hj5
          have gj := HF.out j hj5
          rw [hfk] at gj
          clear hfk
          by_cases hck : chk nb (lf, lt, lx, lc) j = true
          · rw [hck] at hcall
            have HCK := Lib.hid hck
            have HCALL := Lib.hid hcall
            clear hcall hck
            rcases hwh with rfl | rfl | rfl | rfl | rfl
            all_goals
              go_wp2_with (first
                | (go_at_call 153; (with_reducible refine (HCALL.out _ _).mono ?_); rintro e w3 ⟨rfl, hb3⟩)
                | (go_at_call 155; (with_reducible refine (HCALL.out _ _).mono ?_); rintro e w3 ⟨rfl, hb3⟩)
                | (go_at_call 156; (with_reducible refine (HCALL.out _ _).mono ?_); rintro e w3 ⟨rfl, hb3⟩)
                | (go_at_call 157; (with_reducible refine (HCALL.out _ _).mono ?_); rintro e w3 ⟨rfl, hb3⟩)
                | (go_at_call 158; (with_reducible refine (HCALL.out _ _).mono ?_); rintro e w3 ⟨rfl, hb3⟩))
              go_roundg g2
              case measure => omega
              case rel =>
                refine ⟨j + 1, by have := HJG.out; omega, by go_num, rfl, ?_, ?_⟩
                · intro i hi
                  rcases Nat.lt_or_ge i j with h | h
                  · exact HCH.out i h
                  · obtain rfl : i = j := by omega
                    exact HCK.out
                · exact (HB2.out.alloc hz2 _).trans (hb3.mono (by simp; omega))
          · have hck' : chk nb (lf, lt, lx, lc) j = false := by simpa using hck
            rw [hck'] at hcall
            have HCK := Lib.hid hck'
            have HCALL := Lib.hid hcall
            clear hcall hck hck'
            rcases hwh with rfl | rfl | rfl | rfl | rfl
            all_goals
              go_wp2_with (first
                | (go_at_call 153; (with_reducible refine (HCALL.out _ _).mono ?_); rintro e w3 ⟨rfl, hb3⟩)
                | (go_at_call 155; (with_reducible refine (HCALL.out _ _).mono ?_); rintro e w3 ⟨rfl, hb3⟩)
                | (go_at_call 156; (with_reducible refine (HCALL.out _ _).mono ?_); rintro e w3 ⟨rfl, hb3⟩)
                | (go_at_call 157; (with_reducible refine (HCALL.out _ _).mono ?_); rintro e w3 ⟨rfl, hb3⟩)
                | (go_at_call 158; (with_reducible refine (HCALL.out _ _).mono ?_); rintro e w3 ⟨rfl, hb3⟩))
              rw [Exit.noGoto_ret]
              go_ret
              refine ⟨ret_int ?_, ?_⟩
              · rw [if_neg]
                rw [all_not _ _ _ _ hk (by rw [HGL.out]; exact lineOk_not _ _ _ hj5 HCK.out)]
                simp
              · exact (HB.out.alloc (by omega) _).trans ((HB2.out.mono (by omega)).trans (((Below.refl _ _).alloc (by omega) _).trans (hb3.mono (by simp; omega))))

set_option maxHeartbeats 400000 in
theorem check_any (nb : Int) (A : Option Addr) (c : Nat) (ls : List Ln) (w : World) (hl : LinesR w w.heap.size A ls) :
    Calls Tryz.prog 30 #[.agg #[.int .i64 nb, .slice A ls.length c]] w fun e w' => e = .returned (.int .i64 (checkE nb ls)) ∧ Below w.heap.size w w' := by
  have HL := Lib.hid hl
  clear hl
  by_cases h0 : nb < 1
  · go_enter Tryz.func30, Tryz.ntmps30
    go_wp2
    go_step3
    go_wp2
    try rw [Exit.noGoto_ret]
    go_ret
    exact ⟨ret_int (by simp [checkE, h0]), (Below.refl _ _).alloc (Nat.le_refl _) _⟩
  by_cases h1 : 6 < nb
  · go_enter Tryz.func30, Tryz.ntmps30
    go_wp2
    go_step3
    go_wp2
    try rw [Exit.noGoto_ret]
    go_ret
    exact ⟨ret_int (by simp [checkE, h1]), (Below.refl _ _).alloc (Nat.le_refl _) _⟩
  by_cases h2 : 10 < ls.length
  · go_enter Tryz.func30, Tryz.ntmps30
    go_wp2
    go_step3
    go_wp2
    try rw [Exit.noGoto_ret]
    go_ret
    exact ⟨ret_int (by rw [checkE, if_neg (by omega), if_pos h2]), (Below.refl _ _).alloc (Nat.le_refl _) _⟩
  have hE : checkE nb ls = if ls.all (lineOk nb) then 0 else 1 := by rw [checkE, if_neg (by omega), if_neg h2]
  rw [hE]
  exact check_main nb A c ls w HL.out (by omega) (by omega) (by omega)
end Go.Proofs.YtklanoppbbaolaaGreat
