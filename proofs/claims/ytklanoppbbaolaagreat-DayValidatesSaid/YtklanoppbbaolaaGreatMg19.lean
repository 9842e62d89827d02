/- The text CkD. -/
import Derived.Deep.QuietTactic
import Derived.BigQuiet
import Derived.BigGuardPart
import Derived.LoopTactic
import Derived.Deep.LoopGhost
import Derived.WalkMore
import Derived.Outline
import Derived.Deep.DeepCutAuto
import Derived.Test.YtklanoppbbaolaaGreatMg18
import Derived.Test.YtklanoppbbaolaaGreatMg10
import Derived.Test.YtklanoppbbaolaaGreatMg9
import Derived.Test.YtklanoppbbaolaaGreatStF
import Derived.Test.YtklanoppbbaolaaGreatMg1
import Derived.Test.YtklanoppbbaolaaGreatMg12
import Derived.Test.YtklanoppbbaolaaGreatProg
import Derived.Test.YtklanoppbbaolaaGreatMg13
/- The curves of package step: rising, falling, check, CheckOffer, CheckBid, Sum. -/
namespace Go.Proofs.YtklanoppbbaolaaGreat
open Go.RowKit
set_option linter.unusedVariables false
set_option linter.unusedSimpArgs false
set_option maxRecDepth 100000

attribute [local go_sem] store_func
def pvK (l : List St) (k : Nat) : Option Int := if k = 0 then none else some (l.getD (k - 1) (0, 0)).2
theorem stGo_at {f : Int → Int → Bool} {l : List St} {k : Nat} (hk : k < l.length) : stGo f (pvK l k) (l.drop k) = (if !stOk (l.getD k (0, 0)) then 1 else if (pvK l k).any (fun p => !f p (l.getD k (0, 0)).2) then 3 else stGo f (pvK l (k + 1)) (l.drop (k + 1))) := by
  rw [List.drop_eq_getElem_cons hk, ← getD_eq l k (0, 0) hk, stGo]
  rfl
theorem stGo_end (f : Int → Int → Bool) (l : List St) (pv : Option Int) : stGo f pv (l.drop l.length) = 0 := by rw [List.drop_length]; rfl
theorem stOk_no {q p : Int} (h : stOk (q, p) = false) : q < 1 ∨ (¬ q < 1 ∧ 1000000 < q) ∨ (¬ q < 1 ∧ ¬ 1000000 < q ∧ p < -1000000) ∨ (¬ q < 1 ∧ ¬ 1000000 < q ∧ ¬ p < -1000000 ∧ 1000000 < p) := by
  unfold stOk at h
  simp only [Bool.and_eq_false_iff, decide_eq_false_iff_not] at h
  omega
theorem stOk_yes {q p : Int} (h : stOk (q, p) = true) : 1 ≤ q ∧ q ≤ 1000000 ∧ -1000000 ≤ p ∧ p ≤ 1000000 := by
  unfold stOk at h
  simp only [Bool.and_eq_true, decide_eq_true_eq] at h
  omega
/-- An error code comes back; nothing that lay has turned. -/
def ErrE (w : World) (n : Int) (e : Ending) (w' : World) : Prop := e = .returned (.int .i64 n) ∧ Below w.heap.size w w'

set_option maxHeartbeats 1000000 in
theorem rise1 (a b : Int) (w : World) : Calls Tryz.prog 225 #[.int .i64 a, .int .i64 b] w fun e w' => e = .returned (.bool (rises a b)) ∧ w' = w := by
  unfold rises
  go_enter Tryz.func225, Tryz.ntmps225
  go_wp2_with fail
  go_ret
  exact ⟨rfl, rfl⟩
def riseV : Value := .agg #[.func (.func 225) #[] #[]]
set_option maxHeartbeats 1000000 in
theorem rise_mk (w : World) : Calls Tryz.prog 159 #[] w fun e w' => e = .returned riseV ∧ Below w.heap.size w w' := by
  go_enter Tryz.func159, Tryz.ntmps159
  go_wp2_with fail
  refine bodyPost_ret (v := riseV) (by simp [results, Tryz.results159, go_sem, riseV]) rfl ⟨rfl, (Below.refl _ _).alloc (Nat.le_refl _) _⟩
set_option maxHeartbeats 8000000 in
theorem rise_check (A : Option Addr) (c : Nat) (l : List St) (w : World) (hr : RowR StE 2 w w.heap.size A l) :
    Calls Tryz.prog 160 #[riseV, .slice A l.length c] w (ErrE w (stepsE rises l)) := by
  have HR := Lib.hid hr
  have HB0 := Lib.hid ((Below.refl w.heap.size w).alloc (Nat.le_refl _) (.cells #[.func (.func 225) #[] #[]] 266))
  unfold riseV
  clear hr
  by_cases h0 : l.length = 0
  · have E : Hid (stepsE rises l = 4) := if_pos h0
    have e0 : ((l.length : Int) == 0) = true := by rw [h0]; rfl
    clear h0
    go_enter Tryz.func160, Tryz.ntmps160
    go_wp2_with fail
    go_ret
    exact ⟨ret_int E.out.symm, HB0.out⟩
  have e0 : ((l.length : Int) == 0) = false := beq_eq_false_iff_ne.2 (by omega)
  by_cases h3 : 3 < l.length
  · have E : Hid (stepsE rises l = 5) := by show _ = _; unfold stepsE; rw [if_neg h0, if_pos h3]
    have e3 : decide ((3 : Int) < (l.length : Int)) = true := decide_eq_true (by omega)
    clear h0 h3
    go_enter Tryz.func160, Tryz.ntmps160
    go_wp2_with fail
    go_ret
    exact ⟨ret_int E.out.symm, HB0.out⟩
  have e3 : decide ((3 : Int) < (l.length : Int)) = false := decide_eq_false (by omega)
  have E : Hid (stepsE rises l = stGo rises none l) := by show _ = _; unfold stepsE; rw [if_neg h0, if_neg h3]
  generalize stepsE rises l = R at *
  have hl : l.length ≤ 1000000 := by omega
  clear h0 h3
  go_enter Tryz.func160, Tryz.ntmps160
  go_wp2_with fail
  go_loopg [4, 5, 6, 15] l.length (fun g s4 s5 s6 s15 wr => ∃ k : Nat, k + g = l.length ∧ s15 = .int .i64 (k : Int) ∧ stGo rises none l = stGo rises (pvK l k) (l.drop k) ∧ wr.cell? ⟨w.heap.size, 0, none⟩ = some (.func (.func 225) #[] #[]) ∧ w.heap.size < wr.heap.size ∧ Below w.heap.size w wr)
  case atStart => exact ⟨0, by omega, rfl, rfl, by simp, by simp, HB0.out⟩
  case round =>
    clear HB0 e0 e3
    obtain ⟨k, hkg, rfl, hs, c0, hbw, hb⟩ := hrel
    have HS := Lib.hid (E.out.trans hs)
    have HB := Lib.hid hb
    clear hs hb
    cases gk with
    | zero =>
      obtain rfl : k = l.length := by omega
      have HE : Hid (R = 0) := HS.out.trans (stGo_end _ _ _)
      clear hkg HS HR c0
      go_wp2_with fail
      try rw [Exit.noGoto_ret]
      go_ret
      exact ⟨ret_int HE.out.symm, HB.out⟩
    | succ g =>
      have hk : k < l.length := by omega
      have HG := Lib.hid hkg
      clear hkg
      have HS2 := Lib.hid (HS.out.trans (stGo_at hk))
      obtain ⟨b, off, cc, rfl, hbl, hcn, hce, hcc⟩ := HR.out.at_ k (0, 0) hk
      have hcc' := hcc
      rw [show cc = stC (l.getD k (0, 0)) from hce] at hcc
      have f0 := (HB.out.cell (p := ⟨b, off + k * 2, none⟩) hbl).trans (hcc 0 _ rfl)
      have f1 := (HB.out.cell (p := ⟨b, off + k * 2 + 1, none⟩) hbl).trans (hcc 1 _ rfl)
      clear hcc hcc' hce hcn HS
      cases hx : l.getD k (0, 0) with
      | mk q p =>
      rw [hx] at f0 f1 HS2
      have HX := Lib.hid hx
      clear hx
      have f0' : wr.cell? ⟨b, off + k * 2, none⟩ = some (.int .i64 q) := f0
      have f1' : wr.cell? ⟨b, off + k * 2 + 1, none⟩ = some (.int .i64 p) := f1
      clear f0 f1
      cases hok : stOk (q, p) with
      | false =>
        have HE : Hid (R = 1) := HS2.out.trans (if_pos (by rw [hok]; rfl))
        have hno := stOk_no hok
        clear hok HS2
        rcases hno with h | ⟨h1, h2⟩ | ⟨h1, h2, h3⟩ | ⟨h1, h2, h3, h4⟩
        · have d1 : decide (q < 1) = true := decide_eq_true h
          go_wp2_with fail
          try rw [Exit.noGoto_ret]
          go_ret
          exact ⟨ret_int HE.out.symm, HB.out.alloc (by omega) _⟩
        · have d1 : decide (q < 1) = false := decide_eq_false h1
          have d2 : decide (1000000 < q) = true := decide_eq_true h2
          go_wp2_with fail
          try rw [Exit.noGoto_ret]
          go_ret
          exact ⟨ret_int HE.out.symm, HB.out.alloc (by omega) _⟩
        · have d1 : decide (q < 1) = false := decide_eq_false h1
          have d2 : decide (1000000 < q) = false := decide_eq_false h2
          have d3 : decide (p < -1000000) = true := decide_eq_true h3
          go_wp2_with fail
          try rw [Exit.noGoto_ret]
          go_ret
          exact ⟨ret_int HE.out.symm, HB.out.alloc (by omega) _⟩
        · have d1 : decide (q < 1) = false := decide_eq_false h1
          have d2 : decide (1000000 < q) = false := decide_eq_false h2
          have d3 : decide (p < -1000000) = false := decide_eq_false h3
          have d4 : decide (1000000 < p) = true := decide_eq_true h4
          go_wp2_with fail
          try rw [Exit.noGoto_ret]
          go_ret
          exact ⟨ret_int HE.out.symm, HB.out.alloc (by omega) _⟩
      | true =>
        replace HS2 : Hid (R = _) := HS2.out.trans (if_neg (by rw [hok]; simp))
        have hy := stOk_yes hok
        have d1 : decide (q < 1) = false := decide_eq_false (by omega)
        have d2 : decide (1000000 < q) = false := decide_eq_false (by omega)
        have d3 : decide (p < -1000000) = false := decide_eq_false (by omega)
        have d4 : decide (1000000 < p) = false := decide_eq_false (by omega)
        clear hok hy
        cases k with
        | zero =>
          replace HS2 : Hid (R = _) := HS2.out.trans (if_neg (by simp [pvK]))
          have k0 : decide ((0 : Int) < ((0 : Nat) : Int)) = false := by decide
          have g0 : wr.cell? ⟨b, off, none⟩ = some (.int .i64 q) := by simpa using f0'
          have g1 : wr.cell? ⟨b, off + 1, none⟩ = some (.int .i64 p) := by simpa using f1'
          clear f0' f1'
          go_wp2_with fail
          refine region_T (w0 := (wr.alloc (.cells #[.int .i64 q, .int .i64 p] 79))) [(5, .int .i64 0), (38, .int .i64 0), (39, .bool false), (40, .bool false), (41, undef), (42, undef), (43, undef), (44, undef), (45, undef), (46, undef), (47, undef), (48, undef), (49, undef), (50, undef), (51, undef), (52, undef), (53, .bool false)] [] [5] ?_ ?_
          · intro T hT W hI
            simp only [HoldsT, and_true] at hT
            repeat' first | exact AllO.nil | apply AllO.cons
            all_goals try ((first | refine oV ?_ | refine oN ?_ | refine oG (t := by simp only [hT]) (h := ?_)); simp [go_sem, EvT, hT, valT]; done)
            all_goals try (exact opT_s true (t := by simp only [hT]) (n := by decide) (e := by simp [valT, hT]))
            all_goals try (exact opT_s false (t := by simp only [hT]) (n := by decide) (e := by simp [valT, hT]))
          intro wx hb
          simp (decide := true) only [putT, valT, look, Act.put, List.setIfInBounds_toArray, List.set_cons_zero, List.set_cons_succ, Nat.reduceAdd, if_true, if_false]
          have HB1 := Lib.hid ((HB.out.alloc (by omega) (.cells #[.int .i64 q, .int .i64 p] 79)).trans (hb.mono (by simp; omega)))
          have c1 : wx.cell? ⟨w.heap.size, 0, none⟩ = some (.func (.func 225) #[] #[]) := (hb.cell (p := ⟨w.heap.size, 0, none⟩) (by simp; omega)).trans (cell_alloc_of _ c0)
          have hbw2 : w.heap.size < wx.heap.size := by have := hb.size; simp at this; omega
          clear hb
          go_wp2_with fail
          go_roundg g
          case measure => omega
          case rel => exact ⟨1, by have := HG.out; omega, by go_num, E.out.symm.trans HS2.out, c1, hbw2, HB1.out⟩
        | succ k =>
          obtain ⟨b', off', cc', hA', _, _, hce', hcc'⟩ := HR.out.at_ k (0, 0) (by omega)
          obtain ⟨rfl, rfl⟩ : b' = b ∧ off' = off := by injection hA' with h; injection h with h1 h2; exact ⟨h1.symm, h2.symm⟩
          rw [show cc' = stC (l.getD k (0, 0)) from hce'] at hcc'
          have f2 := (HB.out.cell (p := ⟨b', off' + k * 2 + 1, none⟩) hbl).trans (hcc' 1 _ rfl)
          have HPV : Hid (pvK l (k + 1) = some (l.getD k (0, 0)).2) := if_neg (by omega)
          replace f2 : wr.cell? ⟨b', off' + k * 2 + 1, none⟩ = some (.int .i64 (l.getD k (0, 0)).2) := f2
          clear hcc' hce' hA'
          generalize (l.getD k (0, 0)).2 = pp at *
          replace HS2 : Hid (R = if (rises pp p) = true then stGo rises (pvK l (k + 1 + 1)) (l.drop (k + 1 + 1)) else 3) := by
            show _ = _
            rw [HS2.out, HPV.out]
            cases hh : rises pp p <;> simp [hh]
          clear HPV
          have KC : ∀ W, Calls Tryz.prog 225 #[.int .i64 pp, .int .i64 p] W fun e w' => e = .returned (.bool (rises pp p)) ∧ Below W.heap.size W w' := fun W => (rise1 pp p W).mono fun e w' ⟨he, hw⟩ => ⟨he, by rw [hw]; exact Below.refl _ _⟩
          have k0 : decide ((0 : Int) < ((k + 1 : Nat) : Int)) = true := decide_eq_true (by omega)
          have k1 : IntKind.i64.wrap (((k + 1 : Nat) : Int) - 1) = (k : Int) := by rw [IntWalk.i64_in _ (by omega)]; omega
          have k2 : (k : Int) < (l.length : Int) := by omega
          have k3 : IntKind.i64.wrap (k : Int) = (k : Int) := IntWalk.i64_in _ (by omega)
          have hbl2 : b' < wr.heap.size := Nat.lt_of_lt_of_le hbl HB.out.size
          cases hf : rises pp p with
          | true =>
            rw [hf] at KC HS2
            replace HS2 : Hid (R = _) := HS2.out.trans (if_pos rfl)
            clear hf
            go_wp2_with fail
            refine region_T (w0 := (wr.alloc (.cells #[.int .i64 q, .int .i64 p] 79))) [(1, .slice (some ⟨b', off', none⟩) l.length c), (2, .pointer (some ⟨w.heap.size, 0, none⟩)), (5, .int .i64 ((k + 1 : Nat) : Int)), (6, .pointer (some ⟨wr.heap.size, 0, none⟩)), (38, .int .i64 ((k + 1 : Nat) : Int)), (39, .bool true), (40, .bool true), (41, .pointer (some ⟨w.heap.size, 0, none⟩)), (42, .func (.func 225) #[] #[]), (43, .slice (some ⟨b', off', none⟩) l.length c), (44, .int .i64 ((k + 1 : Nat) : Int)), (45, .int .i64 (k : Int)), (46, .pointer (some ⟨b', off' + k * 2, none⟩)), (47, .pointer (some ⟨b', off' + k * 2 + 1, none⟩)), (48, .int .i64 pp), (49, .pointer (some ⟨wr.heap.size, 1, none⟩)), (50, .int .i64 p), (51, .bool true), (52, .bool false), (53, .bool false)] [] [1, 2, 5, 6] ?_ ?_
            · intro T hT W hI
              simp only [HoldsT, and_true] at hT
              have l0 : W.cell? ⟨w.heap.size, 0, none⟩ = _ := (hI.cell (p := ⟨w.heap.size, 0, none⟩) (by simp; omega)).trans (cell_alloc_of _ c0)
              have l1 : W.cell? ⟨b', off' + k * 2 + 1, none⟩ = _ := (hI.cell (p := ⟨b', off' + k * 2 + 1, none⟩) (by simp; omega)).trans (cell_alloc_of _ f2)
              have l2 : W.cell? ⟨wr.heap.size, 1, none⟩ = some (.int .i64 p) := (hI.cell (p := ⟨wr.heap.size, 1, none⟩) (by simp)).trans (by simp)
              repeat' first | exact AllO.nil | apply AllO.cons
              all_goals try ((first | refine oV ?_ | refine oN ?_ | refine oG (t := by simp only [hT]) (h := ?_)); simp [go_sem, EvT, hT, k0, l0, k1, k3, k2, l1, l2, valT]; done)
              · refine opT_g (t := by simp only [hT]) (h := runT_c 225 #[.int .i64 pp, .int .i64 p] (by simp [go_sem, EvT, hT, k0, l0, k1, k3, k2, l1, l2]) ?_)
                simp only [valT, hT]
                exact KC W
            intro wx hb
            simp (decide := true) only [putT, valT, look, Act.put, List.setIfInBounds_toArray, List.set_cons_zero, List.set_cons_succ, Nat.reduceAdd, if_true, if_false]
            have HB1 := Lib.hid ((HB.out.alloc (by omega) (.cells #[.int .i64 q, .int .i64 p] 79)).trans (hb.mono (by simp; omega)))
            have c1 : wx.cell? ⟨w.heap.size, 0, none⟩ = some (.func (.func 225) #[] #[]) := (hb.cell (p := ⟨w.heap.size, 0, none⟩) (by simp; omega)).trans (cell_alloc_of _ c0)
            have hbw2 : w.heap.size < wx.heap.size := by have := hb.size; simp at this; omega
            clear hb
            go_wp2_with fail
            go_roundg g
            case measure => omega
            case rel => exact ⟨k + 1 + 1, by have := HG.out; omega, by go_num, E.out.symm.trans HS2.out, c1, hbw2, HB1.out⟩
          | false =>
            rw [hf] at KC HS2
            replace HS2 : Hid (R = _) := HS2.out.trans (if_neg (by simp))
            clear hf
            go_wp2_with fail
            refine region_T (w0 := (wr.alloc (.cells #[.int .i64 q, .int .i64 p] 79))) [(1, .slice (some ⟨b', off', none⟩) l.length c), (2, .pointer (some ⟨w.heap.size, 0, none⟩)), (5, .int .i64 ((k + 1 : Nat) : Int)), (6, .pointer (some ⟨wr.heap.size, 0, none⟩)), (38, .int .i64 ((k + 1 : Nat) : Int)), (39, .bool true), (40, .bool true), (41, .pointer (some ⟨w.heap.size, 0, none⟩)), (42, .func (.func 225) #[] #[]), (43, .slice (some ⟨b', off', none⟩) l.length c), (44, .int .i64 ((k + 1 : Nat) : Int)), (45, .int .i64 (k : Int)), (46, .pointer (some ⟨b', off' + k * 2, none⟩)), (47, .pointer (some ⟨b', off' + k * 2 + 1, none⟩)), (48, .int .i64 pp), (49, .pointer (some ⟨wr.heap.size, 1, none⟩)), (50, .int .i64 p), (51, .bool false), (52, .bool true), (53, .bool true)] [] [1, 2, 5, 6] ?_ ?_
            · intro T hT W hI
              simp only [HoldsT, and_true] at hT
              have l0 : W.cell? ⟨w.heap.size, 0, none⟩ = _ := (hI.cell (p := ⟨w.heap.size, 0, none⟩) (by simp; omega)).trans (cell_alloc_of _ c0)
              have l1 : W.cell? ⟨b', off' + k * 2 + 1, none⟩ = _ := (hI.cell (p := ⟨b', off' + k * 2 + 1, none⟩) (by simp; omega)).trans (cell_alloc_of _ f2)
              have l2 : W.cell? ⟨wr.heap.size, 1, none⟩ = some (.int .i64 p) := (hI.cell (p := ⟨wr.heap.size, 1, none⟩) (by simp)).trans (by simp)
              repeat' first | exact AllO.nil | apply AllO.cons
              all_goals try ((first | refine oV ?_ | refine oN ?_ | refine oG (t := by simp only [hT]) (h := ?_)); simp [go_sem, EvT, hT, k0, l0, k1, k3, k2, l1, l2, valT]; done)
              · refine opT_g (t := by simp only [hT]) (h := runT_c 225 #[.int .i64 pp, .int .i64 p] (by simp [go_sem, EvT, hT, k0, l0, k1, k3, k2, l1, l2]) ?_)
                simp only [valT, hT]
                exact KC W
            intro wx hb
            simp (decide := true) only [putT, valT, look, Act.put, List.setIfInBounds_toArray, List.set_cons_zero, List.set_cons_succ, Nat.reduceAdd, if_true, if_false]
            have HB1 := Lib.hid ((HB.out.alloc (by omega) (.cells #[.int .i64 q, .int .i64 p] 79)).trans (hb.mono (by simp; omega)))
            clear hb
            go_wp2_with fail
            try rw [Exit.noGoto_ret]
            go_ret
            exact ⟨ret_int HS2.out.symm, HB1.out⟩

set_option maxHeartbeats 1000000 in
theorem rise_any (A : Option Addr) (c : Nat) (l : List St) (w : World) (hr : RowR StE 2 w w.heap.size A l) :
    Calls Tryz.prog 83 #[.slice A l.length c] w (ErrE w (stepsE rises l)) := by
  have K1 := Lib.hid fun W => rise_mk W
  have K2 := Lib.hid fun W h => rise_check A c l W h
  have HR := Lib.hid hr
  clear hr
  go_enter Tryz.func83, Tryz.ntmps83
  go_wp2_with fail
  refine (K1.out _).mono ?_
  rintro e w1 ⟨rfl, hb1⟩
  have HR1 := Lib.hid (HR.out.upto StE.keep hb1)
  have HB := Lib.hid hb1
  clear hb1
  go_wp2_with fail
  refine (K2.out _ HR1.out).mono ?_
  rintro e w2 ⟨rfl, hb2⟩
  go_wp2_with fail
  go_ret
  exact ⟨rfl, HB.out.trans (hb2.mono HB.out.size)⟩

set_option maxHeartbeats 1000000 in
theorem fall1 (a b : Int) (w : World) : Calls Tryz.prog 226 #[.int .i64 a, .int .i64 b] w fun e w' => e = .returned (.bool (falls a b)) ∧ w' = w := by
  unfold falls
  go_enter Tryz.func226, Tryz.ntmps226
  go_wp2_with fail
  go_ret
  exact ⟨rfl, rfl⟩
def fallV : Value := .agg #[.func (.func 226) #[] #[]]
set_option maxHeartbeats 1000000 in
theorem fall_mk (w : World) : Calls Tryz.prog 162 #[] w fun e w' => e = .returned fallV ∧ Below w.heap.size w w' := by
  go_enter Tryz.func162, Tryz.ntmps162
  go_wp2_with fail
  refine bodyPost_ret (v := fallV) (by simp [results, Tryz.results162, go_sem, fallV]) rfl ⟨rfl, (Below.refl _ _).alloc (Nat.le_refl _) _⟩
set_option maxHeartbeats 8000000 in
theorem fall_check (A : Option Addr) (c : Nat) (l : List St) (w : World) (hr : RowR StE 2 w w.heap.size A l) :
    Calls Tryz.prog 160 #[fallV, .slice A l.length c] w (ErrE w (stepsE falls l)) := by
  have HR := Lib.hid hr
  have HB0 := Lib.hid ((Below.refl w.heap.size w).alloc (Nat.le_refl _) (.cells #[.func (.func 226) #[] #[]] 266))
  unfold fallV
  clear hr
  by_cases h0 : l.length = 0
  · have E : Hid (stepsE falls l = 4) := if_pos h0
    have e0 : ((l.length : Int) == 0) = true := by rw [h0]; rfl
    clear h0
    go_enter Tryz.func160, Tryz.ntmps160
    go_wp2_with fail
    go_ret
    exact ⟨ret_int E.out.symm, HB0.out⟩
  have e0 : ((l.length : Int) == 0) = false := beq_eq_false_iff_ne.2 (by omega)
  by_cases h3 : 3 < l.length
  · have E : Hid (stepsE falls l = 5) := by show _ = _; unfold stepsE; rw [if_neg h0, if_pos h3]
    have e3 : decide ((3 : Int) < (l.length : Int)) = true := decide_eq_true (by omega)
    clear h0 h3
    go_enter Tryz.func160, Tryz.ntmps160
    go_wp2_with fail
    go_ret
    exact ⟨ret_int E.out.symm, HB0.out⟩
  have e3 : decide ((3 : Int) < (l.length : Int)) = false := decide_eq_false (by omega)
  have E : Hid (stepsE falls l = stGo falls none l) := by show _ = _; unfold stepsE; rw [if_neg h0, if_neg h3]
  generalize stepsE falls l = R at *
  have hl : l.length ≤ 1000000 := by omega
  clear h0 h3
  go_enter Tryz.func160, Tryz.ntmps160
  go_wp2_with fail
  go_loopg [4, 5, 6, 15] l.length (fun g s4 s5 s6 s15 wr => ∃ k : Nat, k + g = l.length ∧ s15 = .int .i64 (k : Int) ∧ stGo falls none l = stGo falls (pvK l k) (l.drop k) ∧ wr.cell? ⟨w.heap.size, 0, none⟩ = some (.func (.func 226) #[] #[]) ∧ w.heap.size < wr.heap.size ∧ Below w.heap.size w wr)
  case atStart => exact ⟨0, by omega, rfl, rfl, by simp, by simp, HB0.out⟩
  case round =>
    clear HB0 e0 e3
    obtain ⟨k, hkg, rfl, hs, c0, hbw, hb⟩ := hrel
    have HS := Lib.hid (E.out.trans hs)
    have HB := Lib.hid hb
    clear hs hb
    cases gk with
    | zero =>
      obtain rfl : k = l.length := by omega
      have HE : Hid (R = 0) := HS.out.trans (stGo_end _ _ _)
      clear hkg HS HR c0
      go_wp2_with fail
      try rw [Exit.noGoto_ret]
      go_ret
      exact ⟨ret_int HE.out.symm, HB.out⟩
    | succ g =>
      have hk : k < l.length := by omega
      have HG := Lib.hid hkg
      clear hkg
      have HS2 := Lib.hid (HS.out.trans (stGo_at hk))
      obtain ⟨b, off, cc, rfl, hbl, hcn, hce, hcc⟩ := HR.out.at_ k (0, 0) hk
      have hcc' := hcc
      rw [show cc = stC (l.getD k (0, 0)) from hce] at hcc
      have f0 := (HB.out.cell (p := ⟨b, off + k * 2, none⟩) hbl).trans (hcc 0 _ rfl)
      have f1 := (HB.out.cell (p := ⟨b, off + k * 2 + 1, none⟩) hbl).trans (hcc 1 _ rfl)
      clear hcc hcc' hce hcn HS
      cases hx : l.getD k (0, 0) with
      | mk q p =>
      rw [hx] at f0 f1 HS2
      have HX := Lib.hid hx
      clear hx
      have f0' : wr.cell? ⟨b, off + k * 2, none⟩ = some (.int .i64 q) := f0
      have f1' : wr.cell? ⟨b, off + k * 2 + 1, none⟩ = some (.int .i64 p) := f1
      clear f0 f1
      cases hok : stOk (q, p) with
      | false =>
        have HE : Hid (R = 1) := HS2.out.trans (if_pos (by rw [hok]; rfl))
        have hno := stOk_no hok
        clear hok HS2
        rcases hno with h | ⟨h1, h2⟩ | ⟨h1, h2, h3⟩ | ⟨h1, h2, h3, h4⟩
        · have d1 : decide (q < 1) = true := decide_eq_true h
          go_wp2_with fail
          try rw [Exit.noGoto_ret]
          go_ret
          exact ⟨ret_int HE.out.symm, HB.out.alloc (by omega) _⟩
        · have d1 : decide (q < 1) = false := decide_eq_false h1
          have d2 : decide (1000000 < q) = true := decide_eq_true h2
          go_wp2_with fail
          try rw [Exit.noGoto_ret]
          go_ret
          exact ⟨ret_int HE.out.symm, HB.out.alloc (by omega) _⟩
        · have d1 : decide (q < 1) = false := decide_eq_false h1
          have d2 : decide (1000000 < q) = false := decide_eq_false h2
          have d3 : decide (p < -1000000) = true := decide_eq_true h3
          go_wp2_with fail
          try rw [Exit.noGoto_ret]
          go_ret
          exact ⟨ret_int HE.out.symm, HB.out.alloc (by omega) _⟩
        · have d1 : decide (q < 1) = false := decide_eq_false h1
          have d2 : decide (1000000 < q) = false := decide_eq_false h2
          have d3 : decide (p < -1000000) = false := decide_eq_false h3
          have d4 : decide (1000000 < p) = true := decide_eq_true h4
          go_wp2_with fail
          try rw [Exit.noGoto_ret]
          go_ret
          exact ⟨ret_int HE.out.symm, HB.out.alloc (by omega) _⟩
      | true =>
        replace HS2 : Hid (R = _) := HS2.out.trans (if_neg (by rw [hok]; simp))
        have hy := stOk_yes hok
        have d1 : decide (q < 1) = false := decide_eq_false (by omega)
        have d2 : decide (1000000 < q) = false := decide_eq_false (by omega)
        have d3 : decide (p < -1000000) = false := decide_eq_false (by omega)
        have d4 : decide (1000000 < p) = false := decide_eq_false (by omega)
        clear hok hy
        cases k with
        | zero =>
          replace HS2 : Hid (R = _) := HS2.out.trans (if_neg (by simp [pvK]))
          have k0 : decide ((0 : Int) < ((0 : Nat) : Int)) = false := by decide
          have g0 : wr.cell? ⟨b, off, none⟩ = some (.int .i64 q) := by simpa using f0'
          have g1 : wr.cell? ⟨b, off + 1, none⟩ = some (.int .i64 p) := by simpa using f1'
          clear f0' f1'
          go_wp2_with fail
          refine region_T (w0 := (wr.alloc (.cells #[.int .i64 q, .int .i64 p] 79))) [(5, .int .i64 0), (38, .int .i64 0), (39, .bool false), (40, .bool false), (41, undef), (42, undef), (43, undef), (44, undef), (45, undef), (46, undef), (47, undef), (48, undef), (49, undef), (50, undef), (51, undef), (52, undef), (53, .bool false)] [] [5] ?_ ?_
          · intro T hT W hI
            simp only [HoldsT, and_true] at hT
            repeat' first | exact AllO.nil | apply AllO.cons
            all_goals try ((first | refine oV ?_ | refine oN ?_ | refine oG (t := by simp only [hT]) (h := ?_)); simp [go_sem, EvT, hT, valT]; done)
            all_goals try (exact opT_s true (t := by simp only [hT]) (n := by decide) (e := by simp [valT, hT]))
            all_goals try (exact opT_s false (t := by simp only [hT]) (n := by decide) (e := by simp [valT, hT]))
          intro wx hb
          simp (decide := true) only [putT, valT, look, Act.put, List.setIfInBounds_toArray, List.set_cons_zero, List.set_cons_succ, Nat.reduceAdd, if_true, if_false]
          have HB1 := Lib.hid ((HB.out.alloc (by omega) (.cells #[.int .i64 q, .int .i64 p] 79)).trans (hb.mono (by simp; omega)))
          have c1 : wx.cell? ⟨w.heap.size, 0, none⟩ = some (.func (.func 226) #[] #[]) := (hb.cell (p := ⟨w.heap.size, 0, none⟩) (by simp; omega)).trans (cell_alloc_of _ c0)
          have hbw2 : w.heap.size < wx.heap.size := by have := hb.size; simp at this; omega
          clear hb
          go_wp2_with fail
          go_roundg g
          case measure => omega
          case rel => exact ⟨1, by have := HG.out; omega, by go_num, E.out.symm.trans HS2.out, c1, hbw2, HB1.out⟩
        | succ k =>
          obtain ⟨b', off', cc', hA', _, _, hce', hcc'⟩ := HR.out.at_ k (0, 0) (by omega)
          obtain ⟨rfl, rfl⟩ : b' = b ∧ off' = off := by injection hA' with h; injection h with h1 h2; exact ⟨h1.symm, h2.symm⟩
          rw [show cc' = stC (l.getD k (0, 0)) from hce'] at hcc'
          have f2 := (HB.out.cell (p := ⟨b', off' + k * 2 + 1, none⟩) hbl).trans (hcc' 1 _ rfl)
          have HPV : Hid (pvK l (k + 1) = some (l.getD k (0, 0)).2) := if_neg (by omega)
          replace f2 : wr.cell? ⟨b', off' + k * 2 + 1, none⟩ = some (.int .i64 (l.getD k (0, 0)).2) := f2
          clear hcc' hce' hA'
          generalize (l.getD k (0, 0)).2 = pp at *
          replace HS2 : Hid (R = if (falls pp p) = true then stGo falls (pvK l (k + 1 + 1)) (l.drop (k + 1 + 1)) else 3) := by
            show _ = _
            rw [HS2.out, HPV.out]
            cases hh : falls pp p <;> simp [hh]
          clear HPV
          have KC : ∀ W, Calls Tryz.prog 226 #[.int .i64 pp, .int .i64 p] W fun e w' => e = .returned (.bool (falls pp p)) ∧ Below W.heap.size W w' := fun W => (fall1 pp p W).mono fun e w' ⟨he, hw⟩ => ⟨he, by rw [hw]; exact Below.refl _ _⟩
          have k0 : decide ((0 : Int) < ((k + 1 : Nat) : Int)) = true := decide_eq_true (by omega)
          have k1 : IntKind.i64.wrap (((k + 1 : Nat) : Int) - 1) = (k : Int) := by rw [IntWalk.i64_in _ (by omega)]; omega
          have k2 : (k : Int) < (l.length : Int) := by omega
          have k3 : IntKind.i64.wrap (k : Int) = (k : Int) := IntWalk.i64_in _ (by omega)
          have hbl2 : b' < wr.heap.size := Nat.lt_of_lt_of_le hbl HB.out.size
          cases hf : falls pp p with
          | true =>
            rw [hf] at KC HS2
            replace HS2 : Hid (R = _) := HS2.out.trans (if_pos rfl)
            clear hf
            go_wp2_with fail
            refine region_T (w0 := (wr.alloc (.cells #[.int .i64 q, .int .i64 p] 79))) [(1, .slice (some ⟨b', off', none⟩) l.length c), (2, .pointer (some ⟨w.heap.size, 0, none⟩)), (5, .int .i64 ((k + 1 : Nat) : Int)), (6, .pointer (some ⟨wr.heap.size, 0, none⟩)), (38, .int .i64 ((k + 1 : Nat) : Int)), (39, .bool true), (40, .bool true), (41, .pointer (some ⟨w.heap.size, 0, none⟩)), (42, .func (.func 226) #[] #[]), (43, .slice (some ⟨b', off', none⟩) l.length c), (44, .int .i64 ((k + 1 : Nat) : Int)), (45, .int .i64 (k : Int)), (46, .pointer (some ⟨b', off' + k * 2, none⟩)), (47, .pointer (some ⟨b', off' + k * 2 + 1, none⟩)), (48, .int .i64 pp), (49, .pointer (some ⟨wr.heap.size, 1, none⟩)), (50, .int .i64 p), (51, .bool true), (52, .bool false), (53, .bool false)] [] [1, 2, 5, 6] ?_ ?_
            · intro T hT W hI
              simp only [HoldsT, and_true] at hT
              have l0 : W.cell? ⟨w.heap.size, 0, none⟩ = _ := (hI.cell (p := ⟨w.heap.size, 0, none⟩) (by simp; omega)).trans (cell_alloc_of _ c0)
              have l1 : W.cell? ⟨b', off' + k * 2 + 1, none⟩ = _ := (hI.cell (p := ⟨b', off' + k * 2 + 1, none⟩) (by simp; omega)).trans (cell_alloc_of _ f2)
              have l2 : W.cell? ⟨wr.heap.size, 1, none⟩ = some (.int .i64 p) := (hI.cell (p := ⟨wr.heap.size, 1, none⟩) (by simp)).trans (by simp)
              repeat' first | exact AllO.nil | apply AllO.cons
              all_goals try ((first | refine oV ?_ | refine oN ?_ | refine oG (t := by simp only [hT]) (h := ?_)); simp [go_sem, EvT, hT, k0, l0, k1, k3, k2, l1, l2, valT]; done)
              · refine opT_g (t := by simp only [hT]) (h := runT_c 226 #[.int .i64 pp, .int .i64 p] (by simp [go_sem, EvT, hT, k0, l0, k1, k3, k2, l1, l2]) ?_)
                simp only [valT, hT]
                exact KC W
            intro wx hb
            simp (decide := true) only [putT, valT, look, Act.put, List.setIfInBounds_toArray, List.set_cons_zero, List.set_cons_succ, Nat.reduceAdd, if_true, if_false]
            have HB1 := Lib.hid ((HB.out.alloc (by omega) (.cells #[.int .i64 q, .int .i64 p] 79)).trans (hb.mono (by simp; omega)))
            have c1 : wx.cell? ⟨w.heap.size, 0, none⟩ = some (.func (.func 226) #[] #[]) := (hb.cell (p := ⟨w.heap.size, 0, none⟩) (by simp; omega)).trans (cell_alloc_of _ c0)
            have hbw2 : w.heap.size < wx.heap.size := by have := hb.size; simp at this; omega
            clear hb
            go_wp2_with fail
            go_roundg g
            case measure => omega
            case rel => exact ⟨k + 1 + 1, by have := HG.out; omega, by go_num, E.out.symm.trans HS2.out, c1, hbw2, HB1.out⟩
          | false =>
            rw [hf] at KC HS2
            replace HS2 : Hid (R = _) := HS2.out.trans (if_neg (by simp))
            clear hf
            go_wp2_with fail
            refine region_T (w0 := (wr.alloc (.cells #[.int .i64 q, .int .i64 p] 79))) [(1, .slice (some ⟨b', off', none⟩) l.length c), (2, .pointer (some ⟨w.heap.size, 0, none⟩)), (5, .int .i64 ((k + 1 : Nat) : Int)), (6, .pointer (some ⟨wr.heap.size, 0, none⟩)), (38, .int .i64 ((k + 1 : Nat) : Int)), (39, .bool true), (40, .bool true), (41, .pointer (some ⟨w.heap.size, 0, none⟩)), (42, .func (.func 226) #[] #[]), (43, .slice (some ⟨b', off', none⟩) l.length c), (44, .int .i64 ((k + 1 : Nat) : Int)), (45, .int .i64 (k : Int)), (46, .pointer (some ⟨b', off' + k * 2, none⟩)), (47, .pointer (some ⟨b', off' + k * 2 + 1, none⟩)), (48, .int .i64 pp), (49, .pointer (some ⟨wr.heap.size, 1, none⟩)), (50, .int .i64 p), (51, .bool false), (52, .bool true), (53, .bool true)] [] [1, 2, 5, 6] ?_ ?_
            · intro T hT W hI
              simp only [HoldsT, and_true] at hT
              have l0 : W.cell? ⟨w.heap.size, 0, none⟩ = _ := (hI.cell (p := ⟨w.heap.size, 0, none⟩) (by simp; omega)).trans (cell_alloc_of _ c0)
              have l1 : W.cell? ⟨b', off' + k * 2 + 1, none⟩ = _ := (hI.cell (p := ⟨b', off' + k * 2 + 1, none⟩) (by simp; omega)).trans (cell_alloc_of _ f2)
              have l2 : W.cell? ⟨wr.heap.size, 1, none⟩ = some (.int .i64 p) := (hI.cell (p := ⟨wr.heap.size, 1, none⟩) (by simp)).trans (by simp)
              repeat' first | exact AllO.nil | apply AllO.cons
              all_goals try ((first | refine oV ?_ | refine oN ?_ | refine oG (t := by simp only [hT]) (h := ?_)); simp [go_sem, EvT, hT, k0, l0, k1, k3, k2, l1, l2, valT]; done)
              · refine opT_g (t := by simp only [hT]) (h := runT_c 226 #[.int .i64 pp, .int .i64 p] (by simp [go_sem, EvT, hT, k0, l0, k1, k3, k2, l1, l2]) ?_)
                simp only [valT, hT]
                exact KC W
            intro wx hb
            simp (decide := true) only [putT, valT, look, Act.put, List.setIfInBounds_toArray, List.set_cons_zero, List.set_cons_succ, Nat.reduceAdd, if_true, if_false]
            have HB1 := Lib.hid ((HB.out.alloc (by omega) (.cells #[.int .i64 q, .int .i64 p] 79)).trans (hb.mono (by simp; omega)))
            clear hb
            go_wp2_with fail
            try rw [Exit.noGoto_ret]
            go_ret
            exact ⟨ret_int HS2.out.symm, HB1.out⟩

set_option maxHeartbeats 1000000 in
theorem fall_any (A : Option Addr) (c : Nat) (l : List St) (w : World) (hr : RowR StE 2 w w.heap.size A l) :
    Calls Tryz.prog 85 #[.slice A l.length c] w (ErrE w (stepsE falls l)) := by
  have K1 := Lib.hid fun W => fall_mk W
  have K2 := Lib.hid fun W h => fall_check A c l W h
  have HR := Lib.hid hr
  clear hr
  go_enter Tryz.func85, Tryz.ntmps85
  go_wp2_with fail
  refine (K1.out _).mono ?_
  rintro e w1 ⟨rfl, hb1⟩
  have HR1 := Lib.hid (HR.out.upto StE.keep hb1)
  have HB := Lib.hid hb1
  clear hb1
  go_wp2_with fail
  refine (K2.out _ HR1.out).mono ?_
  rintro e w2 ⟨rfl, hb2⟩
  go_wp2_with fail
  go_ret
  exact ⟨rfl, HB.out.trans (hb2.mono HB.out.size)⟩
end Go.Proofs.YtklanoppbbaolaaGreat
