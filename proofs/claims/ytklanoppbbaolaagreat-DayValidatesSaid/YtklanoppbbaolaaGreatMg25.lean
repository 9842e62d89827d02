/- Texts in one: FrB, FrC. -/
import Derived.Test.YtklanoppbbaolaaGreatMg24
/- The reference: pylonref23.many, own, CheckOffer, CheckBid. -/
namespace Go.Proofs.YtklanoppbbaolaaGreat
open Go.RowKit
set_option linter.unusedVariables false
set_option linter.unusedSimpArgs false
set_option maxRecDepth 100000
set_option maxHeartbeats 4000000
def manyE (l : List St) : Int := if l.length = 0 then 4 else if 3 < l.length then 5 else 0
theorem refMany_any (A : Option Addr) (c : Nat) (l : List St) (w : World) : Calls Tryz.prog 171 #[.slice A l.length c] w (ErrE w (manyE l)) := by
  have HB0 := Lib.hid (Below.refl w.heap.size w)
  have E : Hid (manyE l = if l.length = 0 then 4 else if 3 < l.length then 5 else 0) := rfl
  generalize manyE l = R at *
  by_cases h0 : l.length = 0
  · have e0 : ((l.length : Int) == 0) = true := by rw [h0]; rfl
    go_enter Tryz.func171, Tryz.ntmps171
    go_wp2_with fail
    go_ret
    exact ⟨ret_int (E.out.trans (if_pos h0)).symm, HB0.out⟩
  have e0 : ((l.length : Int) == 0) = false := beq_eq_false_iff_ne.2 (by omega)
  replace E := Lib.hid (E.out.trans (if_neg h0))
  clear h0
  go_enter Tryz.func171, Tryz.ntmps171
  go_wp2_with fail
  all_goals
    go_ret
    first
      | exact ⟨ret_int (E.out.trans (if_pos (by omega))).symm, HB0.out⟩
      | exact ⟨ret_int (E.out.trans (if_neg (by omega))).symm, HB0.out⟩
theorem refOwn_any (q p : Int) (w : World) : Calls Tryz.prog 172 #[.agg #[.int .i64 q, .int .i64 p]] w (ErrE w (if stOk (q, p) then 0 else 1)) := by
  have HB0 := Lib.hid ((Below.refl w.heap.size w).alloc (Nat.le_refl _) (.cells #[.int .i64 q, .int .i64 p] 79))
  have E : Hid ((if stOk (q, p) then (0 : Int) else 1) = if 1 ≤ q ∧ q ≤ 1000000 ∧ -1000000 ≤ p ∧ p ≤ 1000000 then 0 else 1) := by
    show _ = _
    have : stOk (q, p) = decide (1 ≤ q ∧ q ≤ 1000000 ∧ -1000000 ≤ p ∧ p ≤ 1000000) := by
      rw [Bool.eq_iff_iff]
      simp [stOk, and_assoc]
    rw [this]
    by_cases h : 1 ≤ q ∧ q ≤ 1000000 ∧ -1000000 ≤ p ∧ p ≤ 1000000 <;> simp [h]
  generalize (if stOk (q, p) then (0 : Int) else 1) = R at *
  go_enter Tryz.func172, Tryz.ntmps172
  go_wp2_with fail
  all_goals
    go_ret
    first
      | exact ⟨ret_int (E.out.trans (if_neg (by omega))).symm, HB0.out⟩
      | exact ⟨ret_int (E.out.trans (if_pos (by omega))).symm, HB0.out⟩
theorem refOffer_any (A : Option Addr) (c : Nat) (l : List St) (w : World) (hr : RowR StE 2 w w.heap.size A l) :
    Calls Tryz.prog 97 #[.slice A l.length c] w (ErrE w (stepsE rises l)) := by
  have HR := Lib.hid hr
  have HB0 := Lib.hid (Below.refl w.heap.size w)
  clear hr
  have E : Hid (stepsE rises l = if l.length = 0 then 4 else if 3 < l.length then 5 else stGo rises none l) := rfl
  generalize stepsE rises l = R at *
  have HM : Hid ((manyE l ≠ 0 → R = manyE l) ∧ (manyE l = 0 → l.length ≤ 3 ∧ R = stGo rises (pvK l 0) (l.drop 0))) := by
    show _ ∧ _
    rw [E.out]
    unfold manyE
    by_cases h0 : l.length = 0
    · simp [h0]
    · by_cases h3 : 3 < l.length
      · simp [h0, h3]
      · simp [h0, h3, pvK]; omega
  clear E
  have KM := Lib.hid (refMany_any A c l w)
  generalize manyE l = m at *
  go_enter Tryz.func97, Tryz.ntmps97
  go_wp2_with fail
  refine KM.out.mono ?_
  rintro e w1 ⟨rfl, hb1⟩
  have HB1 := Lib.hid (HB0.out.trans (hb1.mono HB0.out.size))
  clear hb1 HB0 KM
  go_wp2_with fail
  go_loopg [3, 4] l.length (fun g s3 s4 wr => ∃ (k : Nat) (er : Int), k + g = l.length ∧ s4 = .int .i64 (k : Int) ∧ s3 = .int .i64 er ∧ ((er ≠ 0 → R = er) ∧ (er = 0 → l.length ≤ 3 ∧ R = stGo rises (pvK l k) (l.drop k))) ∧ Below w.heap.size w wr)
  case atStart => exact ⟨0, m, by omega, rfl, rfl, HM.out, HB1.out⟩
  case round =>
    clear HM HB1
    obtain ⟨k, er, hkg, rfl, rfl, hs, hb⟩ := hrel
    have HB := Lib.hid hb
    clear hb
    by_cases he : er = 0
    · subst he
      have hs' := hs.2 rfl
      clear hs
      obtain ⟨hl3, hs⟩ := hs'
      have HS := Lib.hid hs
      clear hs
      cases gk with
      | zero =>
        obtain rfl : k = l.length := by omega
        have HE : Hid (R = 0) := HS.out.trans (stGo_end _ _ _)
        clear hkg HS HR
        go_wp2_with fail
        go_ret
        exact ⟨ret_int HE.out.symm, HB.out⟩
      | succ g =>
        have hk : k < l.length := by omega
        have HG := Lib.hid hkg
        clear hkg
        have HS2 := Lib.hid (HS.out.trans (stGo_at hk))
        obtain ⟨b, off, cc, rfl, hbl, hcn, hce, hcc⟩ := HR.out.at_ k (0, 0) hk
        rw [show cc = stC (l.getD k (0, 0)) from hce] at hcc
        have f0 := (HB.out.cell (p := ⟨b, off + k * 2, none⟩) hbl).trans (hcc 0 _ rfl)
        have f1 := (HB.out.cell (p := ⟨b, off + k * 2 + 1, none⟩) hbl).trans (hcc 1 _ rfl)
        clear hcc hce hcn HS
        obtain ⟨⟨q, p⟩, hx⟩ : ∃ x, l.getD k (0, 0) = x := ⟨_, rfl⟩
        rw [hx] at f0 f1 HS2
        clear hx
        dsimp only at f0 f1
        have KO := Lib.hid fun W => refOwn_any q p W
        have hbw : b < wr.heap.size := Nat.lt_of_lt_of_le hbl HB.out.size
        go_wp2_with fail
        refine (KO.out _).mono ?_
        rintro e w2 ⟨rfl, hb2⟩
        have HB2 := Lib.hid (HB.out.trans (hb2.mono HB.out.size))
        replace f1 := (hb2.cell (p := ⟨b, off + k * 2 + 1, none⟩) hbw).trans f1
        have hbw2 : b < w2.heap.size := Nat.lt_of_lt_of_le hbw hb2.size
        clear f0 KO
        cases hok : stOk (q, p) with
        | false =>
          have HE : Hid (R = 1) := HS2.out.trans (if_pos (by rw [hok]; rfl))
          clear hok HS2 hb2
          simp only [if_false, Bool.false_eq_true]
          go_wp2_with fail
          refine region_T (w0 := w2) [(0, .slice (some ⟨b, off, none⟩) l.length c), (3, .int .i64 1), (4, .int .i64 (k : Int)), (22, .int .i64 1), (23, .bool false), (24, .bool false), (25, undef), (26, undef), (27, .bool false), (28, .bool false), (29, undef), (30, undef), (31, undef), (32, undef), (33, undef), (34, undef), (35, undef), (36, undef), (37, undef), (38, undef), (39, undef), (40, undef), (41, .bool false)] [] [0, 3, 4] ?_ ?_
          · intro T hT W hI
            simp only [HoldsT, and_true] at hT
            repeat' first | exact AllO.nil | apply AllO.cons
            all_goals try ((first | refine oV ?_ | refine oN ?_ | refine oG (t := by simp only [hT]) (h := ?_)); simp [go_sem, EvT, hT, valT]; done)
            all_goals try (exact opT_s true (t := by simp only [hT]) (n := by decide) (e := by simp [valT, hT]))
            all_goals try (exact opT_s false (t := by simp only [hT]) (n := by decide) (e := by simp [valT, hT]))
          intro wx hbx
          simp (decide := true) only [putT, valT, look, Act.put, List.setIfInBounds_toArray, List.set_cons_zero, List.set_cons_succ, Nat.reduceAdd, if_true, if_false]
          have HB3 := Lib.hid (HB2.out.trans (hbx.mono HB2.out.size))
          clear hbx
          go_wp2_with fail
          go_roundg g
          case measure => omega
          case rel => exact ⟨k + 1, 1, by have := HG.out; omega, by go_num, rfl, ⟨fun _ => HE.out, fun h => absurd h (by decide)⟩, HB3.out⟩
        | true =>
          replace HS2 : Hid (R = _) := HS2.out.trans (if_neg (by rw [hok]; simp))
          clear hok
          simp only [if_true]
          go_wp2_with fail
          by_cases hk0 : k = 0
          · subst hk0
            replace HS2 : Hid (R = _) := HS2.out.trans (if_neg (by simp [pvK]))
            have k0 : decide ((0 : Int) < ((0 : Nat) : Int)) = false := by decide
            refine region_T (w0 := w2) [(0, .slice (some ⟨b, off, none⟩) l.length c), (3, .int .i64 0), (4, .int .i64 ((0 : Nat) : Int)), (22, .int .i64 0), (23, .bool true), (24, .bool true), (25, .int .i64 ((0 : Nat) : Int)), (26, .bool false), (27, .bool false), (28, .bool false), (29, undef), (30, undef), (31, undef), (32, undef), (33, undef), (34, undef), (35, undef), (36, undef), (37, undef), (38, undef), (39, undef), (40, undef), (41, .bool false)] [] [0, 3, 4] ?_ ?_
            · intro T hT W hI
              simp only [HoldsT, and_true] at hT
              repeat' first | exact AllO.nil | apply AllO.cons
              all_goals try ((first | refine oV ?_ | refine oN ?_ | refine oG (t := by simp only [hT]) (h := ?_)); simp [go_sem, EvT, hT, valT]; done)
              all_goals try (exact opT_s true (t := by simp only [hT]) (n := by decide) (e := by simp [valT, hT]))
              all_goals try (exact opT_s false (t := by simp only [hT]) (n := by decide) (e := by simp [valT, hT]))
            intro wx hbx
            simp (decide := true) only [putT, valT, look, Act.put, List.setIfInBounds_toArray, List.set_cons_zero, List.set_cons_succ, Nat.reduceAdd, if_true, if_false]
            have HB3 := Lib.hid (HB2.out.trans (hbx.mono HB2.out.size))
            clear hbx
            go_wp2_with fail
            go_roundg g
            case measure => omega
            case rel => exact ⟨1, 0, by have := HG.out; omega, by go_num, rfl, ⟨fun h => absurd rfl h, fun _ => ⟨hl3, HS2.out⟩⟩, HB3.out⟩
          · obtain ⟨j, hj⟩ : ∃ j, k = j + 1 := ⟨k - 1, by omega⟩
            obtain ⟨b', off', cc', hA', _, _, hce', hcc'⟩ := HR.out.at_ j (0, 0) (by omega)
            obtain ⟨rfl, rfl⟩ : b' = b ∧ off' = off := by injection hA' with h; injection h with h1 h2; exact ⟨h1.symm, h2.symm⟩
            rw [show cc' = stC (l.getD j (0, 0)) from hce'] at hcc'
            have f2 := (hb2.cell (p := ⟨b', off' + j * 2 + 1, none⟩) hbw).trans ((HB.out.cell (p := ⟨b', off' + j * 2 + 1, none⟩) hbl).trans (hcc' 1 _ rfl))
            have HPV : Hid (pvK l k = some (l.getD j (0, 0)).2) := by subst hj; exact if_neg (by omega)
            replace f2 : w2.cell? ⟨b', off' + j * 2 + 1, none⟩ = some (.int .i64 (l.getD j (0, 0)).2) := f2
            clear hcc' hce' hA' hb2
            generalize (l.getD j (0, 0)).2 = pp at *
            replace HS2 : Hid (R = if (rises pp p) = true then stGo rises (pvK l (k + 1)) (l.drop (k + 1)) else 3) := by
              show _ = _
              rw [HS2.out, HPV.out]
              cases hh : rises pp p <;> simp [hh]
            clear HPV
            have k0 : decide ((0 : Int) < ((k : Nat) : Int)) = true := decide_eq_true (by omega)
            have k0' : 0 < k := by omega
            have k1 : IntKind.i64.wrap (((k : Nat) : Int) - 1) = (j : Int) := by rw [IntWalk.i64_in _ (by omega)]; omega
            have k2 : (j : Int) < (l.length : Int) := by omega
            have k3 : ((k : Nat) : Int) < (l.length : Int) := by omega
            cases hf : rises pp p with
            | true =>
              have hc : decide (p ≤ pp) = false := decide_eq_false (by unfold rises at hf; simp at hf; omega)
              rw [hf] at HS2
              clear hf
              refine region_T (w0 := w2) [(0, .slice (some ⟨b', off', none⟩) l.length c), (3, .int .i64 0), (4, .int .i64 ((k : Nat) : Int)), (22, .int .i64 0), (23, .bool true), (24, .bool true), (25, .int .i64 ((k : Nat) : Int)), (26, .bool true), (27, .bool true), (28, .bool true), (29, .slice (some ⟨b', off', none⟩) l.length c), (30, .int .i64 ((k : Nat) : Int)), (31, .pointer (some ⟨b', off' + k * 2, none⟩)), (32, .pointer (some ⟨b', off' + k * 2 + 1, none⟩)), (33, .int .i64 p), (34, .slice (some ⟨b', off', none⟩) l.length c), (35, .int .i64 ((k : Nat) : Int)), (36, .int .i64 (j : Int)), (37, .pointer (some ⟨b', off' + j * 2, none⟩)), (38, .pointer (some ⟨b', off' + j * 2 + 1, none⟩)), (39, .int .i64 pp), (40, .bool false), (41, .bool false)] [] [0, 3, 4] ?_ ?_
              · intro T hT W hI
                simp only [HoldsT, and_true] at hT
                have F1 := (hI.cell (p := ⟨b', off' + k * 2 + 1, none⟩) hbw2).trans f1
                have F2 := (hI.cell (p := ⟨b', off' + j * 2 + 1, none⟩) hbw2).trans f2
                have hbW : b' < W.heap.size := Nat.lt_of_lt_of_le hbw2 hI.size
                repeat' first | exact AllO.nil | apply AllO.cons
                all_goals try ((first | refine oV ?_ | refine oN ?_ | refine oG (t := by simp only [hT]) (h := ?_)); simp [go_sem, EvT, hT, k0, k0', k1, k2, k3, F1, F2, hbW, hc, valT]; done)
              intro wx hbx
              simp (decide := true) only [putT, valT, look, Act.put, List.setIfInBounds_toArray, List.set_cons_zero, List.set_cons_succ, Nat.reduceAdd, if_true, if_false]
              have HB3 := Lib.hid (HB2.out.trans (hbx.mono HB2.out.size))
              clear hbx
              go_wp2_with fail
              go_roundg g
              case measure => omega
              case rel => exact ⟨k + 1, 0, by have := HG.out; omega, by go_num, rfl, ⟨fun h => absurd rfl h, fun _ => ⟨hl3, HS2.out.trans (if_pos (by simp))⟩⟩, HB3.out⟩
            | false =>
              have hc : decide (p ≤ pp) = true := decide_eq_true (by unfold rises at hf; simp at hf; omega)
              rw [hf] at HS2
              clear hf
              refine region_T (w0 := w2) [(0, .slice (some ⟨b', off', none⟩) l.length c), (3, .int .i64 0), (4, .int .i64 ((k : Nat) : Int)), (22, .int .i64 0), (23, .bool true), (24, .bool true), (25, .int .i64 ((k : Nat) : Int)), (26, .bool true), (27, .bool true), (28, .bool true), (29, .slice (some ⟨b', off', none⟩) l.length c), (30, .int .i64 ((k : Nat) : Int)), (31, .pointer (some ⟨b', off' + k * 2, none⟩)), (32, .pointer (some ⟨b', off' + k * 2 + 1, none⟩)), (33, .int .i64 p), (34, .slice (some ⟨b', off', none⟩) l.length c), (35, .int .i64 ((k : Nat) : Int)), (36, .int .i64 (j : Int)), (37, .pointer (some ⟨b', off' + j * 2, none⟩)), (38, .pointer (some ⟨b', off' + j * 2 + 1, none⟩)), (39, .int .i64 pp), (40, .bool true), (41, .bool true)] [] [0, 3, 4] ?_ ?_
              · intro T hT W hI
                simp only [HoldsT, and_true] at hT
                have F1 := (hI.cell (p := ⟨b', off' + k * 2 + 1, none⟩) hbw2).trans f1
                have F2 := (hI.cell (p := ⟨b', off' + j * 2 + 1, none⟩) hbw2).trans f2
                have hbW : b' < W.heap.size := Nat.lt_of_lt_of_le hbw2 hI.size
                repeat' first | exact AllO.nil | apply AllO.cons
                all_goals try ((first | refine oV ?_ | refine oN ?_ | refine oG (t := by simp only [hT]) (h := ?_)); simp [go_sem, EvT, hT, k0, k0', k1, k2, k3, F1, F2, hbW, hc, valT]; done)
              intro wx hbx
              simp (decide := true) only [putT, valT, look, Act.put, List.setIfInBounds_toArray, List.set_cons_zero, List.set_cons_succ, Nat.reduceAdd, if_true, if_false]
              have HB3 := Lib.hid (HB2.out.trans (hbx.mono HB2.out.size))
              clear hbx
              go_wp2_with fail
              go_roundg g
              case measure => omega
              case rel => exact ⟨k + 1, 3, by have := HG.out; omega, by go_num, rfl, ⟨fun _ => HS2.out.trans (if_neg (by simp)), fun h => absurd h (by decide)⟩, HB3.out⟩
    · have HE := Lib.hid (hs.1 he)
      have d1 : (er == 0) = false := beq_eq_false_iff_ne.2 he
      clear hs hkg he HR
      go_wp2_with fail
      all_goals
        go_ret
        exact ⟨ret_int HE.out.symm, HB.out⟩
theorem refBid_any (A : Option Addr) (c : Nat) (l : List St) (w : World) (hr : RowR StE 2 w w.heap.size A l) :
    Calls Tryz.prog 100 #[.slice A l.length c] w (ErrE w (stepsE falls l)) := by
  have HR := Lib.hid hr
  have HB0 := Lib.hid (Below.refl w.heap.size w)
  clear hr
  have E : Hid (stepsE falls l = if l.length = 0 then 4 else if 3 < l.length then 5 else stGo falls none l) := rfl
  generalize stepsE falls l = R at *
  have HM : Hid ((manyE l ≠ 0 → R = manyE l) ∧ (manyE l = 0 → l.length ≤ 3 ∧ R = stGo falls (pvK l 0) (l.drop 0))) := by
    show _ ∧ _
    rw [E.out]
    unfold manyE
    by_cases h0 : l.length = 0
    · simp [h0]
    · by_cases h3 : 3 < l.length
      · simp [h0, h3]
      · simp [h0, h3, pvK]; omega
  clear E
  have KM := Lib.hid (refMany_any A c l w)
  generalize manyE l = m at *
  go_enter Tryz.func100, Tryz.ntmps100
  go_wp2_with fail
  refine KM.out.mono ?_
  rintro e w1 ⟨rfl, hb1⟩
  have HB1 := Lib.hid (HB0.out.trans (hb1.mono HB0.out.size))
  clear hb1 HB0 KM
  go_wp2_with fail
  go_loopg [3, 4] l.length (fun g s3 s4 wr => ∃ (k : Nat) (er : Int), k + g = l.length ∧ s4 = .int .i64 (k : Int) ∧ s3 = .int .i64 er ∧ ((er ≠ 0 → R = er) ∧ (er = 0 → l.length ≤ 3 ∧ R = stGo falls (pvK l k) (l.drop k))) ∧ Below w.heap.size w wr)
  case atStart => exact ⟨0, m, by omega, rfl, rfl, HM.out, HB1.out⟩
  case round =>
    clear HM HB1
    obtain ⟨k, er, hkg, rfl, rfl, hs, hb⟩ := hrel
    have HB := Lib.hid hb
    clear hb
    by_cases he : er = 0
    · subst he
      have hs' := hs.2 rfl
      clear hs
      obtain ⟨hl3, hs⟩ := hs'
      have HS := Lib.hid hs
      clear hs
      cases gk with
      | zero =>
        obtain rfl : k = l.length := by omega
        have HE : Hid (R = 0) := HS.out.trans (stGo_end _ _ _)
        clear hkg HS HR
        go_wp2_with fail
        go_ret
        exact ⟨ret_int HE.out.symm, HB.out⟩
      | succ g =>
        have hk : k < l.length := by omega
        have HG := Lib.hid hkg
        clear hkg
        have HS2 := Lib.hid (HS.out.trans (stGo_at hk))
        obtain ⟨b, off, cc, rfl, hbl, hcn, hce, hcc⟩ := HR.out.at_ k (0, 0) hk
        rw [show cc = stC (l.getD k (0, 0)) from hce] at hcc
        have f0 := (HB.out.cell (p := ⟨b, off + k * 2, none⟩) hbl).trans (hcc 0 _ rfl)
        have f1 := (HB.out.cell (p := ⟨b, off + k * 2 + 1, none⟩) hbl).trans (hcc 1 _ rfl)
        clear hcc hce hcn HS
        obtain ⟨⟨q, p⟩, hx⟩ : ∃ x, l.getD k (0, 0) = x := ⟨_, rfl⟩
        rw [hx] at f0 f1 HS2
        clear hx
        dsimp only at f0 f1
        have KO := Lib.hid fun W => refOwn_any q p W
        have hbw : b < wr.heap.size := Nat.lt_of_lt_of_le hbl HB.out.size
        go_wp2_with fail
        refine (KO.out _).mono ?_
        rintro e w2 ⟨rfl, hb2⟩
        have HB2 := Lib.hid (HB.out.trans (hb2.mono HB.out.size))
        replace f1 := (hb2.cell (p := ⟨b, off + k * 2 + 1, none⟩) hbw).trans f1
        have hbw2 : b < w2.heap.size := Nat.lt_of_lt_of_le hbw hb2.size
        clear f0 KO
        cases hok : stOk (q, p) with
        | false =>
          have HE : Hid (R = 1) := HS2.out.trans (if_pos (by rw [hok]; rfl))
          clear hok HS2 hb2
          simp only [if_false, Bool.false_eq_true]
          go_wp2_with fail
          refine region_T (w0 := w2) [(0, .slice (some ⟨b, off, none⟩) l.length c), (3, .int .i64 1), (4, .int .i64 (k : Int)), (22, .int .i64 1), (23, .bool false), (24, .bool false), (25, undef), (26, undef), (27, .bool false), (28, .bool false), (29, undef), (30, undef), (31, undef), (32, undef), (33, undef), (34, undef), (35, undef), (36, undef), (37, undef), (38, undef), (39, undef), (40, undef), (41, .bool false)] [] [0, 3, 4] ?_ ?_
          · intro T hT W hI
            simp only [HoldsT, and_true] at hT
            repeat' first | exact AllO.nil | apply AllO.cons
            all_goals try ((first | refine oV ?_ | refine oN ?_ | refine oG (t := by simp only [hT]) (h := ?_)); simp [go_sem, EvT, hT, valT]; done)
            all_goals try (exact opT_s true (t := by simp only [hT]) (n := by decide) (e := by simp [valT, hT]))
            all_goals try (exact opT_s false (t := by simp only [hT]) (n := by decide) (e := by simp [valT, hT]))
          intro wx hbx
          simp (decide := true) only [putT, valT, look, Act.put, List.setIfInBounds_toArray, List.set_cons_zero, List.set_cons_succ, Nat.reduceAdd, if_true, if_false]
          have HB3 := Lib.hid (HB2.out.trans (hbx.mono HB2.out.size))
          clear hbx
          go_wp2_with fail
          go_roundg g
          case measure => omega
          case rel => exact ⟨k + 1, 1, by have := HG.out; omega, by go_num, rfl, ⟨fun _ => HE.out, fun h => absurd h (by decide)⟩, HB3.out⟩
        | true =>
          replace HS2 : Hid (R = _) := HS2.out.trans (if_neg (by rw [hok]; simp))
          clear hok
          simp only [if_true]
          go_wp2_with fail
          by_cases hk0 : k = 0
          · subst hk0
            replace HS2 : Hid (R = _) := HS2.out.trans (if_neg (by simp [pvK]))
            have k0 : decide ((0 : Int) < ((0 : Nat) : Int)) = false := by decide
            refine region_T (w0 := w2) [(0, .slice (some ⟨b, off, none⟩) l.length c), (3, .int .i64 0), (4, .int .i64 ((0 : Nat) : Int)), (22, .int .i64 0), (23, .bool true), (24, .bool true), (25, .int .i64 ((0 : Nat) : Int)), (26, .bool false), (27, .bool false), (28, .bool false), (29, undef), (30, undef), (31, undef), (32, undef), (33, undef), (34, undef), (35, undef), (36, undef), (37, undef), (38, undef), (39, undef), (40, undef), (41, .bool false)] [] [0, 3, 4] ?_ ?_
            · intro T hT W hI
              simp only [HoldsT, and_true] at hT
              repeat' first | exact AllO.nil | apply AllO.cons
              all_goals try ((first | refine oV ?_ | refine oN ?_ | refine oG (t := by simp only [hT]) (h := ?_)); simp [go_sem, EvT, hT, valT]; done)
              all_goals try (exact opT_s true (t := by simp only [hT]) (n := by decide) (e := by simp [valT, hT]))
              all_goals try (exact opT_s false (t := by simp only [hT]) (n := by decide) (e := by simp [valT, hT]))
            intro wx hbx
            simp (decide := true) only [putT, valT, look, Act.put, List.setIfInBounds_toArray, List.set_cons_zero, List.set_cons_succ, Nat.reduceAdd, if_true, if_false]
            have HB3 := Lib.hid (HB2.out.trans (hbx.mono HB2.out.size))
            clear hbx
            go_wp2_with fail
            go_roundg g
            case measure => omega
            case rel => exact ⟨1, 0, by have := HG.out; omega, by go_num, rfl, ⟨fun h => absurd rfl h, fun _ => ⟨hl3, HS2.out⟩⟩, HB3.out⟩
          · obtain ⟨j, hj⟩ : ∃ j, k = j + 1 := ⟨k - 1, by omega⟩
            obtain ⟨b', off', cc', hA', _, _, hce', hcc'⟩ := HR.out.at_ j (0, 0) (by omega)
            obtain ⟨rfl, rfl⟩ : b' = b ∧ off' = off := by injection hA' with h; injection h with h1 h2; exact ⟨h1.symm, h2.symm⟩
            rw [show cc' = stC (l.getD j (0, 0)) from hce'] at hcc'
            have f2 := (hb2.cell (p := ⟨b', off' + j * 2 + 1, none⟩) hbw).trans ((HB.out.cell (p := ⟨b', off' + j * 2 + 1, none⟩) hbl).trans (hcc' 1 _ rfl))
            have HPV : Hid (pvK l k = some (l.getD j (0, 0)).2) := by subst hj; exact if_neg (by omega)
            replace f2 : w2.cell? ⟨b', off' + j * 2 + 1, none⟩ = some (.int .i64 (l.getD j (0, 0)).2) := f2
            clear hcc' hce' hA' hb2
            generalize (l.getD j (0, 0)).2 = pp at *
            replace HS2 : Hid (R = if (falls pp p) = true then stGo falls (pvK l (k + 1)) (l.drop (k + 1)) else 3) := by
              show _ = _
              rw [HS2.out, HPV.out]
              cases hh : falls pp p <;> simp [hh]
            clear HPV
            have k0 : decide ((0 : Int) < ((k : Nat) : Int)) = true := decide_eq_true (by omega)
            have k0' : 0 < k := by omega
            have k1 : IntKind.i64.wrap (((k : Nat) : Int) - 1) = (j : Int) := by rw [IntWalk.i64_in _ (by omega)]; omega
            have k2 : (j : Int) < (l.length : Int) := by omega
            have k3 : ((k : Nat) : Int) < (l.length : Int) := by omega
            cases hf : falls pp p with
            | true =>
              have hc : decide (pp ≤ p) = false := decide_eq_false (by unfold falls at hf; simp at hf; omega)
              rw [hf] at HS2
              clear hf
              refine region_T (w0 := w2) [(0, .slice (some ⟨b', off', none⟩) l.length c), (3, .int .i64 0), (4, .int .i64 ((k : Nat) : Int)), (22, .int .i64 0), (23, .bool true), (24, .bool true), (25, .int .i64 ((k : Nat) : Int)), (26, .bool true), (27, .bool true), (28, .bool true), (29, .slice (some ⟨b', off', none⟩) l.length c), (30, .int .i64 ((k : Nat) : Int)), (31, .pointer (some ⟨b', off' + k * 2, none⟩)), (32, .pointer (some ⟨b', off' + k * 2 + 1, none⟩)), (33, .int .i64 p), (34, .slice (some ⟨b', off', none⟩) l.length c), (35, .int .i64 ((k : Nat) : Int)), (36, .int .i64 (j : Int)), (37, .pointer (some ⟨b', off' + j * 2, none⟩)), (38, .pointer (some ⟨b', off' + j * 2 + 1, none⟩)), (39, .int .i64 pp), (40, .bool false), (41, .bool false)] [] [0, 3, 4] ?_ ?_
              · intro T hT W hI
                simp only [HoldsT, and_true] at hT
                have F1 := (hI.cell (p := ⟨b', off' + k * 2 + 1, none⟩) hbw2).trans f1
                have F2 := (hI.cell (p := ⟨b', off' + j * 2 + 1, none⟩) hbw2).trans f2
                have hbW : b' < W.heap.size := Nat.lt_of_lt_of_le hbw2 hI.size
                repeat' first | exact AllO.nil | apply AllO.cons
                all_goals try ((first | refine oV ?_ | refine oN ?_ | refine oG (t := by simp only [hT]) (h := ?_)); simp [go_sem, EvT, hT, k0, k0', k1, k2, k3, F1, F2, hbW, hc, valT]; done)
              intro wx hbx
              simp (decide := true) only [putT, valT, look, Act.put, List.setIfInBounds_toArray, List.set_cons_zero, List.set_cons_succ, Nat.reduceAdd, if_true, if_false]
              have HB3 := Lib.hid (HB2.out.trans (hbx.mono HB2.out.size))
              clear hbx
              go_wp2_with fail
              go_roundg g
              case measure => omega
              case rel => exact ⟨k + 1, 0, by have := HG.out; omega, by go_num, rfl, ⟨fun h => absurd rfl h, fun _ => ⟨hl3, HS2.out.trans (if_pos (by simp))⟩⟩, HB3.out⟩
            | false =>
              have hc : decide (pp ≤ p) = true := decide_eq_true (by unfold falls at hf; simp at hf; omega)
              rw [hf] at HS2
              clear hf
              refine region_T (w0 := w2) [(0, .slice (some ⟨b', off', none⟩) l.length c), (3, .int .i64 0), (4, .int .i64 ((k : Nat) : Int)), (22, .int .i64 0), (23, .bool true), (24, .bool true), (25, .int .i64 ((k : Nat) : Int)), (26, .bool true), (27, .bool true), (28, .bool true), (29, .slice (some ⟨b', off', none⟩) l.length c), (30, .int .i64 ((k : Nat) : Int)), (31, .pointer (some ⟨b', off' + k * 2, none⟩)), (32, .pointer (some ⟨b', off' + k * 2 + 1, none⟩)), (33, .int .i64 p), (34, .slice (some ⟨b', off', none⟩) l.length c), (35, .int .i64 ((k : Nat) : Int)), (36, .int .i64 (j : Int)), (37, .pointer (some ⟨b', off' + j * 2, none⟩)), (38, .pointer (some ⟨b', off' + j * 2 + 1, none⟩)), (39, .int .i64 pp), (40, .bool true), (41, .bool true)] [] [0, 3, 4] ?_ ?_
              · intro T hT W hI
                simp only [HoldsT, and_true] at hT
                have F1 := (hI.cell (p := ⟨b', off' + k * 2 + 1, none⟩) hbw2).trans f1
                have F2 := (hI.cell (p := ⟨b', off' + j * 2 + 1, none⟩) hbw2).trans f2
                have hbW : b' < W.heap.size := Nat.lt_of_lt_of_le hbw2 hI.size
                repeat' first | exact AllO.nil | apply AllO.cons
                all_goals try ((first | refine oV ?_ | refine oN ?_ | refine oG (t := by simp only [hT]) (h := ?_)); simp [go_sem, EvT, hT, k0, k0', k1, k2, k3, F1, F2, hbW, hc, valT]; done)
              intro wx hbx
              simp (decide := true) only [putT, valT, look, Act.put, List.setIfInBounds_toArray, List.set_cons_zero, List.set_cons_succ, Nat.reduceAdd, if_true, if_false]
              have HB3 := Lib.hid (HB2.out.trans (hbx.mono HB2.out.size))
              clear hbx
              go_wp2_with fail
              go_roundg g
              case measure => omega
              case rel => exact ⟨k + 1, 3, by have := HG.out; omega, by go_num, rfl, ⟨fun _ => HS2.out.trans (if_neg (by simp)), fun h => absurd h (by decide)⟩, HB3.out⟩
    · have HE := Lib.hid (hs.1 he)
      have d1 : (er == 0) = false := beq_eq_false_iff_ne.2 he
      clear hs hkg he HR
      go_wp2_with fail
      all_goals
        go_ret
        exact ⟨ret_int HE.out.symm, HB.out⟩
end Go.Proofs.YtklanoppbbaolaaGreat
/- The reference: pylonref23.Curve and Sum at a valid curve, pylonref26.Max. -/
namespace Go.Proofs.YtklanoppbbaolaaGreat
open Go.RowKit
set_option linter.unusedVariables false
set_option linter.unusedSimpArgs false
set_option maxRecDepth 100000
set_option maxHeartbeats 4000000
theorem refCurve_ok (A : Option Addr) (c : Nat) (l : List St) (w : World) (hr : RowR StE 2 w w.heap.size A l) (hok : stepsE rises l = 0) :
    Calls Tryz.prog 230 #[.slice A l.length c] w (ErrE w 0) := by
  have K1 := Lib.hid fun W h => refBid_any A c l W h
  have K2 := fun W h => refOffer_any A c l W h
  rw [hok] at K2
  have HK2 := Lib.hid K2
  have HR := Lib.hid hr
  clear hr K2
  generalize stepsE falls l = x at *
  go_enter Tryz.func230, Tryz.ntmps230
  go_wp2_with fail
  refine (K1.out _ HR.out).mono ?_
  rintro e w1 ⟨rfl, hb1⟩
  have HR1 := Lib.hid (HR.out.upto StE.keep hb1)
  have HB := Lib.hid hb1
  clear hb1
  by_cases h : x = 0
  · subst h
    go_wp2_with fail
    go_ret
    exact ⟨rfl, HB.out⟩
  · have e0 : (x == 0) = false := beq_eq_false_iff_ne.2 h
    clear h
    go_wp2_with fail
    refine (HK2.out _ HR1.out).mono ?_
    rintro e w2 ⟨rfl, hb2⟩
    go_wp2_with fail
    go_ret
    exact ⟨rfl, HB.out.trans (hb2.mono HB.out.size)⟩
theorem refSum_ok (A : Option Addr) (c : Nat) (l : List St) (w : World) (hr : RowR StE 2 w w.heap.size A l) (hok : stepsE rises l = 0) :
    Calls Tryz.prog 173 #[.slice A l.length c] w fun e w' => e = .returned (.int .i64 (qtySum l)) ∧ Below w.heap.size w w' := by
  have K1 := Lib.hid fun W h => refCurve_ok A c l W h hok
  have HO := Lib.hid (stepsE_ok hok)
  have hl : l.length ≤ 1000000 := by have := HO.out.2.1; omega
  have HR := Lib.hid hr
  have HB0 := Lib.hid (Below.refl w.heap.size w)
  clear hr hok
  go_enter Tryz.func173, Tryz.ntmps173
  go_wp2_with fail
  go_loopg [3, 4] l.length (fun g s3 s4 wr => ∃ k : Nat, k + g = l.length ∧ s4 = .int .i64 (k : Int) ∧ s3 = .int .i64 (qtySum (l.take k)) ∧ Below w.heap.size w wr)
  case atStart => exact ⟨0, by omega, rfl, rfl, HB0.out⟩
  case round =>
    clear HB0
    obtain ⟨k, hkg, rfl, rfl, hb⟩ := hrel
    have HB := Lib.hid hb
    clear hb
    cases gk with
    | zero =>
      obtain rfl : k = l.length := by omega
      clear hkg
      rw [List.take_length]
      go_wp2_with fail
      try rw [Exit.noGoto_ret]
      go_ret
      exact ⟨rfl, HB.out⟩
    | succ g =>
      have hk : k < l.length := by omega
      have HG := Lib.hid hkg
      clear hkg
      have d1 : decide ((k : Int) < (l.length : Int)) = true := decide_eq_true (by omega)
      go_wp2_with fail
      refine (K1.out _ (HR.out.upto StE.keep HB.out)).mono ?_
      rintro e w1 ⟨rfl, hb1⟩
      have HB1 := Lib.hid (HB.out.trans (hb1.mono HB.out.size))
      clear hb1 HB
      obtain ⟨b, off, cc, rfl, hbl, hcn, hce, hcc⟩ := HR.out.at_ k (0, 0) hk
      rw [show cc = stC (l.getD k (0, 0)) from hce] at hcc
      have f0 : w1.cell? ⟨b, off + k * 2, none⟩ = some (.int .i64 (l.getD k (0, 0)).1) := (HB1.out.cell (p := ⟨b, off + k * 2, none⟩) hbl).trans (hcc 0 _ rfl)
      have hq := qtySum_take l k hk
      have hb1 := qtySum_le (l := l.take k) fun x hx => HO.out.2.2 x (List.mem_of_mem_take hx)
      have hb2 := qtySum_le (l := l.take (k + 1)) fun x hx => HO.out.2.2 x (List.mem_of_mem_take hx)
      have h3 := HO.out.2.1
      rw [List.length_take] at hb1 hb2
      have p1 : IntKind.i64.wrap (qtySum (l.take k) + (l.getD k (0, 0)).1) = qtySum (l.take (k + 1)) := by rw [hq]; exact IntWalk.i64_in _ (by omega)
      clear hcc hce hcn hq hb1 hb2 h3
      generalize (l.getD k (0, 0)).1 = q at *
      generalize hs1 : qtySum (l.take (k + 1)) = sk1 at *
      have HS := Lib.hid hs1
      clear hs1
      generalize qtySum (l.take k) = sk at *
      go_wp2_with fail
      go_roundg g
      case measure => omega
      case rel => exact ⟨k + 1, by have := HG.out; omega, by go_num, by rw [HS.out], HB1.out⟩
end Go.Proofs.YtklanoppbbaolaaGreat
