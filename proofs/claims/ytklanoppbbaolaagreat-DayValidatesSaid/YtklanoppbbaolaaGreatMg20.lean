/- The text CkE. -/
import Derived.Test.YtklanoppbbaolaaGreatMg18
import Derived.Test.YtklanoppbbaolaaGreatMg19
/- step.checkCurve, Sum; unit.Check, bidtext.checkBid, nettext.valid. -/
namespace Go.Proofs.YtklanoppbbaolaaGreat
open Go.RowKit
set_option linter.unusedVariables false
set_option linter.unusedSimpArgs false
set_option maxRecDepth 100000

theorem stGo_ok {f : Int → Int → Bool} : ∀ {l : List St} {pv : Option Int}, stGo f pv l = 0 → ∀ x ∈ l, stOk x = true := by
  intro l
  induction l with
  | nil => intro pv _ x hx; cases hx
  | cons y l ih =>
    intro pv h x hx
    rw [stGo] at h
    cases hy : stOk y with
    | false => rw [hy] at h; simp at h
    | true =>
      rw [hy] at h
      rw [if_neg (by simp)] at h
      split at h
      · cases h
      · rcases List.mem_cons.1 hx with rfl | hx
        · exact hy
        · exact ih h x hx
theorem stepsE_ok {f : Int → Int → Bool} {l : List St} (h : stepsE f l = 0) : 0 < l.length ∧ l.length ≤ 3 ∧ ∀ x ∈ l, stOk x = true := by
  unfold stepsE at h
  split at h
  · cases h
  · split at h
    · cases h
    · exact ⟨by omega, by omega, stGo_ok h⟩
theorem qtySum_take (l : List St) (k : Nat) (hk : k < l.length) : qtySum (l.take (k + 1)) = qtySum (l.take k) + (l.getD k (0, 0)).1 := by
  unfold qtySum
  rw [List.take_succ_eq_append_getElem hk, List.map_append, List.sum_append, getD_eq l k _ hk]
  simp
theorem qtySum_le {l : List St} (h : ∀ x ∈ l, stOk x = true) : 0 ≤ qtySum l ∧ qtySum l ≤ l.length * 1000000 := by
  induction l with
  | nil => exact ⟨Int.le_refl _, Int.le_refl _⟩
  | cons x l ih =>
    have h1 := ih fun y hy => h y (by simp [hy])
    have h2 := stOk_yes (q := x.1) (p := x.2) (h x (by simp))
    have h3 : qtySum (x :: l) = x.1 + qtySum l := by simp [qtySum]
    rw [h3, List.length_cons]
    omega
set_option maxHeartbeats 1000000 in
theorem curve_ok (A : Option Addr) (c : Nat) (l : List St) (w : World) (hr : RowR StE 2 w w.heap.size A l) (hok : stepsE rises l = 0) :
    Calls Tryz.prog 161 #[.slice A l.length c] w (ErrE w 0) := by
  have K1 := Lib.hid fun W h => fall_any A c l W h
  have K2 := fun W h => rise_any A c l W h
  rw [hok] at K2
  have HK2 := Lib.hid K2
  have HR := Lib.hid hr
  clear hr K2
  generalize stepsE falls l = x at *
  go_enter Tryz.func161, Tryz.ntmps161
  go_wp2_with fail
  refine (K1.out _ HR.out).mono ?_
  rintro e w1 ⟨rfl, hb1⟩
  have HR1 := Lib.hid (HR.out.upto StE.keep hb1)
  have HB := Lib.hid hb1
  clear hb1
  by_cases h : x = 0
  · subst h
    go_wp2_with fail
    go_ret
    exact ⟨rfl, HB.out⟩
  · have e0 : (x == 0) = false := beq_eq_false_iff_ne.2 h
    clear h
    go_wp2_with fail
    refine (HK2.out _ HR1.out).mono ?_
    rintro e w2 ⟨rfl, hb2⟩
    go_wp2_with fail
    go_ret
    exact ⟨rfl, HB.out.trans (hb2.mono HB.out.size)⟩
set_option maxHeartbeats 2000000 in
theorem sum_ok (A : Option Addr) (c : Nat) (l : List St) (w : World) (hr : RowR StE 2 w w.heap.size A l) (hok : stepsE rises l = 0) :
    Calls Tryz.prog 84 #[.slice A l.length c] w fun e w' => e = .returned (.int .i64 (qtySum l)) ∧ Below w.heap.size w w' := by
  have K1 := Lib.hid (curve_ok A c l w hr hok)
  have HO := Lib.hid (stepsE_ok hok)
  have hl : l.length ≤ 1000000 := by have := HO.out.2.1; omega
  have HR := Lib.hid hr
  clear hr hok
  go_enter Tryz.func84, Tryz.ntmps84
  go_wp2_with fail
  refine K1.out.mono ?_
  rintro e w1 ⟨rfl, hb1⟩
  have HB1 := Lib.hid hb1
  clear hb1 K1
  go_wp2_with fail
  go_loopg [3, 5, 11] l.length (fun g s3 s5 s11 wr => ∃ k : Nat, k + g = l.length ∧ s11 = .int .i64 (k : Int) ∧ s3 = .int .i64 (qtySum (l.take k)) ∧ Below w.heap.size w wr)
  case atStart => exact ⟨0, by omega, rfl, rfl, HB1.out⟩
  case round =>
    obtain ⟨k, hkg, rfl, rfl, hb⟩ := hrel
    have HB := Lib.hid hb
    clear hb
    cases gk with
    | zero =>
      obtain rfl : k = l.length := by omega
      clear hkg
      rw [List.take_length]
      go_wp2_with fail
      try rw [Exit.noGoto_ret]
      go_ret
      exact ⟨rfl, HB.out⟩
    | succ g =>
      have hk : k < l.length := by omega
      have HG := Lib.hid hkg
      clear hkg
      obtain ⟨b, off, cc, rfl, hbl, hcn, hce, hcc⟩ := HR.out.at_ k (0, 0) hk
      rw [show cc = stC (l.getD k (0, 0)) from hce] at hcc
      have f0 : wr.cell? ⟨b, off + k * 2, none⟩ = some (.int .i64 (l.getD k (0, 0)).1) := (HB.out.cell (p := ⟨b, off + k * 2, none⟩) hbl).trans (hcc 0 _ rfl)
      have f1 : wr.cell? ⟨b, off + k * 2 + 1, none⟩ = some (.int .i64 (l.getD k (0, 0)).2) := (HB.out.cell (p := ⟨b, off + k * 2 + 1, none⟩) hbl).trans (hcc 1 _ rfl)
      have hz := HB.out.size
      have hq := qtySum_take l k hk
      have hb1 := qtySum_le (l := l.take k) fun x hx => HO.out.2.2 x (List.mem_of_mem_take hx)
      have hb2 := qtySum_le (l := l.take (k + 1)) fun x hx => HO.out.2.2 x (List.mem_of_mem_take hx)
      have h3 := HO.out.2.1
      rw [List.length_take] at hb1 hb2
      have p1 : IntKind.i64.wrap (qtySum (l.take k) + (l.getD k (0, 0)).1) = qtySum (l.take (k + 1)) := by rw [hq]; exact IntWalk.i64_in _ (by omega)
      clear hcc hce hcn hq hb1 hb2 h3
      generalize (l.getD k (0, 0)).1 = q at *
      generalize (l.getD k (0, 0)).2 = p at *
      generalize hs1 : qtySum (l.take (k + 1)) = sk1 at *
      have HS := Lib.hid hs1
      clear hs1
      generalize qtySum (l.take k) = sk at *
      go_wp2_with fail
      go_roundg g
      case measure => omega
      case rel => exact ⟨k + 1, by have := HG.out; omega, by go_num, by rw [HS.out], HB.out.alloc (by omega) _⟩
set_option maxHeartbeats 8000000 in
theorem unit_any (u : Un) (A : Option Addr) (c : Nat) (n : Int) (w : World) (hr : RowR StE 2 w w.heap.size A u.steps) :
    Calls Tryz.prog 31 #[.agg #[.int .i64 u.bus, .int .i64 u.min, .slice A u.steps.length c, .int .i64 u.up, .int .i64 u.down, .int .i64 u.start, .int .i64 u.idle, .int .i64 u.spin, .int .i64 u.on], .int .i64 n] w (ErrE w (unitE n u)) := by
  obtain ⟨bus, mn, steps, up, down, start, idle, spin, on⟩ := u
  have E : Hid (unitE n ⟨bus, mn, steps, up, down, start, idle, spin, on⟩ = if !inB bus n then 1 else if stepsE rises steps ≠ 0 then stepsE rises steps else if unRest ⟨bus, mn, steps, up, down, start, idle, spin, on⟩ then 0 else 1) := rfl
  generalize unitE n ⟨bus, mn, steps, up, down, start, idle, spin, on⟩ = R at *
  dsimp only at hr ⊢
  have K1 := Lib.hid fun W h => rise_any A c steps W h
  have K2 := Lib.hid fun W h hok => sum_ok A c steps W h hok
  have HR := Lib.hid hr
  have HB0 := Lib.hid ((Below.refl w.heap.size w).alloc (Nat.le_refl _) (.cells #[.int .i64 bus, .int .i64 mn, .slice A steps.length c, .int .i64 up, .int .i64 down, .int .i64 start, .int .i64 idle, .int .i64 spin, .int .i64 on] 81))
  clear hr
  go_enter Tryz.func31, Tryz.ntmps31
  by_cases hb : inB bus n = true
  · have hb' := hb
    unfold inB at hb'
    simp only [Bool.and_eq_true, decide_eq_true_eq] at hb'
    have d1 : decide (bus < 0) = false := decide_eq_false (by omega)
    have d2 : decide (n ≤ bus) = false := decide_eq_false (by omega)
    replace E : Hid (R = _) := E.out.trans (if_neg (by rw [hb]; simp))
    clear hb hb'
    go_wp2_with fail
    refine (K1.out _ (HR.out.upto StE.keep ((Below.refl w.heap.size w).alloc (Nat.le_refl _) _))).mono ?_
    rintro e w1 ⟨rfl, hb1⟩
    have HX1 := Lib.hid ((Box.new w #[.int .i64 bus, .int .i64 mn, .slice A steps.length c, .int .i64 up, .int .i64 down, .int .i64 start, .int .i64 idle, .int .i64 spin, .int .i64 on] 81).up hb1 (by simp))
    have HB1 := Lib.hid (HB0.out.trans (hb1.mono (by simp)))
    clear hb1 HB0 K1
    by_cases hs : stepsE rises steps = 0
    · replace E : Hid (R = _) := E.out.trans (if_neg (fun h => h hs))
      rw [hs]
      have HS := Lib.hid hs
      clear hs
      have hlt : w.heap.size < w1.heap.size := HX1.out.lt (by simp)
      have q0 := HX1.out.c 0 _ rfl
      have s0 := HX1.out.f 0 (by simp)
      have q1 := HX1.out.c 1 _ rfl
      have s1 := HX1.out.f 1 (by simp)
      have q2 := HX1.out.c 2 _ rfl
      have s2 := HX1.out.f 2 (by simp)
      have q3 := HX1.out.c 3 _ rfl
      have s3 := HX1.out.f 3 (by simp)
      have q4 := HX1.out.c 4 _ rfl
      have s4 := HX1.out.f 4 (by simp)
      have q5 := HX1.out.c 5 _ rfl
      have s5 := HX1.out.f 5 (by simp)
      have q6 := HX1.out.c 6 _ rfl
      have s6 := HX1.out.f 6 (by simp)
      have q7 := HX1.out.c 7 _ rfl
      have s7 := HX1.out.f 7 (by simp)
      have q8 := HX1.out.c 8 _ rfl
      have s8 := HX1.out.f 8 (by simp)
      clear s0 s1 s2 s3 s4 s5 s6 s7 s8
      by_cases hm : mn < 0
      · have d3 : decide (mn < 0) = true := decide_eq_true hm
        have HE : Hid (R = 1) := E.out.trans (if_neg (by simp [unRest]; omega))
        clear hm
        go_wp2_with fail
        refine region_T (w0 := w1) [(2, .pointer (some ⟨w.heap.size, 0, none⟩)), (21, .pointer (some ⟨w.heap.size, 1, none⟩)), (22, .int .i64 mn), (23, .bool true), (24, .bool true), (25, undef), (26, undef), (27, undef), (28, undef), (29, undef), (30, undef), (31, .bool true)] [] [2] ?_ ?_
        · intro T hT W hI
          simp only [HoldsT, and_true] at hT
          have l1 := (hI.cell (p := ⟨w.heap.size, 1, none⟩) hlt).trans q1
          repeat' first | exact AllO.nil | apply AllO.cons
          all_goals try ((first | refine oV ?_ | refine oN ?_ | refine oG (t := by simp only [hT]) (h := ?_)); simp [go_sem, EvT, hT, l1, d3, valT]; done)
          all_goals try (exact opT_s true (t := by simp only [hT]) (n := by decide) (e := by simp [valT, hT]))
          all_goals try (exact opT_s false (t := by simp only [hT]) (n := by decide) (e := by simp [valT, hT]))
        intro wx hb
        simp (decide := true) only [putT, valT, look, Act.put, List.setIfInBounds_toArray, List.set_cons_zero, List.set_cons_succ, Nat.reduceAdd, if_true, if_false]
        have HB2 := Lib.hid (HB1.out.trans (hb.mono HB1.out.size))
        clear hb
        go_wp2_with fail
        go_ret
        exact ⟨ret_int HE.out.symm, HB2.out⟩
      · have d3 : decide (mn < 0) = false := decide_eq_false hm
        have K3 := Lib.hid fun W (hb : Below w1.heap.size w1 W) => K2.out W (HR.out.upto StE.keep (HB1.out.trans (hb.mono HB1.out.size))) HS.out
        by_cases hq : qtySum steps < mn
        · have d4 : decide (qtySum steps < mn) = true := decide_eq_true hq
          have HE : Hid (R = 1) := E.out.trans (if_neg (by simp [unRest]; omega))
          clear hm hq
          go_wp2_with fail
          refine region_T (w0 := w1) [(2, .pointer (some ⟨w.heap.size, 0, none⟩)), (21, .pointer (some ⟨w.heap.size, 1, none⟩)), (22, .int .i64 mn), (23, .bool false), (24, .bool false), (25, .pointer (some ⟨w.heap.size, 1, none⟩)), (26, .int .i64 mn), (27, .pointer (some ⟨w.heap.size, 2, none⟩)), (28, .slice A steps.length c), (29, .int .i64 (qtySum steps)), (30, .bool true), (31, .bool true)] [] [2] ?_ ?_
          · intro T hT W hI
            simp only [HoldsT, and_true] at hT
            have l1 := (hI.cell (p := ⟨w.heap.size, 1, none⟩) hlt).trans q1
            have l2 := (hI.cell (p := ⟨w.heap.size, 2, none⟩) hlt).trans q2
            repeat' first | exact AllO.nil | apply AllO.cons
            all_goals try ((first | refine oV ?_ | refine oN ?_ | refine oG (t := by simp only [hT]) (h := ?_)); simp [go_sem, EvT, hT, l1, d3, l2, d4, valT]; done)
            · refine opT_g (t := by simp only [hT]) (h := runT_c 84 #[.slice A steps.length c] (by simp [go_sem, EvT, hT, l1, d3, l2, d4]) ?_)
              simp only [valT, hT]
              exact K3.out W hI
          intro wx hb
          simp (decide := true) only [putT, valT, look, Act.put, List.setIfInBounds_toArray, List.set_cons_zero, List.set_cons_succ, Nat.reduceAdd, if_true, if_false]
          have HB2 := Lib.hid (HB1.out.trans (hb.mono HB1.out.size))
          clear hb
          go_wp2_with fail
          go_ret
          exact ⟨ret_int HE.out.symm, HB2.out⟩
        · have d4 : decide (qtySum steps < mn) = false := decide_eq_false hq
          replace E : Hid (R = if (1 ≤ up ∧ up ≤ 6 ∧ 1 ≤ down ∧ down ≤ 6 ∧ 0 ≤ start ∧ start ≤ 1000000000 ∧ 0 ≤ idle ∧ idle ≤ 1000000000 ∧ 0 ≤ spin ∧ spin ≤ 1000000 ∧ on ≠ 0 ∧ -6 ≤ on ∧ on ≤ 6) then 0 else 1) := by
            show _ = _
            rw [E.out]
            have h1 : 0 ≤ mn := by omega
            have h2 : mn ≤ qtySum steps := by omega
            simp [unRest, h1, h2, and_assoc]
          clear hm hq
          go_wp2_with fail
          refine region_T (w0 := w1) [(2, .pointer (some ⟨w.heap.size, 0, none⟩)), (21, .pointer (some ⟨w.heap.size, 1, none⟩)), (22, .int .i64 mn), (23, .bool false), (24, .bool false), (25, .pointer (some ⟨w.heap.size, 1, none⟩)), (26, .int .i64 mn), (27, .pointer (some ⟨w.heap.size, 2, none⟩)), (28, .slice A steps.length c), (29, .int .i64 (qtySum steps)), (30, .bool false), (31, .bool false)] [] [2] ?_ ?_
          · intro T hT W hI
            simp only [HoldsT, and_true] at hT
            have l1 := (hI.cell (p := ⟨w.heap.size, 1, none⟩) hlt).trans q1
            have l2 := (hI.cell (p := ⟨w.heap.size, 2, none⟩) hlt).trans q2
            repeat' first | exact AllO.nil | apply AllO.cons
            all_goals try ((first | refine oV ?_ | refine oN ?_ | refine oG (t := by simp only [hT]) (h := ?_)); simp [go_sem, EvT, hT, l1, d3, l2, d4, valT]; done)
            · refine opT_g (t := by simp only [hT]) (h := runT_c 84 #[.slice A steps.length c] (by simp [go_sem, EvT, hT, l1, d3, l2, d4]) ?_)
              simp only [valT, hT]
              exact K3.out W hI
          intro wx hb
          simp (decide := true) only [putT, valT, look, Act.put, List.setIfInBounds_toArray, List.set_cons_zero, List.set_cons_succ, Nat.reduceAdd, if_true, if_false]
          have HB2 := Lib.hid (HB1.out.trans (hb.mono HB1.out.size))
          have HX2 := Lib.hid (HX1.out.up hb hlt)
          clear hb HX1 HB1 d1 d2 d3 d4 K2 K3 HS HR q0 q1 q2 q3 q4 q5 q6 q7 q8
          have q0 := HX2.out.c 0 _ rfl
          have s0 := HX2.out.f 0 (by simp)
          have q1 := HX2.out.c 1 _ rfl
          have s1 := HX2.out.f 1 (by simp)
          have q2 := HX2.out.c 2 _ rfl
          have s2 := HX2.out.f 2 (by simp)
          have q3 := HX2.out.c 3 _ rfl
          have s3 := HX2.out.f 3 (by simp)
          have q4 := HX2.out.c 4 _ rfl
          have s4 := HX2.out.f 4 (by simp)
          have q5 := HX2.out.c 5 _ rfl
          have s5 := HX2.out.f 5 (by simp)
          have q6 := HX2.out.c 6 _ rfl
          have s6 := HX2.out.f 6 (by simp)
          have q7 := HX2.out.c 7 _ rfl
          have s7 := HX2.out.f 7 (by simp)
          have q8 := HX2.out.c 8 _ rfl
          have s8 := HX2.out.f 8 (by simp)
          clear s0 s1 s2 s3 s4 s5 s6 s7 s8
          go_wp2_with fail
          all_goals
            go_ret
            exact ⟨ret_int (by rw [E.out]; first | rw [if_pos (by omega)] | rw [if_neg (by omega)]), HB2.out⟩
    · have HE : Hid (R = stepsE rises steps) := E.out.trans (if_pos hs)
      have e0 : (stepsE rises steps == 0) = false := beq_eq_false_iff_ne.2 hs
      have e1 : (stepsE rises steps != 0) = true := bne_iff_ne.2 hs
      clear hs E
      generalize stepsE rises steps = z at *
      go_wp2_with fail
      go_ret
      exact ⟨ret_int HE.out.symm, HB1.out⟩
  · have hb' : bus < 0 ∨ (¬ bus < 0 ∧ n ≤ bus) := by
      simp [inB] at hb
      omega
    have HE : Hid (R = 1) := E.out.trans (if_pos (by simp [hb]))
    clear hb
    rcases hb' with h | ⟨h1, h2⟩
    · have d1 : decide (bus < 0) = true := decide_eq_true h
      go_wp2_with fail
      go_ret
      exact ⟨ret_int HE.out.symm, HB0.out⟩
    · have d1 : decide (bus < 0) = false := decide_eq_false h1
      have d2 : decide (n ≤ bus) = true := decide_eq_true h2
      go_wp2_with fail
      go_ret
      exact ⟨ret_int HE.out.symm, HB0.out⟩
end Go.Proofs.YtklanoppbbaolaaGreat
