/- The text TreE. -/
import Derived.Test.YtmojjfdamdgegaaMg33
/- visit and search. -/
namespace Go.Proofs.Ytmojjfdamdgegaa
open Go.RowKit
set_option linter.unusedVariables false

theorem drop_at {l : List Int} {k : Nat} (h : k < l.length) : l.drop k = l.getD k 0 :: l.drop (k + 1) := by
  rw [getD_eq _ _ _ h, List.drop_eq_getElem_cons h]

set_option maxRecDepth 100000 in
set_option maxHeartbeats 8000000 in
theorem visit_any (ls : List Ln) (ch : List Int) (goal : Int) (hch : ∀ k, k < ch.length → ∃ j : Nat, ch.getD k 0 = (j : Int) ∧ j < ls.length) (hm : ls.length ≤ 1000000) (hn : ch.length ≤ 1000000) : ∀ f, VisitOk ls ch goal f := by
  intro f
  induction f with
  | zero =>
    intro A c C cc Nb Lb Tb Rb Vb Yb G bus last t r t' W hd
    cases hd
  | succ f ih =>
    intro A c C cc Nb Lb Tb Rb Vb Yb G bus last t r t' W hd hl he hr
    have hty := fun k nx sg t r t' W hk hd hl he hr => try_any ih A c C cc Nb Lb Tb Rb Vb Yb G k nx sg t r t' W hk hm hd hl he hr
    have HTY := Lib.hid hty
    have HCH := Lib.hid hch
    have HE := Lib.hid he
    have HR := Lib.hid hr
    rw [dfsF] at hd
    have g0 := he.t0
    have r0 := he.r0
    clear hty hch he hr ih
    by_cases hb : bus = goal
    · rw [if_pos hb] at hd
      have b1 : (bus == goal) = true := by rw [beq_iff_eq]; exact hb
      have HD := Lib.hid (show r = true ∧ t' = t by simpa [eq_comm] using hd)
      clear hd hb
      go_enter Try.func55, Try.ntmps55
      go_wp2_with fail
      go_ret2
      obtain ⟨h1, h2⟩ := HD.out
      rw [h1, h2]
      exact ⟨⟨_, rfl⟩, World.grownBy.refl _ _, HR.out⟩
    · rw [if_neg hb] at hd
      have b1 : (bus == goal) = false := by rw [beq_eq_false_iff_ne]; exact hb
      have HD := Lib.hid hd
      have HLT := Lib.hid hl
      have l0 := HE.out.l0
      clear hd hb hl
      go_enter Try.func55, Try.ntmps55
      go_wp2_with fail
      clear g0 r0 l0
      go_loopg [12, 13, 14, 15, 16, 23] ch.length (fun g s12 s13 s14 s15 s16 i wr => ∃ (k : Nat) (tt : List Int), k + g = ch.length ∧ i = .int .i64 k ∧ dfsL ls (dfsF ls ch goal f) bus last (ch.drop k) tt = some (r, t') ∧ tt.length = ls.length ∧ SEnv A c ls C cc ch goal Nb Lb Tb Rb Vb Yb G wr ∧ RowI 3 wr G tt ∧ W.grownBy wr (some G))
      case atStart => exact ⟨0, t, by omega, rfl, by rw [List.drop_zero]; exact HD.out, HLT.out, HE.out, HR.out, World.grownBy.refl _ _⟩
      case round =>
        clear HD HLT HE HR
        obtain ⟨k, tt, hkg, rfl, hd, hl, he, hr, hg⟩ := hrel
        have HE := Lib.hid he
        have HR := Lib.hid hr
        have HG := Lib.hid hg
        have HLT := Lib.hid hl
        clear he hr hg hl
        cases gk with
        | zero =>
          obtain rfl : k = ch.length := by omega
          rw [List.drop_length, dfsL] at hd
          have HD := Lib.hid (show r = false ∧ t' = tt by simpa [eq_comm] using hd)
          clear hd hkg
          go_wp2_with fail
          go_ret2
          obtain ⟨h1, h2⟩ := HD.out
          rw [h1, h2]
          exact ⟨⟨_, rfl⟩, HG.out, HR.out⟩
        | succ g =>
          have hk : k < ch.length := by omega
          have HKG := Lib.hid hkg
          clear hkg
          rw [drop_at hk] at hd
          obtain ⟨j, hj1, hj⟩ := HCH.out k hk
          rw [hj1, dfsL, Int.toNat_natCast] at hd
          obtain ⟨bc, offc, rfl, hbc, hcc⟩ := HE.out.ints (by omega)
          have ec := hcc k hk
          rw [hj1] at ec
          obtain ⟨bl, offl, rfl, hbl, hcl⟩ := HE.out.lines (by omega)
          obtain ⟨f0, f1, f2, f3⟩ := hcl j hj
          have n1 := HE.out.n1
          have y0 := HE.out.y0
          unfold tryV at y0
          obtain ⟨l, hgl⟩ : ∃ l, ls.getD j (0, 0, 0, 0) = l := ⟨_, rfl⟩
          rw [hgl] at f0 f1 f2 f3 hd
          obtain ⟨lf, lt, lx, lc⟩ := l
          have kx := cross_any lf lt lx lc bus wr
          obtain ⟨⟨nx, sg⟩, hx⟩ : ∃ q, crossF (lf, lt, lx, lc) bus = q := ⟨_, rfl⟩
          rw [hx] at kx hd
          dsimp only at kx hd
          have KX := Lib.hid kx
          have hjn : (0 : Int) ≤ (j : Int) := by omega
          have hjm : (j : Int) < (ls.length : Int) := by omega
          have hYG := HE.out.ne.2.2.2.2.2
          clear hcc hcl hj1 hgl hx kx
          by_cases hs : (j : Int) = last ∨ sg = 0
          · rw [if_pos hs] at hd
            have HD := Lib.hid hd
            clear hd
            go_wp2_with fail
            refine KX.out.mono ?_
            rintro e w2 ⟨rfl, hb⟩
            have hg2 : wr.grownBy w2 (some G) := grown_below hb
            have HE2 := Lib.hid (HE.out.up hg2)
            have HR2 := Lib.hid (HR.out.grow hb)
            have HG2 := Lib.hid (grown_trans HG.out hg2)
            clear hb hg2 HE HR HG f0 f1 f2 f3 n1 y0 ec
            by_cases h1 : (j : Int) = last
            · have t1 : ((j : Int) == last) = true := by rw [beq_iff_eq]; exact h1
              clear hs h1
              go_wp2_with fail
              go_roundg g
              case measure => omega
              case rel => exact ⟨k + 1, tt, by have := HKG.out; omega, by go_num, HD.out, HLT.out, HE2.out, HR2.out, HG2.out⟩
            · have t1 : ((j : Int) == last) = false := by rw [beq_eq_false_iff_ne]; exact h1
              have t2 : (sg == 0) = true := by rw [beq_iff_eq]; exact hs.resolve_left h1
              clear hs h1
              go_wp2_with fail
              go_roundg g
              case measure => omega
              case rel => exact ⟨k + 1, tt, by have := HKG.out; omega, by go_num, HD.out, HLT.out, HE2.out, HR2.out, HG2.out⟩
          · rw [if_neg hs] at hd
            have t1 : ((j : Int) == last) = false := by rw [beq_eq_false_iff_ne]; exact fun h => hs (.inl h)
            have t2 : (sg == 0) = false := by rw [beq_eq_false_iff_ne]; exact fun h => hs (.inr h)
            cases hq : dfsF ls ch goal f nx (j : Int) (tt.set j sg) with
            | none => rw [hq] at hd; cases hd
            | some q =>
              obtain ⟨r1, t1'⟩ := q
              rw [hq] at hd
              have HQ := Lib.hid hq
              have HD := Lib.hid hd
              clear hd hq hs
              go_wp2_with fail
              refine KX.out.mono ?_
              rintro e w2 ⟨rfl, hb⟩
              have hg2 : wr.grownBy w2 (some G) := grown_below hb
              have he2 := HE.out.up hg2
              have HE2 := Lib.hid he2
              have HR2 := Lib.hid (HR.out.grow hb)
              have HG2 := Lib.hid (grown_trans HG.out hg2)
              have y0' := he2.y0
              unfold tryV at y0'
              clear hb hg2 he2 HE HR HG f0 f1 f2 f3 n1 y0 ec
              go_wp2_with fail
              refine (HTY.out j nx sg tt r1 t1' w2 hj HQ.out HLT.out HE2.out HR2.out).mono ?_
              rintro e w3 ⟨⟨v, rfl⟩, hg3, hr3⟩
              have HE3 := Lib.hid (HE2.out.up hg3)
              have HR3 := Lib.hid hr3
              have HG3 := Lib.hid (grown_trans HG2.out hg3)
              have hlen : t1'.length = ls.length := by rw [dfsF_length _ _ _ _ _ _ HQ.out]; simp [HLT.out]
              have HLE := Lib.hid hlen
              clear hg3 hr3 HE2 HR2 HG2 y0' hlen
              cases r1 with
              | true =>
                have HD' := Lib.hid (show r = true ∧ t' = t1' by simpa [eq_comm] using HD.out)
                clear HD
                go_wp2_with fail
                go_ret2
                obtain ⟨h1, h2⟩ := HD'.out
                rw [h1, h2]
                exact ⟨⟨_, rfl⟩, HG3.out, by simpa [undoT] using HR3.out⟩
              | false =>
                have HD' := Lib.hid (show dfsL ls (dfsF ls ch goal f) bus last (ch.drop (k + 1)) (t1'.set j 0) = some (r, t') by simpa using HD.out)
                clear HD
                go_wp2_with fail
                go_roundg g
                case measure => omega
                case rel => exact ⟨k + 1, t1'.set j 0, by have := HKG.out; omega, by go_num, HD'.out, by simp [HLE.out], HE3.out, by simpa [undoT] using HR3.out, HG3.out⟩

theorem rowI_zero (w : World) (t : TypeId) (n : Nat) : RowI t (w.alloc (.cells (madeCells #[.int .i64 0] n) t)) w.heap.size (List.replicate n 0) := by
  unfold RowI
  rw [heap_made]
  simp
theorem RowI.owns {w : World} {g base : Nat} {t : List Int} (h : RowI 3 w g t) (hb : base ≤ g) (hm : t.length ≤ 1000000) : w.ownsRow base 3 1 (.slice (some ⟨g, 0, none⟩) t.length t.length) t.length (t.map (Value.int .i64)) := by
  unfold RowI at h
  exact ⟨by simp, .inr ⟨g, t.length, _, rfl, hb, h, Nat.le_refl _, by simp only [maxLen]; omega, by simp, by rw [Nat.mul_one]; exact List.take_of_length_le (by simp)⟩⟩

theorem search_env (nb : Int) (A : Option Addr) (c : Nat) (ls : List Ln) (C : Option Addr) (cc : Nat) (ch : List Int) (goal : Int) (w : World) (hl : LinesR w w.heap.size A ls) (hi : IntsR w w.heap.size C ch) :
    SEnv A c ls C cc ch goal w.heap.size (w.heap.size + 1) (w.heap.size + 1 + 1) (w.heap.size + 1 + 1 + 1 + 1) (w.heap.size + 1 + 1 + 1 + 1 + 1) (w.heap.size + 1 + 1 + 1 + 1 + 1 + 1) (w.heap.size + 1 + 1 + 1) (((((((w.alloc (.cells #[.int .i64 nb, .slice A ls.length c] 24)).alloc (.cells #[.slice C ch.length cc] 25)).alloc (.cells #[.int .i64 goal] 3)).alloc (.cells (madeCells #[.int .i64 0] ls.length) 3)).alloc (.cells #[.slice (some ⟨w.heap.size + 1 + 1 + 1, 0, none⟩) ls.length ls.length] 25)).alloc (.cells #[.func (.func 55) #[] #[.pointer (some ⟨w.heap.size + 1 + 1, 0, none⟩), .pointer (some ⟨w.heap.size + 1 + 1 + 1 + 1, 0, none⟩), .pointer (some ⟨w.heap.size + 1, 0, none⟩), .pointer (some ⟨w.heap.size, 0, none⟩), .pointer (some ⟨w.heap.size + 1 + 1 + 1 + 1 + 1 + 1, 0, none⟩)]] 66)).alloc (.cells #[.func (.func 53) #[] #[.pointer (some ⟨w.heap.size + 1 + 1 + 1 + 1, 0, none⟩), .pointer (some ⟨w.heap.size + 1 + 1 + 1 + 1 + 1, 0, none⟩)]] 67)) ∧ RowI 3 (((((((w.alloc (.cells #[.int .i64 nb, .slice A ls.length c] 24)).alloc (.cells #[.slice C ch.length cc] 25)).alloc (.cells #[.int .i64 goal] 3)).alloc (.cells (madeCells #[.int .i64 0] ls.length) 3)).alloc (.cells #[.slice (some ⟨w.heap.size + 1 + 1 + 1, 0, none⟩) ls.length ls.length] 25)).alloc (.cells #[.func (.func 55) #[] #[.pointer (some ⟨w.heap.size + 1 + 1, 0, none⟩), .pointer (some ⟨w.heap.size + 1 + 1 + 1 + 1, 0, none⟩), .pointer (some ⟨w.heap.size + 1, 0, none⟩), .pointer (some ⟨w.heap.size, 0, none⟩), .pointer (some ⟨w.heap.size + 1 + 1 + 1 + 1 + 1 + 1, 0, none⟩)]] 66)).alloc (.cells #[.func (.func 53) #[] #[.pointer (some ⟨w.heap.size + 1 + 1 + 1 + 1, 0, none⟩), .pointer (some ⟨w.heap.size + 1 + 1 + 1 + 1 + 1, 0, none⟩)]] 67)) (w.heap.size + 1 + 1 + 1) (List.replicate ls.length 0) ∧ Below w.heap.size w (((((((w.alloc (.cells #[.int .i64 nb, .slice A ls.length c] 24)).alloc (.cells #[.slice C ch.length cc] 25)).alloc (.cells #[.int .i64 goal] 3)).alloc (.cells (madeCells #[.int .i64 0] ls.length) 3)).alloc (.cells #[.slice (some ⟨w.heap.size + 1 + 1 + 1, 0, none⟩) ls.length ls.length] 25)).alloc (.cells #[.func (.func 55) #[] #[.pointer (some ⟨w.heap.size + 1 + 1, 0, none⟩), .pointer (some ⟨w.heap.size + 1 + 1 + 1 + 1, 0, none⟩), .pointer (some ⟨w.heap.size + 1, 0, none⟩), .pointer (some ⟨w.heap.size, 0, none⟩), .pointer (some ⟨w.heap.size + 1 + 1 + 1 + 1 + 1 + 1, 0, none⟩)]] 66)).alloc (.cells #[.func (.func 53) #[] #[.pointer (some ⟨w.heap.size + 1 + 1 + 1 + 1, 0, none⟩), .pointer (some ⟨w.heap.size + 1 + 1 + 1 + 1 + 1, 0, none⟩)]] 67)) := by
  have b0 : Below w.heap.size w (w.alloc (.cells #[.int .i64 nb, .slice A ls.length c] 24)) := (Below.refl _ _).alloc (Nat.le_refl _) _
  have k00 := cell_alloc_at w #[.int .i64 nb, .slice A ls.length c] 24 _ 0 rfl
  have k01 := cell_alloc_at w #[.int .i64 nb, .slice A ls.length c] 24 _ 1 rfl
  have s0 := World.size_alloc w (.cells #[.int .i64 nb, .slice A ls.length c] 24)
  generalize w.alloc (.cells #[.int .i64 nb, .slice A ls.length c] 24) = W0 at *
  have b1 : Below W0.heap.size W0 (W0.alloc (.cells #[.slice C ch.length cc] 25)) := (Below.refl _ _).alloc (Nat.le_refl _) _
  have k10 := cell_alloc_at W0 #[.slice C ch.length cc] 25 _ 0 rfl
  have s1 := World.size_alloc W0 (.cells #[.slice C ch.length cc] 25)
  generalize W0.alloc (.cells #[.slice C ch.length cc] 25) = W1 at *
  have b2 : Below W1.heap.size W1 (W1.alloc (.cells #[.int .i64 goal] 3)) := (Below.refl _ _).alloc (Nat.le_refl _) _
  have k20 := cell_alloc_at W1 #[.int .i64 goal] 3 _ 0 rfl
  have s2 := World.size_alloc W1 (.cells #[.int .i64 goal] 3)
  generalize W1.alloc (.cells #[.int .i64 goal] 3) = W2 at *
  have b3 : Below W2.heap.size W2 (W2.alloc (.cells (madeCells #[.int .i64 0] ls.length) 3)) := (Below.refl _ _).alloc (Nat.le_refl _) _
  have kr := rowI_zero W2 3 ls.length
  have s3 := World.size_alloc W2 (.cells (madeCells #[.int .i64 0] ls.length) 3)
  generalize W2.alloc (.cells (madeCells #[.int .i64 0] ls.length) 3) = W3 at *
  have b4 : Below W3.heap.size W3 (W3.alloc (.cells #[.slice (some ⟨w.heap.size + 1 + 1 + 1, 0, none⟩) ls.length ls.length] 25)) := (Below.refl _ _).alloc (Nat.le_refl _) _
  have k40 := cell_alloc_at W3 #[.slice (some ⟨w.heap.size + 1 + 1 + 1, 0, none⟩) ls.length ls.length] 25 _ 0 rfl
  have s4 := World.size_alloc W3 (.cells #[.slice (some ⟨w.heap.size + 1 + 1 + 1, 0, none⟩) ls.length ls.length] 25)
  generalize W3.alloc (.cells #[.slice (some ⟨w.heap.size + 1 + 1 + 1, 0, none⟩) ls.length ls.length] 25) = W4 at *
  have b5 : Below W4.heap.size W4 (W4.alloc (.cells #[.func (.func 55) #[] #[.pointer (some ⟨w.heap.size + 1 + 1, 0, none⟩), .pointer (some ⟨w.heap.size + 1 + 1 + 1 + 1, 0, none⟩), .pointer (some ⟨w.heap.size + 1, 0, none⟩), .pointer (some ⟨w.heap.size, 0, none⟩), .pointer (some ⟨w.heap.size + 1 + 1 + 1 + 1 + 1 + 1, 0, none⟩)]] 66)) := (Below.refl _ _).alloc (Nat.le_refl _) _
  have k50 := cell_alloc_at W4 #[.func (.func 55) #[] #[.pointer (some ⟨w.heap.size + 1 + 1, 0, none⟩), .pointer (some ⟨w.heap.size + 1 + 1 + 1 + 1, 0, none⟩), .pointer (some ⟨w.heap.size + 1, 0, none⟩), .pointer (some ⟨w.heap.size, 0, none⟩), .pointer (some ⟨w.heap.size + 1 + 1 + 1 + 1 + 1 + 1, 0, none⟩)]] 66 _ 0 rfl
  have s5 := World.size_alloc W4 (.cells #[.func (.func 55) #[] #[.pointer (some ⟨w.heap.size + 1 + 1, 0, none⟩), .pointer (some ⟨w.heap.size + 1 + 1 + 1 + 1, 0, none⟩), .pointer (some ⟨w.heap.size + 1, 0, none⟩), .pointer (some ⟨w.heap.size, 0, none⟩), .pointer (some ⟨w.heap.size + 1 + 1 + 1 + 1 + 1 + 1, 0, none⟩)]] 66)
  generalize W4.alloc (.cells #[.func (.func 55) #[] #[.pointer (some ⟨w.heap.size + 1 + 1, 0, none⟩), .pointer (some ⟨w.heap.size + 1 + 1 + 1 + 1, 0, none⟩), .pointer (some ⟨w.heap.size + 1, 0, none⟩), .pointer (some ⟨w.heap.size, 0, none⟩), .pointer (some ⟨w.heap.size + 1 + 1 + 1 + 1 + 1 + 1, 0, none⟩)]] 66) = W5 at *
  have b6 : Below W5.heap.size W5 (W5.alloc (.cells #[.func (.func 53) #[] #[.pointer (some ⟨w.heap.size + 1 + 1 + 1 + 1, 0, none⟩), .pointer (some ⟨w.heap.size + 1 + 1 + 1 + 1 + 1, 0, none⟩)]] 67)) := (Below.refl _ _).alloc (Nat.le_refl _) _
  have k60 := cell_alloc_at W5 #[.func (.func 53) #[] #[.pointer (some ⟨w.heap.size + 1 + 1 + 1 + 1, 0, none⟩), .pointer (some ⟨w.heap.size + 1 + 1 + 1 + 1 + 1, 0, none⟩)]] 67 _ 0 rfl
  have s6 := World.size_alloc W5 (.cells #[.func (.func 53) #[] #[.pointer (some ⟨w.heap.size + 1 + 1 + 1 + 1, 0, none⟩), .pointer (some ⟨w.heap.size + 1 + 1 + 1 + 1 + 1, 0, none⟩)]] 67)
  generalize W5.alloc (.cells #[.func (.func 53) #[] #[.pointer (some ⟨w.heap.size + 1 + 1 + 1 + 1, 0, none⟩), .pointer (some ⟨w.heap.size + 1 + 1 + 1 + 1 + 1, 0, none⟩)]] 67) = W6 at *
  rw [show W0.heap.size = w.heap.size + 1 by omega] at k10
  rw [show W1.heap.size = w.heap.size + 1 + 1 by omega] at k20
  rw [show W2.heap.size = w.heap.size + 1 + 1 + 1 by omega] at kr
  rw [show W3.heap.size = w.heap.size + 1 + 1 + 1 + 1 by omega] at k40
  rw [show W4.heap.size = w.heap.size + 1 + 1 + 1 + 1 + 1 by omega] at k50
  rw [show W5.heap.size = w.heap.size + 1 + 1 + 1 + 1 + 1 + 1 by omega] at k60
  replace k00 := (b1.cell (p := ⟨w.heap.size, 0, none⟩) (by show w.heap.size < W0.heap.size; omega)).trans k00
  replace k01 := (b1.cell (p := ⟨w.heap.size, 1, none⟩) (by show w.heap.size < W0.heap.size; omega)).trans k01
  replace k00 := (b2.cell (p := ⟨w.heap.size, 0, none⟩) (by show w.heap.size < W1.heap.size; omega)).trans k00
  replace k01 := (b2.cell (p := ⟨w.heap.size, 1, none⟩) (by show w.heap.size < W1.heap.size; omega)).trans k01
  replace k00 := (b3.cell (p := ⟨w.heap.size, 0, none⟩) (by show w.heap.size < W2.heap.size; omega)).trans k00
  replace k01 := (b3.cell (p := ⟨w.heap.size, 1, none⟩) (by show w.heap.size < W2.heap.size; omega)).trans k01
  replace k00 := (b4.cell (p := ⟨w.heap.size, 0, none⟩) (by show w.heap.size < W3.heap.size; omega)).trans k00
  replace k01 := (b4.cell (p := ⟨w.heap.size, 1, none⟩) (by show w.heap.size < W3.heap.size; omega)).trans k01
  replace k00 := (b5.cell (p := ⟨w.heap.size, 0, none⟩) (by show w.heap.size < W4.heap.size; omega)).trans k00
  replace k01 := (b5.cell (p := ⟨w.heap.size, 1, none⟩) (by show w.heap.size < W4.heap.size; omega)).trans k01
  replace k00 := (b6.cell (p := ⟨w.heap.size, 0, none⟩) (by show w.heap.size < W5.heap.size; omega)).trans k00
  replace k01 := (b6.cell (p := ⟨w.heap.size, 1, none⟩) (by show w.heap.size < W5.heap.size; omega)).trans k01
  replace k10 := (b2.cell (p := ⟨w.heap.size + 1, 0, none⟩) (by show w.heap.size + 1 < W1.heap.size; omega)).trans k10
  replace k10 := (b3.cell (p := ⟨w.heap.size + 1, 0, none⟩) (by show w.heap.size + 1 < W2.heap.size; omega)).trans k10
  replace k10 := (b4.cell (p := ⟨w.heap.size + 1, 0, none⟩) (by show w.heap.size + 1 < W3.heap.size; omega)).trans k10
  replace k10 := (b5.cell (p := ⟨w.heap.size + 1, 0, none⟩) (by show w.heap.size + 1 < W4.heap.size; omega)).trans k10
  replace k10 := (b6.cell (p := ⟨w.heap.size + 1, 0, none⟩) (by show w.heap.size + 1 < W5.heap.size; omega)).trans k10
  replace k20 := (b3.cell (p := ⟨w.heap.size + 1 + 1, 0, none⟩) (by show w.heap.size + 1 + 1 < W2.heap.size; omega)).trans k20
  replace k20 := (b4.cell (p := ⟨w.heap.size + 1 + 1, 0, none⟩) (by show w.heap.size + 1 + 1 < W3.heap.size; omega)).trans k20
  replace k20 := (b5.cell (p := ⟨w.heap.size + 1 + 1, 0, none⟩) (by show w.heap.size + 1 + 1 < W4.heap.size; omega)).trans k20
  replace k20 := (b6.cell (p := ⟨w.heap.size + 1 + 1, 0, none⟩) (by show w.heap.size + 1 + 1 < W5.heap.size; omega)).trans k20
  replace kr := kr.grow b4
  replace kr := kr.grow b5
  replace kr := kr.grow b6
  replace k40 := (b5.cell (p := ⟨w.heap.size + 1 + 1 + 1 + 1, 0, none⟩) (by show w.heap.size + 1 + 1 + 1 + 1 < W4.heap.size; omega)).trans k40
  replace k40 := (b6.cell (p := ⟨w.heap.size + 1 + 1 + 1 + 1, 0, none⟩) (by show w.heap.size + 1 + 1 + 1 + 1 < W5.heap.size; omega)).trans k40
  replace k50 := (b6.cell (p := ⟨w.heap.size + 1 + 1 + 1 + 1 + 1, 0, none⟩) (by show w.heap.size + 1 + 1 + 1 + 1 + 1 < W5.heap.size; omega)).trans k50
  have hb := ((((((b0.trans (b1.mono (by omega))).trans (b2.mono (by omega))).trans (b3.mono (by omega))).trans (b4.mono (by omega))).trans (b5.mono (by omega))).trans (b6.mono (by omega)))
  refine ⟨⟨k01, ?_, k10, ?_, k20, k40, k50, k60, by omega, by omega⟩, kr, hb⟩
  · exact (hl.below hb).more (by omega)
  · exact (hi.below hb).more (by omega)

set_option maxRecDepth 100000 in
set_option maxHeartbeats 4000000 in
theorem search_any (nb : Int) (A : Option Addr) (c : Nat) (ls : List Ln) (C : Option Addr) (cc : Nat) (ch : List Int) (a goal : Int) (f : Nat) (r : Bool) (t' : List Int) (w : World) (hl : LinesR w w.heap.size A ls) (hi : IntsR w w.heap.size C ch)
    (hch : ∀ k, k < ch.length → ∃ j : Nat, ch.getD k 0 = (j : Int) ∧ j < ls.length) (hm : ls.length ≤ 1000000) (hn : ch.length ≤ 1000000) (hd : dfsF ls ch goal f a (-1) (List.replicate ls.length 0) = some (r, t')) :
    Calls Try.prog 41 #[.agg #[.int .i64 nb, .slice A ls.length c], .slice C ch.length cc, .int .i64 a, .int .i64 goal] w (IntsV w t') := by
  have hmf : ∀ (fn : Fn) (first cap : Array Value) (w : World), (Instr.makeFunc fn first cap).run Try.prog w = .ok (.func fn first cap) w := fun _ _ _ _ => rfl
  have hmk := fun W => run_make_row' (P := Try.prog) 25 3 (.int .i64 0) 8 Try.underlying25 info_int rfl .i64 .i64 ls.length (by omega) (by omega) W
  have hv := visit_any ls ch goal hch hm hn f
  have hlen := dfsF_length _ _ _ _ _ _ hd
  rw [List.length_replicate] at hlen
  have HV := Lib.hid hv
  have HD := Lib.hid hd
  have HL := Lib.hid hl
  have HI := Lib.hid hi
  clear hv hd hl hi hch
  go_enter Try.func41, Try.ntmps41
  go_upto_region 5 with fail
  obtain ⟨he, hr, hb⟩ := search_env nb A c ls C cc ch goal w HL.out HI.out
  generalize (((((((w.alloc (.cells #[.int .i64 nb, .slice A ls.length c] 24)).alloc (.cells #[.slice C ch.length cc] 25)).alloc (.cells #[.int .i64 goal] 3)).alloc (.cells (madeCells #[.int .i64 0] ls.length) 3)).alloc (.cells #[.slice (some ⟨w.heap.size + 1 + 1 + 1, 0, none⟩) ls.length ls.length] 25)).alloc (.cells #[.func (.func 55) #[] #[.pointer (some ⟨w.heap.size + 1 + 1, 0, none⟩), .pointer (some ⟨w.heap.size + 1 + 1 + 1 + 1, 0, none⟩), .pointer (some ⟨w.heap.size + 1, 0, none⟩), .pointer (some ⟨w.heap.size, 0, none⟩), .pointer (some ⟨w.heap.size + 1 + 1 + 1 + 1 + 1 + 1, 0, none⟩)]] 66)).alloc (.cells #[.func (.func 53) #[] #[.pointer (some ⟨w.heap.size + 1 + 1 + 1 + 1, 0, none⟩), .pointer (some ⟨w.heap.size + 1 + 1 + 1 + 1 + 1, 0, none⟩)]] 67)) = W at *
  have HE := Lib.hid he
  have HR := Lib.hid hr
  have HB := Lib.hid hb
  have v0 := he.v0
  unfold visV at v0
  clear he hr hb HL HI
  go_wp2_with fail
  refine (HV.out A c C cc _ _ _ _ _ _ _ a (-1) (List.replicate ls.length 0) r t' W HD.out (by simp) HE.out HR.out).mono ?_
  rintro e W2 ⟨⟨v, rfl⟩, hg, hr⟩
  have r0 := (HE.out.up hg).r0
  have HB2 := Lib.hid (show Below w.heap.size w W2 from HB.out.grown hg HB.out.size (fun j ej => by injection ej with ej; omega))
  have HR2 := Lib.hid hr
  clear hg hr v0 HE HR HB
  go_wp2_with fail
  go_ret
  refine ⟨_, rfl, ?_, HB2.out⟩
  have := HR2.out.owns (base := w.heap.size) (by omega) (by omega)
  rw [hlen] at this ⊢
  exact this
end Go.Proofs.Ytmojjfdamdgegaa
