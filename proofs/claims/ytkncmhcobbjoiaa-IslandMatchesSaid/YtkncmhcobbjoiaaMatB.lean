/- Contracts of the reference functions Members and Rows of layer 15. -/
import Derived.Test.YtkncmhcobbjoiaaMatA
namespace Go.Proofs.Ytkncmhcobbjoiaa
open Go.RowKit
set_option linter.unusedVariables false

/-- all = append(all, row), the row of the call's own, in a block of its own -/
theorem RowsOwn.push {w w2 : World} {base : Nat} {v v' u : Value} {r : List Int} {rows : List (List Int)} {vs : List Value} {tmp : Obj} (h1 : vs.length = rows.length) (h2 : w.ownsRow base 25 1 v rows.length vs)
    (h3 : ∀ (i : Nat) (r : List Int), rows[i]? = some r → ∃ u, vs[i]? = some u ∧ w.ownsRow base 3 1 u r.length (r.map (Value.int .i64)))
    (h4 : ∀ (i j : Nat) (u u' : Value), vs[i]? = some u → vs[j]? = some u' → i ≠ j → u.ownBlock = none ∨ u.ownBlock ≠ u'.ownBlock)
    (hu : w.ownsRow base 3 1 u r.length (r.map (Value.int .i64))) (hdis : ∀ (i : Nat) (y : Value), vs[i]? = some y → (y.ownBlock = none ∨ y.ownBlock ≠ u.ownBlock) ∧ (u.ownBlock = none ∨ u.ownBlock ≠ y.ownBlock))
    (hown : w2.ownsRow base 25 1 v' (rows.length + 1) (vs ++ [u])) (hg : (w.alloc tmp).grownBy w2 v.ownBlock) : RowsOwn w2 base v' (rows ++ [r]) := by
  refine ⟨vs ++ [u], by simp [h1], by simpa using hown, fun i q hq => ?_, fun i j y y' hi hj hij => ?_⟩
  · rw [List.getElem?_append] at hq
    by_cases hl : i < rows.length
    · rw [if_pos hl] at hq
      obtain ⟨y, hy, ho⟩ := h3 i q hq
      exact ⟨y, by rw [List.getElem?_append_left (by omega)]; exact hy, (ho.alloc tmp).kept hg (own_ne h2 ho (by decide))⟩
    · rw [if_neg hl] at hq
      have hi0 : i - rows.length = 0 := by have := mem_lt_one hq; omega
      rw [hi0] at hq
      simp at hq
      subst hq
      exact ⟨u, by rw [List.getElem?_append_right (by omega), show i - vs.length = 0 by omega]; rfl, (hu.alloc tmp).kept hg (own_ne h2 hu (by decide))⟩
  · rw [List.getElem?_append] at hi hj
    by_cases hl : i < vs.length
    · rw [if_pos hl] at hi
      by_cases hl' : j < vs.length
      · rw [if_pos hl'] at hj
        exact h4 i j y y' hi hj hij
      · rw [if_neg hl'] at hj
        have : y' = u := by
          have hj0 := mem_lt_one hj
          rw [show j - vs.length = 0 by omega] at hj
          simpa using hj.symm
        subst this
        exact (hdis i y hi).1
    · rw [if_neg hl] at hi
      have hii := mem_lt_one hi
      have : y = u := by
        rw [show i - vs.length = 0 by omega] at hi
        simpa using hi.symm
      subst this
      by_cases hl' : j < vs.length
      · rw [if_pos hl'] at hj
        exact (hdis j y' hj).2
      · rw [if_neg hl'] at hj
        have := mem_lt_one hj
        omega

set_option maxRecDepth 100000 in
set_option maxHeartbeats 4000000 in
theorem refmemb_any (nb : Int) (A A' : Option Addr) (c c' : Nat) (ls : List Ln) (out : List Int) (w : World) (hl : LinesR w w.heap.size A ls) (ho : IntsR w w.heap.size A' out)
    (hm : ls.length ≤ 1000000) (hn : out.length ≤ 1000000) :
    Calls Try.prog 19 #[.agg #[.int .i64 nb, .slice A ls.length c], .slice A' out.length c'] w (RowsE w (selRows (ofL nb ls out) (refsL nb ls out).length) (outsE nb ls out)) := by
  have hcall := fun W hl ho => refof_any nb A A' c c' ls out W hl ho hm hn
  have hcall2 := fun W hl ho => refrefs_any nb A A' c c' ls out W hl ho hm hn
  have hol := ofL_length_le nb ls out
  have hrl : (refsL nb ls out).length ≤ (ofL nb ls out).length := refsTo_le _ _
  generalize refsL nb ls out = refs at *
  generalize ofL nb ls out = l at *
  generalize outsE nb ls out = er at *
  have HCALL := Lib.hid hcall
  have HCALL2 := Lib.hid hcall2
  have HL := Lib.hid hl
  have HO := Lib.hid ho
  clear hl ho hcall hcall2
  obtain ⟨i0, hi, hz0, hz1, hz2⟩ := info_parts info_int
  obtain ⟨j0, hj, hy0, hy1, hy2⟩ := info_parts info_ints
  go_enter Try.func19, Try.ntmps19
  go_wp2_with fail
  refine (HCALL.out _ (by exact (HL.out.alloc (Nat.le_refl _) _).more (by simp)) (by exact (HO.out.alloc (Nat.le_refl _) _).more (by simp))).mono ?_
  rintro e w1 ⟨v, rfl, hown, hb1⟩
  obtain ⟨A1, c1, rfl, hI⟩ := ownsRow_ints hown
  have HI := Lib.hid hI
  have hBw : Below w.heap.size w w1 := ((Below.refl _ _).alloc (Nat.le_refl _) _).trans (hb1.mono (by simp))
  have HB1 := Lib.hid hBw
  have q0 : w1.cell? ⟨w.heap.size, 0, none⟩ = some (.int .i64 nb) := (hb1.cell (by simp)).trans (by simp)
  have q1 : w1.cell? ⟨w.heap.size, 1, none⟩ = some (.slice A ls.length c) := (hb1.cell (by simp)).trans (by simp)
  have hz : w.heap.size + 1 ≤ w1.heap.size := by have := hb1.size; simpa using this
  replace HL := Lib.hid (HL.out.upto hBw)
  replace HO := Lib.hid (HO.out.upto hBw)
  clear hown hI hb1 hBw
  go_wp2_with fail
  refine (HCALL2.out w1 HL.out HO.out).mono ?_
  rintro e w2 ⟨v, rfl, hown, hb⟩
  obtain ⟨A2, c2, rfl, _⟩ := ownsRow_ints hown
  have HB2 := Lib.hid (HB1.out.trans (hb.mono HB1.out.size))
  replace HI := Lib.hid (HI.out.upto hb)
  have hzw2 : w.heap.size ≤ w2.heap.size := HB2.out.size
  clear hown hb HB1 HL HO q0 q1 HCALL HCALL2 hz
  go_wp2_with fail
  go_loopg [10, 11, 12, 13] refs.length (fun g s i s12 s13 wr => ∃ k : Nat, k + g = refs.length ∧ i = .int .i64 k ∧ RowsOwn wr w2.heap.size s (selRows l k) ∧ Below w2.heap.size w2 wr)
  case atStart => exact ⟨0, by omega, rfl, RowsOwn.nil_ _ _, Below.refl _ _⟩
  case round =>
    obtain ⟨k, hkg, rfl, hrow, hbw⟩ := hrel
    have HBW := Lib.hid hbw
    have hzz := hbw.size
    clear hbw
    obtain ⟨A3, c3, rfl⟩ : ∃ A3 c3, u10 = .slice A3 (selRows l k).length c3 := by
      obtain ⟨vs, _, h2, _, _⟩ := hrow
      exact own_slice h2
    have HROW := Lib.hid hrow
    clear hrow
    cases gk with
    | zero =>
      obtain rfl : k = refs.length := by omega
      clear hkg
      go_wp2_with fail
      go_ret2
      exact ⟨_, rfl, HROW.out.base_ hzw2, HB2.out.trans (HBW.out.mono hzw2)⟩
    | succ g =>
      have hk : k < refs.length := by omega
      have HG := Lib.hid hkg
      clear hkg
      obtain ⟨wo, rfl⟩ : ∃ wo : World, wo = wr := ⟨_, rfl⟩
      have hlk := selRows_length l k
      have HLK := Lib.hid hlk
      clear hlk
      go_wp2_with fail
      go_loopg [12, 13] l.length (fun g s i wr => ∃ j : Nat, j + g = l.length ∧ i = .int .i64 j ∧ wr.ownsRow wo.heap.size 3 1 s (selTo l (k : Int) j).length ((selTo l (k : Int) j).map (Value.int .i64)) ∧ Below wo.heap.size wo wr)
      case atStart => exact ⟨0, by omega, rfl, World.ownsRow_nil _ _ _ _, Below.refl _ _⟩
      case round =>
        obtain ⟨j, hjg, rfl, hrow, hbw⟩ := hrel
        have HBV := Lib.hid hbw
        have hzv := hbw.size
        clear hbw
        have hsl := selTo_le l (k : Int) j
        cases gk with
        | zero =>
          obtain rfl : j = l.length := by omega
          clear hjg
          have hro := HROW.out.kept HBV.out
          obtain ⟨vs, h1, h2, h3, h4⟩ := HROW.out
          have hlt : ∀ (i : Nat) (y : Value), vs[i]? = some y → ∀ g, y.ownBlock = some g → g < wo.heap.size := by
            intro i y hy g hg
            obtain ⟨q, hq⟩ : ∃ q, (selRows l k)[i]? = some q := ⟨_, List.getElem?_eq_getElem (by have := mem_ne hy; omega)⟩
            obtain ⟨y', hy', ho⟩ := h3 i q hq
            rw [hy] at hy'
            cases hy'
            exact (ho.lt g hg).2
          have hgn : wo.grownBy wr none := ⟨HBV.out.os, HBV.out.tape, HBV.out.output, HBV.out.size, fun j hj _ => HBV.out.block j hj⟩
          have em : ∀ v : Value, v.ownBlock = none ∨ v.ownBlock ≠ none := fun v => Classical.em _
          have h2' := h2.kept hgn (em _)
          have h3' : ∀ (i : Nat) (r : List Int), (selRows l k)[i]? = some r → ∃ u, vs[i]? = some u ∧ wr.ownsRow w2.heap.size 3 1 u r.length (r.map (Value.int .i64)) := fun i r hr => by
            obtain ⟨u, hu, ho⟩ := h3 i r hr
            exact ⟨u, hu, ho.kept hgn (em _)⟩
          have hu' := ownsRow_base hrow (show w2.heap.size ≤ wo.heap.size from hzz)
          have hdis : ∀ (i : Nat) (y : Value), vs[i]? = some y → (y.ownBlock = none ∨ y.ownBlock ≠ u12.ownBlock) ∧ (u12.ownBlock = none ∨ u12.ownBlock ≠ y.ownBlock) := by
            intro i y hy
            have key : y.ownBlock ≠ none → y.ownBlock ≠ u12.ownBlock := by
              intro hn he
              cases hb : y.ownBlock with
              | none => exact hn hb
              | some g =>
                have := hlt i y hy g hb
                have := (hrow.lt g (by rw [← he, hb])).1
                omega
            refine ⟨?_, ?_⟩
            · by_cases hn : y.ownBlock = none
              · exact .inl hn
              · exact .inr (key hn)
            · by_cases hn : y.ownBlock = none
              · by_cases hm : u12.ownBlock = none
                · exact .inl hm
                · right; rw [hn]; exact hm
              · exact .inr (fun e => key hn e.symm)
          obtain ⟨A4, c4, rfl⟩ := own_slice hrow
          have HS : Hid (selRows l (k + 1) = selRows l k ++ [selTo l (k : Int) l.length]) := rfl
          have H3 := Lib.hid h3'
          have H4 := Lib.hid h4
          have H1 := Lib.hid h1
          have HU := Lib.hid hu'
          have HD := Lib.hid hdis
          clear hro h1 h2 h3 h4 hlt hgn em h3' hu' hdis hrow
          generalize selTo l (k : Int) l.length = r at *
          generalize selRows l k = m at *
          go_wp2_with (at_builtin; refine wpList_append_any _ rfl (.tmp 48) (.tmp 50) _ rfl w2.heap.size 25 j0 _ 1 24 Try.underlying41 hj hy0 hy1 hy2 rfl (by omega) (.slice A3 m.length c3) m.length vs rfl (h2'.alloc _) (some ⟨wr.heap.size, 0, none⟩) 1 1 [.slice A4 r.length c4] rfl (src_one _ _ _) (by simp [Value.oneCell']) (by simp only [maxLen]; have := HLK.out; omega) (by have := HLK.out; omega) (by simp; omega) ?_; intro v' w3 hown' hgrow _; have hrow3 := RowsOwn.push H1.out h2' H3.out H4.out HU.out HD.out hown' hgrow; have hb3 := below_append h2' (by omega) hgrow; have HR3 := Lib.hid hrow3; have HB3 := Lib.hid hb3; clear hown' hgrow hrow3 hb3)
          go_roundg g
          case measure => omega
          case rel => exact ⟨k + 1, by have := HG.out; omega, by go_num, by rw [HS.out]; exact HR3.out, HBW.out.trans ((HBV.out.mono (by omega)).trans HB3.out)⟩
        | succ g2 =>
          have hj2 : j < l.length := by omega
          have HG2 := Lib.hid hjg
          clear hjg
          obtain ⟨b, off, rfl, hb, hc⟩ := HI.out (by omega)
          have q0 := (HBV.out.cell (p := ⟨b, off + j, none⟩) (by show b < _; omega)).trans ((HBW.out.cell (p := ⟨b, off + j, none⟩) hb).trans (hc j hj2))
          clear hc
          obtain ⟨A4, c4, rfl, _⟩ := ownsRow_ints hrow
          by_cases hroot : l.getD j 0 = (k : Int)
          · have HS : Hid (selTo l (k : Int) (j + 1) = selTo l (k : Int) j ++ [(j : Int)]) := by show _ = _; rw [selTo, if_pos hroot]
            rw [hroot] at q0
            clear hroot
            generalize selTo l (k : Int) j = r at *
            go_wp2_with (at_builtin; refine wpList_append_own _ rfl _ _ 25 rfl wo.heap.size 3 i0 (.int .i64 0) 1 8 Try.underlying25 hi hz0 hz1 hz2 rfl (by decide) _ _ _ rfl (hrow.alloc _) ⟨wr.heap.size, 0, none⟩ 1 1 [.int .i64 (j : Int)] rfl rfl (cell_one_new _ _ _) (by simp [Value.oneCell']) (by unfold maxLen; omega) (by omega) (by simp; omega) ?_; intro v' w2 hown' hgrow _)
            have hb2 := below_append hrow hzv hgrow
            clear hgrow hrow q0
            have HOWN := Lib.hid hown'
            clear hown'
            go_wp2_with fail
            go_roundg g2
            case measure => omega
            case rel => exact ⟨j + 1, by have := HG2.out; omega, by go_num, by rw [HS.out]; simpa using HOWN.out, HBV.out.trans hb2⟩
          · have HS : Hid (selTo l (k : Int) (j + 1) = selTo l (k : Int) j) := by show _ = _; rw [selTo, if_neg hroot]
            have hne : (l.getD j 0 == (k : Int)) = false := by rw [beq_eq_false_iff_ne]; exact hroot
            clear hroot
            generalize l.getD j 0 = x at *
            generalize selTo l (k : Int) j = r at *
            have HR := Lib.hid hrow
            clear hrow
            go_wp2_with fail
            go_roundg g2
            case measure => omega
            case rel => exact ⟨j + 1, by have := HG2.out; omega, by go_num, by rw [HS.out]; exact HR.out, HBV.out⟩
end Go.Proofs.Ytkncmhcobbjoiaa
