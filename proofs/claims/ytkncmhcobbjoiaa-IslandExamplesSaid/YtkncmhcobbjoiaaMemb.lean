/- The contract of island.Members. -/
import Derived.Test.YtkncmhcobbjoiaaRows2
import Derived.Test.YtkncmhcobbjoiaaIslR
namespace Go.Proofs.Ytkncmhcobbjoiaa
open Go.RowKit
set_option linter.unusedVariables false

/-- One more row if the number is new. -/
def memGrow (m : List (List Int)) (x : Int) : List (List Int) := if x = (m.length : Int) then m ++ [[]] else m
def memPut (m : List (List Int)) (i : Nat) (x : Int) : List (List Int) := m.set i (m.getD i [] ++ [x])
/-- The rows after k buses. -/
def memTo (l : List Int) : Nat → List (List Int)
  | 0 => []
  | k + 1 => memPut (memGrow (memTo l k) (l.getD k 0)) (l.getD k 0).toNat (k : Int)
theorem memTo_length (l : List Int) (k : Nat) : (memTo l k).length = (refsTo l k).length := by
  induction k with
  | zero => rfl
  | succ k ih =>
    unfold memTo memPut memGrow refsTo
    rw [List.length_set, ← ih]
    by_cases h : l.getD k 0 = ((memTo l k).length : Int)
    · rw [if_pos h, if_pos h]; simp [ih]
    · rw [if_neg h, if_neg h, ih]
theorem memGrow_row {m : List (List Int)} {x : Int} {k : Nat} (h : ∀ (i : Nat) (r : List Int), m[i]? = some r → r.length ≤ k) : ∀ (i : Nat) (r : List Int), (memGrow m x)[i]? = some r → r.length ≤ k := by
  intro i r hr
  unfold memGrow at hr
  split at hr
  · rw [List.getElem?_append] at hr
    split at hr
    · exact h i r hr
    · have hi := mem_lt_one hr
      rw [show i - m.length = 0 by omega] at hr
      simp at hr
      subst hr
      simp
  · exact h i r hr
theorem memTo_row (l : List Int) (k : Nat) : ∀ (i : Nat) (r : List Int), (memTo l k)[i]? = some r → r.length ≤ k := by
  induction k with
  | zero => intro i r hr; simp [memTo] at hr
  | succ k ih =>
    intro i r hr
    have hg := memGrow_row (x := l.getD k 0) ih
    unfold memTo memPut at hr
    generalize memGrow (memTo l k) (l.getD k 0) = m at *
    generalize (l.getD k 0).toNat = j at *
    rw [List.getElem?_set] at hr
    split at hr
    · split at hr
      · injection hr with hr
        subst hr
        rename_i h1 h2
        have := hg j (m.getD j []) (by rw [List.getD_eq_getElem?_getD, List.getElem?_eq_getElem h2]; rfl)
        simp only [List.length_append, List.length_cons, List.length_nil]
        omega
      · cases hr
    · have := hg i r hr; omega
/-- Each number is at most the count of the islands met before. -/
def Numb (l : List Int) : Prop := ∀ k, k < l.length → 0 ≤ l.getD k 0 ∧ l.getD k 0 ≤ ((refsTo l k).length : Int)

theorem info_ints : (Try.prog.info? 25).map (fun i => (i.zero, i.size, i.bytes)) = some (some (.slice none 0 0), 1, 24) := by kernel_rfl
theorem src_one (w : World) (t : TypeId) (u : Value) : Src (w.alloc (.cells #[u] t)) 1 (some ⟨w.heap.size, 0, none⟩) 1 [u] := by
  refine ⟨rfl, fun _ => ⟨_, rfl, fun j y hy => ?_⟩⟩
  have hj : j = 0 := by have := (List.getElem?_eq_some_iff.1 hy).1; simp at this; omega
  subst hj
  simp at hy
  subst hy
  exact cell_alloc_at _ _ _ _ _ rfl

/-- Rows of the call's own and an error code come back. -/
def RowsE (w : World) (rows : List (List Int)) (er : Int) (e : Ending) (w' : World) : Prop :=
  ∃ v, e = .returned (.tuple #[v, .int .i64 er]) ∧ RowsOwn w' w.heap.size v rows ∧ Below w.heap.size w w'

theorem own_slice {w : World} {base : Nat} {e : TypeId} {v : Value} {n : Nat} {xs : List Value} (h : w.ownsRow base e 1 v n xs) : ∃ A c, v = .slice A n c := by
  rcases h.2 with ⟨rfl, rfl⟩ | ⟨g, cap, cur, rfl, _⟩
  · exact ⟨none, 0, rfl⟩
  · exact ⟨_, _, rfl⟩
theorem own_slice_pos {w : World} {base : Nat} {e : TypeId} {v : Value} {n : Nat} {xs : List Value} (h : w.ownsRow base e 1 v n xs) (hn : 0 < n) : ∃ g c, v = .slice (some ⟨g, 0, none⟩) n c ∧ g < w.heap.size ∧ base ≤ g := by
  rcases h.2 with ⟨rfl, rfl⟩ | ⟨g, cap, cur, rfl, hb, hg, _⟩
  · omega
  · exact ⟨_, _, rfl, (Array.getElem?_eq_some_iff.1 hg).1, hb⟩

set_option maxRecDepth 100000 in
set_option maxHeartbeats 4000000 in
/-- The second half of a round: members[i] = append(members[i], b). -/
theorem memb_ok (nb : Int) (A A' : Option Addr) (c c' : Nat) (ls : List Ln) (out l : List Int) (w : World) (hl : LinesR w w.heap.size A ls) (ho : IntsR w w.heap.size A' out)
    (hcall : ∀ W, LinesR W W.heap.size A ls → IntsR W W.heap.size A' out → Calls Try.prog 12 #[.agg #[.int .i64 nb, .slice A ls.length c], .slice A' out.length c'] W (IntsE W l 0))
    (hol : l.length ≤ 6) (hnum : Numb l) :
    Calls Try.prog 21 #[.agg #[.int .i64 nb, .slice A ls.length c], .slice A' out.length c'] w (RowsE w (memTo l l.length) 0) := by
  have HCALL := Lib.hid hcall
  have HL := Lib.hid hl
  have HO := Lib.hid ho
  have HNUM := Lib.hid hnum
  clear hl ho hcall hnum
  obtain ⟨i0, hi, hz0, hz1, hz2⟩ := info_parts info_int
  obtain ⟨j0, hj, hy0, hy1, hy2⟩ := info_parts info_ints
  go_enter Try.func21, Try.ntmps21
  go_wp2_with (go_at_call 12; refine (HCALL.out _ (by exact (HL.out.alloc (Nat.le_refl _) _).more (by simp)) (by exact (HO.out.alloc (Nat.le_refl _) _).more (by simp))).mono ?_; rintro e w1 ⟨v, rfl, hown, hb1⟩; obtain ⟨A1, c1, rfl, hI⟩ := ownsRow_ints hown; have HI := Lib.hid hI; have hBw : Below w.heap.size w w1 := ((Below.refl _ _).alloc (Nat.le_refl _) _).trans (hb1.mono (by simp)); have HBw := Lib.hid hBw; clear hown hI hb1 hBw)
  go_loopg [8, 22] l.length (fun g s i wr => ∃ k : Nat, k + g = l.length ∧ i = .int .i64 k ∧ RowsOwn wr w1.heap.size s (memTo l k) ∧ Below w1.heap.size w1 wr)
  case atStart => exact ⟨0, by omega, rfl, RowsOwn.nil_ _ _, Below.refl _ _⟩
  case round =>
    obtain ⟨k, hkg, rfl, hrow, hbw⟩ := hrel
    have HBW := Lib.hid hbw
    have hzz := hbw.size
    clear hbw
    cases gk with
    | zero =>
      obtain rfl : k = l.length := by omega
      clear hkg
      have HROW := Lib.hid hrow
      obtain ⟨vs, _, h2, _, _⟩ := hrow
      obtain ⟨A3, c3, rfl⟩ := own_slice h2
      clear h2
      go_wp2_with fail
      go_ret2
      exact ⟨_, rfl, HROW.out.base_ HBw.out.size, HBw.out.trans (HBW.out.mono HBw.out.size)⟩
    | succ g =>
      have hk : k < l.length := by omega
      have HG := Lib.hid hkg
      clear hkg
      obtain ⟨b, off, rfl, hb, hc⟩ := HI.out (by omega)
      have q0 := (HBW.out.cell (p := ⟨b, off + k, none⟩) hb).trans (hc k hk)
      clear hc
      obtain ⟨n0, n1⟩ := HNUM.out k hk
      have hml := memTo_length l k
      have hrl := refsTo_le l k
      obtain ⟨x, hx⟩ := Int.eq_ofNat_of_zero_le n0
      have HS : Hid (memTo l (k + 1) = memPut (memGrow (memTo l k) (x : Int)) x (k : Int)) := by show _ = _; rw [memTo, hx, Int.toNat_natCast]
      rw [hx] at q0 n1
      rw [← hml] at n1 hrl
      clear hx n0 hml
      have hrowle := memTo_row l k
      generalize memTo l k = m at *
      have HROWLE := Lib.hid hrowle
      clear hrowle
      by_cases hnew : x = m.length
      · have HGR : Hid (memGrow m (x : Int) = m ++ [[]]) := by show _ = _; rw [memGrow, if_pos (by rw [hnew])]
        obtain ⟨vs, h1, h2, h3, h4⟩ := hrow
        obtain ⟨A3, c3, rfl⟩ := own_slice h2
        have hb1 : ((x : Int) == (m.length : Int)) = true := by rw [hnew]; simp
        have H3 := Lib.hid h3
        have H4 := Lib.hid h4
        have H1 := Lib.hid h1
        have HML : Hid ((m ++ [[]] : List (List Int)).length = m.length + 1) := by show _ = _; simp
        have hxm : x < m.length + 1 := by omega
        obtain ⟨r, hr⟩ : ∃ r, (m ++ [[]] : List (List Int))[x]? = some r := ⟨[], by rw [hnew]; simp⟩
        have hrle : r.length ≤ 6 := by
          rw [hnew] at hr
          simp at hr
          subst hr
          simp
        have HR := Lib.hid hr
        clear hnew h3 h4 h1 hr
        go_wp2_with (first
          | (at_builtin; refine wpList_append_any _ rfl (.tmp 31) (.tmp 32) _ rfl w1.heap.size 25 j0 _ 1 24 Try.underlying41 hj hy0 hy1 hy2 rfl (by omega) (.slice A3 m.length c3) m.length vs rfl (h2.alloc _) (some ⟨wr.heap.size, 0, none⟩) 1 1 [.slice none 0 0] rfl (src_one _ _ _) (by simp [Value.oneCell']) (by simp only [maxLen]; omega) (by omega) (by simp; omega) ?_; intro v' w2 hown' hgrow _; have hrow2 := RowsOwn.more H1.out h2 H3.out H4.out hown' hgrow; have hb2 := below_append h2 hzz hgrow; have hzw2 : w1.heap.size ≤ w2.heap.size := (by have := hb2.size; omega); have HB2 := Lib.hid hb2; clear hown' hgrow h2 hb2; obtain ⟨vs2, g1, g2, g3, g4⟩ := hrow2; obtain ⟨g0, cap, rfl, hg0l, hg0b⟩ := own_slice_pos g2 (by simp); obtain ⟨u, hu, hru⟩ := g3 x r HR.out; obtain ⟨Au, cu, rfl⟩ := own_slice hru; have hcu : w2.cell? ⟨g0, x, none⟩ = some (.slice Au r.length cu) := (g2.cellAt x (by simp; omega)).trans hu; have G3 := Lib.hid g3; have G4 := Lib.hid g4; have G1 := Lib.hid g1; have HU := Lib.hid hu; clear g3 g4 g1 hu)
          | (at_builtin; refine wpList_append_any _ rfl (.tmp 39) (.tmp 41) _ rfl w1.heap.size 3 i0 _ 1 8 Try.underlying25 hi hz0 hz1 hz2 rfl (by omega) (.slice Au r.length cu) r.length (r.map (Value.int .i64)) rfl (hru.alloc _) (some ⟨w2.heap.size, 0, none⟩) 1 1 [.int .i64 (k : Int)] rfl (src_one _ _ _) (by simp [Value.oneCell']) (by simp only [maxLen]; omega) (by omega) (by simp; omega) ?_; intro u' w3 hown3 hg3 hat3; have ho3 := (g2.alloc _).kept hg3 (own_ne hru g2 (by decide)); have hput := RowsOwn.put G1.out g2 G3.out G4.out HR.out HU.out hru hown3 hg3 hat3; have hb3 := below_append hru (by omega) hg3; obtain ⟨g', c', rfl⟩ := ownsRow_succ hown3; have hc3 := ho3.cellAt x (by simp; omega); rw [HU.out] at hc3; have hf3 := ho3.frozenAt x; have HPUT := Lib.hid hput; have HB3 := Lib.hid hb3; clear hput hb3 ho3 hown3 hg3 hat3 hru g2 hcu))
        go_roundg g
        case measure => omega
        case rel =>
          refine ⟨k + 1, by have := HG.out; omega, by go_num, ?_, ?_⟩
          · rw [HS.out, memPut, HGR.out]
            rw [show (m ++ [[]] : List (List Int)).getD x [] = r by rw [List.getD_eq_getElem?_getD, HR.out]; rfl]
            have hp := HPUT.out
            rw [HML.out] at hp
            exact hp
          · exact HBW.out.trans (HB2.out.trans (HB3.out.setCell (p := ⟨g0, x, none⟩) hg0b _))
      · have HGR : Hid (memGrow m (x : Int) = m) := by show _ = _; rw [memGrow, if_neg (by omega)]
        have hb1 : ((x : Int) == (m.length : Int)) = false := by rw [beq_eq_false_iff_ne]; omega
        have hxm : x < m.length := by omega
        obtain ⟨r, hr⟩ : ∃ r, m[x]? = some r := ⟨_, List.getElem?_eq_getElem hxm⟩
        have hrle : r.length ≤ 6 := by have := HROWLE.out x r hr; omega
        have HR := Lib.hid hr
        have hrow2 := hrow
        clear hrow hr
        obtain ⟨vs2, g1, g2, g3, g4⟩ := hrow2
        obtain ⟨g0, cap, rfl, hg0l, hg0b⟩ := own_slice_pos g2 (by omega)
        obtain ⟨u, hu, hru⟩ := g3 x r HR.out
        obtain ⟨Au, cu, rfl⟩ := own_slice hru
        have hcu : wr.cell? ⟨g0, x, none⟩ = some (.slice Au r.length cu) := (g2.cellAt x (by omega)).trans hu
        have G3 := Lib.hid g3
        have G4 := Lib.hid g4
        have G1 := Lib.hid g1
        have HU := Lib.hid hu
        clear g3 g4 g1 hu
        go_wp2_with (at_builtin; refine wpList_append_any _ rfl (.tmp 39) (.tmp 41) _ rfl w1.heap.size 3 i0 _ 1 8 Try.underlying25 hi hz0 hz1 hz2 rfl (by omega) (.slice Au r.length cu) r.length (r.map (Value.int .i64)) rfl (hru.alloc _) (some ⟨wr.heap.size, 0, none⟩) 1 1 [.int .i64 (k : Int)] rfl (src_one _ _ _) (by simp [Value.oneCell']) (by simp only [maxLen]; omega) (by omega) (by simp; omega) ?_; intro u' w3 hown3 hg3 hat3; have ho3 := (g2.alloc _).kept hg3 (own_ne hru g2 (by decide)); have hput := RowsOwn.put G1.out g2 G3.out G4.out HR.out HU.out hru hown3 hg3 hat3; have hb3 := below_append hru (by omega) hg3; obtain ⟨g', c', rfl⟩ := ownsRow_succ hown3; have hc3 := ho3.cellAt x (by omega); rw [HU.out] at hc3; have hf3 := ho3.frozenAt x; have HPUT := Lib.hid hput; have HB3 := Lib.hid hb3; clear hput hb3 ho3 hown3 hg3 hat3 hru g2 hcu)
        go_roundg g
        case measure => omega
        case rel =>
          refine ⟨k + 1, by have := HG.out; omega, by go_num, ?_, ?_⟩
          · rw [HS.out, memPut, HGR.out]
            rw [show (m).getD x [] = r by rw [List.getD_eq_getElem?_getD, HR.out]; rfl]
            exact HPUT.out
          · exact HBW.out.trans (HB3.out.setCell (p := ⟨g0, x, none⟩) hg0b _)

/-- The buses that are their own roots, below k. -/
theorem refs_count {nb : Int} {ls : List Ln} {out : List Int} (he : outsE nb ls out = 0) (k : Nat) (hk : k ≤ nb.toNat) : (refsTo (ofL nb ls out) k).length = cntTo (rootOf nb ls out) k := by
  induction k with
  | zero => rfl
  | succ k ih =>
    have ih' := ih (by omega)
    rw [refsTo, cntTo, ih', ofL_at he k (by omega)]
    by_cases h : rootOf nb ls out k = k
    · rw [if_pos h, if_pos (by rw [h])]; simp [ih']
    · have hlt : rootOf nb ls out k < k := by have := rootOf_le nb ls out k; omega
      have := cntTo_lt (rootOf nb ls out) (rootOf nb ls out k) k hlt (rootOf_idem _ _ _ _)
      rw [if_neg h, if_neg (by omega)]; exact ih'
theorem numb_of {nb : Int} {ls : List Ln} {out : List Int} (he : outsE nb ls out = 0) : Numb (ofL nb ls out) := by
  intro k hk
  rw [ofL_length he] at hk
  rw [ofL_at he k hk, refs_count he k (by omega)]
  have := cntTo_le (rootOf nb ls out) (rootOf nb ls out k) k (rootOf_le _ _ _ _)
  omega
def membL (nb : Int) (ls : List Ln) (out : List Int) : List (List Int) := memTo (ofL nb ls out) (ofL nb ls out).length

set_option maxHeartbeats 1000000 in
theorem memb_any (nb : Int) (A A' : Option Addr) (c c' : Nat) (ls : List Ln) (out : List Int) (w : World) (hl : LinesR w w.heap.size A ls) (ho : IntsR w w.heap.size A' out)
    (hm : ls.length ≤ 1000000) (hn : out.length ≤ 1000000) :
    Calls Try.prog 21 #[.agg #[.int .i64 nb, .slice A ls.length c], .slice A' out.length c'] w (RowsE w (membL nb ls out) (outsE nb ls out)) := by
  have hcall := fun W hl ho => of_any nb A A' c c' ls out W hl ho hm hn
  unfold membL
  by_cases he : outsE nb ls out = 0
  · rw [he] at hcall ⊢
    exact memb_ok nb A A' c c' ls out _ w hl ho hcall (ofL_length_le _ _ _) (numb_of he)
  · rw [ofL_nil he] at hcall ⊢
    have he' : (outsE nb ls out != 0) = true := by rw [bne_iff_ne]; exact he
    generalize outsE nb ls out = e at *
    have HCALL := Lib.hid hcall
    have HL := Lib.hid hl
    have HO := Lib.hid ho
    clear hl ho hcall he
    go_enter Try.func21, Try.ntmps21
    go_wp2_with (go_at_call 12; refine (HCALL.out _ (by exact (HL.out.alloc (Nat.le_refl _) _).more (by simp)) (by exact (HO.out.alloc (Nat.le_refl _) _).more (by simp))).mono ?_; rintro e w1 ⟨v, rfl, _, hb1⟩)
    go_ret2
    exact ⟨_, rfl, RowsOwn.nil_ _ _, ((Below.refl _ _).alloc (Nat.le_refl _) _).trans (hb1.mono (by simp))⟩
end Go.Proofs.Ytkncmhcobbjoiaa
