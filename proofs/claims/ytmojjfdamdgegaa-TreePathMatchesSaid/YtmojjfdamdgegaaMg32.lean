/- The text RefD. -/
import Derived.RegionTactic
import Derived.Test.YtmojjfdamdgegaaMg13
import Derived.Test.YtmojjfdamdgegaaMg21
/- The contract of the reference function reach of layer 15. -/
namespace Go.Proofs.Ytmojjfdamdgegaa
open Go.RowKit
set_option linter.unusedVariables false

/-- Block g is just these bools. -/
def RowB (t : TypeId) (w : World) (g : Nat) (p : List Bool) : Prop := w.heap[g]? = some (.cells ((p.map Value.bool).toArray) t (0, 0))
section
variable {t : TypeId} {w w' : World} {g : Nat} {p : List Bool}
theorem RowB.lt (h : RowB t w g p) : g < w.heap.size := (Array.getElem?_eq_some_iff.1 h).1
theorem RowB.cell (h : RowB t w g p) {i : Nat} (hi : i < p.length) : w.cell? ⟨g, i, none⟩ = some (.bool (p.getD i false)) := by
  unfold RowB at h
  simp [World.cell?, h, hi]
theorem RowB.frozen (h : RowB t w g p) (i : Nat) : w.frozen? ⟨g, i, none⟩ = false := by
  unfold RowB at h
  simp [World.frozen?, h]
theorem RowB.keep (h : RowB t w g p) (hk : w'.heap[g]? = w.heap[g]?) : RowB t w' g p := hk.trans h
theorem RowB.set_ (h : RowB t w g p) (i : Nat) (x : Bool) : RowB t (w.setCell ⟨g, i, none⟩ (.bool x)) g (p.set i x) := by
  unfold RowB at h ⊢
  simp [World.setCell, Array.getElem?_modify, h, List.map_set]
theorem RowB.made (w : World) (t : TypeId) (n : Nat) : RowB t (w.alloc (.cells (madeCells #[.bool false] n) t)) w.heap.size (List.replicate n false) := by
  unfold RowB
  rw [heap_alloc_new w _]
  have : madeCells #[Value.bool false] n = ((List.replicate n false).map Value.bool).toArray := by
    apply Array.ext
    · simp [madeCells]
    · intro i h1 h2
      simp [madeCells, Nat.mod_one]
  rw [this]
end

theorem made_bool (n : Nat) : madeCells #[Value.bool false] n = ((List.replicate n false).map Value.bool).toArray := by
  apply Array.ext
  · simp [madeCells]
  · intro i h1 h2
    simp [madeCells, Nat.mod_one]
theorem RowB.made_set (w : World) (t : TypeId) (n b : Nat) (x : Bool) : RowB t (w.alloc (.cells ((madeCells #[.bool false] n).setIfInBounds b (.bool x)) t)) w.heap.size ((List.replicate n false).set b x) := by
  unfold RowB
  rw [heap_alloc_new w _, made_bool]
  rw [List.setIfInBounds_toArray, List.map_set]
theorem notIn_range (out : List Int) (k : Nat) : ∀ x ∈ notIn out k, 0 ≤ x ∧ x < k := by
  induction k with
  | zero => simp [notIn]
  | succ k ih =>
    unfold notIn
    split
    · intro x hx; have := ih x hx; omega
    · intro x hx
      rcases List.mem_append.1 hx with hx | hx
      · have := ih x hx; omega
      · simp at hx; omega

/-- One line handed on. -/
def stepB (bs : List Bool) (l : Nat × Nat) : List Bool := if bs.getD l.1 false || bs.getD l.2 false then (bs.set l.1 true).set l.2 true else bs
def passB (bs : List Bool) (L : List (Nat × Nat)) : List Bool := L.foldl stepB bs
def roundsB (bs : List Bool) (L : List (Nat × Nat)) : Nat → List Bool
  | 0 => bs
  | k + 1 => passB (roundsB bs L k) L
def reachL (n : Nat) (L : List (Nat × Nat)) (b : Nat) : List Bool := roundsB ((List.replicate n false).set b true) L n
theorem stepB_length (bs : List Bool) (l : Nat × Nat) : (stepB bs l).length = bs.length := by unfold stepB; split <;> simp
theorem passB_length (L : List (Nat × Nat)) (bs : List Bool) : (passB bs L).length = bs.length := by
  unfold passB
  induction L generalizing bs with
  | nil => rfl
  | cons l L ih => rw [List.foldl_cons, ih, stepB_length]
theorem roundsB_length (bs : List Bool) (L : List (Nat × Nat)) (k : Nat) : (roundsB bs L k).length = bs.length := by
  induction k with
  | zero => rfl
  | succ k ih => rw [roundsB, passB_length, ih]
theorem passB_snoc (bs : List Bool) (L : List (Nat × Nat)) (l : Nat × Nat) : passB bs (L ++ [l]) = stepB (passB bs L) l := by simp [passB]

theorem info_bool : (Try.prog.info? 4).map (fun i => (i.zero, i.size, i.bytes)) = some (some (.bool false), 1, 1) := by kernel_rfl

/-- A slice of bools of the call's own comes back. -/
def BoolsV (w : World) (bs : List Bool) (e : Ending) (w' : World) : Prop :=
  ∃ g, e = .returned (.slice (some ⟨g, 0, none⟩) bs.length bs.length) ∧ RowB 4 w' g bs ∧ w.heap.size ≤ g ∧ Below w.heap.size w w'

set_option maxRecDepth 100000 in
set_option maxHeartbeats 4000000 in
theorem reach_any (n : Nat) (A A' : Option Addr) (c c' b : Nat) (ls : List Ln) (out : List Int) (w : World) (hl : LinesR w w.heap.size A ls) (ho : IntsR w w.heap.size A' out)
    (hv : Valid n ls) (hn : out.length ≤ 1000000) (hbn : b < n) :
    Calls Try.prog 62 #[.agg #[.int .i64 (n : Int), .slice A ls.length c], .slice A' out.length c', .int .i64 (b : Int)] w
      (BoolsV w (reachL n (ends ls (notIn out ls.length)) b)) := by
  have hn6 : n ≤ 6 := by have := hv.hi; omega
  have hn1 : 1 ≤ n := by have := hv.lo; omega
  have hm10 : ls.length ≤ 10 := hv.len
  have HV := Lib.hid hv
  have HL := Lib.hid hl
  have HO := Lib.hid ho
  have hmk := fun W => run_make_row' (P := Try.prog) 79 4 (.bool false) 1 Try.underlying79 info_bool rfl .i64 .i64 n (by omega) (by omega) W
  have hLr := notIn_range out ls.length
  have hLl := notIn_le out ls.length
  clear hv hl ho
  have cin := fun W ho => refin_any (.int .i64 (n : Int)) A A' c c' ls.length out W ho (by omega) hn
  generalize hLe : notIn out ls.length = L at *
  have CIN := Lib.hid cin
  have HLr := Lib.hid hLr
  clear hLr cin hLe
  have g1 := (RowB.made (w.alloc (.cells #[.int .i64 (n : Int), .slice A ls.length c] 24)) 4 n).cell (i := b) (by simpa using hbn)
  have g2 := (RowB.made (w.alloc (.cells #[.int .i64 (n : Int), .slice A ls.length c] 24)) 4 n).frozen b
  rw [World.size_alloc] at g1 g2
  go_enter Try.func62, Try.ntmps62
  go_wp2_with fail
  have r0 := RowB.made_set (w.alloc (.cells #[.int .i64 (n : Int), .slice A ls.length c] 24)) 4 n b true
  rw [World.size_alloc] at r0
  have b0 : Below w.heap.size w ((w.alloc (.cells #[.int .i64 (n : Int), .slice A ls.length c] 24)).alloc (.cells ((madeCells #[.bool false] n).setIfInBounds b (.bool true)) 4)) := below_alloc2 _ _ _
  have k0 : ((w.alloc (.cells #[.int .i64 (n : Int), .slice A ls.length c] 24)).alloc (.cells ((madeCells #[.bool false] n).setIfInBounds b (.bool true)) 4)).cell? ⟨w.heap.size, 0, none⟩ = some (.int .i64 (n : Int)) := cell_alloc_of _ (cell_alloc_at _ _ _ _ _ rfl)
  have k1 : ((w.alloc (.cells #[.int .i64 (n : Int), .slice A ls.length c] 24)).alloc (.cells ((madeCells #[.bool false] n).setIfInBounds b (.bool true)) 4)).cell? ⟨w.heap.size, 1, none⟩ = some (.slice A ls.length c) := cell_alloc_of _ (cell_alloc_at _ _ _ _ _ rfl)
  have z0 : ((w.alloc (.cells #[.int .i64 (n : Int), .slice A ls.length c] 24)).alloc (.cells ((madeCells #[.bool false] n).setIfInBounds b (.bool true)) 4)).heap.size = w.heap.size + 2 := by simp
  generalize (w.alloc (.cells #[.int .i64 (n : Int), .slice A ls.length c] 24)).alloc (.cells ((madeCells #[.bool false] n).setIfInBounds b (.bool true)) 4) = W0 at *
  refine (CIN.out W0 (HO.out.upto b0)).mono ?_
  rintro e W1 ⟨v, rfl, hown, hb⟩
  obtain ⟨B1, d1, rfl, hI⟩ := ownsRow_ints hown
  have r1 : RowB 4 W1 (w.heap.size + 1) ((List.replicate n false).set b true) := r0.keep (hb.block _ (by omega))
  have k0' := (hb.cell (p := ⟨w.heap.size, 0, none⟩) (by show w.heap.size < _; omega)).trans k0
  have k1' := (hb.cell (p := ⟨w.heap.size, 1, none⟩) (by show w.heap.size < _; omega)).trans k1
  have hB1 := b0.trans (hb.mono b0.size)
  have hz : w.heap.size + 2 ≤ W1.heap.size := by have := hb.size; omega
  -- the list of lines lies beyond the bools
  have hI2 : 0 < L.length → ∃ g off, B1 = some ⟨g, off, none⟩ ∧ g < W1.heap.size ∧ w.heap.size + 2 ≤ g ∧ ∀ i, i < L.length → W1.cell? ⟨g, off + i, none⟩ = some (.int .i64 (L.getD i 0)) := by
    intro hp
    obtain ⟨g, off, rfl, hg, hc⟩ := hI hp
    refine ⟨g, off, rfl, hg, ?_, hc⟩
    rcases hown.2 with ⟨he, h0⟩ | ⟨g', cap, cur, he, hg', _⟩
    · simp at he
    · simp at he
      omega
  have HI := Lib.hid hI2
  have HR1 := Lib.hid r1
  have HB1 := Lib.hid hB1
  have K0 := Lib.hid k0'
  have K1 := Lib.hid k1'
  clear hown hI hI2 r1 k0' k1' hB1 hb r0 k0 k1 b0 z0 g1 g2 hmk CIN HO W0
  generalize hbs : (List.replicate n false).set b true = bs at *
  have hbl : bs.length = n := by rw [← hbs]; simp
  have HBS := Lib.hid hbs
  have HBL := Lib.hid hbl
  clear hbs hbl
  go_wp2_with fail
  go_loopg [9, 10, 11] n (fun g i s10 s11 wr => ∃ k : Nat, k + g = n ∧ i = .int .i64 k ∧ RowB 4 wr (w.heap.size + 1) (roundsB bs (ends ls L) k) ∧ W1.grownBy wr (some (w.heap.size + 1)))
  case atStart => exact ⟨0, by omega, rfl, HR1.out, World.grownBy.refl _ _⟩
  case round =>
    obtain ⟨k, hkg, rfl, hr, hg⟩ := hrel
    have HR := Lib.hid hr
    have HGR := Lib.hid hg
    have k0 := (only_cell hg (p := ⟨w.heap.size, 0, none⟩) (by show w.heap.size < _; omega) (by show w.heap.size ≠ _; omega)).trans K0.out
    clear hr hg
    cases gk with
    | zero =>
      obtain rfl : n = k := by omega
      clear hkg
      go_wp2_with fail
      go_ret
      have hln : (roundsB bs (ends ls L) n).length = n := by rw [roundsB_length]; exact HBL.out
      refine ⟨w.heap.size + 1, ?_, ?_, by omega, ?_⟩
      · unfold reachL
        rw [HBS.out, hln]
        rfl
      · unfold reachL
        rw [HBS.out]
        exact HR.out
      · exact HB1.out.trans (only_below HGR.out (by omega) (by omega))
    | succ g =>
      have hk : k < n := by omega
      have HG := Lib.hid hkg
      clear hkg
      have hpl : (roundsB bs (ends ls L) k).length = n := by rw [roundsB_length]; exact HBL.out
      have HS : Hid (roundsB bs (ends ls L) (k + 1) = passB (roundsB bs (ends ls L) k) (ends ls L)) := rfl
      have HPL := Lib.hid hpl
      clear hpl
      generalize roundsB bs (ends ls L) k = ps at *
      obtain ⟨wo, rfl⟩ : ∃ wo : World, wo = wr := ⟨_, rfl⟩
      go_wp2_with fail
      go_loopg [10, 11] L.length (fun g i s11 wr => ∃ j : Nat, j + g = L.length ∧ i = .int .i64 j ∧ RowB 4 wr (w.heap.size + 1) (passB ps (ends ls (L.take j))) ∧ W1.grownBy wr (some (w.heap.size + 1)))
      case atStart => exact ⟨0, by omega, rfl, HR.out, HGR.out⟩
      case round =>
        clear HR HGR k0
        obtain ⟨j, hjg, rfl, hr, hg⟩ := hrel
        have HR := Lib.hid hr
        have HGR := Lib.hid hg
        have k1 := (only_cell hg (p := ⟨w.heap.size, 1, none⟩) (by show w.heap.size < _; omega) (by show w.heap.size ≠ _; omega)).trans K1.out
        have hzr := hg.size
        clear hr hg
        cases gk with
        | zero =>
          obtain rfl : j = L.length := by omega
          clear hjg
          go_wp2_with fail
          go_roundg g
          case measure => omega
          case rel =>
            have hr2 := HR.out
            rw [List.take_length] at hr2
            exact ⟨k + 1, by have := HG.out; omega, by go_num, by rw [HS.out]; exact hr2, HGR.out⟩
        | succ g2 =>
          have hj : j < L.length := by omega
          have HG2 := Lib.hid hjg
          clear hjg
          obtain ⟨gb, off, rfl, hgb, hgb2, hc⟩ := HI.out (by omega)
          obtain ⟨t, ht⟩ : ∃ t : Nat, L.getD j 0 = (t : Int) := Int.eq_ofNat_of_zero_le (HLr.out _ (by rw [getD_eq _ _ _ hj]; exact List.getElem_mem hj)).1
          have htm : t < ls.length := by have := (HLr.out (L.getD j 0) (by rw [getD_eq _ _ _ hj]; exact List.getElem_mem hj)).2; omega
          have q0 := (only_cell HGR.out (p := ⟨gb, off + j, none⟩) hgb (by show gb ≠ _; omega)).trans (hc j hj)
          rw [ht] at q0
          clear hc
          obtain ⟨b', off', rfl, hb', hc'⟩ := HL.out (by omega)
          obtain ⟨e0, e1, e2, e3⟩ := hc' t htm
          have q1 := (only_cell HGR.out (p := ⟨b', off' + t * 4, none⟩) (by show b' < _; omega) (by show b' ≠ _; omega)).trans ((HB1.out.cell (p := ⟨b', off' + t * 4, none⟩) hb').trans e0)
          have q2 := (only_cell HGR.out (p := ⟨b', off' + t * 4 + 1, none⟩) (by show b' < _; omega) (by show b' ≠ _; omega)).trans ((HB1.out.cell (p := ⟨b', off' + t * 4 + 1, none⟩) hb').trans e1)
          have q3 := (only_cell HGR.out (p := ⟨b', off' + t * 4 + 2, none⟩) (by show b' < _; omega) (by show b' ≠ _; omega)).trans ((HB1.out.cell (p := ⟨b', off' + t * 4 + 2, none⟩) hb').trans e2)
          have q4 := (only_cell HGR.out (p := ⟨b', off' + t * 4 + 3, none⟩) (by show b' < _; omega) (by show b' ≠ _; omega)).trans ((HB1.out.cell (p := ⟨b', off' + t * 4 + 3, none⟩) hb').trans e3)
          clear hc' e0 e1 e2 e3
          obtain ⟨v0, v1, v2, v3, v4⟩ := HV.out.ok t htm
          have hsn := ends_snoc (ls := ls) hj
          rw [ht, Int.toNat_natCast] at hsn
          obtain ⟨f, hf⟩ := Int.eq_ofNat_of_zero_le v0
          obtain ⟨u, hu⟩ := Int.eq_ofNat_of_zero_le v2
          rw [hf] at q1 v1 hsn v4
          rw [hu] at q2 v3 hsn v4
          have hfu : f ≠ u := fun e => v4 (by rw [e])
          have hfu' : u ≠ f := fun e => hfu e.symm
          rw [Int.toNat_natCast, Int.toNat_natCast] at hsn
          have hpb : passB ps (ends ls (L.take (j + 1))) = stepB (passB ps (ends ls (L.take j))) (f, u) := by rw [hsn, passB_snoc]
          have hppl : (passB ps (ends ls (L.take j))).length = n := by rw [passB_length]; exact HPL.out
          have HPB := Lib.hid hpb
          have hfn : f < n := by omega
          have hun : u < n := by omega
          clear hsn hf hu ht v0 v1 v2 v3 v4 hpb
          generalize passB ps (ends ls (L.take j)) = bs2 at *
          have cf := HR.out.cell (i := f) (by omega)
          have cu := HR.out.cell (i := u) (by omega)
          have ff := HR.out.frozen f
          have fu := HR.out.frozen u
          have HPP := Lib.hid hppl
          clear hppl
          generalize (ls.getD t (0, 0, 0, 0)).2.2.1 = x3 at *
          generalize (ls.getD t (0, 0, 0, 0)).2.2.2 = x4 at *
          have z1 : gb < wr.heap.size := by omega
          have z2 : b' < wr.heap.size := by omega
          have z3 : w.heap.size < wr.heap.size := by omega
          have z4 : w.heap.size + 1 < wr.heap.size := by omega
          cases hbf : bs2.getD f false with
          | true =>
            have HST : Hid (stepB bs2 (f, u) = (bs2.set f true).set u true) := by show _ = _; unfold stepB; rw [hbf]; rfl
            rw [hbf] at cf
            clear hbf
            generalize bs2.getD u false = bu at *
            go_wp2_with fail
            go_region
            go_wp2_with fail
            go_roundg g2
            case measure => omega
            case rel =>
              refine ⟨j + 1, by have := HG2.out; omega, by go_num, ?_, ?_⟩
              · rw [HPB.out, HST.out]
                exact RowB.keep (RowB.set_ (RowB.set_ HR.out f true) u true) (Below.heap_alloc _ _ _ (by simp [World.setCell]; omega))
              · exact only_drew (only_alloc (only_setCell (p := ⟨w.heap.size + 1, u, none⟩) (only_setCell (p := ⟨w.heap.size + 1, f, none⟩) HGR.out (.inl rfl) _) (.inl rfl) _) _)
          | false =>
            cases hbu : bs2.getD u false with
            | true =>
              have HST : Hid (stepB bs2 (f, u) = (bs2.set f true).set u true) := by show _ = _; unfold stepB; rw [hbf, hbu]; rfl
              rw [hbf] at cf
              rw [hbu] at cu
              clear hbf hbu
              go_wp2_with fail
              go_region
              go_wp2_with fail
              go_roundg g2
              case measure => omega
              case rel =>
                refine ⟨j + 1, by have := HG2.out; omega, by go_num, ?_, ?_⟩
                · rw [HPB.out, HST.out]
                  exact RowB.keep (RowB.set_ (RowB.set_ HR.out f true) u true) (Below.heap_alloc _ _ _ (by simp [World.setCell]; omega))
                · exact only_drew (only_alloc (only_setCell (p := ⟨w.heap.size + 1, u, none⟩) (only_setCell (p := ⟨w.heap.size + 1, f, none⟩) HGR.out (.inl rfl) _) (.inl rfl) _) _)
            | false =>
              have HST : Hid (stepB bs2 (f, u) = bs2) := by show _ = _; unfold stepB; rw [hbf, hbu]; rfl
              rw [hbf] at cf
              rw [hbu] at cu
              clear hbf hbu
              go_wp2_with fail
              go_region
              go_wp2_with fail
              go_roundg g2
              case measure => omega
              case rel =>
                refine ⟨j + 1, by have := HG2.out; omega, by go_num, ?_, ?_⟩
                · rw [HPB.out, HST.out]
                  exact RowB.keep HR.out (Below.heap_alloc wr _ _ (by omega))
                · exact only_drew (only_alloc HGR.out _)
end Go.Proofs.Ytmojjfdamdgegaa
