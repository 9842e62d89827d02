/- The text IslB. -/
import Derived.Deep.OwnRows
import Derived.Test.YtmojjfdamdgegaaMg9
/- The contract of island.Of. -/
namespace Go.Proofs.Ytmojjfdamdgegaa
open Go.RowKit
set_option linter.unusedVariables false

/-- The ends of the lines whose numbers are in ks. -/
def ends (ls : List Ln) (ks : List Int) : List (Nat × Nat) := ks.map fun k => ((ls.getD k.toNat (0, 0, 0, 0)).1.toNat, (ls.getD k.toNat (0, 0, 0, 0)).2.1.toNat)
theorem quiet_left {P : Program} {f : FuncId} {args : Array Value} {w : World} {n : Nat} {v : Value}
    (h : Calls P f args (w.drewN n) fun e w' => e = .returned v ∧ w.drewN n = w') : Calls P f args (w.drewN n) fun e w'' => e = .returned v ∧ ∃ m, w'' = w.drewN m :=
  h.mono fun _ _ ⟨he, hm⟩ => ⟨he, n, hm.symm⟩
theorem ends_snoc {ls : List Ln} {L : List Int} {j : Nat} (h : j < L.length) : ends ls (L.take (j + 1)) = ends ls (L.take j) ++ [((ls.getD (L.getD j 0).toNat (0, 0, 0, 0)).1.toNat, (ls.getD (L.getD j 0).toNat (0, 0, 0, 0)).2.1.toNat)] := by
  rw [List.take_succ_eq_append_getElem h, getD_eq _ _ _ h]
  unfold ends
  rw [List.map_append, List.map_singleton]
theorem take_set_succ {α : Type} (q : List α) (k : Nat) (x : α) (h : k < q.length) : (q.set k x).take (k + 1) = q.take k ++ [x] := by
  rw [List.take_succ_eq_append_getElem (by simpa using h)]
  simp [List.take_set_of_le]
theorem getD_take {α : Type} (q : List α) (k i : Nat) (d : α) (h : i < k) : (q.take k).getD i d = q.getD i d := by
  rw [List.getD_eq_getElem?_getD, List.getD_eq_getElem?_getD, List.getElem?_take_of_lt h]
theorem made_zero (n : Nat) : madeCells #[Value.int .i64 0] n = ((List.replicate n 0).map fun x : Nat => Value.int .i64 (x : Int)).toArray := by
  apply Array.ext
  · simp [madeCells]
  · intro i h1 h2
    simp [madeCells, Nat.mod_one]
theorem RowN.owns {t : TypeId} {w : World} {g base n : Nat} {q : List Nat} (h : RowN t w g q) (hb : base ≤ g) (hl : q.length = n) (hm : n ≤ 1000000) :
    w.ownsRow base t 1 (.slice (some ⟨g, 0, none⟩) n n) (q.map fun x : Nat => (x : Int)).length ((q.map fun x : Nat => (x : Int)).map (Value.int .i64)) := by
  subst hl
  refine ⟨by simp, .inr ⟨g, q.length, _, by simp, hb, h, by simp, by unfold maxLen; omega, by simp, ?_⟩⟩
  rw [List.map_map, List.take_of_length_le (by simp)]
  rfl
theorem RowN.made (w : World) (t : TypeId) (n : Nat) : RowN t (w.alloc (.cells (madeCells #[.int .i64 0] n) t)) w.heap.size (List.replicate n 0) := by
  unfold RowN
  rw [heap_alloc_new w _, made_zero]


theorem svcL_range (out : List Int) (k : Nat) : ∀ x ∈ svcL out k, 0 ≤ x ∧ x < k := by
  induction k with
  | zero => simp [svcL, svc]
  | succ k ih =>
    by_cases h : svcN out k < out.length ∧ out.getD (svcN out k) 0 = (k : Int)
    · rw [(svc_hit h.1 h.2).1]; intro x hx; have := ih x hx; omega
    · rw [(svc_miss h).1]
      intro x hx
      rcases List.mem_append.1 hx with hx | hx
      · have := ih x hx; omega
      · simp at hx; omega

/-- What a network must be to be let in. -/
structure Valid (nb : Int) (ls : List Ln) : Prop where
  lo : 1 ≤ nb
  hi : nb ≤ 6
  len : ls.length ≤ 10
  ok : ∀ i, i < ls.length → 0 ≤ (ls.getD i (0, 0, 0, 0)).1 ∧ (ls.getD i (0, 0, 0, 0)).1 < nb ∧ 0 ≤ (ls.getD i (0, 0, 0, 0)).2.1 ∧ (ls.getD i (0, 0, 0, 0)).2.1 < nb ∧ (ls.getD i (0, 0, 0, 0)).1 ≠ (ls.getD i (0, 0, 0, 0)).2.1

theorem valid_of_check {nb : Int} {ls : List Ln} (h : checkE nb ls = 0) : Valid nb ls := by
  unfold checkE at h
  by_cases h1 : nb < 1 ∨ 6 < nb
  · rw [if_pos h1] at h; omega
  rw [if_neg h1] at h
  by_cases h2 : 10 < ls.length
  · rw [if_pos h2] at h; omega
  rw [if_neg h2] at h
  by_cases h3 : ls.all (lineOk nb) = true
  · refine ⟨by omega, by omega, by omega, fun i hi => ?_⟩
    have := List.all_eq_true.1 h3 _ (List.getElem_mem hi)
    rw [getD_eq _ _ _ hi]
    simp only [lineOk, chk, Bool.and_eq_true, decide_eq_true_eq, bne_iff_ne] at this
    omega
  · rw [if_neg h3] at h; omega
theorem check_of_outs {nb : Int} {ls : List Ln} {out : List Int} (h : outsE nb ls out = 0) : checkE nb ls = 0 ∧ outsB ls.length out = true := by
  unfold outsE at h
  by_cases h1 : checkE nb ls = 0
  · refine ⟨h1, ?_⟩
    rw [if_pos h1, outsV] at h
    by_cases h2 : outsB ls.length out = true
    · exact h2
    · rw [if_neg h2] at h; omega
  · rw [if_neg h1] at h; exact absurd h h1

set_option maxRecDepth 100000 in
set_option maxHeartbeats 4000000 in
theorem of_ok (n : Nat) (A A' : Option Addr) (c c' : Nat) (ls : List Ln) (out : List Int) (w : World) (hl : LinesR w w.heap.size A ls) (ho : IntsR w w.heap.size A' out)
    (hm : ls.length ≤ 1000000) (hn : out.length ≤ 1000000) (he : outsE n ls out = 0) :
    Calls Try.prog 26 #[.agg #[.int .i64 (n : Int), .slice A ls.length c], .slice A' out.length c'] w
      (IntsE w ((numTo (uniAll n (ends ls (svcL out ls.length))) n).1.map fun x : Nat => (x : Int)) 0) := by
  have hv := valid_of_check (check_of_outs he).1
  have hn6 : n ≤ 6 := by have := hv.hi; omega
  have hn1 : 1 ≤ n := by have := hv.lo; omega
  have HV := Lib.hid hv
  have hcall := fun W hl ho => in_any n A A' c c' ls out W hl ho hm hn
  rw [he, inL, if_pos he] at hcall
  have HCALL := Lib.hid hcall
  have HL := Lib.hid hl
  have HO := Lib.hid ho
  have hmk := fun W => run_make_row' (P := Try.prog) 25 3 (.int .i64 0) 8 Try.underlying25 info_int rfl .i64 .i64 n (by omega) (by omega) W
  have hLr := svcL_range out ls.length
  have hLl := svcL_le out ls.length
  have hm10 : ls.length ≤ 10 := hv.len
  clear hcall hl ho he hv
  generalize svcL out ls.length = L at *
  have HLr := Lib.hid hLr
  clear hLr
  go_enter Try.func26, Try.ntmps26
  go_wp2_with (go_at_call 30; refine (HCALL.out _ (by exact (HL.out.alloc (Nat.le_refl _) _).more (by simp)) (by exact (HO.out.alloc (Nat.le_refl _) _).more (by simp))).mono ?_; rintro e w1 ⟨v, rfl, hown, hb1⟩; obtain ⟨A1, c1, rfl, hI⟩ := ownsRow_ints hown; have HI := Lib.hid hI; have HB1 := Lib.hid hb1; have k0 : w1.cell? ⟨w.heap.size, 0, none⟩ = some (.int .i64 (n : Int)) := (hb1.cell (by simp)).trans (by simp); have k1 : w1.cell? ⟨w.heap.size, 1, none⟩ = some (.slice A ls.length c) := (hb1.cell (by simp)).trans (by simp); have hz1 : w.heap.size < w1.heap.size := (by have := hb1.size; simp at this; omega); clear hown hI hb1)
  have r0 := RowN.made w1 3 n
  have r1 : RowN 3 ((w1.alloc (.cells (madeCells #[.int .i64 0] n) 3)).alloc (.cells #[.slice (some ⟨w1.heap.size, 0, none⟩) n n] 25)) w1.heap.size (List.replicate n 0) := r0.keep (Below.heap_alloc _ _ _ (by simp))
  have s1 : ((w1.alloc (.cells (madeCells #[.int .i64 0] n) 3)).alloc (.cells #[.slice (some ⟨w1.heap.size, 0, none⟩) n n] 25)).cell? ⟨w1.heap.size + 1, 0, none⟩ = some (.slice (some ⟨w1.heap.size, 0, none⟩) n n) := cell_alloc_at _ _ _ _ _ (by simp)
  have b1 : Below w1.heap.size w1 ((w1.alloc (.cells (madeCells #[.int .i64 0] n) 3)).alloc (.cells #[.slice (some ⟨w1.heap.size, 0, none⟩) n n] 25)) := ((Below.refl _ _).alloc (Nat.le_refl _) _).alloc (by simp) _
  have z1 : ((w1.alloc (.cells (madeCells #[.int .i64 0] n) 3)).alloc (.cells #[.slice (some ⟨w1.heap.size, 0, none⟩) n n] 25)).heap.size = w1.heap.size + 2 := by simp
  generalize (w1.alloc (.cells (madeCells #[.int .i64 0] n) 3)).alloc (.cells #[.slice (some ⟨w1.heap.size, 0, none⟩) n n] 25) = W2 at *
  have hB1 : Below w.heap.size w w1 := ((Below.refl _ _).alloc (Nat.le_refl _) _).trans (HB1.out.mono (by simp))
  have HBw := Lib.hid hB1
  have HZ := Lib.hid z1
  have HB2 := Lib.hid b1
  clear r0 z1 b1 hB1 HB1
  go_loopg [33] n (fun g i wr => ∃ (k : Nat) (p : List Nat), k + g = n ∧ i = .int .i64 k ∧ p.length = n ∧ (∀ i, i < k → p.getD i 0 = i) ∧ RowN 3 wr w1.heap.size p ∧ Below w1.heap.size W2 wr ∧ wr.cell? ⟨w1.heap.size + 1, 0, none⟩ = some (.slice (some ⟨w1.heap.size, 0, none⟩) n n) ∧ wr.heap.size = W2.heap.size)
  case atStart => exact ⟨0, _, by omega, rfl, by simp, fun i hi => absurd hi (by omega), r1, Below.refl _ _, s1, rfl⟩
  case round =>
    obtain ⟨k, p, hkg, rfl, hpl, hpi, hr, hbw, hs, hz⟩ := hrel
    clear r1 s1
    have HP := Lib.hid hpi
    have HR := Lib.hid hr
    have HBW := Lib.hid hbw
    have HZ2 := Lib.hid hz
    have HPL := Lib.hid hpl
    clear hpi hr hbw hz hpl
    cases gk with
    | succ g =>
      have hk : k < n := by omega
      have HG := Lib.hid hkg
      clear hkg
      have hcell := HR.out.cell (i := k) (by rw [HPL.out]; exact hk)
      have hfr := HR.out.frozen k
      go_wp2
      go_roundg g
      case measure => omega
      case rel =>
        refine ⟨k + 1, p.set k k, by have := HG.out; omega, by go_num, by simpa using HPL.out, ?_, HR.out.set_ k k, HBW.out.setCell (p := ⟨w1.heap.size, k, none⟩) (Nat.le_refl _) _, ?_, by simpa [World.setCell] using HZ2.out⟩
        · intro i hi
          rw [List.getD_eq_getElem?_getD, List.getElem?_set]
          by_cases hki : k = i
          · rw [if_pos hki, if_pos (by rw [HPL.out]; omega)]; simpa using hki
          · rw [if_neg hki, ← List.getD_eq_getElem?_getD]; exact HP.out i (by omega)
        · exact (World.cell?_setCell_other _ _ _ _ (by simp)).trans hs
    | zero =>
      obtain rfl : n = k := by omega
      clear hkg
      have hp : p = List.range n := by
        apply List.ext_getElem
        · rw [HPL.out]; simp
        · intro i h1 h2
          have := HP.out i (by rw [← HPL.out]; exact h1)
          rw [getD_eq _ _ _ h1] at this
          simp [this]
      obtain ⟨W3, rfl⟩ : ∃ W3 : World, W3 = wr := ⟨_, rfl⟩
      have HR2 : Hid (RowN 3 W3 w1.heap.size (List.range n)) := by rw [← hp]; exact HR.out
      clear hp HP HR HPL
      have hB3 : Below w1.heap.size w1 W3 := HB2.out.trans HBW.out
      have hz3 : w1.heap.size + 2 ≤ W3.heap.size := by rw [HZ2.out, HZ.out]; exact Nat.le_refl _
      have HB3 := Lib.hid hB3
      have HK0 := Lib.hid k0
      have HK1 := Lib.hid k1
      clear HB2 HBW HZ2 HZ hB3 k0 k1
      go_wp2
      go_loopg [44] L.length (fun g i wr => ∃ j : Nat, j + g = L.length ∧ i = .int .i64 j ∧ RowN 3 wr w1.heap.size (uniAll n (ends ls (L.take j))) ∧ Below w1.heap.size w1 wr ∧ wr.cell? ⟨w1.heap.size + 1, 0, none⟩ = some (.slice (some ⟨w1.heap.size, 0, none⟩) n n) ∧ w1.heap.size + 2 ≤ wr.heap.size)
      case atStart => exact ⟨0, by omega, rfl, by simpa [uniAll, ends] using HR2.out, HB3.out, hs, hz3⟩
      case round =>
        clear hs hz3 HB3
        obtain ⟨j, hjg, rfl, hr, hbw, hs, hz⟩ := hrel
        have HR := Lib.hid hr
        have HBW := Lib.hid hbw
        clear hr hbw
        have k0 : wr.cell? ⟨w.heap.size, 0, none⟩ = some (.int .i64 (n : Int)) := (HBW.out.cell (p := ⟨w.heap.size, 0, none⟩) hz1).trans HK0.out
        have k1 : wr.cell? ⟨w.heap.size, 1, none⟩ = some (.slice A ls.length c) := (HBW.out.cell (p := ⟨w.heap.size, 1, none⟩) hz1).trans HK1.out
        cases gk with
        | succ g =>
          have hj : j < L.length := by omega
          have HG := Lib.hid hjg
          clear hjg
          obtain ⟨b, off, rfl, hb, hc⟩ := HI.out (by omega)
          obtain ⟨t, ht⟩ : ∃ t : Nat, L.getD j 0 = (t : Int) := Int.eq_ofNat_of_zero_le (HLr.out _ (by rw [getD_eq _ _ _ hj]; exact List.getElem_mem hj)).1
          have htm : t < ls.length := by have := (HLr.out (L.getD j 0) (by rw [getD_eq _ _ _ hj]; exact List.getElem_mem hj)).2; omega
          have q0 := (HBW.out.cell (p := ⟨b, off + j, none⟩) hb).trans (hc j hj)
          rw [ht] at q0
          clear hc
          obtain ⟨b', off', rfl, hb', hc'⟩ := HL.out (by omega)
          obtain ⟨e0, e1, _, _⟩ := hc' t htm
          have q1 := (HBW.out.cell (p := ⟨b', off' + t * 4, none⟩) (by show b' < _; omega)).trans ((HBw.out.cell (p := ⟨b', off' + t * 4, none⟩) hb').trans e0)
          have q2 := (HBW.out.cell (p := ⟨b', off' + t * 4 + 1, none⟩) (by show b' < _; omega)).trans ((HBw.out.cell (p := ⟨b', off' + t * 4 + 1, none⟩) hb').trans e1)
          clear hc' e0 e1
          obtain ⟨v0, v1, v2, v3, _⟩ := HV.out.ok t htm
          have hsn := ends_snoc (ls := ls) hj
          rw [ht, Int.toNat_natCast] at hsn
          obtain ⟨f, hf⟩ := Int.eq_ofNat_of_zero_le v0
          obtain ⟨u, hu⟩ := Int.eq_ofNat_of_zero_le v2
          rw [hf] at q1 v1 hsn
          rw [hu] at q2 v3 hsn
          rw [Int.toNat_natCast, Int.toNat_natCast] at hsn
          have HSN := Lib.hid hsn
          have hfn : f < n := by omega
          have hun : u < n := by omega
          clear hsn hf hu ht v0 v1 v2 v3
          have hpl := uniAll_length n (ends ls (L.take j))
          have hpp := par_uniAll n (ends ls (L.take j))
          have huni : uniAll n (ends ls (L.take (j + 1))) = uni (uniAll n (ends ls (L.take j))) f u := by rw [HSN.out, uniAll_snoc]
          have HU := Lib.hid huni
          clear huni HSN
          generalize uniAll n (ends ls (L.take j)) = p at *
          have c0 := fun (x : Nat) (hx : x < n) (W : World) (h1 : W.cell? ⟨w1.heap.size + 1, 0, none⟩ = some (.slice (some ⟨w1.heap.size, 0, none⟩) n n)) (h2 : RowN 3 W w1.heap.size p) => find_any (w1.heap.size + 1) w1.heap.size p x n W (by omega) (by omega) hpp (by rw [hpl]; exact h1) h2
          have C0 := Lib.hid c0
          have hf1 : findN p f < n := Nat.lt_of_le_of_lt (findN_le p f) hfn
          have hu1 : findN p u < n := Nat.lt_of_le_of_lt (findN_le p u) hun
          have HPP := Lib.hid hpp
          have HPL := Lib.hid hpl
          clear c0 hpp hpl
          have hfr := fun i => HR.out.frozen i
          have hcl : ∀ i, i < n → wr.cell? ⟨w1.heap.size, i, none⟩ = some (.int .i64 ((p.getD i 0 : Nat) : Int)) := fun i hi => HR.out.cell (by rw [HPL.out]; exact hi)
          have HFR := Lib.hid hfr
          have HCL := Lib.hid hcl
          clear hfr hcl
          go_wp2
          go_quiet ((go_at_call 44; exact quiet_left (C0.out _ (by omega) _ hs HR.out)))
          have HU2 : Hid (uni p f u = p.set (max (findN p f) (findN p u)) (min (findN p f) (findN p u))) := rfl
          generalize findN p f = a at *
          generalize findN p u = d at *
          rcases Nat.lt_trichotomy a d with hlt | heq | hgt
          · have hle : a ≤ d := by omega
            have hcm := HCL.out d (by omega)
            have hfm := HFR.out d
            have HU3 : Hid (uniAll n (ends ls (L.take (j + 1))) = p.set d a) := by show _ = _; rw [HU.out, HU2.out, show max a d = d from by omega, show min a d = a from by omega]
            clear C0 HCL HFR
            go_wp2
            go_roundg g
            case measure => omega
            case rel =>
              refine ⟨j + 1, by have := HG.out; omega, by go_num, by rw [HU3.out]; exact RowN.set_ (w := wr.drewN _) HR.out d a, (below_drewN HBW.out _).setCell (p := ⟨w1.heap.size, d, none⟩) (Nat.le_refl _) _, ?_, by simpa [World.setCell] using hz⟩
              exact (World.cell?_setCell_other _ _ _ _ (by simp)).trans hs
          · subst heq
            have hcm := HCL.out a (by omega)
            have hfm := HFR.out a
            have HU3 : Hid (uniAll n (ends ls (L.take (j + 1))) = p.set a a) := by show _ = _; rw [HU.out, HU2.out, show max a a = a from by omega, show min a a = a from by omega]
            clear C0 HCL HFR
            go_wp2
            go_roundg g
            case measure => omega
            case rel =>
              refine ⟨j + 1, by have := HG.out; omega, by go_num, by rw [HU3.out]; exact RowN.set_ (w := wr.drewN _) HR.out a a, (below_drewN HBW.out _).setCell (p := ⟨w1.heap.size, a, none⟩) (Nat.le_refl _) _, ?_, by simpa [World.setCell] using hz⟩
              exact (World.cell?_setCell_other _ _ _ _ (by simp)).trans hs
          · have hle : d ≤ a := by omega
            have hcm := HCL.out a (by omega)
            have hfm := HFR.out a
            have HU3 : Hid (uniAll n (ends ls (L.take (j + 1))) = p.set a d) := by show _ = _; rw [HU.out, HU2.out, show max a d = a from by omega, show min a d = d from by omega]
            clear C0 HCL HFR
            go_wp2
            go_roundg g
            case measure => omega
            case rel =>
              refine ⟨j + 1, by have := HG.out; omega, by go_num, by rw [HU3.out]; exact RowN.set_ (w := wr.drewN _) HR.out a d, (below_drewN HBW.out _).setCell (p := ⟨w1.heap.size, a, none⟩) (Nat.le_refl _) _, ?_, by simpa [World.setCell] using hz⟩
              exact (World.cell?_setCell_other _ _ _ _ (by simp)).trans hs
        | zero =>
          obtain rfl : j = L.length := by omega
          clear hjg
          have hr2 := HR.out
          rw [List.take_length] at hr2
          have HR2 := Lib.hid hr2
          clear hr2 HR
          have hpl := uniAll_length n (ends ls L)
          have hpp := par_uniAll n (ends ls L)
          generalize hpe : uniAll n (ends ls L) = p at *
          have HPE := Lib.hid hpe
          clear hpe
          have c0 := fun (x : Nat) (hx : x < n) (W : World) (h1 : W.cell? ⟨w1.heap.size + 1, 0, none⟩ = some (.slice (some ⟨w1.heap.size, 0, none⟩) n n)) (h2 : RowN 3 W w1.heap.size p) => find_any (w1.heap.size + 1) w1.heap.size p x n W (by omega) (by omega) hpp (by rw [hpl]; exact h1) h2
          have C0 := Lib.hid c0
          have HBW0 := HBW
          clear c0 hpl hpp HI HL HO HCALL HBW
          obtain ⟨W4, rfl⟩ : ∃ W4 : World, W4 = wr := ⟨_, rfl⟩
          go_wp2
          have r1 := RowN.made W4 3 n
          have b1 : Below W4.heap.size W4 (W4.alloc (.cells (madeCells #[.int .i64 0] n) 3)) := (Below.refl _ _).alloc (Nat.le_refl _) _
          clear hmk
          generalize W4.alloc (.cells (madeCells #[.int .i64 0] n) 3) = W5 at *
          go_loopg [16, 78] n (fun g ct i wr => ∃ (k : Nat) (q : List Nat), k + g = n ∧ i = .int .i64 k ∧ ct = .int .i64 ((numTo p k).2 : Nat) ∧ q.length = n ∧ q.take k = (numTo p k).1 ∧ RowN 3 wr W4.heap.size q ∧ Below W4.heap.size W4 wr)
          case atStart => exact ⟨0, _, by omega, rfl, rfl, by simp, by simp [numTo], r1, b1⟩
          case round =>
            clear r1 b1
            obtain ⟨k, q, hkg, rfl, rfl, hql, hqt, hr, hbw⟩ := hrel
            have HR := Lib.hid hr
            have HBW := Lib.hid hbw
            have HQ : Hid (q.length = n ∧ q.take k = (numTo p k).1) := ⟨hql, hqt⟩
            clear hr hbw hql hqt
            cases gk with
            | zero =>
              obtain rfl : n = k := by omega
              clear hkg
              go_wp2
              go_ret2
              have hq : q = (numTo p n).1 := by have := HQ.out.2; rwa [List.take_of_length_le (by rw [HQ.out.1]; exact Nat.le_refl _)] at this
              refine ⟨_, rfl, ?_, ?_⟩
              · rw [HPE.out, ← hq]
                exact HR.out.owns (by omega) HQ.out.1 (by omega)
              · exact HBw.out.trans ((HBW0.out.mono (by omega)).trans (HBW.out.mono (by omega)))
            | succ g =>
              have hk : k < n := by omega
              have HG := Lib.hid hkg
              clear hkg
              have hs5 : wr.cell? ⟨w1.heap.size + 1, 0, none⟩ = some (.slice (some ⟨w1.heap.size, 0, none⟩) n n) := (HBW.out.cell (p := ⟨w1.heap.size + 1, 0, none⟩) (by show w1.heap.size + 1 < _; omega)).trans hs
              have hr5 : RowN 3 wr w1.heap.size p := HR2.out.keep (HBW.out.block _ (by omega))
              have HR5 := Lib.hid hr5
              clear hr5
              have hle := findN_le p k
              have hcl : ∀ i, i < n → wr.cell? ⟨W4.heap.size, i, none⟩ = some (.int .i64 ((q.getD i 0 : Nat) : Int)) := fun i hi => HR.out.cell (by rw [HQ.out.1]; exact hi)
              have hck := hcl k hk
              have hfk := HR.out.frozen k
              have hnl := numTo_le p k
              by_cases hroot : findN p k = k
              · have HN := Lib.hid (numTo_root hroot)
                have hne : (((findN p k : Nat) : Int) != (k : Int)) = false := by rw [hroot]; simp
                have ck := C0.out k hk wr hs5 HR5.out
                have CK := Lib.hid ck
                clear hcl hroot ck
                generalize findN p k = x at *
                go_wp2_with (go_at_call 44; refine CK.out.mono ?_; rintro e w' ⟨rfl, rfl⟩)
                go_roundg g
                case measure => omega
                case rel =>
                  refine ⟨k + 1, q.set k (numTo p k).2, by have := HG.out; omega, by go_num, by rw [HN.out]; go_num, by simpa using HQ.out.1, ?_, HR.out.set_ k _, HBW.out.setCell (p := ⟨W4.heap.size, k, none⟩) (Nat.le_refl _) _⟩
                  rw [HN.out, take_set_succ _ _ _ (by rw [HQ.out.1]; exact hk), HQ.out.2]
              · have HN := Lib.hid (numTo_other hroot)
                have hne : (((findN p k : Nat) : Int) != (k : Int)) = true := by rw [bne_iff_ne]; omega
                have hcx := hcl (findN p k) (by omega)
                have ck := C0.out k hk wr hs5 HR5.out
                have CK := Lib.hid ck
                have hxk : findN p k < k := by omega
                have hq2 : (numTo p k).1.getD (findN p k) 0 = q.getD (findN p k) 0 := by rw [← HQ.out.2]; exact getD_take _ _ _ _ hxk
                rw [hq2] at HN
                have hxn : findN p k < n := by omega
                clear hcl hroot ck hq2
                generalize findN p k = x at *
                generalize q.getD x 0 = y at *
                go_wp2_with (go_at_call 44; refine CK.out.mono ?_; rintro e w' ⟨rfl, rfl⟩)
                go_roundg g
                case measure => omega
                case rel =>
                  refine ⟨k + 1, q.set k y, by have := HG.out; omega, by go_num, by rw [HN.out], by simpa using HQ.out.1, ?_, HR.out.set_ k _, HBW.out.setCell (p := ⟨W4.heap.size, k, none⟩) (Nat.le_refl _) _⟩
                  rw [HN.out, take_set_succ _ _ _ (by rw [HQ.out.1]; exact hk), HQ.out.2]
end Go.Proofs.Ytmojjfdamdgegaa
