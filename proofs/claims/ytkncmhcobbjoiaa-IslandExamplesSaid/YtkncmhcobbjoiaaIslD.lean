/- The contracts of island.Count, Connected, Consistent. -/
import Derived.Test.YtkncmhcobbjoiaaIslC
import Derived.Laws.CopyOwn
namespace Go.Proofs.Ytkncmhcobbjoiaa
open Go.RowKit
set_option linter.unusedVariables false

def cntL (nb : Int) (ls : List Ln) (out : List Int) : Int := ((refsL nb ls out).length : Int)
/-- A number and an error code come back; nothing that lay has turned. -/
def IntE (w : World) (x : Int) (er : Int) (e : Ending) (w' : World) : Prop := e = .returned (.tuple #[.int .i64 x, .int .i64 er]) ∧ Below w.heap.size w w'
def BoolE (w : World) (x : Bool) (er : Int) (e : Ending) (w' : World) : Prop := e = .returned (.tuple #[.bool x, .int .i64 er]) ∧ Below w.heap.size w w'
theorem refsL_nil {nb : Int} {ls : List Ln} {out : List Int} (h : outsE nb ls out ≠ 0) : refsL nb ls out = [] := by rw [refsL, ofL_nil h]; rfl

set_option maxHeartbeats 1000000 in
theorem count_any (nb : Int) (A A' : Option Addr) (c c' : Nat) (ls : List Ln) (out : List Int) (w : World) (hl : LinesR w w.heap.size A ls) (ho : IntsR w w.heap.size A' out)
    (hm : ls.length ≤ 1000000) (hn : out.length ≤ 1000000) :
    Calls Try.prog 22 #[.agg #[.int .i64 nb, .slice A ls.length c], .slice A' out.length c'] w (IntE w (cntL nb ls out) (outsE nb ls out)) := by
  have hcall := fun W hl ho => refs_any nb A A' c c' ls out W hl ho hm hn
  have honil := fun h => refsL_nil (nb := nb) (ls := ls) (out := out) h
  unfold cntL
  generalize refsL nb ls out = l at *
  generalize outsE nb ls out = e at *
  have HCALL := Lib.hid hcall
  have HL := Lib.hid hl
  have HO := Lib.hid ho
  have HN := Lib.hid honil
  clear hl ho hcall honil
  by_cases he : e = 0
  · subst he
    go_enter Try.func22, Try.ntmps22
    go_wp2_with (go_at_call 20; refine (HCALL.out _ (by exact (HL.out.alloc (Nat.le_refl _) _).more (by simp)) (by exact (HO.out.alloc (Nat.le_refl _) _).more (by simp))).mono ?_; rintro e w1 ⟨v, rfl, hown, hb1⟩; obtain ⟨A1, c1, rfl, _⟩ := ownsRow_ints hown; clear hown)
    go_ret2
    exact ⟨rfl, ((Below.refl _ _).alloc (Nat.le_refl _) _).trans (hb1.mono (by simp))⟩
  · have he' : (e != 0) = true := by rw [bne_iff_ne]; exact he
    have hl0 := HN.out he
    subst hl0
    clear he HN
    go_enter Try.func22, Try.ntmps22
    go_wp2_with (go_at_call 20; refine (HCALL.out _ (by exact (HL.out.alloc (Nat.le_refl _) _).more (by simp)) (by exact (HO.out.alloc (Nat.le_refl _) _).more (by simp))).mono ?_; rintro e w1 ⟨v, rfl, _, hb1⟩)
    go_ret2
    exact ⟨rfl, ((Below.refl _ _).alloc (Nat.le_refl _) _).trans (hb1.mono (by simp))⟩

/-- Block g is just the numbers xs. -/
def RowI (t : TypeId) (w : World) (g : Nat) (xs : List Int) : Prop := w.heap[g]? = some (.cells ((xs.map (Value.int .i64)).toArray) t (0, 0))
theorem RowI.lt {t : TypeId} {w : World} {g : Nat} {p : List Int} (h : RowI t w g p) : g < w.heap.size := (Array.getElem?_eq_some_iff.1 h).1
theorem RowI.cell {t : TypeId} {w : World} {g : Nat} {p : List Int} (h : RowI t w g p) {i : Nat} (hi : i < p.length) : w.cell? ⟨g, i, none⟩ = some (.int .i64 (p.getD i 0)) := by
  unfold RowI at h
  simp [World.cell?, h, hi]

/-- Label i, 0 beyond the end. -/
def lab (labels : List Int) (i : Nat) : Int := labels.getD i 0
/-- Every line of L has equal labels at its ends. -/
def alike (labels : List Int) (L : List (Nat × Nat)) : Bool := L.all fun l => lab labels l.1 == lab labels l.2
/-- What Consistent answers. -/
def consE (nb : Int) (ls : List Ln) (out labels : List Int) : Int := if outsE nb ls out = 0 then (if nb < labels.length then 5 else 0) else outsE nb ls out
def consB (nb : Int) (ls : List Ln) (out labels : List Int) : Bool := if outsE nb ls out = 0 ∧ ¬ nb < labels.length then alike labels (ends ls (svcL out ls.length)) else false

theorem size_int : (Try.prog.info? 3).map (·.size) = some 1 := by kernel_rfl
theorem alike_snoc (labels : List Int) (L : List (Nat × Nat)) (l : Nat × Nat) : alike labels (L ++ [l]) = (alike labels L && (lab labels l.1 == lab labels l.2)) := by simp [alike]
theorem alike_not (labels : List Int) (L : List (Nat × Nat)) (j : Nat) (h : alike labels (L.take (j + 1)) = false) : alike labels L = false := by
  unfold alike at *
  rw [List.all_eq_false] at *
  obtain ⟨x, hx, hp⟩ := h
  exact ⟨x, List.mem_of_mem_take hx, hp⟩
theorem ends_take (ls : List Ln) (L : List Int) (j : Nat) : ends ls (L.take j) = (ends ls L).take j := by simp [ends, List.map_take]

theorem made_zeroI (n : Nat) : madeCells #[Value.int .i64 0] n = (List.replicate n (Value.int .i64 0)).toArray := by
  apply Array.ext
  · simp [madeCells]
  · intro i h1 h2
    simp [madeCells, Nat.mod_one]
theorem heap_made (w : World) (t : TypeId) (n : Nat) : (w.alloc (.cells (madeCells #[.int .i64 0] n) t)).heap[w.heap.size]? = some (.cells (List.replicate n (Value.int .i64 0)).toArray t (0, 0)) := by
  rw [heap_alloc_new w _, made_zeroI]
theorem splice_zero (n : Nat) (xs : List Int) (h : xs.length ≤ n) : splice (List.replicate n (Value.int .i64 0)) 0 (xs.map (Value.int .i64)) = (xs ++ List.replicate (n - xs.length) 0).map (Value.int .i64) := by
  simp [splice]
theorem IntsR.src {w : World} {B : Nat} {A : Option Addr} {xs : List Int} (h : IntsR w B A xs) (hp : 0 < (xs.map (Value.int .i64)).length) : ∃ ad, A = some ad ∧ ∀ j v, (xs.map (Value.int .i64))[j]? = some v → w.cell? (ad.add j) = some v := by
  obtain ⟨b, off, rfl, _, hc⟩ := h (by simpa using hp)
  refine ⟨_, rfl, fun j v hv => ?_⟩
  rw [List.getElem?_map, Option.map_eq_some_iff] at hv
  obtain ⟨x, hx, rfl⟩ := hv
  have hj : j < xs.length := (List.getElem?_eq_some_iff.1 hx).1
  have := hc j hj
  rw [List.getD_eq_getElem?_getD, hx] at this
  have ha : (⟨b, off, none⟩ : Addr).add j = ⟨b, off + j, none⟩ := by unfold Addr.add; split <;> simp_all
  rw [ha]
  exact this

set_option maxRecDepth 100000 in
set_option maxHeartbeats 4000000 in
theorem cons_ok (n : Nat) (A A' A2 : Option Addr) (c c' c2 : Nat) (ls : List Ln) (out labels : List Int) (w : World) (hl : LinesR w w.heap.size A ls) (ho : IntsR w w.heap.size A' out) (hlb : IntsR w w.heap.size A2 labels)
    (hm : ls.length ≤ 1000000) (hn : out.length ≤ 1000000) (he : outsE n ls out = 0) (hll : labels.length ≤ n) :
    Calls Try.prog 13 #[.agg #[.int .i64 (n : Int), .slice A ls.length c], .slice A' out.length c', .slice A2 labels.length c2] w
      (BoolE w (alike labels (ends ls (svcL out ls.length))) 0) := by
  have hv := valid_of_check (check_of_outs he).1
  have hn6 : n ≤ 6 := by have := hv.hi; omega
  have hn1 : 1 ≤ n := by have := hv.lo; omega
  have HV := Lib.hid hv
  have hcall := fun W hl ho => in_any n A A' c c' ls out W hl ho hm hn
  rw [he, inL, if_pos he] at hcall
  have HCALL := Lib.hid hcall
  have HL := Lib.hid hl
  have HO := Lib.hid ho
  have HLB := Lib.hid hlb
  have hmk := fun W => run_make_row' (P := Try.prog) 25 3 (.int .i64 0) 8 Try.underlying25 info_int rfl .i64 .i64 n (by omega) (by omega) W
  have hLr := svcL_range out ls.length
  have hLl := svcL_le out ls.length
  have hm10 : ls.length ≤ 10 := hv.len
  clear hcall hl ho he hv hlb
  generalize svcL out ls.length = L at *
  have HLr := Lib.hid hLr
  clear hLr
  go_enter Try.func13, Try.ntmps13
  go_wp2_with (first
    | (go_at_call 32; refine (HCALL.out _ (by exact (HL.out.alloc (Nat.le_refl _) _).more (by simp)) (by exact (HO.out.alloc (Nat.le_refl _) _).more (by simp))).mono ?_; rintro e w1 ⟨v, rfl, hown, hb1⟩; obtain ⟨A1, c1, rfl, hI⟩ := ownsRow_ints hown; have HI := Lib.hid hI; have HB1 := Lib.hid hb1; have k0 : w1.cell? ⟨w.heap.size, 0, none⟩ = some (.int .i64 (n : Int)) := (hb1.cell (by simp)).trans (by simp); have k1 : w1.cell? ⟨w.heap.size, 1, none⟩ = some (.slice A ls.length c) := (hb1.cell (by simp)).trans (by simp); have hz1 : w.heap.size < w1.heap.size := (by have := hb1.size; simp at this; omega); have hsrc := ((HLB.out.below (((Below.refl _ _).alloc (Nat.le_refl _) (.cells #[.int .i64 (n : Int), .slice A ls.length c] 24)).trans (hb1.mono (by simp)))).alloc (Nat.le_of_lt hz1) (.cells (madeCells #[.int .i64 0] n) 3)).src; have HSRC := Lib.hid hsrc; clear hown hI hb1 hsrc)
    | ((refine wpList_copy_splice rfl (.tmp 30) (.tmp 31) 25 25 rfl 3 Try.underlying25 size_int (some ⟨w1.heap.size, 0, none⟩) A2 n n labels.length c2 rfl rfl w1.heap.size 0 (List.replicate n (.int .i64 0)) 3 (heap_made _ _ _) (labels.map (Value.int .i64)) (by rw [List.length_map]; exact (Nat.min_eq_left hll).symm) (fun h => ⟨rfl, HSRC.out h⟩) (by simp; omega) (by simp [Value.oneCell']) w1.heap.size w1 ((Below.refl _ _).alloc (Nat.le_refl _) _) (Nat.le_refl _) ?_); intro w2 hrow hb2))
  have hrow2 : RowI 3 w2 w1.heap.size (labels ++ List.replicate (n - labels.length) 0) := by
    have := hrow.out
    rw [splice_zero n labels hll] at this
    exact this
  have hfl : (labels ++ List.replicate (n - labels.length) (0 : Int)).length = n := by simp; omega
  have hfd : ∀ i, (labels ++ List.replicate (n - labels.length) (0 : Int)).getD i 0 = lab labels i := by
    intro i
    unfold lab
    rw [List.getD_eq_getElem?_getD, List.getD_eq_getElem?_getD, List.getElem?_append]
    split
    · rfl
    · rename_i h
      rw [List.getElem?_eq_none (l := labels) (by omega), List.getElem?_replicate]
      split <;> rfl
  have HROW : Hid (∀ i, i < n → w2.cell? ⟨w1.heap.size, i, none⟩ = some (.int .i64 (lab labels i))) := fun i hi => by
    rw [← hfd i]; exact hrow2.cell (by rw [hfl]; exact hi)
  have hB1 : Below w.heap.size w w1 := ((Below.refl _ _).alloc (Nat.le_refl _) _).trans (HB1.out.mono (by simp))
  have HBw := Lib.hid hB1
  have HB2 := Lib.hid hb2
  have K1 : w2.cell? ⟨w.heap.size, 1, none⟩ = some (.slice A ls.length c) := (hb2.cell (p := ⟨w.heap.size, 1, none⟩) hz1).trans k1
  clear hrow hrow2 hfl hfd hmk HCALL HO HLB HSRC k0 k1 hB1 hb2 HB1
  go_loopg [6, 7, 35] L.length (fun g s6 s7 i wr => ∃ j q : Nat, j + g = L.length ∧ i = .int .i64 j ∧ alike labels (ends ls (L.take j)) = true ∧ wr = w2.drewN q)
  case atStart => exact ⟨0, 0, by omega, rfl, by simp [ends, alike], rfl⟩
  case round =>
    obtain ⟨j, q, hjg, rfl, hal, rfl⟩ := hrel
    have HAL := Lib.hid hal
    clear hal
    cases gk with
    | zero =>
      obtain rfl : j = L.length := by omega
      clear hjg
      have hA := HAL.out
      rw [List.take_length] at hA
      go_wp2
      go_ret2
      exact ⟨by rw [hA]; rfl, HBw.out.trans ((below_drewN HB2.out _).mono (by omega))⟩
    | succ g =>
      have hj : j < L.length := by omega
      have HG := Lib.hid hjg
      clear hjg
      obtain ⟨b, off, rfl, hb, hc⟩ := HI.out (by omega)
      obtain ⟨t, ht⟩ : ∃ t : Nat, L.getD j 0 = (t : Int) := Int.eq_ofNat_of_zero_le (HLr.out _ (by rw [getD_eq _ _ _ hj]; exact List.getElem_mem hj)).1
      have htm : t < ls.length := by have := (HLr.out (L.getD j 0) (by rw [getD_eq _ _ _ hj]; exact List.getElem_mem hj)).2; omega
      have q0 := (HB2.out.cell (p := ⟨b, off + j, none⟩) hb).trans (hc j hj)
      rw [ht] at q0
      clear hc
      obtain ⟨b', off', rfl, hb', hc'⟩ := HL.out (by omega)
      obtain ⟨e0, e1, _, _⟩ := hc' t htm
      have q1 := (HB2.out.cell (p := ⟨b', off' + t * 4, none⟩) (by show b' < _; omega)).trans ((HBw.out.cell (p := ⟨b', off' + t * 4, none⟩) hb').trans e0)
      have q2 := (HB2.out.cell (p := ⟨b', off' + t * 4 + 1, none⟩) (by show b' < _; omega)).trans ((HBw.out.cell (p := ⟨b', off' + t * 4 + 1, none⟩) hb').trans e1)
      clear hc' e0 e1
      obtain ⟨v0, v1, v2, v3, _⟩ := HV.out.ok t htm
      have hsn := ends_snoc (ls := ls) hj
      rw [ht, Int.toNat_natCast] at hsn
      obtain ⟨f, hf⟩ := Int.eq_ofNat_of_zero_le v0
      obtain ⟨u, hu⟩ := Int.eq_ofNat_of_zero_le v2
      rw [hf] at q1 v1 hsn
      rw [hu] at q2 v3 hsn
      rw [Int.toNat_natCast, Int.toNat_natCast] at hsn
      have hfn : f < n := by omega
      have hun : u < n := by omega
      have hal2 : alike labels (ends ls (L.take (j + 1))) = (lab labels f == lab labels u) := by rw [hsn, alike_snoc, HAL.out]; rfl
      have HS := Lib.hid hal2
      clear hsn hf hu ht v0 v1 v2 v3 hal2
      have c0 := HROW.out f hfn
      have c1 := HROW.out u hun
      by_cases heq : lab labels f = lab labels u
      · have hne : (lab labels f != lab labels u) = false := by rw [heq]; simp
        have HE := Lib.hid heq
        clear heq
        generalize hx : lab labels f = x at *
        generalize hy : lab labels u = y at *
        clear hx hy
        go_wp2
        go_quiet (fail)
        go_wp2
        go_roundg g
        case measure => omega
        case rel => exact ⟨j + 1, _, by have := HG.out; omega, by go_num, by rw [HS.out, HE.out]; simp, rfl⟩
      · have hne : (lab labels f != lab labels u) = true := by rw [bne_iff_ne]; exact heq
        have HE : Hid (alike labels (ends ls L) = false) := by
          apply alike_not labels _ j
          rw [← ends_take, HS.out, beq_eq_false_iff_ne]; exact heq
        clear heq HS
        generalize hx : lab labels f = x at *
        generalize hy : lab labels u = y at *
        clear hx hy
        go_wp2
        go_quiet (fail)
        go_wp2
        go_ret2
        exact ⟨by rw [HE.out]; rfl, HBw.out.trans ((below_drewN (below_drewN HB2.out _) _).mono (by omega))⟩

set_option maxHeartbeats 1000000 in
theorem cons_any (nb : Int) (A A' A2 : Option Addr) (c c' c2 : Nat) (ls : List Ln) (out labels : List Int) (w : World) (hl : LinesR w w.heap.size A ls) (ho : IntsR w w.heap.size A' out) (hlb : IntsR w w.heap.size A2 labels)
    (hm : ls.length ≤ 1000000) (hn : out.length ≤ 1000000) (hk : labels.length ≤ 1000000) :
    Calls Try.prog 13 #[.agg #[.int .i64 nb, .slice A ls.length c], .slice A' out.length c', .slice A2 labels.length c2] w
      (BoolE w (consB nb ls out labels) (consE nb ls out labels)) := by
  by_cases he : outsE nb ls out = 0
  · have hv := valid_of_check (check_of_outs he).1
    obtain ⟨n, rfl⟩ := Int.eq_ofNat_of_zero_le (show 0 ≤ nb by have := hv.lo; omega)
    by_cases hlen : (n : Int) < labels.length
    · rw [consB, if_neg (by omega), consE, if_pos he, if_pos hlen]
      have hcall := fun W hl ho => in_any n A A' c c' ls out W hl ho hm hn
      rw [he] at hcall
      have HCALL := Lib.hid hcall
      have HL := Lib.hid hl
      have HO := Lib.hid ho
      have hln : n < labels.length := by omega
      clear hl ho hcall he hlb hv hlen
      go_enter Try.func13, Try.ntmps13
      go_wp2_with (go_at_call 32; refine (HCALL.out _ (by exact (HL.out.alloc (Nat.le_refl _) _).more (by simp)) (by exact (HO.out.alloc (Nat.le_refl _) _).more (by simp))).mono ?_; rintro e w1 ⟨v, rfl, hown, hb1⟩; obtain ⟨A1, c1, rfl, _⟩ := ownsRow_ints hown; clear hown; have k0 : w1.cell? ⟨w.heap.size, 0, none⟩ = some (.int .i64 (n : Int)) := (hb1.cell (by simp)).trans (by simp); have HB1 := Lib.hid hb1; clear hb1)
      go_ret2
      exact ⟨rfl, ((Below.refl _ _).alloc (Nat.le_refl _) _).trans (HB1.out.mono (by simp))⟩
    · rw [consB, if_pos ⟨he, hlen⟩, consE, if_pos he, if_neg hlen]
      exact cons_ok n A A' A2 c c' c2 ls out labels w hl ho hlb hm hn he (by omega)
  · rw [consB, if_neg (by omega), consE, if_neg he]
    have hcall := fun W hl ho => in_any nb A A' c c' ls out W hl ho hm hn
    have he' : (outsE nb ls out != 0) = true := by rw [bne_iff_ne]; exact he
    generalize outsE nb ls out = e at *
    have HCALL := Lib.hid hcall
    have HL := Lib.hid hl
    have HO := Lib.hid ho
    clear hl ho hcall he hlb
    go_enter Try.func13, Try.ntmps13
    go_wp2_with (go_at_call 32; refine (HCALL.out _ (by exact (HL.out.alloc (Nat.le_refl _) _).more (by simp)) (by exact (HO.out.alloc (Nat.le_refl _) _).more (by simp))).mono ?_; rintro e w1 ⟨v, rfl, _, hb1⟩)
    go_ret2
    exact ⟨rfl, ((Below.refl _ _).alloc (Nat.le_refl _) _).trans (hb1.mono (by simp))⟩
end Go.Proofs.Ytkncmhcobbjoiaa
