/- The text IslN. -/
import Derived.Laws.CopyOwn
import Derived.Test.YtmojjfdamdgegaaMg11
/- The contract of island.Count, and words for labels. -/
namespace Go.Proofs.Ytmojjfdamdgegaa
open Go.RowKit
set_option linter.unusedVariables false

def cntL (nb : Int) (ls : List Ln) (out : List Int) : Int := ((refsL nb ls out).length : Int)
/-- A number and an error code come back; nothing that lay has turned. -/
def IntE (w : World) (x : Int) (er : Int) (e : Ending) (w' : World) : Prop := e = .returned (.tuple #[.int .i64 x, .int .i64 er]) ∧ Below w.heap.size w w'
def BoolE (w : World) (x : Bool) (er : Int) (e : Ending) (w' : World) : Prop := e = .returned (.tuple #[.bool x, .int .i64 er]) ∧ Below w.heap.size w w'
theorem refsL_nil {nb : Int} {ls : List Ln} {out : List Int} (h : outsE nb ls out ≠ 0) : refsL nb ls out = [] := by rw [refsL, ofL_nil h]; rfl

set_option maxHeartbeats 1000000 in
theorem count_any (nb : Int) (A A' : Option Addr) (c c' : Nat) (ls : List Ln) (out : List Int) (w : World) (hl : LinesR w w.heap.size A ls) (ho : IntsR w w.heap.size A' out)
    (hm : ls.length ≤ 1000000) (hn : out.length ≤ 1000000) :
    Calls Try.prog 28 #[.agg #[.int .i64 nb, .slice A ls.length c], .slice A' out.length c'] w (IntE w (cntL nb ls out) (outsE nb ls out)) := by
  have hcall := fun W hl ho => refs_any nb A A' c c' ls out W hl ho hm hn
  have honil := fun h => refsL_nil (nb := nb) (ls := ls) (out := out) h
  unfold cntL
  generalize refsL nb ls out = l at *
  generalize outsE nb ls out = e at *
  have HCALL := Lib.hid hcall
  have HL := Lib.hid hl
  have HO := Lib.hid ho
  have HN := Lib.hid honil
  clear hl ho hcall honil
  by_cases he : e = 0
  · subst he
    go_enter Try.func28, Try.ntmps28
    go_wp2_with (go_at_call 45; refine (HCALL.out _ (by exact (HL.out.alloc (Nat.le_refl _) _).more (by simp)) (by exact (HO.out.alloc (Nat.le_refl _) _).more (by simp))).mono ?_; rintro e w1 ⟨v, rfl, hown, hb1⟩; obtain ⟨A1, c1, rfl, _⟩ := ownsRow_ints hown; clear hown)
    go_ret2
    exact ⟨rfl, ((Below.refl _ _).alloc (Nat.le_refl _) _).trans (hb1.mono (by simp))⟩
  · have he' : (e != 0) = true := by rw [bne_iff_ne]; exact he
    have hl0 := HN.out he
    subst hl0
    clear he HN
    go_enter Try.func28, Try.ntmps28
    go_wp2_with (go_at_call 45; refine (HCALL.out _ (by exact (HL.out.alloc (Nat.le_refl _) _).more (by simp)) (by exact (HO.out.alloc (Nat.le_refl _) _).more (by simp))).mono ?_; rintro e w1 ⟨v, rfl, _, hb1⟩)
    go_ret2
    exact ⟨rfl, ((Below.refl _ _).alloc (Nat.le_refl _) _).trans (hb1.mono (by simp))⟩

/-- Block g is just the numbers xs. -/
def RowI (t : TypeId) (w : World) (g : Nat) (xs : List Int) : Prop := w.heap[g]? = some (.cells ((xs.map (Value.int .i64)).toArray) t (0, 0))
theorem RowI.lt {t : TypeId} {w : World} {g : Nat} {p : List Int} (h : RowI t w g p) : g < w.heap.size := (Array.getElem?_eq_some_iff.1 h).1
theorem RowI.cell {t : TypeId} {w : World} {g : Nat} {p : List Int} (h : RowI t w g p) {i : Nat} (hi : i < p.length) : w.cell? ⟨g, i, none⟩ = some (.int .i64 (p.getD i 0)) := by
  unfold RowI at h
  simp [World.cell?, h, hi]

/-- Label i, 0 beyond the end. -/
def lab (labels : List Int) (i : Nat) : Int := labels.getD i 0
/-- Every line of L has equal labels at its ends. -/
def alike (labels : List Int) (L : List (Nat × Nat)) : Bool := L.all fun l => lab labels l.1 == lab labels l.2
/-- What Consistent answers. -/
def consE (nb : Int) (ls : List Ln) (out labels : List Int) : Int := if outsE nb ls out = 0 then (if nb < labels.length then 5 else 0) else outsE nb ls out
def consB (nb : Int) (ls : List Ln) (out labels : List Int) : Bool := if outsE nb ls out = 0 ∧ ¬ nb < labels.length then alike labels (ends ls (svcL out ls.length)) else false

theorem size_int : (Try.prog.info? 3).map (·.size) = some 1 := by kernel_rfl
theorem alike_snoc (labels : List Int) (L : List (Nat × Nat)) (l : Nat × Nat) : alike labels (L ++ [l]) = (alike labels L && (lab labels l.1 == lab labels l.2)) := by simp [alike]
theorem alike_not (labels : List Int) (L : List (Nat × Nat)) (j : Nat) (h : alike labels (L.take (j + 1)) = false) : alike labels L = false := by
  unfold alike at *
  rw [List.all_eq_false] at *
  obtain ⟨x, hx, hp⟩ := h
  exact ⟨x, List.mem_of_mem_take hx, hp⟩
theorem ends_take (ls : List Ln) (L : List Int) (j : Nat) : ends ls (L.take j) = (ends ls L).take j := by simp [ends, List.map_take]

theorem made_zeroI (n : Nat) : madeCells #[Value.int .i64 0] n = (List.replicate n (Value.int .i64 0)).toArray := by
  apply Array.ext
  · simp [madeCells]
  · intro i h1 h2
    simp [madeCells, Nat.mod_one]
theorem heap_made (w : World) (t : TypeId) (n : Nat) : (w.alloc (.cells (madeCells #[.int .i64 0] n) t)).heap[w.heap.size]? = some (.cells (List.replicate n (Value.int .i64 0)).toArray t (0, 0)) := by
  rw [heap_alloc_new w _, made_zeroI]
theorem splice_zero (n : Nat) (xs : List Int) (h : xs.length ≤ n) : splice (List.replicate n (Value.int .i64 0)) 0 (xs.map (Value.int .i64)) = (xs ++ List.replicate (n - xs.length) 0).map (Value.int .i64) := by
  simp [splice]
theorem IntsR.src {w : World} {B : Nat} {A : Option Addr} {xs : List Int} (h : IntsR w B A xs) (hp : 0 < (xs.map (Value.int .i64)).length) : ∃ ad, A = some ad ∧ ∀ j v, (xs.map (Value.int .i64))[j]? = some v → w.cell? (ad.add j) = some v := by
  obtain ⟨b, off, rfl, _, hc⟩ := h (by simpa using hp)
  refine ⟨_, rfl, fun j v hv => ?_⟩
  rw [List.getElem?_map, Option.map_eq_some_iff] at hv
  obtain ⟨x, hx, rfl⟩ := hv
  have hj : j < xs.length := (List.getElem?_eq_some_iff.1 hx).1
  have := hc j hj
  rw [List.getD_eq_getElem?_getD, hx] at this
  have ha : (⟨b, off, none⟩ : Addr).add j = ⟨b, off + j, none⟩ := by unfold Addr.add; split <;> simp_all
  rw [ha]
  exact this

end Go.Proofs.Ytmojjfdamdgegaa
