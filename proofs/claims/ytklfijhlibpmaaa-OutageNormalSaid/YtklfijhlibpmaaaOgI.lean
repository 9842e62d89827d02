/- slices.SortFunc on a row of outages of the call's own. -/
import Derived.Test.YtklfijhlibpmaaaOgH
import Derived.Test.YtklfijhlibpmaaaShg
import Derived.Test.YtklfijhlibpmaaaShf
import Derived.Shelf.SlSortCmp.WholeK
import Derived.Sort.OwnSortedInts
namespace Go.Proofs.Ytklfijhlibpmaaa
open Go.RowKit Go.Sort Go.Shelf Go.Lib
set_option linter.unusedVariables false

set_option maxHeartbeats 2000000 in
theorem ins_none (p : Option Addr) (cap : Nat) (fv : Value) (w : World) :
    Calls Try.prog 40 #[.slice p 0 cap, .int .i64 0, .int .i64 0, fv] w fun e w' => e = .returned (.tuple #[]) ∧ w' = w := by
  go_enter Try.func40, Try.ntmps40
  go_wp2
  refine wp_loop_rounds 1 ?_
  rw [rounds_succ]
  go_wp2
  go_end0
  exact ⟨rfl, rfl⟩
set_option maxHeartbeats 2000000 in
theorem pdq_none (p : Option Addr) (cap : Nat) (lim : Int) (fv : Value) (w : World) :
    Calls Try.prog 34 #[.slice p 0 cap, .int .i64 0, .int .i64 0, .int .i64 lim, fv] w fun e w' => e = .returned (.tuple #[]) ∧ w' = w := by
  have hi := fun W => ins_none p cap fv W
  go_enter Try.func34, Try.ntmps34
  go_wp2
  refine wp_loop_rounds 1 ?_
  rw [rounds_succ]
  go_wp2_with (go_at_call 40; refine (hi _).mono ?_; rintro e w' ⟨rfl, rfl⟩)
  (try simp only [Exit.inBlock, Exit.then]); refine bodyPost_ret (results_none rfl _ _ _) rfl ?_
  exact ⟨rfl, rfl⟩
set_option maxHeartbeats 2000000 in
theorem sortf_none (p : Option Addr) (cap : Nat) (fv : Value) (w : World) :
    Calls Try.prog 26 #[.slice p 0 cap, fv] w fun e w' => e = .returned (.tuple #[]) ∧ w' = w := by
  have hp := fun lim W => pdq_none p cap lim fv W
  have hl : ∀ W, Calls Try.prog 35 #[.int .u64 0] W fun e w' => e = .returned (.int .i64 (Lib.bitLen 0 : Nat)) ∧ w' = W := fun W => Try.bits_Len 0 W (by omega) (by omega)
  go_enter Try.func26, Try.ntmps26
  go_wp2_with (first | (go_at_call 35; refine (hl _).mono ?_; rintro e w' ⟨rfl, rfl⟩) | (go_at_call 34; refine (hp _ _).mono ?_; rintro e w' ⟨rfl, rfl⟩))
  go_end0
  exact ⟨rfl, rfl⟩

theorem ogEnc_length (x : Og) : (ogEnc x).length = 4 := rfl
theorem ogEnc_one (x : Og) : ∀ v ∈ ogEnc x, v.oneCell' = true := by
  intro v hv
  simp [ogEnc] at hv
  rcases hv with rfl | rfl | rfl | rfl <;> rfl
theorem flat_og (l : List Og) : flatK ogEnc 4 l.toArray = (ogCells l).toArray := by
  apply Array.ext
  · simp [ogCells_length]
  · intro i h1 h2
    have h3 : i < l.length * 4 := by simpa [flatK] using h1
    have hi : i / 4 < l.length := by omega
    obtain ⟨d0, d1, d2, d3⟩ := ogCells_at l (i / 4) hi
    have e : (flatK ogEnc 4 l.toArray)[i] = (ogEnc (l.getD (i / 4) (0, 0, 0, 0)))[i % 4]! := by
      simp [flatK, hi]
    rw [e]
    have e2 : (ogCells l).toArray[i]? = some (ogEnc (l.getD (i / 4) (0, 0, 0, 0)))[i % 4]! := by
      rw [List.getElem?_toArray]
      rcases (by omega : i % 4 = 0 ∨ i % 4 = 1 ∨ i % 4 = 2 ∨ i % 4 = 3) with h | h | h | h
      · rw [h, show i = i / 4 * 4 by omega, d0, show (i / 4 * 4) / 4 = i / 4 by omega]; rfl
      · rw [h, show i = i / 4 * 4 + 1 by omega, d1, show (i / 4 * 4 + 1) / 4 = i / 4 by omega]; rfl
      · rw [h, show i = i / 4 * 4 + 2 by omega, d2, show (i / 4 * 4 + 2) / 4 = i / 4 by omega]; rfl
      · rw [h, show i = i / 4 * 4 + 3 by omega, d3, show (i / 4 * 4 + 3) / 4 = i / 4 by omega]; rfl
    rw [Array.getElem?_eq_getElem h2] at e2
    exact (Option.some.inj e2).symm
theorem holds_block {w : World} {g : Nat} {cur : Array Value} {e : TypeId} {vs : List Value} (hb : w.heap[g]? = some (.cells cur e (0, 0))) (ht : cur.toList.take vs.length = vs) : Holds id w g 0 vs.toArray := by
  intro j hj
  have hj' : j < vs.length := by simpa using hj
  refine ⟨?_, by simp [World.frozen?, hb]⟩
  have h1 : (cur.toList.take vs.length)[j]? = vs[j]? := by rw [ht]
  rw [List.getElem?_take_of_lt hj'] at h1
  simp only [World.cell?, hb, Nat.zero_add]
  simp only [Option.isSome_none, Bool.false_eq_true, if_false]
  rw [← Array.getElem?_toList, h1]
  simp [hj']
theorem heap_put {w : World} {g n : Nat} {os : Array Obj} {cur : Array Value} {e : TypeId} {fr : Nat × Nat} (d : Array Value) (hb : w.heap[g]? = some (.cells cur e fr)) :
    (grow (putRow id (Sort.ahead w n) g 0 d) os).heap[g]? = some (.cells (putCells id 0 d cur) e fr) := by
  have hg : g < w.heap.size := (Array.getElem?_eq_some_iff.1 hb).1
  rw [heap_grow_old _ _ (by simpa using hg)]
  simp [putRow, mapBlock, Sort.ahead, Array.getElem?_modify, hb, onCells]
theorem grownBy_put {w : World} {g n : Nat} {os : Array Obj} (d : Array Value) : w.grownBy (grow (putRow id (Sort.ahead w n) g 0 d) os) (some g) := by
  refine ⟨rfl, rfl, rfl, by simp, fun k hk hne => ?_⟩
  rw [heap_grow_old _ _ (by simpa using hk)]
  have : g ≠ k := fun e => hne (by rw [e])
  simp [putRow, mapBlock, Sort.ahead, Array.getElem?_modify, this]
theorem take_put (cur : Array Value) (ts : List Value) (h : ts.length ≤ cur.size) : (putCells id 0 ts.toArray cur).toList.take ts.length = ts := by
  apply List.ext_getElem?
  intro j
  by_cases hj : j < ts.length
  · rw [List.getElem?_take_of_lt hj, Array.getElem?_toList]
    simp [putCells, hj, show j < cur.size by omega]
  · rw [List.getElem?_take_eq_none (by omega), List.getElem?_eq_none (by omega)]

theorem ogCmp_lt (a b : Og) : ltOf ogCmp a b = decide (ogLt a b) := by
  unfold ltOf
  rw [decide_eq_decide]
  unfold ogCmp orI orI orI orI cmpI ogLt
  repeat' split
  all_goals (first | omega | (constructor <;> intro h <;> omega))
theorem ogSwo : SWO (ltOf ogCmp) where
  irrefl x := by rw [ogCmp_lt, decide_eq_false_iff_not]; unfold ogLt; omega
  trans x y z h1 h2 := by rw [ogCmp_lt, decide_eq_true_eq] at *; unfold ogLt at *; omega
  ntrans x y z h1 h2 := by rw [ogCmp_lt, decide_eq_false_iff_not] at *; unfold ogLt at *; omega
theorem clo_lays (blk off size : Nat) (w : World) : CmpLays Try.prog 22 #[] ogEnc 4 ogCmp blk off size w :=
  fun _ _ _ _ x y => clo_any x y _
/-- slices.SortFunc on a row of the call's own. -/
theorem sortf_own (base : Nat) (v : Value) (xs : List Og) (w : World) (h : w.ownsRow base 27 4 v xs.length (ogCells xs)) (hm : xs.length ≤ 4000000) :
    Calls Try.prog 26 #[v, .func (.func 22) #[] #[]] w fun e w' => e = .returned (.tuple #[]) ∧ ∃ ts : List Og, ts.Perm xs ∧ ts.Pairwise ogLe ∧ w'.ownsRow base 27 4 v ts.length (ogCells ts) ∧ w.grownBy w' v.ownBlock := by
  by_cases h0 : xs = []
  · subst h0
    obtain ⟨A, c, rfl, _⟩ := ownsRow_ogs h
    refine (sortf_none A c _ w).mono ?_
    rintro e w' ⟨rfl, rfl⟩
    exact ⟨rfl, [], List.Perm.refl _, List.Pairwise.nil, h, World.grownBy.refl _ _⟩
  · rcases h.2 with ⟨rfl, h1⟩ | ⟨g, cap, cur, rfl, hb, hg, r1, r2, r3, r4⟩
    · exact absurd (List.eq_nil_of_length_eq_zero h1) h0
    · have eg : ∀ args w, (callFunc 22 args).run Try.prog w = .ok (.enter 22 args) w := enters_of Try.func22 (by kernel_rfl) rfl
      have hH : HoldsK ogEnc 4 w g 0 xs.toArray := by
        unfold HoldsK
        rw [flat_og]
        exact holds_block hg (by rw [ogCells_length]; exact r4)
      have hcon := AnyQ.slices_SortFunc Try.sortOg 4 Try.isAgg27 Try.sizeOf27 ogEnc ogEnc_length ogEnc_one ogCmp ogSwo 22 #[] g 0 cap xs.toArray w eg (clo_lays _ _ _ _) hH (Array.getElem?_eq_some_iff.1 hg).1 (by simp; omega)
      refine Calls.mono (show Calls Try.prog 26 _ _ _ from hcon) ?_
      rintro e w' ⟨rfl, d', n, os, hp, hs, rfl⟩
      obtain ⟨hsz, _, hpm⟩ := hp
      have hsz' : d'.toList.length = xs.length := by simpa using hsz
      refine ⟨rfl, d'.toList, ?_, ?_, ?_, ?_⟩
      · have e1 : d'.extract 0 xs.toArray.size = d' := by rw [← hsz]; simp
        have e2 : xs.toArray.extract 0 xs.toArray.size = xs.toArray := by simp
        rw [e1, e2] at hpm
        simpa using hpm
      · rw [List.pairwise_iff_getElem]
        intro i j hi hj hij
        have := hs i j (Nat.zero_le _) hij (by simpa [hsz'] using hj)
        rw [ogCmp_lt, decide_eq_false_iff_not] at this
        have hi' : i < d'.size := by simpa using hi
        have hj' : j < d'.size := by simpa using hj
        simp only [getElem!_pos, hi', hj'] at this
        simp only [Array.getElem_toList]
        unfold ogLt at this
        unfold ogLe
        omega
      · have ef : flatK ogEnc 4 d' = (ogCells d'.toList).toArray := by have := flat_og d'.toList; simpa using this
        unfold sortWorldK putRowK
        rw [ef, hsz']
        refine ⟨by rw [ogCells_length, hsz'], .inr ⟨g, cap, _, rfl, hb, heap_put _ hg, r1, r2, by simp [putCells, r3], ?_⟩⟩
        have hlen := ogCells_length d'.toList
        have := take_put cur (ogCells d'.toList) (by omega)
        rw [hlen, hsz'] at this
        exact this
      · exact grownBy_put _
end Go.Proofs.Ytklfijhlibpmaaa
