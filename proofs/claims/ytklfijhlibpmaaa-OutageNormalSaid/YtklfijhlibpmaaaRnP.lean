/- pylonref21.Normal: plain facts and the words for its regions. -/
import Derived.Test.YtklfijhlibpmaaaOfoP
import Derived.Test.YtklfijhlibpmaaaOunW
namespace Go.Proofs.Ytklfijhlibpmaaa
open Go.RowKit
set_option linter.unusedVariables false

theorem ogIns_at (o : Og) : ∀ (s : List Og) (m : Nat), (∀ j, j < m → ¬ ogLt o (s.getD j (0, 0, 0, 0))) → (m = s.length ∨ m < s.length ∧ ogLt o (s.getD m (0, 0, 0, 0))) → ogIns o s = s.take m ++ (o :: s.drop m) := by
  intro s
  induction s with
  | nil =>
    intro m h1 h2
    rcases h2 with rfl | ⟨h, _⟩
    · rfl
    · simp at h
  | cons b s ih =>
    intro m h1 h2
    rw [ogIns]
    cases m with
    | zero =>
      rcases h2 with h2 | ⟨_, h2⟩
      · simp at h2
      · rw [if_pos (by simpa using h2)]; rfl
    | succ m =>
      have h0 := h1 0 (by omega)
      rw [if_neg (by simpa using h0)]
      have := ih m (fun j hj => by have := h1 (j + 1) (by omega); simpa using this) (by
        rcases h2 with h2 | ⟨h2, h3⟩
        · left; simpa using h2
        · right; exact ⟨by simpa using h2, by simpa using h3⟩)
      rw [this]
      rfl
theorem ogSrt_live {l : List Og} {k : Nat} (h : (l.getD k (0, 0, 0, 0)).2.2.1 ≤ (l.getD k (0, 0, 0, 0)).2.2.2) : ogSrt l (k + 1) = ogIns (l.getD k (0, 0, 0, 0)) (ogSrt l k) := by rw [ogSrt, if_pos h]
theorem ogSrt_dead {l : List Og} {k : Nat} (h : (l.getD k (0, 0, 0, 0)).2.2.2 < (l.getD k (0, 0, 0, 0)).2.2.1) : ogSrt l (k + 1) = ogSrt l k := by rw [ogSrt, if_neg (by omega)]
theorem ogSrt_b {l : List Og} (h : OgBs l) (k : Nat) (hk : k ≤ l.length) : OgBs (ogSrt l k) := fun o ho => h o (List.mem_of_mem_take ((ogSrt_mem l o k hk).1 ho).1)
theorem ownsRow_ogc {w : World} {base : Nat} {v : Value} {ls : List Og} (h : w.ownsRow base 27 4 v ls.length (ogCells ls)) : ∃ A c, v = .slice A ls.length c ∧ ls.length ≤ c ∧ OgsR w w.heap.size A ls := by
  rcases h.2 with ⟨rfl, h0⟩ | ⟨g, cap, cur, rfl, hb, hg, h1, h2, h3, h4⟩
  · obtain rfl : ls = [] := List.eq_nil_of_length_eq_zero h0
    exact ⟨none, 0, rfl, Nat.le_refl _, OgsR.nil_⟩
  · exact ⟨_, _, rfl, h1, OgsR.of_block hg h4⟩
def RestF (vals : Nat → Value) (s : Nat) (o : Og) (tl : List Og) (done : Nat → Prop) (i : Nat) (v : Value) (W : World) : Prop :=
  match i with
  | 4 => ¬ done 8 → W.ownsRow s 27 4 v 1 (ogCells [o])
  | 8 => W.ownsRow s 27 4 v tl.length (ogCells tl)
  | 9 => W.ownsRow s 27 4 v tl.length (ogCells tl)
  | i => v = vals i
theorem RestF.keep {vals : Nat → Value} {s : Nat} {o : Og} {tl : List Og} {done : Nat → Prop} {j : Nat} {v : Value} {W W' : World} (h : RestF vals s o tl done j v W) (hb : Below W.heap.size W W') (i : Nat) : RestF vals s o tl (more done i) j v W' := by
  unfold RestF at h ⊢
  split at h
  all_goals first
    | exact fun h7 => ownsRow_below (h fun hh => h7 (.inr hh)) hb
    | exact ownsRow_below h hb
    | exact h
theorem row_one (w : World) (o : Og) : (w.alloc (.cells #[.int .u8 o.1, .int .i64 o.2.1, .int .i64 o.2.2.1, .int .i64 o.2.2.2] 27)).ownsRow w.heap.size 27 4 (.slice (some ⟨w.heap.size, 0, none⟩) 1 1) 1 (ogCells [o]) :=
  ⟨rfl, .inr ⟨w.heap.size, 1, #[.int .u8 o.1, .int .i64 o.2.1, .int .i64 o.2.2.1, .int .i64 o.2.2.2], rfl, Nat.le_refl _, heap_alloc_new w _, Nat.le_refl _, by simp only [maxLen]; omega, rfl, rfl⟩⟩
end Go.Proofs.Ytklfijhlibpmaaa
