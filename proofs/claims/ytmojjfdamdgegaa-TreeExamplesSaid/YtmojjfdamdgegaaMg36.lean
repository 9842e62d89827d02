/- The text Rows2. -/
import Derived.Test.YtmojjfdamdgegaaMg11
import Derived.Test.YtmojjfdamdgegaaMg25
import Derived.Test.YtmojjfdamdgegaaMg26
/- A slice of slices of ints of the call's own. -/
namespace Go.Proofs.Ytmojjfdamdgegaa
open Go.RowKit
set_option linter.unusedVariables false

/-- v is a slice of slices of the call's own: the rows. -/
def RowsOwn (w : World) (base : Nat) (v : Value) (rows : List (List Int)) : Prop :=
  ∃ vs : List Value, vs.length = rows.length ∧ w.ownsRow base 25 1 v rows.length vs ∧
    (∀ (i : Nat) (r : List Int), rows[i]? = some r → ∃ u, vs[i]? = some u ∧ w.ownsRow base 3 1 u r.length (r.map (Value.int .i64))) ∧
    (∀ (i j : Nat) (u u' : Value), vs[i]? = some u → vs[j]? = some u' → i ≠ j → u.ownBlock = none ∨ u.ownBlock ≠ u'.ownBlock)

theorem RowsOwn.nil_ (w : World) (base : Nat) : RowsOwn w base (.slice none 0 0) [] :=
  ⟨[], rfl, World.ownsRow_nil _ _ _ _, fun i r h => by simp at h, fun i j u u' h => by simp at h⟩

theorem RowsOwn.base_ {w : World} {b b' : Nat} {v : Value} {rows : List (List Int)} (h : RowsOwn w b v rows) (hb : b' ≤ b) : RowsOwn w b' v rows := by
  obtain ⟨vs, h1, h2, h3, h4⟩ := h
  exact ⟨vs, h1, ownsRow_base h2 hb, fun i r hr => by obtain ⟨u, hu, ho⟩ := h3 i r hr; exact ⟨u, hu, ownsRow_base ho hb⟩, h4⟩

theorem RowsOwn.kept {w w' : World} {b : Nat} {v : Value} {rows : List (List Int)} (h : RowsOwn w b v rows) (hb : Below w.heap.size w w') : RowsOwn w' b v rows := by
  obtain ⟨vs, h1, h2, h3, h4⟩ := h
  have hg : w.grownBy w' none := ⟨hb.os, hb.tape, hb.output, hb.size, fun k hk _ => hb.block k hk⟩
  have em : ∀ v : Value, v.ownBlock = none ∨ v.ownBlock ≠ none := fun v => Classical.em _
  exact ⟨vs, h1, h2.kept hg (em _), fun i r hr => by obtain ⟨u, hu, ho⟩ := h3 i r hr; exact ⟨u, hu, ho.kept hg (em _)⟩, h4⟩

theorem mem_lt_one {α : Type} {x y : α} {i : Nat} (h : [x][i]? = some y) : i < 1 := by
  have := (List.getElem?_eq_some_iff.1 h).1
  simpa using this
theorem mem_ne {vs : List Value} {i : Nat} {u : Value} (h : vs[i]? = some u) : i < vs.length := (List.getElem?_eq_some_iff.1 h).1

/-- members = append(members, nil) -/
theorem RowsOwn.more {w w2 : World} {base : Nat} {v v' : Value} {rows : List (List Int)} {vs : List Value} {tmp : Obj} (h1 : vs.length = rows.length) (h2 : w.ownsRow base 25 1 v rows.length vs)
    (h3 : ∀ (i : Nat) (r : List Int), rows[i]? = some r → ∃ u, vs[i]? = some u ∧ w.ownsRow base 3 1 u r.length (r.map (Value.int .i64)))
    (h4 : ∀ (i j : Nat) (u u' : Value), vs[i]? = some u → vs[j]? = some u' → i ≠ j → u.ownBlock = none ∨ u.ownBlock ≠ u'.ownBlock)
    (hown : w2.ownsRow base 25 1 v' (rows.length + 1) (vs ++ [.slice none 0 0])) (hg : (w.alloc tmp).grownBy w2 v.ownBlock) : RowsOwn w2 base v' (rows ++ [[]]) := by
  refine ⟨vs ++ [.slice none 0 0], by simp [h1], by simpa using hown, fun i r hr => ?_, fun i j u u' hi hj hij => ?_⟩
  · rw [List.getElem?_append] at hr
    by_cases hl : i < rows.length
    · rw [if_pos hl] at hr
      obtain ⟨u, hu, ho⟩ := h3 i r hr
      exact ⟨u, by rw [List.getElem?_append_left (by omega)]; exact hu, (ho.alloc tmp).kept hg (own_ne h2 ho (by decide))⟩
    · rw [if_neg hl] at hr
      have hi0 : i - rows.length = 0 := by have := mem_lt_one hr; omega
      rw [hi0] at hr
      simp at hr
      subst hr
      exact ⟨.slice none 0 0, by rw [List.getElem?_append_right (by omega), show i - vs.length = 0 by omega]; rfl, World.ownsRow_nil _ _ _ _⟩
  · rw [List.getElem?_append] at hi hj
    by_cases hl : i < vs.length
    · rw [if_pos hl] at hi
      by_cases hl' : j < vs.length
      · rw [if_pos hl'] at hj
        exact h4 i j u u' hi hj hij
      · rw [if_neg hl'] at hj
        have : u' = .slice none 0 0 := by
          have hj0 := mem_lt_one hj
          rw [show j - vs.length = 0 by omega] at hj
          simpa using hj.symm
        subst this
        exact Classical.em _
    · rw [if_neg hl] at hi
      have : u = .slice none 0 0 := by
        have hi0 := mem_lt_one hi
        rw [show i - vs.length = 0 by omega] at hi
        simpa using hi.symm
      subst this
      exact .inl rfl

/-- members[i] = append(members[i], b) -/
theorem RowsOwn.put {w w2 : World} {base g0 cap i : Nat} {rows : List (List Int)} {vs : List Value} {tmp : Obj} {u u' : Value} {r : List Int} {x : Int} (h1 : vs.length = rows.length)
    (h2 : w.ownsRow base 25 1 (.slice (some ⟨g0, 0, none⟩) rows.length cap) rows.length vs)
    (h3 : ∀ (i : Nat) (r : List Int), rows[i]? = some r → ∃ u, vs[i]? = some u ∧ w.ownsRow base 3 1 u r.length (r.map (Value.int .i64)))
    (h4 : ∀ (i j : Nat) (u u' : Value), vs[i]? = some u → vs[j]? = some u' → i ≠ j → u.ownBlock = none ∨ u.ownBlock ≠ u'.ownBlock)
    (hr : rows[i]? = some r) (hu : vs[i]? = some u) (hru : w.ownsRow base 3 1 u r.length (r.map (Value.int .i64)))
    (hown : w2.ownsRow base 3 1 u' (r.length + 1) (r.map (Value.int .i64) ++ [.int .i64 x])) (hg : (w.alloc tmp).grownBy w2 u.ownBlock)
    (hat : u'.ownBlock = u.ownBlock ∨ u'.ownBlock = some (w.alloc tmp).heap.size) :
    RowsOwn (w2.setCell ⟨g0, i, none⟩ u') base (.slice (some ⟨g0, 0, none⟩) rows.length cap) (rows.set i (r ++ [x])) := by
  have hil : i < rows.length := (List.getElem?_eq_some_iff.1 hr).1
  have hne0 := own_ne hru h2 (by decide)
  have ho2 : w2.ownsRow base 25 1 (.slice (some ⟨g0, 0, none⟩) rows.length cap) rows.length vs := (h2.alloc tmp).kept hg hne0
  have hst := (ho2.stored i u').1
  have hgs : ∀ (y : Value) (k : Nat) (ys : List Value), w2.ownsRow base 3 1 y k ys → (w2.setCell ⟨g0, i, none⟩ u').ownsRow base 3 1 y k ys := by
    intro y k ys hy
    have hk : w2.grownBy (w2.setCell ⟨g0, i, none⟩ u') (some g0) := ⟨rfl, rfl, rfl, by simp [World.setCell], fun j _ hj => Below.heap_setCell _ _ _ j (fun e => hj (by rw [e]))⟩
    have := own_ne ho2 hy (by decide)
    exact hy.kept hk (by simpa [Value.ownBlock] using this)
  refine ⟨vs.set i u', by simp [h1], by simpa using hst, fun j q hq => ?_, fun j k y y' hj hk hjk => ?_⟩
  · rw [List.getElem?_set] at hq
    by_cases hij : i = j
    · rw [if_pos hij, if_pos hil] at hq
      injection hq with hq
      subst hq
      refine ⟨u', by rw [List.getElem?_set, if_pos hij, if_pos (by omega)], ?_⟩
      have := hgs _ _ _ hown
      simpa using this
    · rw [if_neg hij] at hq
      obtain ⟨y, hy, ho⟩ := h3 j q hq
      refine ⟨y, by rw [List.getElem?_set, if_neg hij]; exact hy, hgs _ _ _ ((ho.alloc tmp).kept hg ?_)⟩
      exact h4 j i y u hy hu (fun e => hij e.symm)
  · rw [List.getElem?_set] at hj hk
    have old : ∀ {k : Nat} {y : Value}, vs[k]? = some y → i ≠ k → u'.ownBlock = none ∨ u'.ownBlock ≠ y.ownBlock := by
      intro k y hy hik
      rcases hat with h | h
      · rw [h]; exact h4 i k u y hu hy hik
      · right
        rw [h]
        intro e
        obtain ⟨q, hq⟩ : ∃ q, rows[k]? = some q := ⟨_, List.getElem?_eq_getElem (by have := mem_ne hy; omega)⟩
        obtain ⟨y', hy', ho⟩ := h3 k q hq
        rw [hy] at hy'
        cases hy'
        have := (ho.lt _ e.symm).2
        simp at this
        omega
    by_cases hij : i = j
    · rw [if_pos hij, if_pos (by omega)] at hj
      rw [if_neg (by omega)] at hk
      injection hj with hj
      subst hj
      exact old hk (by omega)
    · rw [if_neg hij] at hj
      by_cases hik : i = k
      · rw [if_pos hik, if_pos (by omega)] at hk
        injection hk with hk
        subst hk
        rcases old hj hij with h | h
        · by_cases hn : y.ownBlock = none
          · exact .inl hn
          · right; rw [h]; exact hn
        · exact .inr (fun e => h e.symm)
      · rw [if_neg hik] at hk
        exact h4 j k y y' hj hk hjk
end Go.Proofs.Ytmojjfdamdgegaa
