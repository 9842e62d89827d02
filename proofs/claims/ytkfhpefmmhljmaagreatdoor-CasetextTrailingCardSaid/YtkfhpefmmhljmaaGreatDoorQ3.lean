/- Texts in one: Appd, CtM. -/
import Derived.Maps.AppendAt
import Derived.Deep.AppendLies
import Derived.RegionTactic
import Derived.OwnWalk
import Derived.Laws.IdiomCopy
import Derived.Test.YtkfhpefmmhljmaaGreatDoorQ1
import Derived.Test.YtkfhpefmmhljmaaGreatDoorQ2
set_option linter.unusedVariables false
set_option linter.unusedSimpArgs false
set_option maxHeartbeats 16000000
/- Appd -/
namespace Go.Proofs.YtkfhpefmmhljmaaGreatDoor
open Go.RowKit
def Src (w : World) (size : Nat) (A : Option Addr) (m : Nat) (news : List Value) : Prop :=
 news.length = m * size ∧ (0 < m → ∃ ad, A = some ad ∧ ∀ j u, news[j]? = some u → w.cell? (ad.add j) = some u)
theorem IntsR.toSrc {w : World} {B : Nat} {A : Option Addr} {xs : List Int} (h : IntsR w B A xs) : Src w 1 A xs.length (xs.map (Value.int .i64)) := by
 refine ⟨by simp, fun hp => ?_⟩;obtain ⟨b, off, rfl, _, hc⟩ := h hp;refine ⟨_, rfl, fun j v hv => ?_⟩;rw [List.getElem?_map, Option.map_eq_some_iff] at hv;obtain ⟨x, hx, rfl⟩ := hv;have hj : j < xs.length := (List.getElem?_eq_some_iff.1 hx).1;have := hc j hj;rw [List.getD_eq_getElem?_getD, hx] at this;have ha : (⟨b, off, none⟩ : Addr).add j = ⟨b, off + j, none⟩ := by unfold Addr.add; split <;> simp_all
 rw [ha];exact this
section
variable {P : Program} (w : World)
theorem run_append_of_nil (base : Nat) (t ty e : TypeId) (i : TypeInfo) (size : Nat) (ht : P.underlying t = some (.slice e)) (hi : P.info? e = some i)
  (v : Value) (n : Nat) (xs : List Value) (hown : w.ownsRow base e size v n xs) (c : Nat) : (Builtin.append_ #[t, t] ty #[v, .slice none 0 c]).run P w = .ok v w := by
 rcases hown.2 with ⟨rfl, rfl⟩ | ⟨g, cap, cur, rfl, _, _, hnc, _⟩
 ·simp [Builtin.append_, run_underlying ht, sizeOf, typeInfo, hi, Builtin.lenOf, Builtin.firstCells]
 ·simp [Builtin.append_, run_underlying ht, sizeOf, typeInfo, hi, Builtin.lenOf, Builtin.firstCells, hnc, storeCells]
theorem run_append_any (base : Nat) (t ty e : TypeId) (i : TypeInfo) (z : Value) (size bytes : Nat) (ht : P.underlying t = some (.slice e)) (hi : P.info? e = some i) (hz : i.zero = some z)
  (hsize : i.size = size) (hby : i.bytes = bytes) (hzs : z.cells.size = size) (hsz : 0 < size)
  (v : Value) (n : Nat) (xs : List Value) (hown : w.ownsRow base e size v n xs)
  (A : Option Addr) (m c : Nat) (news : List Value) (hr : Src w size A m news) (h1 : ∀ u ∈ news, u.oneCell' = true)
  (h63 : n + m ≤ maxLen) (hbytes : (n + m) * bytes ≤ 140737488355328) (hbase : base ≤ w.heap.size) :
  ∃ v' w', (Builtin.append_ #[t, t] ty #[v, .slice A m c]).run P w = .ok v' w' ∧ w'.ownsRow base e size v' (n + m) (xs ++ news) ∧ w.grownBy w' v.ownBlock ∧
   (v'.ownBlock = v.ownBlock ∨ v'.ownBlock = some w.heap.size) := by
 rcases A with _ | ad
 ·have hm : m = 0 := by
   rcases Nat.eq_zero_or_pos m with h0 | h0
   ·exact h0
   ·obtain ⟨ad, h, _⟩ := hr.2 h0;cases h
  subst hm;have hn : news = [] := List.eq_nil_of_length_eq_zero (by simpa using hr.1);subst hn;exact ⟨v, w, run_append_of_nil w base t ty e i size ht hi v n xs hown c, by simpa using hown, World.grownBy.refl w _, .inl rfl⟩
 ·have hcells : ∀ j u, news[j]? = some u → w.cell? (ad.add j) = some u := by
   intro j u hu;rcases Nat.eq_zero_or_pos m with h0 | h0
   ·subst h0;have hn : news = [] := List.eq_nil_of_length_eq_zero (by simpa using hr.1);subst hn;simp at hu
   ·obtain ⟨ad', h, hc⟩ := hr.2 h0;injection h with h
    subst h;exact hc j u hu
  obtain ⟨v', w', hrun, h2, h3, _, h5⟩ := run_append_own_at (P := P) w base t ty e i z size bytes ht hi hz hsize hby hzs hsz v n xs hown ad m c news hr.1 hcells h1 h63 hbytes hbase;exact ⟨v', w', hrun, h2, h3, h5⟩
theorem wp_append_any {o : Oper} {a : Act} {K : Act → World → Prop} {Q : Exit → Act → World → Prop} (s x : Operand) (t : TypeId)
  (ho : o.op = .call { callee := .builtin .append, args := #[s, x], argTypes := #[t, t] })
  (base : Nat) (e : TypeId) (i : TypeInfo) (z : Value) (size bytes : Nat) (ht : P.underlying t = some (.slice e)) (hi : P.info? e = some i) (hz : i.zero = some z)
  (hsize : i.size = size) (hby : i.bytes = bytes) (hzs : z.cells.size = size) (hsz : 0 < size)
  (v : Value) (n : Nat) (xs : List Value) (hs : a.eval s = v) (hown : w.ownsRow base e size v n xs)
  (A : Option Addr) (m c : Nat) (news : List Value) (hx : a.eval x = .slice A m c) (hr : Src w size A m news) (h1 : ∀ u ∈ news, u.oneCell' = true)
  (h63 : n + m ≤ maxLen) (hbytes : (n + m) * bytes ≤ 140737488355328) (hbase : base ≤ w.heap.size)
  (h : ∀ v' w', w'.ownsRow base e size v' (n + m) (xs ++ news) → w.grownBy w' v.ownBlock → (v'.ownBlock = v.ownBlock ∨ v'.ownBlock = some w.heap.size) → K (a.put o.dst v') w') : o.wp P a w K Q := by
 obtain ⟨v', w', hrun, h2, h3, h4⟩ := run_append_any (P := P) w base t o.type e i z size bytes ht hi hz hsize hby hzs hsz v n xs hown A m c news hr h1 h63 hbytes hbase;unfold Oper.wp execOp;simp only [ho, resolve, invoke, builtin, Sem.run_bind, Sem.run_pure, Result.andThen_ok, List.map_toArray, List.map_cons, List.map_nil, hs, hx, hrun];exact h v' w' h2 h3 h4
theorem wpList_append_any {ops : Array Oper} {rest : List Oper} {o : Oper} {a : Act} {Q : Exit → Act → World → Prop} (hgd : o.guard = none) (s x : Operand) (t : TypeId)
  (ho : o.op = .call { callee := .builtin .append, args := #[s, x], argTypes := #[t, t] })
  (base : Nat) (e : TypeId) (i : TypeInfo) (z : Value) (size bytes : Nat) (ht : P.underlying t = some (.slice e)) (hi : P.info? e = some i) (hz : i.zero = some z)
  (hsize : i.size = size) (hby : i.bytes = bytes) (hzs : z.cells.size = size) (hsz : 0 < size)
  (v : Value) (n : Nat) (xs : List Value) (hs : a.eval s = v) (hown : w.ownsRow base e size v n xs)
  (A : Option Addr) (m c : Nat) (news : List Value) (hx : a.eval x = .slice A m c) (hr : Src w size A m news) (h1 : ∀ u ∈ news, u.oneCell' = true)
  (h63 : n + m ≤ maxLen) (hbytes : (n + m) * bytes ≤ 140737488355328) (hbase : base ≤ w.heap.size)
  (h : ∀ v' w', w'.ownsRow base e size v' (n + m) (xs ++ news) → w.grownBy w' v.ownBlock → (v'.ownBlock = v.ownBlock ∨ v'.ownBlock = some w.heap.size) → wpList P ops Q rest (a.put o.dst v') w') : wpList P ops Q (o :: rest) a w :=
 wpList_plain hgd fun _ hK => wp_append_any w s x t ho base e i z size bytes ht hi hz hsize hby hzs hsz v n xs hs hown A m c news hx hr h1 h63 hbytes hbase fun v' w' h2 h3 h4 => hK _ _ (h v' w' h2 h3 h4)
end
theorem below_appended {W w2 : World} {base : Nat} {e : TypeId} {size : Nat} {v : Value} {k : Nat} {xs : List Value} {tmp : Obj} (hrow : W.ownsRow base e size v k xs) (hb : base ≤ W.heap.size) (hgrow : (W.alloc tmp).grownBy w2 v.ownBlock) : Below base W w2 := by
 refine ((Below.refl base W).alloc hb tmp).grown hgrow (by simp; omega) fun j ej => ?_
 rcases hrow.2 with ⟨rfl, _⟩ | ⟨g, cap, cur, rfl, hb, _, _⟩
 ·simp [Value.ownBlock] at ej
 ·obtain rfl : g = j := by simpa [Value.ownBlock] using ej
  exact hb
theorem ownsRow_setOther {w : World} {base : Nat} {e : TypeId} {size : Nat} {v : Value} {n : Nat} {xs : List Value} (h : w.ownsRow base e size v n xs) {p : Addr} (hp : v.ownBlock ≠ some p.block) (u : Value) : (w.setCell p u).ownsRow base e size v n xs := by
 refine ⟨h.1, ?_⟩;rcases h.2 with h' | ⟨g, cap, cur, h1, h2, h3, h4⟩
 ·exact .inl h'
 ·refine .inr ⟨g, cap, cur, h1, h2, (Below.heap_setCell w p u g (fun e => hp ?_)).trans h3, h4⟩;rw [h1, Value.ownBlock, e]
theorem ownsRow_blocks {w : World} {base : Nat} {e : TypeId} {size : Nat} {v : Value} {n : Nat} {xs : List Value} (h : w.ownsRow base e size v n xs) {b : Nat} (hb : b < base ∨ w.heap.size ≤ b) : v.ownBlock ≠ some b := fun e => by
 have := h.lt b e;omega
theorem ownsRow_slice {w : World} {base : Nat} {e : TypeId} {size : Nat} {v : Value} {n : Nat} {xs : List Value} (h : w.ownsRow base e size v n xs) : ∃ A c, v = .slice A n c ∧ n ≤ c := by
 rcases h.2 with ⟨rfl, rfl⟩ | ⟨g, cap, cur, rfl, _, _, _, hc, _⟩
 ·exact ⟨none, 0, rfl, νr _⟩
 ·exact ⟨_, cap, rfl, by first | omega | skip⟩
def Box (w : World) (b : Nat) (vs : List Value) : Prop := ∀ j, j < vs.length → w.cell? ⟨b, j, none⟩ = vs[j]? ∧ w.frozen? ⟨b, j, none⟩ = false
section
variable {w w' : World} {b B : Nat} {vs vs' : List Value}
theorem Box.new (w : World) (cs : Array Value) (t : TypeId) : Box (w.alloc (.cells cs t)) w.heap.size cs.toList := fun j hj => by
 refine ⟨?_, ?_⟩
 ·rw [cell_alloc_at _ _ _ _ _ rfl]; simp
 ·simp
theorem Box.up (h : Box w b vs) (hb : Below B w w') (hlt : b < B) : Box w' b vs := fun j hj => ⟨(hb.cell (p := ⟨b, j, none⟩) hlt).trans (h j hj).1, (hb.frozen (p := ⟨b, j, none⟩) hlt).trans (h j hj).2⟩
theorem Box.lt (h : Box w b vs) (hn : 0 < vs.length) : b < w.heap.size := by
 have := (h 0 hn).1;rw [List.getElem?_eq_getElem hn] at this;exact World.block_lt_of_cell? w ⟨b, 0, none⟩ this
theorem Box.c (h : Box w b vs) (j : Nat) (v : Value) (hv : vs[j]? = some v) : w.cell? ⟨b, j, none⟩ = some v := ((h j (List.getElem?_eq_some_iff.1 hv).1).1).trans hv
theorem Box.f (h : Box w b vs) (j : Nat) (hj : j < vs.length) : w.frozen? ⟨b, j, none⟩ = false := (h j hj).2
theorem size_sets (w : World) (b : Nat) : ∀ (vs : List Value) (o : Nat), (w.setCells b o vs).heap.size = w.heap.size := by
 intro vs
 induction vs generalizing w with
 | nil => intro o; rfl
 | cons v r ih => intro o; rw [World.setCells, ih, World.size_setCell]
theorem below_sets {a : World} (h : Below B a w) (hb : B ≤ b) : ∀ (vs : List Value) (o : Nat), Below B a (w.setCells b o vs) := by
 intro vs
 induction vs generalizing w with
 | nil => intro o; exact h
 | cons v r ih => intro o; rw [World.setCells]; exact ih (h.setCell (p := ⟨b, o, none⟩) hb v) _
theorem Box.sets (h : Box w b vs) (hl : vs'.length = vs.length) : Box (w.setCells b 0 vs') b vs' := fun j hj => by
 refine ⟨?_, by rw [World.frozen?_setCells]; exact (h j (by omega)).2⟩;have := World.cell?_setCells_in b vs' 0 w (fun i hi => by
  rw [Nat.zero_add, (h i (by omega)).1, List.getElem?_eq_getElem (by omega)]; rfl) j hj
 rw [Nat.zero_add] at this;rw [this, List.getElem?_eq_getElem hj]
theorem Box.set1 (h : Box w b vs) (j : Nat) (hj : j < vs.length) (v : Value) : Box (w.setCell ⟨b, j, none⟩ v) b (vs.set j v) := fun i hi => by
 rw [List.length_set] at hi;refine ⟨?_, by rw [World.frozen?_setCell]; exact (h i hi).2⟩;by_cases e : j = i
 ·subst e;rw [World.cell?_setCell_same _ _ _ ((h j hj).1.trans (List.getElem?_eq_getElem hj))];simp [hj]
 ·rw [World.cell?_setCell_other _ _ _ _ (by simp [e]), (h i hi).1, List.getElem?_set_ne e]
theorem Box.other (h : Box w b vs) {p : Addr} (hp : p.block ≠ b) (v : Value) : Box (w.setCell p v) b vs := fun i hi =>
 ⟨by rw [World.cell?_setCell_other _ _ _ _ (fun e => hp (by rw [e]))]; exact (h i hi).1, by rw [World.frozen?_setCell]; exact (h i hi).2⟩
theorem Box.others (h : Box w b vs) {b' : Nat} (hp : b' ≠ b) (o : Nat) (us : List Value) : Box (w.setCells b' o us) b vs := fun i hi =>
 ⟨by rw [World.cell?_setCells_out _ _ _ _ _ (fun e => absurd e.symm hp)]; exact (h i hi).1, by rw [World.frozen?_setCells]; exact (h i hi).2⟩
theorem Box.alloc (h : Box w b vs) (hlt : b < w.heap.size) (o : Obj) : Box (w.alloc o) b vs := h.up ((Below.refl w.heap.size w).alloc (νr _) o) hlt
end
end Go.Proofs.YtkfhpefmmhljmaaGreatDoor
