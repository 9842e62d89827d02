/- Texts in one: Appd, CtM, OngR, OgW. -/
import Derived.BigQuiet
import Derived.BigGuardPart
import Derived.Test.YtkfhpefmmhljmaaGreatDoorR2
import Derived.Test.YtkfhpefmmhljmaaGreatDoorR5
set_option linter.unusedVariables false
set_option linter.unusedSimpArgs false
set_option maxHeartbeats 16000000
namespace Go.Proofs.YtkfhpefmmhljmaaGreatDoor
open Go.RowKit
def Src (w : World) (size : Nat) (A : Option Addr) (m : Nat) (news : List Value) : Prop :=
 news.length = m * size ∧ (0 < m → ∃ ad, A = some ad ∧ ∀ j u, news[j]? = some u → w.cell? (ad.add j) = some u)
theorem IntsR.toSrc {w : World} {B : Nat} {A : Option Addr} {xs : List Int} (h : IntsR w B A xs) : Src w 1 A xs.length (xs.map (Value.int .i64)) := by
 refine ⟨by simp, fun hp => ?_⟩;obtain ⟨b, off, rfl, _, hc⟩ := h hp;refine ⟨_, rfl, fun j v hv => ?_⟩;rw [List.getElem?_map, Option.map_eq_some_iff] at hv;obtain ⟨x, hx, rfl⟩ := hv;have hj : j < xs.length := (List.getElem?_eq_some_iff.1 hx).1;have := hc j hj;rw [List.getD_eq_getElem?_getD, hx] at this;have ha : (⟨b, off, none⟩ : Addr).add j = ⟨b, off + j, none⟩ := by unfold Addr.add; split <;> simp_all
 rw [ha];exact this
section
variable {P : Program} (w : World)
theorem yZ (base : Nat) (t ty e : TypeId) (i : TypeInfo) (size : Nat) (ht : P.underlying t = some (.slice e)) (hi : P.info? e = some i)
  (v : Value) (n : Nat) (xs : List Value) (hown : w.ownsRow base e size v n xs) (c : Nat) : (Builtin.append_ #[t, t] ty #[v, .slice none 0 c]).run P w = .ok v w := by
 rcases hown.2 with ⟨rfl, rfl⟩ | ⟨g, cap, cur, rfl, _, _, hnc, _⟩
 ·simp [Builtin.append_, run_underlying ht, sizeOf, typeInfo, hi, Builtin.lenOf, Builtin.firstCells]
 ·simp [Builtin.append_, run_underlying ht, sizeOf, typeInfo, hi, Builtin.lenOf, Builtin.firstCells, hnc, storeCells]
theorem fS (base : Nat) (t ty e : TypeId) (i : TypeInfo) (z : Value) (size bytes : Nat) (ht : P.underlying t = some (.slice e)) (hi : P.info? e = some i) (hz : i.zero = some z)
  (hsize : i.size = size) (hby : i.bytes = bytes) (hzs : z.cells.size = size) (hsz : 0 < size)
  (v : Value) (n : Nat) (xs : List Value) (hown : w.ownsRow base e size v n xs)
  (A : Option Addr) (m c : Nat) (news : List Value) (hr : Src w size A m news) (h1 : ∀ u ∈ news, u.oneCell' = true)
  (h63 : n + m ≤ maxLen) (hbytes : (n + m) * bytes ≤ 140737488355328) (hbase : base ≤ w) :
  ∃ v' w', (Builtin.append_ #[t, t] ty #[v, .slice A m c]).run P w = .ok v' w' ∧ w'.ownsRow base e size v' (n + m) (xs ++ news) ∧ w.grownBy w' v.ownBlock ∧
   (v'.ownBlock = v.ownBlock ∨ v'.ownBlock = some w.heap.size) := by
 rcases A with _ | ad
 ·have hm : m = 0 := by
   rcases Nat.eq_zero_or_pos m with h0 | h0
   ·exact h0
   ·obtain ⟨ad, h, _⟩ := hr.2 h0;cases h
  subst hm;have hn : news = [] := List.eq_nil_of_length_eq_zero (by simpa using hr.1);subst hn;exact ⟨v, w, yZ w base t ty e i size ht hi v n xs hown c, by simpa using hown, World.grownBy.refl w _, .inl rfl⟩
 ·have hcells : ∀ j u, news[j]? = some u → w.cell? (ad.add j) = some u := by
   intro j u hu;rcases Nat.eq_zero_or_pos m with h0 | h0
   ·subst h0;have hn : news = [] := List.eq_nil_of_length_eq_zero (by simpa using hr.1);subst hn;simp at hu
   ·obtain ⟨ad', h, hc⟩ := hr.2 h0;injection h with h
    subst h;exact hc j u hu
  obtain ⟨v', w', hrun, h2, h3, _, h5⟩ := run_append_own_at (P := P) w base t ty e i z size bytes ht hi hz hsize hby hzs hsz v n xs hown ad m c news hr.1 hcells h1 h63 hbytes hbase;exact ⟨v', w', hrun, h2, h3, h5⟩
theorem yC {o : Oper} {a : Act} {K : Act → World → Prop} {Q : Exit → Act → World → Prop} (s x : Operand) (t : TypeId)
  (ho : o.op = .call { callee := .builtin .append, args := #[s, x], argTypes := #[t, t] })
  (base : Nat) (e : TypeId) (i : TypeInfo) (z : Value) (size bytes : Nat) (ht : P.underlying t = some (.slice e)) (hi : P.info? e = some i) (hz : i.zero = some z)
  (hsize : i.size = size) (hby : i.bytes = bytes) (hzs : z.cells.size = size) (hsz : 0 < size)
  (v : Value) (n : Nat) (xs : List Value) (hs : a.eval s = v) (hown : w.ownsRow base e size v n xs)
  (A : Option Addr) (m c : Nat) (news : List Value) (hx : a.eval x = .slice A m c) (hr : Src w size A m news) (h1 : ∀ u ∈ news, u.oneCell' = true)
  (h63 : n + m ≤ maxLen) (hbytes : (n + m) * bytes ≤ 140737488355328) (hbase : base ≤ w)
  (h : ∀ v' w', w'.ownsRow base e size v' (n + m) (xs ++ news) → w.grownBy w' v.ownBlock → (v'.ownBlock = v.ownBlock ∨ v'.ownBlock = some w.heap.size) → K (a.put o.dst v') w') : o.wp P a w K Q := by
 obtain ⟨v', w', hrun, h2, h3, h4⟩ := fS (P := P) w base t o.type e i z size bytes ht hi hz hsize hby hzs hsz v n xs hown A m c news hr h1 h63 hbytes hbase;unfold Oper.wp execOp;simp only [ho, resolve, invoke, builtin, Sem.run_bind, Sem.run_pure, Result.andThen_ok, List.map_toArray, List.map_cons, List.map_nil, hs, hx, hrun];exact h v' w' h2 h3 h4
theorem jJ {ops : Array Oper} {rest : List Oper} {o : Oper} {a : Act} {Q : Exit → Act → World → Prop} (hgd : o.guard = none) (s x : Operand) (t : TypeId)
  (ho : o.op = .call { callee := .builtin .append, args := #[s, x], argTypes := #[t, t] })
  (base : Nat) (e : TypeId) (i : TypeInfo) (z : Value) (size bytes : Nat) (ht : P.underlying t = some (.slice e)) (hi : P.info? e = some i) (hz : i.zero = some z)
  (hsize : i.size = size) (hby : i.bytes = bytes) (hzs : z.cells.size = size) (hsz : 0 < size)
  (v : Value) (n : Nat) (xs : List Value) (hs : a.eval s = v) (hown : w.ownsRow base e size v n xs)
  (A : Option Addr) (m c : Nat) (news : List Value) (hx : a.eval x = .slice A m c) (hr : Src w size A m news) (h1 : ∀ u ∈ news, u.oneCell' = true)
  (h63 : n + m ≤ maxLen) (hbytes : (n + m) * bytes ≤ 140737488355328) (hbase : base ≤ w)
  (h : ∀ v' w', w'.ownsRow base e size v' (n + m) (xs ++ news) → w.grownBy w' v.ownBlock → (v'.ownBlock = v.ownBlock ∨ v'.ownBlock = some w.heap.size) → wpList P ops Q rest (a.put o.dst v') w') : wpList P ops Q (o :: rest) a w :=
 wpList_plain hgd fun _ hK => yC w s x t ho base e i z size bytes ht hi hz hsize hby hzs hsz v n xs hs hown A m c news hx hr h1 h63 hbytes hbase fun v' w' h2 h3 h4 => hK _ _ (h v' w' h2 h3 h4)
end
theorem zF {W w2 : World} {base : Nat} {e : TypeId} {size : Nat} {v : Value} {k : Nat} {xs : List Value} {tmp : Obj} (hrow : W.ownsRow base e size v k xs) (hb : base ≤ W) (hgrow : (W.alloc tmp).grownBy w2 v.ownBlock) : Below base W w2 := by
 refine ((Below.refl base W).alloc hb tmp).grown hgrow (by simp; omega) fun j ej => ?_
 rcases hrow.2 with ⟨rfl, _⟩ | ⟨g, cap, cur, rfl, hb, _, _⟩
 ·simp [Value.ownBlock] at ej
 ·obtain rfl : g = j := by simpa [Value.ownBlock] using ej
  exact hb
theorem zL {w : World} {base : Nat} {e : TypeId} {size : Nat} {v : Value} {n : Nat} {xs : List Value} (h : w.ownsRow base e size v n xs) {p : Addr} (hp : v.ownBlock ≠ some p.block) (u : Value) : (w.setCell p u).ownsRow base e size v n xs := by
 refine ⟨h.1, ?_⟩;rcases h.2 with h' | ⟨g, cap, cur, h1, h2, h3, h4⟩
 ·exact .inl h'
 ·refine .inr ⟨g, cap, cur, h1, h2, (Below.heap_setCell w p u g (fun e => hp ?_)).trans h3, h4⟩;rw [h1, Value.ownBlock, e]
theorem qZ {w : World} {base : Nat} {e : TypeId} {size : Nat} {v : Value} {n : Nat} {xs : List Value} (h : w.ownsRow base e size v n xs) {b : Nat} (hb : b < base ∨ w ≤ b) : v.ownBlock ≠ some b := fun e => by
 have := h.lt b e;omega
theorem zQ {w : World} {base : Nat} {e : TypeId} {size : Nat} {v : Value} {n : Nat} {xs : List Value} (h : w.ownsRow base e size v n xs) : ∃ A c, v = .slice A n c ∧ n ≤ c := by
 rcases h.2 with ⟨rfl, rfl⟩ | ⟨g, cap, cur, rfl, _, _, _, hc, _⟩
 ·exact ⟨none, 0, rfl, νr _⟩
 ·exact ⟨_, cap, rfl, by first | omega | skip⟩
def Box (w : World) (b : Nat) (vs : List Value) : Prop := ∀ j, j < vs.length → w.cell? ⟨b, j, none⟩ = vs[j]? ∧ w.frozen? ⟨b, j, none⟩ = false
section
variable {w w' : World} {b B : Nat} {vs vs' : List Value}
theorem Box.new (w : World) (cs : Array Value) (t : TypeId) : Box (w.alloc (.cells cs t)) w cs.toList := fun j hj => by
 refine ⟨?_, ?_⟩
 ·rw [jU _ _ _ _ _ rfl]; simp
 ·simp
theorem Box.up (h : Box w b vs) (hb : Below B w w') (hlt : b < B) : Box w' b vs := fun j hj => ⟨(hb.cell (p := ⟨b, j, none⟩) hlt).trans (h j hj).1, (hb.frozen (p := ⟨b, j, none⟩) hlt).trans (h j hj).2⟩
theorem Box.lt (h : Box w b vs) (hn : 0 < vs.length) : b < w := by
 have := (h 0 hn).1;rw [κg hn] at this;exact World.block_lt_of_cell? w ⟨b, 0, none⟩ this
theorem Box.c (h : Box w b vs) (j : Nat) (v : Value) (hv : vs[j]? = some v) : w.cell? ⟨b, j, none⟩ = some v := ((h j (List.getElem?_eq_some_iff.1 hv).1).1).trans hv
theorem Box.f (h : Box w b vs) (j : Nat) (hj : j < vs.length) : w.frozen? ⟨b, j, none⟩ = false := (h j hj).2
theorem zE (w : World) (b : Nat) : ∀ (vs : List Value) (o : Nat), (w.setCells b o vs).heap.size = w.heap.size := by
 intro vs
 induction vs generalizing w with
 | nil => intro o; rfl
 | cons v r ih => intro o; rw [World.setCells, ih, World.size_setCell]
theorem zD {a : World} (h : Below B a w) (hb : B ≤ b) : ∀ (vs : List Value) (o : Nat), Below B a (w.setCells b o vs) := by
 intro vs
 induction vs generalizing w with
 | nil => intro o; exact h
 | cons v r ih => intro o; rw [World.setCells]; exact ih (h.setCell (p := ⟨b, o, none⟩) hb v) _
theorem Box.sets (h : Box w b vs) (hl : vs'.length = vs.length) : Box (w.setCells b 0 vs') b vs' := fun j hj => by
 refine ⟨?_, by rw [World.frozen?_setCells]; exact (h j (by omega)).2⟩;have := World.cell?_setCells_in b vs' 0 w (fun i hi => by
  rw [Nat.zero_add, (h i (by omega)).1, κg (by omega)]; rfl) j hj
 rw [Nat.zero_add] at this;rw [this, κg hj]
theorem Box.set1 (h : Box w b vs) (j : Nat) (hj : j < vs.length) (v : Value) : Box (w.setCell ⟨b, j, none⟩ v) b (vs.set j v) := fun i hi => by
 rw [List.length_set] at hi;refine ⟨?_, by rw [World.frozen?_setCell]; exact (h i hi).2⟩;by_cases e : j = i
 ·subst e;rw [World.cell?_setCell_same _ _ _ ((h j hj).1.trans (κg hj))];simp [hj]
 ·rw [κo _ _ _ _ (by simp [e]), (h i hi).1, List.getElem?_set_ne e]
theorem Box.other (h : Box w b vs) {p : Addr} (hp : p.block ≠ b) (v : Value) : Box (w.setCell p v) b vs := fun i hi =>
 ⟨by rw [κo _ _ _ _ (fun e => hp (by rw [e]))]; exact (h i hi).1, by rw [World.frozen?_setCell]; exact (h i hi).2⟩
theorem Box.others (h : Box w b vs) {b' : Nat} (hp : b' ≠ b) (o : Nat) (us : List Value) : Box (w.setCells b' o us) b vs := fun i hi =>
 ⟨by rw [World.cell?_setCells_out _ _ _ _ _ (fun e => absurd e.symm hp)]; exact (h i hi).1, by rw [World.frozen?_setCells]; exact (h i hi).2⟩
theorem Box.alloc (h : Box w b vs) (hlt : b < w) (o : Obj) : Box (w.alloc o) b vs := h.up ((Below.refl w w).alloc (νr _) o) hlt
end
end Go.Proofs.YtkfhpefmmhljmaaGreatDoor
namespace Go.Proofs.YtkfhpefmmhljmaaGreatDoor
def vY (l m : List Og) : Prop := ∀ k x h : Int, (∃ o ∈ l, ogCov o k x h) ↔ ∃ o ∈ m, ogCov o k x h
theorem vY.symm {l m : List Og} (h : vY l m) : vY m l := fun k x t => (h k x t).symm
theorem vY.trans {l m n : List Og} (h : vY l m) (h' : vY m n) : vY l n := fun k x t => (h k x t).trans (h' k x t)
theorem sM : ∀ (l m : List Og), (∀ o ∈ l, o.2.2.1 ≤ o.2.2.2) → (∀ o ∈ m, o.2.2.1 ≤ o.2.2.2) → l.Pairwise ogSep → m.Pairwise ogSep → vY l m → l = m := by
 intro l
 induction l with
 | nil =>
  intro m _ hm _ _ hs;cases m with
  | nil => rfl
  | cons b m =>
   obtain ⟨o, ho, _⟩ := (hs b.1 b.2.1 b.2.2.1).2 ⟨b, by simp, rfl, rfl, Int.le_refl _, hm b (by simp)⟩;simp at ho
 | cons a l ih =>
  intro m hl hm pl pm hs;cases m with
  | nil =>
   obtain ⟨o, ho, _⟩ := (hs a.1 a.2.1 a.2.2.1).1 ⟨a, by simp, rfl, rfl, Int.le_refl _, hl a (by simp)⟩;simp at ho
  | cons b m =>
   obtain ⟨pl1, pl2⟩ := List.pairwise_cons.1 pl;obtain ⟨pm1, pm2⟩ := List.pairwise_cons.1 pm;have ha := hl a (by simp);have hb := hm b (by simp);have low : ∀ (u : Og) (t : List Og), (∀ o ∈ t, ogSep u o) → u.2.2.1 ≤ u.2.2.2 → ∀ k x h : Int, (∃ o ∈ u :: t, ogCov o k x h) → u.1 < k ∨ u.1 = k ∧ (u.2.1 < x ∨ u.2.1 = x ∧ u.2.2.1 ≤ h) := by
    rintro u t hu hut k x h ⟨o, ho, hc⟩;rcases List.mem_cons.1 ho with rfl | ho
    ·unfold ogCov at hc; omega
    ·have := hu o ho;unfold ogSep ogCov at *; omega
   have e1 := low b m pm1 hb _ _ _ ((hs a.1 a.2.1 a.2.2.1).1 ⟨a, by simp, rfl, rfl, Int.le_refl _, ha⟩);have e2 := low a l pl1 ha _ _ _ ((hs b.1 b.2.1 b.2.2.1).2 ⟨b, by simp, rfl, rfl, Int.le_refl _, hb⟩);have k1 : a.1 = b.1 := by omega
   have k2 : a.2.1 = b.2.1 := by omega
   have k3 : a.2.2.1 = b.2.2.1 := by omega
   have up : ∀ (u : Og) (t : List Og), (∀ o ∈ t, ogSep u o) → ¬ ∃ o ∈ u :: t, ogCov o u.1 u.2.1 (u.2.2.2 + 1) := by
    rintro u t hu ⟨o, ho, hc⟩;rcases List.mem_cons.1 ho with rfl | ho
    ·unfold ogCov at hc; omega
    ·have := hu o ho;unfold ogSep ogCov at *; omega
   have k4 : a.2.2.2 = b.2.2.2 := by
    rcases Int.lt_trichotomy a.2.2.2 b.2.2.2 with h | h | h
    ·exact absurd ((hs a.1 a.2.1 (a.2.2.2 + 1)).2 ⟨b, by simp, k1.symm, k2.symm, by omega, by omega⟩) (up a l pl1)
    ·exact h
    ·exact absurd ((hs b.1 b.2.1 (b.2.2.2 + 1)).1 ⟨a, by simp, k1, k2, by omega, by omega⟩) (up b m pm1)
   have hab : a = b := by
    obtain ⟨a1, a2, a3, a4⟩ := a;obtain ⟨b1, b2, b3, b4⟩ := b;simp only at k1 k2 k3 k4;rw [k1, k2, k3, k4]
   subst hab;have tail : ∀ (t t' : List Og), (∀ o ∈ t, ogSep a o) → (∀ o ∈ t', ogSep a o) → vY (a :: t) (a :: t') → ∀ k x h : Int, (∃ o ∈ t, ogCov o k x h) → ∃ o ∈ t', ogCov o k x h := by
    rintro t t' ht ht' hst k x h ⟨o, ho, hc⟩;obtain ⟨o', ho', hc'⟩ := (hst k x h).1 ⟨o, by simp [ho], hc⟩;rcases List.mem_cons.1 ho' with rfl | ho'
    ·have := ht o ho;unfold ogSep ogCov at *; omega
    ·exact ⟨o', ho', hc'⟩
   rw [ih m (fun o ho => hl o (by simp [ho])) (fun o ho => hm o (by simp [ho])) pl2 pm2 (fun k x h => ⟨tail l m pl1 pm1 hs k x h, tail m l pm1 pl1 hs.symm k x h⟩)]
instance (a b : Og) : Decidable (ogLe a b) := by unfold ogLe; infer_instance
def ogLt (a b : Og) : Prop := a.1 < b.1 ∨ a.1 = b.1 ∧ (a.2.1 < b.2.1 ∨ a.2.1 = b.2.1 ∧ a.2.2.1 < b.2.2.1)
instance (a b : Og) : Decidable (ogLt a b) := by unfold ogLt; infer_instance
structure IsNorm (l n : List Og) : Prop where
 live : ∀ o ∈ n, o.2.2.1 ≤ o.2.2.2
 sep : n.Pairwise ogSep
 same : vY n l
theorem IsNorm.eq {l l' n n' : List Og} (h : IsNorm l n) (h' : IsNorm l' n') (hs : vY l l') : n = n' :=
 sM n n' h.live h'.live h.sep h'.sep ((h.same.trans hs).trans h'.same.symm)
end Go.Proofs.YtkfhpefmmhljmaaGreatDoor
namespace Go.Proofs.YtkfhpefmmhljmaaGreatDoor
open Go.RowKit
def OgsR (w : World) (B : Nat) (A : Option Addr) (ls : List Og) : Prop :=
 0 < ls.length → ∃ b off, A = some ⟨b, off, none⟩ ∧ b < B ∧ ∀ i, i < ls.length →
  w.cell? ⟨b, off + i * 4, none⟩ = some (.int .u8 (ls.getD i (0, 0, 0, 0)).1) ∧
  w.cell? ⟨b, off + i * 4 + 1, none⟩ = some (.int .i64 (ls.getD i (0, 0, 0, 0)).2.1) ∧
  w.cell? ⟨b, off + i * 4 + 2, none⟩ = some (.int .i64 (ls.getD i (0, 0, 0, 0)).2.2.1) ∧
  w.cell? ⟨b, off + i * 4 + 3, none⟩ = some (.int .i64 (ls.getD i (0, 0, 0, 0)).2.2.2)
def OgB (o : Og) : Prop := -9223372036854775808 ≤ o.2.2.1 ∧ o.2.2.1 ≤ 9223372036854775807 ∧ -9223372036854775808 ≤ o.2.2.2 ∧ o.2.2.2 ≤ 9223372036854775807
def OgBs (l : List Og) : Prop := ∀ o ∈ l, OgB o
theorem OgBs.at_ {l : List Og} (h : OgBs l) (k : Nat) : OgB (l.getD k (0, 0, 0, 0)) := by
 by_cases hk : k < l.length
 ·rw [List.getD_eq_getElem?_getD, List.getElem?_eq_getElem hk]; exact h _ (List.getElem_mem hk)
 ·rw [List.getD_eq_getElem?_getD, List.getElem?_eq_none (by omega)]; simp [OgB]
section
variable {w w' : World} {B B' : Nat} {A : Option Addr} {ls : List Og}
theorem OgsR.nil_ : OgsR w B A [] := fun h => absurd h (by simp)
theorem OgsR.keep (h : OgsR w B A ls) (hk : ∀ p : Addr, p.block < B → w'.cell? p = w.cell? p) : OgsR w' B A ls := fun hn => by
 obtain ⟨b, off, e, hb, hc⟩ := h hn;refine ⟨b, off, e, hb, fun i hi => ?_⟩;obtain ⟨h0, h1, h2, h3⟩ := hc i hi;exact ⟨(hk _ hb).trans h0, (hk _ hb).trans h1, (hk _ hb).trans h2, (hk _ hb).trans h3⟩
theorem OgsR.more (h : OgsR w B A ls) (hB : B ≤ B') : OgsR w B' A ls := fun hn => by
 obtain ⟨b, off, e, hb, hc⟩ := h hn;exact ⟨b, off, e, by omega, hc⟩
theorem OgsR.below (h : OgsR w B A ls) (hb : Below B w w') : OgsR w' B A ls := h.keep fun _ hp => hb.cell hp
theorem OgsR.upto (h : OgsR w w A ls) (hb : Below w w w') : OgsR w' w' A ls := (h.below hb).more hb.size
theorem OgsR.alloc (h : OgsR w B A ls) (hB : B ≤ w) (o : Obj) : OgsR (w.alloc o) B A ls := h.keep fun p hp => World.cell?_alloc_lt w o p (by omega)
end
def ogEnc (o : Og) : List Value := [.int .u8 o.1, .int .i64 o.2.1, .int .i64 o.2.2.1, .int .i64 o.2.2.2]
def xB (ls : List Og) : List Value := ls.flatMap ogEnc
theorem uS (l : Og) (ls : List Og) : xB (l :: ls) = ogEnc l ++ xB ls := by simp [xB]
theorem xV (ls : List Og) : (xB ls).length = ls.length * 4 := by
 induction ls with
 | nil => rfl
 | cons l ls ih =>
  rw [uS, List.length_append, ih];simp [ogEnc];omega
theorem dF (ls : List Og) : ∀ (i : Nat), i < ls.length → (xB ls)[i * 4]? = some (.int .u8 (ls.getD i (0, 0, 0, 0)).1) ∧ (xB ls)[i * 4 + 1]? = some (.int .i64 (ls.getD i (0, 0, 0, 0)).2.1) ∧
  (xB ls)[i * 4 + 2]? = some (.int .i64 (ls.getD i (0, 0, 0, 0)).2.2.1) ∧ (xB ls)[i * 4 + 3]? = some (.int .i64 (ls.getD i (0, 0, 0, 0)).2.2.2) := by
 induction ls with
 | nil => intro i hi; simp at hi
 | cons l ls ih =>
  intro i hi;cases i with
  | zero => simp [xB, ogEnc]
  | succ i =>
   have := ih i (by simpa using hi);rw [uS];have a0 : (i + 1) * 4 = 4 + i * 4 := by omega
   have a1 : (i + 1) * 4 + 1 = 4 + (i * 4 + 1) := by omega
   have a2 : (i + 1) * 4 + 2 = 4 + (i * 4 + 2) := by omega
   have a3 : (i + 1) * 4 + 3 = 4 + (i * 4 + 3) := by omega
   rw [a1, a2, a3, a0];rw [List.getElem?_append_right (by simp [ogEnc]), List.getElem?_append_right (by simp [ogEnc]), List.getElem?_append_right (by simp [ogEnc]), List.getElem?_append_right (by simp [ogEnc])];simpa [ogEnc] using this
theorem OgsR.of_block {w : World} {g : Nat} {cs : Array Value} {t : TypeId} {fz : Nat × Nat} {ls : List Og} (h : w.heap[g]? = some (.cells cs t fz)) (hc : cs.toList.take (ls.length * 4) = xB ls) : OgsR w w (some ⟨g, 0, none⟩) ls := fun hn => by
 refine ⟨g, 0, rfl, (Array.getElem?_eq_some_iff.1 h).1, fun i hi => ?_⟩;have hcell : ∀ j, j < ls.length * 4 → w.cell? ⟨g, 0 + j, none⟩ = (xB ls)[j]? := by
  intro j hj;rw [← hc, List.getElem?_take_of_lt hj];simp [World.cell?, h]
 obtain ⟨h0, h1, h2, h3⟩ := dF ls i hi;have g0 := hcell (i * 4) (by omega);have g1 := hcell (i * 4 + 1) (by omega);have g2 := hcell (i * 4 + 2) (by omega);have g3 := hcell (i * 4 + 3) (by omega);simp only [← Nat.add_assoc] at g0 g1 g2 g3;exact ⟨g0.trans h0, g1.trans h1, g2.trans h2, g3.trans h3⟩
theorem OgsR.lit (w : World) (t : TypeId) (ls : List Og) (cs : Array Value) (h : cs = (xB ls).toArray) : OgsR (w.alloc (.cells cs t)) (w.alloc (.cells cs t)).heap.size (some ⟨w, 0, none⟩) ls := by
 have hl := xV ls;exact OgsR.of_block (w := w.alloc (.cells cs t)) (g := w) (ls := ls) (heap_alloc_new w _) (by rw [h]; simp; rw [List.take_of_length_le (by omega)])
theorem OgsR.toSrc {w : World} {B : Nat} {A : Option Addr} {ls : List Og} (h : OgsR w B A ls) : Src w 4 A ls.length (xB ls) := by
 refine ⟨xV ls, fun hp => ?_⟩;obtain ⟨b, off, rfl, _, hc⟩ := h hp;refine ⟨_, rfl, fun j v hv => ?_⟩;have hjl : j < ls.length * 4 := by rw [← xV]; exact (List.getElem?_eq_some_iff.1 hv).1
 have hi : j / 4 < ls.length := by omega
 obtain ⟨c0, c1, c2, c3⟩ := hc (j / 4) hi;obtain ⟨d0, d1, d2, d3⟩ := dF ls (j / 4) hi;have ha : (⟨b, off, none⟩ : Addr).add j = ⟨b, off + j, none⟩ := by unfold Addr.add; split <;> simp_all
 rw [ha];rcases (by omega : j % 4 = 0 ∨ j % 4 = 1 ∨ j % 4 = 2 ∨ j % 4 = 3) with h | h | h | h
 ·rw [show j = j / 4 * 4 by omega, d0] at hv; rw [show off + j = off + j / 4 * 4 by omega, c0]; exact hv
 ·rw [show j = j / 4 * 4 + 1 by omega, d1] at hv; rw [show off + j = off + j / 4 * 4 + 1 by omega, c1]; exact hv
 ·rw [show j = j / 4 * 4 + 2 by omega, d2] at hv; rw [show off + j = off + j / 4 * 4 + 2 by omega, c2]; exact hv
 ·rw [show j = j / 4 * 4 + 3 by omega, d3] at hv; rw [show off + j = off + j / 4 * 4 + 3 by omega, c3]; exact hv
theorem vX {w : World} {base base' : Nat} {e : TypeId} {size : Nat} {v : Value} {n : Nat} {xs : List Value} (h : w.ownsRow base e size v n xs) (hb : base' ≤ base) : w.ownsRow base' e size v n xs := by
 obtain ⟨h1, h2⟩ := h;refine ⟨h1, ?_⟩;rcases h2 with h2 | ⟨g, cap, cur, hv, hg, r⟩
 ·exact .inl h2
 ·exact .inr ⟨g, cap, cur, hv, by omega, r⟩
end Go.Proofs.YtkfhpefmmhljmaaGreatDoor
