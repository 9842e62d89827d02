/- Texts in one: CtW, OpnC. -/
import Derived.Test.YtkfhpefmmhljmaaGreatDoorR7
set_option linter.unusedVariables false
set_option linter.unusedSimpArgs false
set_option maxHeartbeats 16000000
set_option maxRecDepth 100000
namespace Go.Proofs.YtkfhpefmmhljmaaGreatDoor
open Go.RowKit
abbrev Enc (α : Type) := World → Nat → List Value → α → Prop
theorem eD {n : Nat} {raws : List (List Value)} (h : ∀ c ∈ raws, c.length = n) : ∀ (i j : Nat) (c : List Value), raws[i]? = some c → j < n → raws.flatten[i * n + j]? = c[j]? := by
 induction raws with
 | nil => intro i j c hc; simp at hc
 | cons a r ih =>
  intro i j c hc hj;have ha := h a (by simp);cases i with
  | zero =>
   simp at hc;subst hc;rw [List.flatten_cons, Nat.zero_mul, Nat.zero_add, List.getElem?_append_left (by omega)]
  | succ i =>
   rw [List.flatten_cons, List.getElem?_append_right (by rw [ha, Nat.succ_mul]; omega), ha, show (i + 1) * n + j - n = i * n + j by rw [Nat.succ_mul]; omega];exact ih (fun c hc => h c (by simp [hc])) i j c (by simpa using hc) hj
theorem fU {n : Nat} {raws : List (List Value)} (h : ∀ c ∈ raws, c.length = n) : raws.flatten.length = raws.length * n := by
 induction raws with
 | nil => simp
 | cons a r ih =>
  rw [List.flatten_cons, κa, ih (fun c hc => h c (by simp [hc])), h a (by simp), κc, Nat.succ_mul];omega
section
variable {α : Type} {E : Enc α} {n : Nat} {w w' : World} {B B' base base' : Nat} {A : Option Addr} {l : List α}
def RowR (E : Enc α) (n : Nat) (w : World) (B : Nat) (A : Option Addr) (l : List α) : Prop :=
 ∃ raws : List (List Value), raws.length = l.length ∧ (∀ c ∈ raws, c.length = n) ∧ (∀ (i : Nat) c x, raws[i]? = some c → l[i]? = some x → E w B c x) ∧
  (0 < l.length → ∃ b off, A = some ⟨b, off, none⟩ ∧ b < B ∧ ∀ (i j : Nat) c v, raws[i]? = some c → c[j]? = some v → w.cell? ⟨b, off + i * n + j, none⟩ = some v)
theorem RowR.at_ (h : RowR E n w B A l) (k : Nat) (d : α) (hk : k < l.length) : ∃ b off c, A = some ⟨b, off, none⟩ ∧ b < B ∧ c.length = n ∧ E w B c (l.getD k d) ∧ ∀ (j : Nat) v, c[j]? = some v → w.cell? ⟨b, off + k * n + j, none⟩ = some v := by
 obtain ⟨raws, h1, h2, h3, h4⟩ := h;obtain ⟨b, off, rfl, hb, hc⟩ := h4 (by omega);have hr : raws[k]? = some raws[k] := κg (by omega);refine ⟨b, off, raws[k], rfl, hb, h2 _ (List.getElem_mem _), h3 k _ _ hr ?_, fun j v hv => hc k j _ v hr hv⟩;rw [zK l k d hk];exact κg hk
structure EKeep (E : Enc α) : Prop where
 out : ∀ {w w' : World} {B B' : Nat} {c : List Value} {x : α}, (∀ p : Addr, p.block < B → w'.cell? p = w.cell? p) → B ≤ B' → E w B c x → E w' B' c x
theorem RowR.keep (hE : EKeep E) (h : RowR E n w B A l) (hk : ∀ p : Addr, p.block < B → w'.cell? p = w.cell? p) (hB : B ≤ B') : RowR E n w' B' A l := by
 obtain ⟨raws, h1, h2, h3, h4⟩ := h;refine ⟨raws, h1, h2, fun i c x hc hx => hE.out hk hB (h3 i c x hc hx), fun hn => ?_⟩;obtain ⟨b, off, e, hb, hc⟩ := h4 hn;exact ⟨b, off, e, by omega, fun i j c v h5 h6 => (hk _ hb).trans (hc i j c v h5 h6)⟩
theorem RowR.upto (hE : EKeep E) (h : RowR E n w w A l) (hb : Below w w w') : RowR E n w' w' A l := h.keep hE (fun _ hp => hb.cell hp) hb.size
theorem RowR.up (hE : EKeep E) (h : RowR E n w B A l) (hb : Below B w w') : RowR E n w' B A l := h.keep hE (fun _ hp => hb.cell hp) (νr _)
theorem RowR.grown (hE : EKeep E) {g : Nat} (h : RowR E n w B A l) (hb : w.grownBy w' (some g)) (hg : B ≤ g) (hB : B ≤ w) : RowR E n w' B A l :=
 h.keep hE (fun p hp => World.cell?_of_block (hb.block p.block (by omega) (fun e => by injection e; omega))) (νr _)
theorem RowR.nil_ : RowR E n w B A [] := ⟨[], rfl, (fun _ h => by cases h), (fun i c x h => by simp at h), fun h => absurd h (by simp)⟩
def RowO (E : Enc α) (t : TypeId) (n : Nat) (w : World) (base : Nat) (v : Value) (l : List α) : Prop :=
 ∃ raws : List (List Value), raws.length = l.length ∧ (∀ c ∈ raws, c.length = n) ∧ (∀ (i : Nat) c x, raws[i]? = some c → l[i]? = some x → E w base c x) ∧ w.ownsRow base t n v l.length raws.flatten
theorem RowO.nil_ (E : Enc α) (t : TypeId) (n : Nat) (w : World) (base : Nat) : RowO E t n w base (.slice none 0 0) [] := ⟨[], rfl, (fun _ h => by cases h), (fun i c x h => by simp at h), World.ownsRow_nil _ _ _ _⟩
def yA (ts : List TypeId) (w : World) (k : Nat) : Prop := ∃ t ∈ ts, ∃ cur fz, w.heap[k]? = some (.cells cur t fz)
structure EOwn (E : Enc α) (ts : List TypeId) : Prop where
 out : ∀ {w w' : World} {base base' : Nat} {c : List Value} {x : α}, base' ≤ base → (∀ k, base ≤ k → yA ts w k → w'.heap[k]? = w.heap[k]?) → E w base c x → E w' base' c x
theorem RowO.keep {ts : List TypeId} {t : TypeId} {v : Value} (hE : EOwn E ts) (h : RowO E t n w base v l) (hb : base' ≤ base) (hk : ∀ k, base ≤ k → yA (t :: ts) w k → w'.heap[k]? = w.heap[k]?) : RowO E t n w' base' v l := by
 obtain ⟨raws, h1, h2, h3, h4⟩ := h;refine ⟨raws, h1, h2, fun i c x hc hx => hE.out hb (fun k hk1 ⟨t', ht', cur, fz, hc'⟩ => hk k hk1 ⟨t', by simp [ht'], cur, fz, hc'⟩) (h3 i c x hc hx), h4.1, ?_⟩;rcases h4.2 with h5 | ⟨g, cap, cur, h5, h6, h7, h8⟩
 ·exact .inl h5
 ·exact .inr ⟨g, cap, cur, h5, by omega, (hk g h6 ⟨t, by simp, cur, _, h7⟩).trans h7, h8⟩
theorem RowO.below {ts : List TypeId} {t : TypeId} {v : Value} (hE : EOwn E ts) (h : RowO E t n w base v l) (hb : Below w w w') : RowO E t n w' base v l :=
 h.keep hE (νr _) fun k _ ⟨t', _, cur, fz, hc⟩ => hb.block k (κi hc).1
theorem RowO.grown {ts : List TypeId} {t : TypeId} {v : Value} {g : Nat} (hE : EOwn E ts) (h : RowO E t n w base v l) (hb : w.grownBy w' (some g)) (hg : g < base) : RowO E t n w' base v l :=
 h.keep hE (νr _) fun k hk ⟨t', _, cur, fz, hc⟩ => hb.block k (κi hc).1 (fun e => by injection e; omega)
theorem RowO.mono {ts : List TypeId} {t : TypeId} {v : Value} (hE : EOwn E ts) (h : RowO E t n w base v l) (hb : base' ≤ base) : RowO E t n w base' v l := h.keep hE hb fun _ _ _ => rfl
theorem EOwn.up {ts : List TypeId} {c : List Value} {x : α} (hE : EOwn E ts) (h : E w base c x) (hb : Below w w w') : E w' base c x :=
 hE.out (νr _) (fun k _ ⟨t', _, cur, fz, hc⟩ => hb.block k (κi hc).1) h
theorem EOwn.grown {ts : List TypeId} {c : List Value} {x : α} {g : Nat} (hE : EOwn E ts) (h : E w base c x) (hb : w.grownBy w' (some g)) (hg : g < base) : E w' base c x :=
 hE.out (νr _) (fun k hk ⟨t', _, cur, fz, hc⟩ => hb.block k (κi hc).1 (fun e => by injection e; omega)) h
theorem EOwn.mono {ts : List TypeId} {c : List Value} {x : α} (hE : EOwn E ts) (h : E w base c x) (hb : base' ≤ base) : E w base' c x := hE.out hb (fun _ _ _ => rfl) h
theorem EOwn.set {ts : List TypeId} {c : List Value} {x : α} (hE : EOwn E ts) (h : E w base c x) {g : Nat} (hg : g < base) (vs : List Value) (o : Nat) : E (w.setCells g o vs) base c x :=
 hE.out (νr _) (fun k hk _ => by
  have : ∀ (vs : List Value) (o : Nat) (w : World), (w.setCells g o vs).heap[k]? = w.heap[k]? := by
   intro vs
   induction vs with
   | nil => intro o w; rfl
   | cons v r ih => intro o w; rw [World.setCells, ih, Below.heap_setCell w ⟨g, o, none⟩ v k (by show k ≠ g; omega)]
  exact this vs o w) h
theorem RowO.set {ts : List TypeId} {t : TypeId} {v : Value} (hE : EOwn E ts) (h : RowO E t n w base v l) {g : Nat} (hg : g < base) (vs : List Value) (o : Nat) : RowO E t n (w.setCells g o vs) base v l :=
 h.keep hE (νr _) fun k hk _ => by
  have : ∀ (vs : List Value) (o : Nat) (w : World), (w.setCells g o vs).heap[k]? = w.heap[k]? := by
   intro vs
   induction vs with
   | nil => intro o w; rfl
   | cons v r ih => intro o w; rw [World.setCells, ih, Below.heap_setCell w ⟨g, o, none⟩ v k (by show k ≠ g; omega)]
  exact this vs o w
theorem RowO.more {ts : List TypeId} {t : TypeId} {v v' : Value} {tmp : Obj} {c : List Value} {x : α} {w2 : World} (hE : EOwn E ts) (ht : t ∉ ts) (h : RowO E t n w base v l) (hc : c.length = n) (hx : E w base c x)
  (hsame : w ≤ w2.heap.size) (hgr : (w.alloc tmp).grownBy w2 v.ownBlock) (ho : ∀ xs, w.ownsRow base t n v l.length xs → w2.ownsRow base t n v' (l.length + 1) (xs ++ c)) : RowO E t n w2 base v' (l ++ [x]) := by
 obtain ⟨raws, h1, h2, h3, h4⟩ := h;have hkeep : ∀ k, base ≤ k → yA ts w k → w2.heap[k]? = w.heap[k]? := fun k hk ⟨t', ht', cur, fz, hcur⟩ => by
  have hlt := (κi hcur).1;refine (hgr.block k (by simp; omega) ?_).trans (Below.heap_alloc w tmp k hlt);intro e;rcases h4.2 with ⟨rfl, _⟩ | ⟨g, cap, cur', rfl, _, hg, _⟩
  ·simp [Value.ownBlock] at e
  ·have : k = g := by simpa [Value.ownBlock] using e
   subst this;rw [hcur] at hg;injection hg with hg
   injection hg with _ h5
   exact ht (h5 ▸ ht')
 refine ⟨raws ++ [c], by simp [h1], fun d hd => ?_, fun i d y hd hy => ?_, ?_⟩
 ·rcases List.mem_append.1 hd with hd | hd
  ·exact h2 d hd
  ·simp at hd; rw [hd]; exact hc
 ·rcases Nat.lt_or_ge i l.length with hi | hi
  ·rw [List.getElem?_append_left (by omega)] at hd hy;exact hE.out (νr _) hkeep (h3 i d y hd hy)
  ·rw [List.getElem?_append_right (by omega)] at hd hy;have hi' : i = l.length := by
    have := (List.getElem?_eq_some_iff.1 hy).1;simp at this;omega
   subst hi';rw [h1, Nat.sub_self] at hd;rw [Nat.sub_self] at hy;simp at hd hy;subst hd;subst hy;exact hE.out (νr _) hkeep hx
 ·have := ho _ h4;rw [κa, List.length_singleton, List.flatten_append];simpa using this
theorem RowO.read {E' : Enc α} {t : TypeId} {v : Value} (h : RowO E t n w base v l) (hE : ∀ c x, E w base c x → E' w w c x) : ∃ A c, v = .slice A l.length c ∧ l.length ≤ c ∧ RowR E' n w w A l := by
 obtain ⟨raws, h1, h2, h3, h4⟩ := h;obtain ⟨A, c, rfl, hc⟩ := zQ h4;refine ⟨A, c, rfl, hc, raws, h1, h2, fun i c x hc hx => hE _ _ (h3 i c x hc hx), fun hn => ?_⟩;obtain ⟨g, cap, hv, hb, hg⟩ := h4.form hn;injection hv with hA
 subst hA;refine ⟨g, 0, rfl, hg, fun i j c v hc hv => ?_⟩;have hj : j < n := by have := h2 c (List.mem_of_getElem? hc); have := (List.getElem?_eq_some_iff.1 hv).1; omega
 have hi : i < raws.length := (List.getElem?_eq_some_iff.1 hc).1;have hlt : i * n + j < l.length * n := by
  have : (i + 1) * n ≤ l.length * n := Nat.mul_le_mul_right _ (by omega);rw [Nat.succ_mul] at this;omega
 rw [Nat.zero_add, h4.cellAt (i * n + j) hlt, eD h2 i j c hc hj];exact hv
end
def stC (x : St) : List Value := [.int .i64 x.1, .int .i64 x.2]
def StE : Enc St := fun _ _ c x => c = stC x
theorem StE.keep : EKeep StE := ⟨fun _ _ h => h⟩
theorem StE.own : EOwn StE [] := ⟨fun _ _ h => h⟩
def lnC (x : Ln) : List Value := [.int .i64 x.1, .int .i64 x.2.1, .int .i64 x.2.2.1, .int .i64 x.2.2.2]
def LnE : Enc Ln := fun _ _ c x => c = lnC x
theorem LnE.keep : EKeep LnE := ⟨fun _ _ h => h⟩
theorem LnE.own : EOwn LnE [] := ⟨fun _ _ h => h⟩
def ogC (x : Og) : List Value := [.int .u8 x.1, .int .i64 x.2.1, .int .i64 x.2.2.1, .int .i64 x.2.2.2]
def OgE' : Enc Og := fun _ _ c x => c = ogC x
theorem OgE'.keep : EKeep OgE' := ⟨fun _ _ h => h⟩
theorem OgE'.own : EOwn OgE' [] := ⟨fun _ _ h => h⟩
def rtC (x : Rt) : List Value := [.int .i64 x.1, .int .i64 x.2.1, .int .i64 x.2.2]
def RtE : Enc Rt := fun _ _ c x => c = rtC x
theorem RtE.keep : EKeep RtE := ⟨fun _ _ h => h⟩
theorem RtE.own : EOwn RtE [] := ⟨fun _ _ h => h⟩
def BdR : Enc Bd := fun w B c b => ∃ A cap, c = [.int .i64 b.bus, .slice A b.steps.length cap] ∧ b.steps.length ≤ cap ∧ RowR StE 2 w B A b.steps
theorem BdR.keep : EKeep BdR := ⟨fun hk hB ⟨A, cap, h1, h2, h3⟩ => ⟨A, cap, h1, h2, h3.keep StE.keep hk hB⟩⟩
def BdO : Enc Bd := fun w base c b => ∃ v, c = [.int .i64 b.bus, v] ∧ RowO StE 205 2 w base v b.steps
theorem BdO.own : EOwn BdO [205] := ⟨fun hb hk ⟨v, h1, h2⟩ => ⟨v, h1, h2.keep StE.own hb hk⟩⟩
theorem BdO.read {w : World} {base : Nat} {c : List Value} {b : Bd} (h : BdO w base c b) : BdR w w c b := by
 obtain ⟨v, h1, h2⟩ := h;obtain ⟨A, cap, rfl, hc, hr⟩ := h2.read (E' := StE) (fun _ _ h => h);exact ⟨A, cap, h1, hc, hr⟩
def UnR : Enc Un := fun w B c u => ∃ A cap, c = [.int .i64 u.bus, .int .i64 u.min, .slice A u.steps.length cap, .int .i64 u.up, .int .i64 u.down, .int .i64 u.start, .int .i64 u.idle, .int .i64 u.spin, .int .i64 u.on] ∧ u.steps.length ≤ cap ∧ RowR StE 2 w B A u.steps
theorem UnR.keep : EKeep UnR := ⟨fun hk hB ⟨A, cap, h1, h2, h3⟩ => ⟨A, cap, h1, h2, h3.keep StE.keep hk hB⟩⟩
def UnO : Enc Un := fun w base c u => ∃ v, c = [.int .i64 u.bus, .int .i64 u.min, v, .int .i64 u.up, .int .i64 u.down, .int .i64 u.start, .int .i64 u.idle, .int .i64 u.spin, .int .i64 u.on] ∧ RowO StE 205 2 w base v u.steps
theorem UnO.own : EOwn UnO [205] := ⟨fun hb hk ⟨v, h1, h2⟩ => ⟨v, h1, h2.keep StE.own hb hk⟩⟩
theorem UnO.read {w : World} {base : Nat} {c : List Value} {u : Un} (h : UnO w base c u) : UnR w w c u := by
 obtain ⟨v, h1, h2⟩ := h;obtain ⟨A, cap, rfl, hc, hr⟩ := h2.read (E' := StE) (fun _ _ h => h);exact ⟨A, cap, h1, hc, hr⟩
def HrR : Enc Hr := fun w B c h => ∃ A cap A' cap', c = [.slice A h.bids.length cap, .slice A' h.real.length cap', .int .i64 h.need] ∧ h.bids.length ≤ cap ∧ h.real.length ≤ cap' ∧ RowR BdR 2 w B A h.bids ∧ RowR BdR 2 w B A' h.real
theorem HrR.keep : EKeep HrR := ⟨fun hk hB ⟨A, cap, A', cap', h1, h2, h2', h3, h4⟩ => ⟨A, cap, A', cap', h1, h2, h2', h3.keep BdR.keep hk hB, h4.keep BdR.keep hk hB⟩⟩
def HrO : Enc Hr := fun w base c h => ∃ v v', c = [v, v', .int .i64 h.need] ∧ RowO BdO 133 2 w base v h.bids ∧ RowO BdO 133 2 w base v' h.real
theorem HrO.own : EOwn HrO [133, 205] := ⟨fun hb hk ⟨v, v', h1, h2, h3⟩ => ⟨v, v', h1, h2.keep BdO.own hb hk, h3.keep BdO.own hb hk⟩⟩
theorem HrO.read {w : World} {base : Nat} {c : List Value} {h : Hr} (hh : HrO w base c h) : HrR w w c h := by
 obtain ⟨v, v', h1, h2, h3⟩ := hh;obtain ⟨A, cap, rfl, hc, hr⟩ := h2.read (E' := BdR) (fun _ _ h => h.read);obtain ⟨A', cap', rfl, hc', hr'⟩ := h3.read (E' := BdR) (fun _ _ h => h.read);exact ⟨A, cap, A', cap', h1, hc, hc', hr, hr'⟩
def CsR (w : World) (B : Nat) (c : List Value) (x : Cs) : Prop := ∃ A1 c1 A2 c2 A3 c3 A4 c4 A5 c5, c = [.int .i64 x.net.buses, .slice A1 x.net.lines.length c1, .slice A2 x.units.length c2, .slice A3 x.hours.length c3, .slice A4 x.outs.length c4, .slice A5 x.rights.length c5] ∧
 RowR LnE 4 w B A1 x.net.lines ∧ RowR UnR 9 w B A2 x.units ∧ RowR HrR 3 w B A3 x.hours ∧ RowR OgE' 4 w B A4 x.outs ∧ RowR RtE 3 w B A5 x.rights
theorem CsR.keep : EKeep CsR := ⟨fun hk hB ⟨A1, c1, A2, c2, A3, c3, A4, c4, A5, c5, h, h1, h2, h3, h4, h5⟩ =>
 ⟨A1, c1, A2, c2, A3, c3, A4, c4, A5, c5, h, h1.keep LnE.keep hk hB, h2.keep UnR.keep hk hB, h3.keep HrR.keep hk hB, h4.keep OgE'.keep hk hB, h5.keep RtE.keep hk hB⟩⟩
def NtO : Enc Nt := fun w base c n => ∃ v, c = [.int .i64 n.buses, v] ∧ RowO LnE 127 4 w base v n.lines
theorem NtO.own : EOwn NtO [127] := ⟨fun hb hk ⟨v, h1, h2⟩ => ⟨v, h1, h2.keep LnE.own hb hk⟩⟩
theorem RowR.lines {w : World} {B : Nat} {A : Option Addr} {l : List Ln} (h : RowR LnE 4 w B A l) : jI w B A l := fun hn => by
 obtain ⟨raws, h1, h2, h3, h4⟩ := h;obtain ⟨b, off, rfl, hb, hc⟩ := h4 hn;refine ⟨b, off, rfl, hb, fun i hi => ?_⟩;have hr : raws[i]? = some raws[i] := κg (by omega);have hx : l[i]? = some (l.getD i (0, 0, 0, 0)) := by rw [zK l i _ hi]; exact κg hi
 have he : raws[i] = lnC (l.getD i (0, 0, 0, 0)) := h3 i _ _ hr hx;rw [he] at hr;exact ⟨hc i 0 _ _ hr rfl, hc i 1 _ _ hr rfl, hc i 2 _ _ hr rfl, hc i 3 _ _ hr rfl⟩
theorem RowR.ogs {w : World} {B : Nat} {A : Option Addr} {l : List Og} (h : RowR OgE' 4 w B A l) : OgsR w B A l := fun hn => by
 obtain ⟨raws, h1, h2, h3, h4⟩ := h;obtain ⟨b, off, rfl, hb, hc⟩ := h4 hn;refine ⟨b, off, rfl, hb, fun i hi => ?_⟩;have hr : raws[i]? = some raws[i] := κg (by omega);have hx : l[i]? = some (l.getD i (0, 0, 0, 0)) := by rw [zK l i _ hi]; exact κg hi
 have he : raws[i] = ogC (l.getD i (0, 0, 0, 0)) := h3 i _ _ hr hx;rw [he] at hr;exact ⟨hc i 0 _ _ hr rfl, hc i 1 _ _ hr rfl, hc i 2 _ _ hr rfl, hc i 3 _ _ hr rfl⟩
end Go.Proofs.YtkfhpefmmhljmaaGreatDoor
namespace Go.Proofs.YtkfhpefmmhljmaaGreatDoor
open Go.ChangeShapes Go.WideShapes Go.ChangeAt Go.RowKit Go.Deep Go.Joins
section
variable {H : Type} {enc : TypeId × Value → H} {W : World} {base b0 : Nat} {d : DataW H} {p : List MemPlace} {v : Value}
theorem iF (b off i : Nat) : (⟨b, off, none⟩ : Addr).add i = ⟨b, off + i, none⟩ := by unfold Addr.add; split <;> simp_all
theorem vL {α : Type} {E : Enc α} (zz : α) {t e : TypeId} {fs : Array Field} {fuel : Nat} {x : DataW H × List MemPlace} (ht : Tryz.prog.underlying t = some (.slice e)) (he : Tryz.prog.underlying e = some (.struct fs))
  (hone : oneCellFields Tryz.prog fs = true) (hC : Tryz.prog.cellsOf e = fs.size) (hn0 : 0 < fs.size)
  (helem : ∀ (k : Nat) (c : List Value), c.length = fs.size → (∀ (j : Nat) (f : Field), fs[j]? = some f → ∃ (v : Value) (y : DataW H × List MemPlace), c[j]? = some v ∧ DataW.trod enc Tryz.prog W 0 (fun _ => true) true k f.type [v] = some y) → ∃ z, E W W c z)
  (h : DataW.trod enc Tryz.prog W 0 (fun _ => true) true fuel t [v] = some x) :
  ∃ (A : Option Addr) (l : List α) (c : Nat), v = .slice A l.length c ∧ l.length ≤ c ∧ RowR E fs.size W W A l := by
 rcases uC ht he hone hC h with hcs | ⟨a, len, cap, hcs, hl, hi⟩
 ·simp at hcs;subst hcs;exact ⟨none, [], 0, rfl, νr _, RowR.nil_⟩
 ·simp at hcs;subst hcs;have each : ∀ i, i < len → ∃ (c : List Value) (z : α), c.length = fs.size ∧ E W W c z ∧ ∀ (j : Nat) v, c[j]? = some v → W.cell? (a.add (i * fs.size + j)) = some v := by
   intro i hil;obtain ⟨k, hk⟩ := hi i hil;have hcell : ∀ (j : Nat) v, ((List.range fs.size).map fun j => (W.cell? (a.add (i * fs.size + j))).getD (.bool false))[j]? = some v → W.cell? (a.add (i * fs.size + j)) = some v := by
    intro j v hv;rw [List.getElem?_map] at hv;by_cases hj : j < fs.size
    ·rw [List.getElem?_range hj, Option.map_some] at hv;obtain ⟨u, y, h1, _⟩ := hk j fs[j] (Array.getElem?_eq_getElem hj);rw [h1] at hv ⊢;simpa using hv
    ·rw [List.getElem?_eq_none (by simp; omega)] at hv; cases hv
   obtain ⟨z, hz⟩ := helem k ((List.range fs.size).map fun j => (W.cell? (a.add (i * fs.size + j))).getD (.bool false)) (by simp) (fun j f hj => by
    obtain ⟨u, y, h1, h2⟩ := hk j f hj;have hjl : j < fs.size := (κi hj).1;refine ⟨u, y, ?_, h2⟩;rw [List.getElem?_map, List.getElem?_range hjl, Option.map_some, h1];rfl)
   exact ⟨_, z, by simp, hz, hcell⟩
  obtain ⟨f, hf⟩ : ∃ f : Nat → List Value × α, ∀ i, i < len → (f i).1.length = fs.size ∧ E W W (f i).1 (f i).2 ∧ ∀ (j : Nat) v, (f i).1[j]? = some v → W.cell? (a.add (i * fs.size + j)) = some v := by
   have each' : ∀ i, ∃ cz : List Value × α, i < len → cz.1.length = fs.size ∧ E W W cz.1 cz.2 ∧ ∀ (j : Nat) v, cz.1[j]? = some v → W.cell? (a.add (i * fs.size + j)) = some v := fun i => by
    by_cases hi : i < len
    ·obtain ⟨c, z, h1, h2, h3⟩ := each i hi;exact ⟨(c, z), fun _ => ⟨h1, h2, h3⟩⟩
    ·exact ⟨([], zz), fun h => absurd h hi⟩
   exact ⟨fun i => Classical.choose (each' i), fun i => Classical.choose_spec (each' i)⟩
  refine ⟨some a, (List.range len).map (fun i => (f i).2), cap, by simp, by simpa using hl, (List.range len).map (fun i => (f i).1), by simp, ?_, ?_, fun hn => ?_⟩
  ·intro c hc;obtain ⟨i, hi, rfl⟩ := List.mem_map.1 hc;exact (hf i (List.mem_range.1 hi)).1
  ·intro i c z hc hz;rw [List.getElem?_map] at hc hz;by_cases hi : i < len
   ·rw [List.getElem?_range hi] at hc hz;simp at hc hz;subst hc; subst hz;exact (hf i hi).2.1
   ·rw [List.getElem?_eq_none (by simp; omega)] at hc; cases hc
  ·simp at hn;obtain ⟨b, off, spot⟩ := a;have h00 : ∃ v, (f 0).1[0]? = some v := ⟨_, κg (by rw [(hf 0 hn).1]; exact hn0)⟩;obtain ⟨v, hv⟩ := h00;have hc0 := (hf 0 hn).2.2 0 v hv;obtain rfl : spot = none := by simpa [Addr.add] using World.cell?_spot hc0
   rw [iF] at hc0;refine ⟨b, off, rfl, World.block_lt_of_cell? W _ hc0, fun i j c v hc hv => ?_⟩;rw [List.getElem?_map] at hc;by_cases hi : i < len
   ·rw [List.getElem?_range hi] at hc;simp at hc;subst hc;have := (hf i hi).2.2 j v hv;rw [iF, ← Nat.add_assoc] at this;exact this
   ·rw [List.getElem?_eq_none (by simp; omega)] at hc; cases hc
theorem cE : ∃ f0 f1 : Field, Tryz.prog.underlying 205 = some (.struct #[f0, f1]) ∧ oneCellFields Tryz.prog #[f0, f1] = true ∧ Tryz.prog.underlying f0.type = some (.int .i64) ∧ Tryz.prog.underlying f1.type = some (.int .i64) :=
 ⟨_, _, Tryz.underlying205, by kernel_rfl, by kernel_rfl, by kernel_rfl⟩
theorem eW : Tryz.prog.cellsOf 205 = 2 := by kernel_rfl
theorem sG {k : Nat} {v : Value} {x : DataW H × List MemPlace} (hf : DataW.trod enc Tryz.prog W 0 (fun _ => true) true k 60 [v] = some x) :
  ∃ (A : Option Addr) (l : List St) (c : Nat), v = .slice A l.length c ∧ l.length ≤ c ∧ RowR StE 2 W W A l := by
 obtain ⟨f0, f1, hu, hone, u0, u1⟩ := cE;refine vL (fs := #[f0, f1]) (0, 0) Tryz.underlying60 hu hone eW (by simp) (fun k c hl hc => ?_) hf;rcases c with _ | ⟨a0, _ | ⟨a1, _ | ⟨_, _⟩⟩⟩ <;> simp at hl
 obtain ⟨v0, y0, e0, t0⟩ := hc 0 f0 rfl;obtain rfl : a0 = v0 := by simpa using e0
 obtain ⟨z0, g0, _⟩ := DataW.trod_int u0 t0;simp at g0;subst g0;obtain ⟨v1, y1, e1, t1⟩ := hc 1 f1 rfl;obtain rfl : a1 = v1 := by simpa using e1
 obtain ⟨z1, g1, _⟩ := DataW.trod_int u1 t1;simp at g1;subst g1;exact ⟨(z0, z1), rfl⟩
theorem cT : ∃ f0 f1 f2 f3 : Field, Tryz.prog.underlying 127 = some (.struct #[f0, f1, f2, f3]) ∧ oneCellFields Tryz.prog #[f0, f1, f2, f3] = true ∧ Tryz.prog.underlying f0.type = some (.int .i64) ∧ Tryz.prog.underlying f1.type = some (.int .i64) ∧ Tryz.prog.underlying f2.type = some (.int .i64) ∧ Tryz.prog.underlying f3.type = some (.int .i64) :=
 ⟨_, _, _, _, Tryz.underlying127, by kernel_rfl, by kernel_rfl, by kernel_rfl, by kernel_rfl, by kernel_rfl⟩
theorem sO : Tryz.prog.cellsOf 127 = 4 := by kernel_rfl
theorem zBb {k : Nat} {v : Value} {x : DataW H × List MemPlace} (hf : DataW.trod enc Tryz.prog W 0 (fun _ => true) true k 22 [v] = some x) :
  ∃ (A : Option Addr) (l : List Ln) (c : Nat), v = .slice A l.length c ∧ l.length ≤ c ∧ RowR LnE 4 W W A l := by
 obtain ⟨f0, f1, f2, f3, hu, hone, u0, u1, u2, u3⟩ := cT;refine vL (fs := #[f0, f1, f2, f3]) (0, 0, 0, 0) Tryz.underlying22 hu hone sO (by simp) (fun k c hl hc => ?_) hf;rcases c with _ | ⟨a0, _ | ⟨a1, _ | ⟨a2, _ | ⟨a3, _ | ⟨_, _⟩⟩⟩⟩⟩ <;> simp at hl
 obtain ⟨v0, y0, e0, t0⟩ := hc 0 f0 rfl;obtain rfl : a0 = v0 := by simpa using e0
 obtain ⟨z0, g0, _⟩ := DataW.trod_int u0 t0;simp at g0;subst g0;obtain ⟨v1, y1, e1, t1⟩ := hc 1 f1 rfl;obtain rfl : a1 = v1 := by simpa using e1
 obtain ⟨z1, g1, _⟩ := DataW.trod_int u1 t1;simp at g1;subst g1;obtain ⟨v2, y2, e2, t2⟩ := hc 2 f2 rfl;obtain rfl : a2 = v2 := by simpa using e2
 obtain ⟨z2, g2, _⟩ := DataW.trod_int u2 t2;simp at g2;subst g2;obtain ⟨v3, y3, e3, t3⟩ := hc 3 f3 rfl;obtain rfl : a3 = v3 := by simpa using e3
 obtain ⟨z3, g3, _⟩ := DataW.trod_int u3 t3;simp at g3;subst g3;exact ⟨(z0, z1, z2, z3), rfl⟩
theorem cP : ∃ f0 f1 f2 f3 : Field, Tryz.prog.underlying 53 = some (.struct #[f0, f1, f2, f3]) ∧ oneCellFields Tryz.prog #[f0, f1, f2, f3] = true ∧ Tryz.prog.underlying f0.type = some (.int .u8) ∧ Tryz.prog.underlying f1.type = some (.int .i64) ∧ Tryz.prog.underlying f2.type = some (.int .i64) ∧ Tryz.prog.underlying f3.type = some (.int .i64) :=
 ⟨_, _, _, _, Tryz.underlying53, by kernel_rfl, by kernel_rfl, by kernel_rfl, by kernel_rfl, by kernel_rfl⟩
theorem sL : Tryz.prog.cellsOf 53 = 4 := by kernel_rfl
theorem zBa {k : Nat} {v : Value} {x : DataW H × List MemPlace} (hf : DataW.trod enc Tryz.prog W 0 (fun _ => true) true k 27 [v] = some x) :
  ∃ (A : Option Addr) (l : List Og) (c : Nat), v = .slice A l.length c ∧ l.length ≤ c ∧ RowR OgE' 4 W W A l := by
 obtain ⟨f0, f1, f2, f3, hu, hone, u0, u1, u2, u3⟩ := cP;refine vL (fs := #[f0, f1, f2, f3]) (0, 0, 0, 0) Tryz.underlying27 hu hone sL (by simp) (fun k c hl hc => ?_) hf;rcases c with _ | ⟨a0, _ | ⟨a1, _ | ⟨a2, _ | ⟨a3, _ | ⟨_, _⟩⟩⟩⟩⟩ <;> simp at hl
 obtain ⟨v0, y0, e0, t0⟩ := hc 0 f0 rfl;obtain rfl : a0 = v0 := by simpa using e0
 obtain ⟨z0, g0, _⟩ := DataW.trod_int u0 t0;simp at g0;subst g0;obtain ⟨v1, y1, e1, t1⟩ := hc 1 f1 rfl;obtain rfl : a1 = v1 := by simpa using e1
 obtain ⟨z1, g1, _⟩ := DataW.trod_int u1 t1;simp at g1;subst g1;obtain ⟨v2, y2, e2, t2⟩ := hc 2 f2 rfl;obtain rfl : a2 = v2 := by simpa using e2
 obtain ⟨z2, g2, _⟩ := DataW.trod_int u2 t2;simp at g2;subst g2;obtain ⟨v3, y3, e3, t3⟩ := hc 3 f3 rfl;obtain rfl : a3 = v3 := by simpa using e3
 obtain ⟨z3, g3, _⟩ := DataW.trod_int u3 t3;simp at g3;subst g3;exact ⟨(z0, z1, z2, z3), rfl⟩
theorem cF : ∃ f0 f1 f2 : Field, Tryz.prog.underlying 51 = some (.struct #[f0, f1, f2]) ∧ oneCellFields Tryz.prog #[f0, f1, f2] = true ∧ Tryz.prog.underlying f0.type = some (.int .i64) ∧ Tryz.prog.underlying f1.type = some (.int .i64) ∧ Tryz.prog.underlying f2.type = some (.int .i64) :=
 ⟨_, _, _, Tryz.underlying51, by kernel_rfl, by kernel_rfl, by kernel_rfl, by kernel_rfl⟩
theorem rP : Tryz.prog.cellsOf 51 = 3 := by kernel_rfl
theorem zAz {k : Nat} {v : Value} {x : DataW H × List MemPlace} (hf : DataW.trod enc Tryz.prog W 0 (fun _ => true) true k 28 [v] = some x) :
  ∃ (A : Option Addr) (l : List Rt) (c : Nat), v = .slice A l.length c ∧ l.length ≤ c ∧ RowR RtE 3 W W A l := by
 obtain ⟨f0, f1, f2, hu, hone, u0, u1, u2⟩ := cF;refine vL (fs := #[f0, f1, f2]) (0, 0, 0) Tryz.underlying28 hu hone rP (by simp) (fun k c hl hc => ?_) hf;rcases c with _ | ⟨a0, _ | ⟨a1, _ | ⟨a2, _ | ⟨_, _⟩⟩⟩⟩ <;> simp at hl
 obtain ⟨v0, y0, e0, t0⟩ := hc 0 f0 rfl;obtain rfl : a0 = v0 := by simpa using e0
 obtain ⟨z0, g0, _⟩ := DataW.trod_int u0 t0;simp at g0;subst g0;obtain ⟨v1, y1, e1, t1⟩ := hc 1 f1 rfl;obtain rfl : a1 = v1 := by simpa using e1
 obtain ⟨z1, g1, _⟩ := DataW.trod_int u1 t1;simp at g1;subst g1;obtain ⟨v2, y2, e2, t2⟩ := hc 2 f2 rfl;obtain rfl : a2 = v2 := by simpa using e2
 obtain ⟨z2, g2, _⟩ := DataW.trod_int u2 t2;simp at g2;subst g2;exact ⟨(z0, z1, z2), rfl⟩
theorem eH : ∃ f0 f1 : Field, Tryz.prog.underlying 133 = some (.struct #[f0, f1]) ∧ oneCellFields Tryz.prog #[f0, f1] = true ∧ Tryz.prog.underlying f0.type = some (.int .i64) ∧ f1.type = 60 :=
 ⟨_, _, Tryz.underlying133, by kernel_rfl, by kernel_rfl, rfl⟩
theorem iD : Tryz.prog.cellsOf 133 = 2 := by kernel_rfl
theorem sI {k : Nat} {v : Value} {x : DataW H × List MemPlace} (hf : DataW.trod enc Tryz.prog W 0 (fun _ => true) true k 47 [v] = some x) :
  ∃ (A : Option Addr) (l : List Bd) (c : Nat), v = .slice A l.length c ∧ l.length ≤ c ∧ RowR BdR 2 W W A l := by
 obtain ⟨f0, f1, hu, hone, u0, u1⟩ := eH;refine vL (fs := #[f0, f1]) bd0 Tryz.underlying47 hu hone iD (by simp) (fun k c hl hc => ?_) hf;rcases c with _ | ⟨a0, _ | ⟨a1, _ | ⟨_, _⟩⟩⟩ <;> simp at hl
 obtain ⟨v0, y0, e0, t0⟩ := hc 0 f0 rfl;obtain rfl : a0 = v0 := by simpa using e0
 obtain ⟨z0, g0, _⟩ := DataW.trod_int u0 t0;simp at g0;subst g0;obtain ⟨v1, y1, e1, t1⟩ := hc 1 f1 rfl;obtain rfl : a1 = v1 := by simpa using e1
 rw [u1] at t1;obtain ⟨A1, l1, c1, rfl, h1, r1⟩ := sG t1;exact ⟨⟨z0, l1⟩, A1, c1, rfl, h1, r1⟩
theorem cA : ∃ f0 f1 f2 f3 f4 f5 f6 f7 f8 : Field, Tryz.prog.underlying 62 = some (.struct #[f0, f1, f2, f3, f4, f5, f6, f7, f8]) ∧ oneCellFields Tryz.prog #[f0, f1, f2, f3, f4, f5, f6, f7, f8] = true ∧ Tryz.prog.underlying f0.type = some (.int .i64) ∧ Tryz.prog.underlying f1.type = some (.int .i64) ∧ f2.type = 60 ∧ Tryz.prog.underlying f3.type = some (.int .i64) ∧ Tryz.prog.underlying f4.type = some (.int .i64) ∧ Tryz.prog.underlying f5.type = some (.int .i64) ∧ Tryz.prog.underlying f6.type = some (.int .i64) ∧ Tryz.prog.underlying f7.type = some (.int .i64) ∧ Tryz.prog.underlying f8.type = some (.int .i64) :=
 ⟨_, _, _, _, _, _, _, _, _, Tryz.underlying62, by kernel_rfl, by kernel_rfl, by kernel_rfl, rfl, by kernel_rfl, by kernel_rfl, by kernel_rfl, by kernel_rfl, by kernel_rfl, by kernel_rfl⟩
theorem eP : Tryz.prog.cellsOf 62 = 9 := by kernel_rfl
theorem zAy {k : Nat} {v : Value} {x : DataW H × List MemPlace} (hf : DataW.trod enc Tryz.prog W 0 (fun _ => true) true k 25 [v] = some x) :
  ∃ (A : Option Addr) (l : List Un) (c : Nat), v = .slice A l.length c ∧ l.length ≤ c ∧ RowR UnR 9 W W A l := by
 obtain ⟨f0, f1, f2, f3, f4, f5, f6, f7, f8, hu, hone, u0, u1, u2, u3, u4, u5, u6, u7, u8⟩ := cA;refine vL (fs := #[f0, f1, f2, f3, f4, f5, f6, f7, f8]) un0 Tryz.underlying25 hu hone eP (by simp) (fun k c hl hc => ?_) hf;rcases c with _ | ⟨a0, _ | ⟨a1, _ | ⟨a2, _ | ⟨a3, _ | ⟨a4, _ | ⟨a5, _ | ⟨a6, _ | ⟨a7, _ | ⟨a8, _ | ⟨_, _⟩⟩⟩⟩⟩⟩⟩⟩⟩⟩ <;> simp at hl
 obtain ⟨v0, y0, e0, t0⟩ := hc 0 f0 rfl;obtain rfl : a0 = v0 := by simpa using e0
 obtain ⟨z0, g0, _⟩ := DataW.trod_int u0 t0;simp at g0;subst g0;obtain ⟨v1, y1, e1, t1⟩ := hc 1 f1 rfl;obtain rfl : a1 = v1 := by simpa using e1
 obtain ⟨z1, g1, _⟩ := DataW.trod_int u1 t1;simp at g1;subst g1;obtain ⟨v2, y2, e2, t2⟩ := hc 2 f2 rfl;obtain rfl : a2 = v2 := by simpa using e2
 rw [u2] at t2;obtain ⟨A2, l2, c2, rfl, h2, r2⟩ := sG t2;obtain ⟨v3, y3, e3, t3⟩ := hc 3 f3 rfl;obtain rfl : a3 = v3 := by simpa using e3
 obtain ⟨z3, g3, _⟩ := DataW.trod_int u3 t3;simp at g3;subst g3;obtain ⟨v4, y4, e4, t4⟩ := hc 4 f4 rfl;obtain rfl : a4 = v4 := by simpa using e4
 obtain ⟨z4, g4, _⟩ := DataW.trod_int u4 t4;simp at g4;subst g4;obtain ⟨v5, y5, e5, t5⟩ := hc 5 f5 rfl;obtain rfl : a5 = v5 := by simpa using e5
 obtain ⟨z5, g5, _⟩ := DataW.trod_int u5 t5;simp at g5;subst g5;obtain ⟨v6, y6, e6, t6⟩ := hc 6 f6 rfl;obtain rfl : a6 = v6 := by simpa using e6
 obtain ⟨z6, g6, _⟩ := DataW.trod_int u6 t6;simp at g6;subst g6;obtain ⟨v7, y7, e7, t7⟩ := hc 7 f7 rfl;obtain rfl : a7 = v7 := by simpa using e7
 obtain ⟨z7, g7, _⟩ := DataW.trod_int u7 t7;simp at g7;subst g7;obtain ⟨v8, y8, e8, t8⟩ := hc 8 f8 rfl;obtain rfl : a8 = v8 := by simpa using e8
 obtain ⟨z8, g8, _⟩ := DataW.trod_int u8 t8;simp at g8;subst g8;exact ⟨⟨z0, z1, l2, z3, z4, z5, z6, z7, z8⟩, A2, c2, rfl, h2, r2⟩
theorem cY : ∃ f0 f1 f2 : Field, Tryz.prog.underlying 49 = some (.struct #[f0, f1, f2]) ∧ oneCellFields Tryz.prog #[f0, f1, f2] = true ∧ f0.type = 47 ∧ f1.type = 47 ∧ Tryz.prog.underlying f2.type = some (.int .i64) :=
 ⟨_, _, _, Tryz.underlying49, by kernel_rfl, rfl, rfl, by kernel_rfl⟩
theorem tB : Tryz.prog.cellsOf 49 = 3 := by kernel_rfl
theorem zBc {k : Nat} {v : Value} {x : DataW H × List MemPlace} (hf : DataW.trod enc Tryz.prog W 0 (fun _ => true) true k 26 [v] = some x) :
  ∃ (A : Option Addr) (l : List Hr) (c : Nat), v = .slice A l.length c ∧ l.length ≤ c ∧ RowR HrR 3 W W A l := by
 obtain ⟨f0, f1, f2, hu, hone, u0, u1, u2⟩ := cY;refine vL (fs := #[f0, f1, f2]) hr0 Tryz.underlying26 hu hone tB (by simp) (fun k c hl hc => ?_) hf;rcases c with _ | ⟨a0, _ | ⟨a1, _ | ⟨a2, _ | ⟨_, _⟩⟩⟩⟩ <;> simp at hl
 obtain ⟨v0, y0, e0, t0⟩ := hc 0 f0 rfl;obtain rfl : a0 = v0 := by simpa using e0
 rw [u0] at t0;obtain ⟨A0, l0, c0, rfl, h0, r0⟩ := sI t0;obtain ⟨v1, y1, e1, t1⟩ := hc 1 f1 rfl;obtain rfl : a1 = v1 := by simpa using e1
 rw [u1] at t1;obtain ⟨A1, l1, c1, rfl, h1, r1⟩ := sI t1;obtain ⟨v2, y2, e2, t2⟩ := hc 2 f2 rfl;obtain rfl : a2 = v2 := by simpa using e2
 obtain ⟨z2, g2, _⟩ := DataW.trod_int u2 t2;simp at g2;subst g2;exact ⟨⟨l0, l1, z2⟩, A0, c0, A1, c1, rfl, h0, h1, r0, r1⟩
theorem nS : ∃ f0 f1 : Field, Tryz.prog.underlying 24 = some (.struct #[f0, f1]) ∧ oneCellFields Tryz.prog #[f0, f1] = true ∧ Tryz.prog.underlying f0.type = some (.int .i64) ∧ f1.type = 22 :=
 ⟨_, _, Tryz.underlying24, by kernel_rfl, by kernel_rfl, rfl⟩
theorem nA : ∃ f0 f1 f2 f3 f4 : Field, Tryz.prog.underlying 30 = some (.struct #[f0, f1, f2, f3, f4]) ∧ (f0.type = 24 ∧ f0.offset = 0) ∧ (f1.type = 25 ∧ f1.offset = 2) ∧ (f2.type = 26 ∧ f2.offset = 3) ∧ (f3.type = 27 ∧ f3.offset = 4) ∧ (f4.type = 28 ∧ f4.offset = 5) :=
 ⟨_, _, _, _, _, Tryz.underlying30, ⟨rfl, rfl⟩, ⟨rfl, rfl⟩, ⟨rfl, rfl⟩, ⟨rfl, rfl⟩, ⟨rfl, rfl⟩⟩
theorem aK : Tryz.prog.cellsOf 30 = 6 := by kernel_rfl
theorem cS : Tryz.prog.cellsOf 24 = 2 := by kernel_rfl
theorem yJ : Tryz.prog.cellsOf 25 = 1 ∧ Tryz.prog.cellsOf 26 = 1 ∧ Tryz.prog.cellsOf 27 = 1 ∧ Tryz.prog.cellsOf 28 = 1 := ⟨by kernel_rfl, by kernel_rfl, by kernel_rfl, by kernel_rfl⟩
theorem sH (hv : Value.okWide Tryz.prog W .any base 30 v) (h : DataW.Trod enc Tryz.prog W 0 (fun _ => true) true 30 v d p) :
  ∃ (x : Cs) (A1 A2 A3 A4 A5 : Option Addr) (c1 c2 c3 c4 c5 : Nat), v = .agg #[.int .i64 x.net.buses, .slice A1 x.net.lines.length c1, .slice A2 x.units.length c2, .slice A3 x.hours.length c3, .slice A4 x.outs.length c4, .slice A5 x.rights.length c5] ∧
   RowR LnE 4 W W A1 x.net.lines ∧ RowR UnR 9 W W A2 x.units ∧ RowR HrR 3 W W A3 x.hours ∧ RowR OgE' 4 W W A4 x.outs ∧ RowR RtE 3 W W A5 x.rights := by
 obtain ⟨f0, f1, f2, f3, f4, hu, ⟨u0, o0⟩, ⟨u1, o1⟩, ⟨u2, o2⟩, ⟨u3, o3⟩, ⟨u4, o4⟩⟩ := nA;obtain ⟨cs, rfl, hsz⟩ := okWide_struct hu hv;rw [aK] at hsz;obtain ⟨l⟩ := cs;replace hsz : l.length = 6 := hsz;rcases l with _ | ⟨a0, _ | ⟨a1, _ | ⟨a2, _ | ⟨a3, _ | ⟨a4, _ | ⟨a5, _ | ⟨_, _⟩⟩⟩⟩⟩⟩⟩ <;> simp at hsz
 obtain ⟨fuel, hf⟩ := h;obtain ⟨xs, n, _, _, _, hlen, hf⟩ := DataW.trod_struct hu hf;have e : (Value.agg #[a0, a1, a2, a3, a4, a5]).cells.toList = [a0, a1, a2, a3, a4, a5] := rfl;rw [e] at hf;have k0 := hf 0 f0 rfl;have k1 := hf 1 f1 rfl;have k2 := hf 2 f2 rfl;have k3 := hf 3 f3 rfl;have k4 := hf 4 f4 rfl;rw [u0, o0, cS] at k0;rw [u1, o1, yJ.1] at k1;rw [u2, o2, yJ.2.1] at k2;rw [u3, o3, yJ.2.2.1] at k3;rw [u4, o4, yJ.2.2.2] at k4;have hx : xs.length = 5 := hlen;rcases xs with _ | ⟨x0, _ | ⟨x1, _ | ⟨x2, _ | ⟨x3, _ | ⟨x4, _ | ⟨_, _⟩⟩⟩⟩⟩⟩ <;> simp at hx
 replace k0 : DataW.trod enc Tryz.prog W 0 (fun _ => true) true n 24 [a0, a1] = some x0 := k0;obtain ⟨m0, m1, hun, hone, w0, w1⟩ := nS;obtain ⟨y0, y1, n', _, _, q0, q1⟩ := trod_struct2 hun k0;obtain ⟨r0, s0⟩ := hone_of hone 0 m0 rfl;obtain ⟨r1, s1⟩ := hone_of hone 1 m1 rfl;rw [r0, s0] at q0;rw [r1, s1, w1] at q1;obtain ⟨nb, g0, _⟩ := DataW.trod_int w0 q0;simp at g0;subst g0;obtain ⟨A1, l1, c1, rfl, _, h1⟩ := zBb (show DataW.trod enc Tryz.prog W 0 (fun _ => true) true n' 22 [a1] = some y1 from q1);obtain ⟨A2, l2, c2, rfl, _, h2⟩ := zAy (show DataW.trod enc Tryz.prog W 0 (fun _ => true) true n 25 [a2] = some x1 from k1);obtain ⟨A3, l3, c3, rfl, _, h3⟩ := zBc (show DataW.trod enc Tryz.prog W 0 (fun _ => true) true n 26 [a3] = some x2 from k2);obtain ⟨A4, l4, c4, rfl, _, h4⟩ := zBa (show DataW.trod enc Tryz.prog W 0 (fun _ => true) true n 27 [a4] = some x3 from k3);obtain ⟨A5, l5, c5, rfl, _, h5⟩ := zAz (show DataW.trod enc Tryz.prog W 0 (fun _ => true) true n 28 [a5] = some x4 from k4);exact ⟨⟨⟨nb, l1⟩, l2, l3, l4, l5⟩, A1, A2, A3, A4, A5, c1, c2, c3, c4, c5, rfl, h1, h2, h3, h4, h5⟩
end
end Go.Proofs.YtkfhpefmmhljmaaGreatDoor
