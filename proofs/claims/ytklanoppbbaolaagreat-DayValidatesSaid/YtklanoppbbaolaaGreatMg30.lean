/- Texts in one: Ew3, Ew4. -/
import Derived.Below
import Derived.AtR
import Derived.Laws.AppendOwn
import Derived.Laws.BytesArg
import Derived.Laws.IdiomCopy
import Derived.Laws.Strings
import Derived.Test.YtklanoppbbaolaaGreatMg29
import Derived.Test.YtklanoppbbaolaaGreatMg10
/- A closed run: what the data mean, and memory. No program is named here. -/
namespace Go.Proofs.YtklanoppbbaolaaGreat
open Go Go.RowKit
set_option linter.unusedVariables false
set_option linter.unusedSimpArgs false
namespace Tr
variable {α : Type}
theorem get_lf (n : Nat) : (Tr.lf : Tr α).get n = none := rfl
theorem beq_t {m : Nat} (h : m % 2 = 0) : Nat.beq (m % 2) 0 = true := by rw [h]; rfl
theorem beq_f {m : Nat} (h : m % 2 = 1) : Nat.beq (m % 2) 0 = false := by rw [h]; rfl
theorem get_set_ne : ∀ (f : Nat) (t : Tr α) (n m : Nat) (x : Option α), m ≠ n → (set f t n x).get m = t.get m := by
  intro f
  induction f with
  | zero => intro t n m x _; rfl
  | succ f ih =>
    intro t n m x h
    cases t with
    | lf =>
      cases n with
      | zero =>
        cases m with
        | zero => exact absurd rfl h
        | succ m => simp only [set, get]; split <;> rfl
      | succ n =>
        rcases Nat.mod_two_eq_zero_or_one n with hn | hn
        · simp only [set, beq_t hn]
          cases m with
          | zero => rfl
          | succ m =>
            rcases Nat.mod_two_eq_zero_or_one m with hm | hm
            · simp only [get, beq_t hm]; rw [ih _ _ _ _ (by omega), get_lf]
            · simp only [get, beq_f hm]
        · simp only [set, beq_f hn]
          cases m with
          | zero => rfl
          | succ m =>
            rcases Nat.mod_two_eq_zero_or_one m with hm | hm
            · simp only [get, beq_t hm]
            · simp only [get, beq_f hm]; rw [ih _ _ _ _ (by omega), get_lf]
    | nd l v r =>
      cases n with
      | zero =>
        cases m with
        | zero => exact absurd rfl h
        | succ m => simp only [set, get]
      | succ n =>
        rcases Nat.mod_two_eq_zero_or_one n with hn | hn
        · simp only [set, beq_t hn]
          cases m with
          | zero => rfl
          | succ m =>
            rcases Nat.mod_two_eq_zero_or_one m with hm | hm
            · simp only [get, beq_t hm]; rw [ih _ _ _ _ (by omega)]
            · simp only [get, beq_f hm]
        · simp only [set, beq_f hn]
          cases m with
          | zero => rfl
          | succ m =>
            rcases Nat.mod_two_eq_zero_or_one m with hm | hm
            · simp only [get, beq_t hm]
            · simp only [get, beq_f hm]; rw [ih _ _ _ _ (by omega)]
theorem get_set : ∀ (f : Nat) (t : Tr α) (n : Nat) (x : Option α), n + 1 < 2 ^ f → (set f t n x).get n = x := by
  intro f
  induction f with
  | zero => intro t n x h; simp at h
  | succ f ih =>
    intro t n x h
    rw [Nat.pow_succ] at h
    cases n with
    | zero => cases t <;> rfl
    | succ n =>
      cases t with
      | lf =>
        rcases Nat.mod_two_eq_zero_or_one n with hn | hn
        · simp only [set, get, beq_t hn]; exact ih _ _ _ (by omega)
        · simp only [set, get, beq_f hn]; exact ih _ _ _ (by omega)
      | nd l v r =>
        rcases Nat.mod_two_eq_zero_or_one n with hn | hn
        · simp only [set, get, beq_t hn]; exact ih _ _ _ (by omega)
        · simp only [set, get, beq_f hn]; exact ih _ _ _ (by omega)
end Tr
theorem FU_pow {n : Nat} (h : n < 1000000) : n + 1 < 2 ^ FU := by
  have : (2 : Nat) ^ FU = 16777216 := by decide
  omega
theorem lenL_eq {α : Type} : ∀ l : List α, lenL l = l.length
  | [] => rfl
  | _ :: l => by rw [lenL, lenL_eq l, List.length_cons]
theorem takeN_eq {α : Type} : ∀ (n : Nat) (l : List α), takeN n l = l.take n
  | 0, l => by simp [takeN]
  | _ + 1, [] => by simp [takeN]
  | n + 1, a :: l => by simp [takeN, takeN_eq n l]
theorem dropN_eq {α : Type} : ∀ (n : Nat) (l : List α), dropN n l = l.drop n
  | 0, l => by simp [dropN]
  | _ + 1, [] => by simp [dropN]
  | n + 1, a :: l => by simp [dropN, dropN_eq n l]
theorem nthL_eq {α : Type} : ∀ (l : List α) (n : Nat), nthL l n = l[n]?
  | [], _ => by simp [nthL]
  | _ :: _, 0 => by simp [nthL]
  | _ :: l, n + 1 => by simp [nthL, nthL_eq l n]
/-- Where a block lies, and the capacity of the slices in it. -/
abbrev Gh := Nat → Nat × Nat
mutual
def conc (x : Gh) : AV → Value
  | .v y => y
  | .ptr b o => .pointer (some ⟨(x b).1, o, none⟩)
  | .sl b o e n => .slice (some ⟨(x b).1, o, none⟩) n ((x b).2 - e)
  | .sk b o n c => .slice (some ⟨(x b).1, o, none⟩) n c
  | .agg l => .agg (concL x l).toArray
  | .tup l => .tuple (concL x l).toArray
  | .fn f a l => .func (.func f) (concL x a).toArray (concL x l).toArray
  | .yl b => .func (.yield (x b).1) #[] #[]
  | .mp b => .map (some (x b).1)
  | .ifc t a => .iface t (conc x a)
def concL (x : Gh) : List AV → List Value
  | [] => []
  | a :: l => conc x a :: concL x l
end
mutual
/-- Only blocks that L has are named. -/
def AV.ok (x : Gh) (L : Nat → Prop) : AV → Prop
  | .v _ => True
  | .ptr b _ => L b
  | .sl b _ e n => L b ∧ e + n ≤ (x b).2
  | .sk b _ _ _ => L b
  | .agg l => okL x L l
  | .tup l => okL x L l
  | .fn _ a l => okL x L a ∧ okL x L l
  | .yl b => L b
  | .mp b => L b
  | .ifc _ a => a.ok x L
def okL (x : Gh) (L : Nat → Prop) : List AV → Prop
  | [] => True
  | a :: l => a.ok x L ∧ okL x L l
end
theorem concL_map (x : Gh) (l : List AV) : concL x l = l.map (conc x) := by
  induction l with
  | nil => rw [concL]; rfl
  | cons a l ih => rw [concL, ih]; rfl
theorem okL_iff {x : Gh} {L : Nat → Prop} {l : List AV} : okL x L l ↔ ∀ a ∈ l, a.ok x L := by
  induction l with
  | nil => simp [okL]
  | cons a l ih => simp [okL, ih]
/-- The later ghost agrees with the earlier. -/
def Ext (L : Nat → Prop) (x x' : Gh) : Prop := ∀ b, L b → x' b = x b
def Sub (L L' : Nat → Prop) : Prop := ∀ b, L b → L' b
theorem Ext.refl (L : Nat → Prop) (x : Gh) : Ext L x x := fun _ _ => rfl
theorem Ext.trans {L M : Nat → Prop} {x x' x'' : Gh} (h : Ext L x x') (k : Ext M x' x'') (hl : Sub L M) : Ext L x x'' := fun b hb => (k b (hl b hb)).trans (h b hb)
mutual
theorem conc_ext {L : Nat → Prop} {x x' : Gh} (h : Ext L x x') : ∀ (a : AV), a.ok x L → conc x' a = conc x a
  | .v y, _ => by simp only [conc]
  | .ptr b o, k => by simp only [conc, h b (by simpa only [AV.ok] using k)]
  | .sl b o e m, k => by rw [AV.ok] at k; simp only [conc, h b k.1]
  | .sk b o e m, k => by simp only [conc, h b (by simpa only [AV.ok] using k)]
  | .agg l, k => by simp only [conc, concL_ext h l (by simpa only [AV.ok] using k)]
  | .tup l, k => by simp only [conc, concL_ext h l (by simpa only [AV.ok] using k)]
  | .fn f a l, k => by
    rw [AV.ok] at k
    simp only [conc, concL_ext h a k.1, concL_ext h l k.2]
  | .yl b, k => by simp only [conc, h b (by simpa only [AV.ok] using k)]
  | .mp b, k => by simp only [conc, h b (by simpa only [AV.ok] using k)]
  | .ifc t a, k => by simp only [conc, conc_ext h a (by simpa only [AV.ok] using k)]
theorem concL_ext {L : Nat → Prop} {x x' : Gh} (h : Ext L x x') : ∀ (l : List AV), okL x L l → concL x' l = concL x l
  | [], _ => by simp only [concL]
  | a :: l, k => by
    rw [okL] at k
    simp only [concL, conc_ext h a k.1, concL_ext h l k.2]
end
mutual
theorem ok_mono {x x' : Gh} {L L' : Nat → Prop} (hx : Ext L x x') (h : Sub L L') : ∀ (a : AV), a.ok x L → a.ok x' L'
  | .v y, _ => by simp only [AV.ok]
  | .ptr b o, k => by simp only [AV.ok] at *; exact h _ k
  | .sl b o e q, k => by simp only [AV.ok] at *; exact ⟨h _ k.1, by rw [hx b k.1]; exact k.2⟩
  | .sk b o e q, k => by simp only [AV.ok] at *; exact h _ k
  | .agg l, k => by simp only [AV.ok] at *; exact okL_mono hx h l k
  | .tup l, k => by simp only [AV.ok] at *; exact okL_mono hx h l k
  | .fn f a l, k => by simp only [AV.ok] at *; exact ⟨okL_mono hx h a k.1, okL_mono hx h l k.2⟩
  | .yl b, k => by simp only [AV.ok] at *; exact h _ k
  | .mp b, k => by simp only [AV.ok] at *; exact h _ k
  | .ifc t a, k => by simp only [AV.ok] at *; exact ok_mono hx h a k
theorem okL_mono {x x' : Gh} {L L' : Nat → Prop} (hx : Ext L x x') (h : Sub L L') : ∀ (l : List AV), okL x L l → okL x' L' l
  | [], _ => by simp only [okL]
  | a :: l, k => by
    rw [okL] at *
    exact ⟨ok_mono hx h a k.1, okL_mono hx h l k.2⟩
end
theorem conc_v (x : Gh) (y : Value) : conc x (.v y) = y := by simp only [conc]
def TmR (x : Gh) (L : Nat → Prop) (T : Tr AV) (tm : Array Value) : Prop := ∀ t a, T.get t = some a → tm.getD t undef = conc x a ∧ a.ok x L
theorem TmR.ext {x x' : Gh} {L L' : Nat → Prop} {T : Tr AV} {tm : Array Value} (h : TmR x L T tm) (hx : Ext L x x') (hL : Sub L L') : TmR x' L' T tm := fun t a ht => ⟨by rw [conc_ext hx a (h t a ht).2]; exact (h t a ht).1, ok_mono hx hL a (h t a ht).2⟩
/-- What lies at g, the slices in it with capacity cap. -/
def ObR (x : Gh) (L : Nat → Prop) (w : World) (g cap : Nat) : Ob → Prop
  | .c cs t sz ex => ∃ cur : Array Value, w.heap[g]? = some (.cells cur t) ∧ (∀ (i : Nat) (a : AV), cs[i]? = some a → cur[i]? = some (conc x a)) ∧ cs.length ≤ cur.size ∧ (ex = false → cur.size = cap * sz ∧ cap ≤ maxLen) ∧ (ex = true → cur.size = cs.length) ∧ okL x L cs
  | .lp st pend fn T tz ps asg bd d => ∃ tm : Array Value, w.heap[g]? = some (.loop { state := st, pending := pend, fn := fn, tmps := tm, params := ps, assign := asg, body := bd, defers := (x d).1 }) ∧ TmR x L T tm ∧ tm.size = tz ∧ L d
  | .df => w.heap[g]? = some (.deferred (some []))
  | .mp es => ∃ (ms : Array MapEntry) (k : Nat), w.heap[g]? = some (.map ms k) ∧ ms.toList.map (fun e => (e.key, e.val)) = es.map (fun p => (conc x p.1, conc x p.2)) ∧ ∀ p ∈ es, p.1.ok x L ∧ p.2.ok x L
theorem ObR.ext {x x' : Gh} {L L' : Nat → Prop} {w w' : World} {g cap : Nat} {k : Ob} (h : ObR x L w g cap k) (hx : Ext L x x') (hL : Sub L L') (hw : w'.heap[g]? = w.heap[g]?) : ObR x' L' w' g cap k := by
  cases k with
  | c cs t sz ex =>
    obtain ⟨cur, h1, h2, h3, h4, h5, h6⟩ := h
    refine ⟨cur, by rw [hw]; exact h1, fun i a ha => ?_, h3, h4, h5, okL_mono hx hL _ h6⟩
    rw [conc_ext hx a (okL_iff.1 h6 a (List.mem_of_getElem? ha))]
    exact h2 i a ha
  | lp st pend fn T tz ps asg bd d =>
    obtain ⟨tm, h1, h2, h3, h4⟩ := h
    exact ⟨tm, by rw [hw, h1, hx d h4], h2.ext hx hL, h3, hL d h4⟩
  | df => exact (show w'.heap[g]? = _ by rw [hw]; exact h)
  | mp es =>
    obtain ⟨ms, k, h1, h2, h3⟩ := h
    refine ⟨ms, k, by rw [hw]; exact h1, ?_, fun p hp => ⟨ok_mono hx hL _ (h3 p hp).1, ok_mono hx hL _ (h3 p hp).2⟩⟩
    rw [h2]
    exact List.map_congr_left fun p hp => by rw [conc_ext hx _ (h3 p hp).1, conc_ext hx _ (h3 p hp).2]
theorem ObR.lt {x : Gh} {L : Nat → Prop} {w : World} {g cap : Nat} {k : Ob} (h : ObR x L w g cap k) : g < w.heap.size := by
  cases k with
  | c cs t sz ex => obtain ⟨cur, h1, _⟩ := h; exact (Array.getElem?_eq_some_iff.1 h1).1
  | lp st pend fn T tz ps asg bd d => obtain ⟨tm, h1, _⟩ := h; exact (Array.getElem?_eq_some_iff.1 h1).1
  | df => exact (Array.getElem?_eq_some_iff.1 (show w.heap[g]? = _ from h)).1
  | mp es => obtain ⟨ms, k, h1, _⟩ := h; exact (Array.getElem?_eq_some_iff.1 h1).1
structure HR (base : Nat) (x : Gh) (L : Nat → Prop) (w : World) (H : Hp) : Prop where
  size : base ≤ w.heap.size
  fin : H.n < 1000000
  rn : H.r ≤ H.n
  lt : ∀ b, L b → b < H.n
  gn : ∀ b k, H.get b = some k → b < H.n
  at_ : ∀ b k, H.get b = some k → L b → ObR x L w (x b).1 (x b).2 k
  ro : ∀ b k, H.get b = some k → L b → b < H.r → (x b).1 < base
  rw_ : ∀ b k, H.get b = some k → L b → H.r ≤ b → base ≤ (x b).1
  inj : ∀ b c k l, H.get b = some k → H.get c = some l → L b → L c → H.r ≤ b → H.r ≤ c → (x b).1 = (x c).1 → b = c
def Gh.up (x : Gh) (n : Nat) (p : Nat × Nat) : Gh := fun b => if b = n then p else x b
theorem Gh.up_at (x : Gh) (n : Nat) (p : Nat × Nat) : Gh.up x n p n = p := if_pos rfl
theorem Gh.up_ne (x : Gh) {n b : Nat} (p : Nat × Nat) (h : b ≠ n) : Gh.up x n p b = x b := if_neg h
theorem Gh.up_ext {L : Nat → Prop} (x : Gh) {n : Nat} (p : Nat × Nat) (h : ¬ L n) : Ext L x (Gh.up x n p) := fun b hb => Gh.up_ne x p fun e => h (e ▸ hb)
def Lup (L : Nat → Prop) (n : Nat) : Nat → Prop := fun b => L b ∨ b = n
theorem Lup.sub (L : Nat → Prop) (n : Nat) : Sub L (Lup L n) := fun _ h => .inl h
/-- What a step keeps. -/
structure Nx (base : Nat) (x : Gh) (L : Nat → Prop) (w : World) (H : Hp) (x' : Gh) (L' : Nat → Prop) (w' : World) (H' : Hp) : Prop where
  hr : HR base x' L' w' H'
  ext : Ext L x x'
  sub : Sub L L'
  stay : ∀ b, b < H.n → ¬ L b → ¬ L' b ∧ H'.get b = H.get b
  le : H.n ≤ H'.n
  r : H'.r = H.r
  below : Below base w w'
theorem Nx.refl {base : Nat} {x : Gh} {L : Nat → Prop} {w : World} {H : Hp} (h : HR base x L w H) : Nx base x L w H x L w H := ⟨h, Ext.refl _ _, fun _ h => h, fun _ _ h => ⟨h, rfl⟩, Nat.le_refl _, rfl, Below.refl _ _⟩
theorem Nx.trans {base : Nat} {x x' x'' : Gh} {L L' L'' : Nat → Prop} {w w' w'' : World} {H H' H'' : Hp} (h : Nx base x L w H x' L' w' H') (k : Nx base x' L' w' H' x'' L'' w'' H'') : Nx base x L w H x'' L'' w'' H'' :=
  ⟨k.hr, h.ext.trans k.ext h.sub, fun b hb => k.sub b (h.sub b hb), fun b hb hn => by
    obtain ⟨h1, h2⟩ := h.stay b hb hn
    obtain ⟨h3, h4⟩ := k.stay b (Nat.lt_of_lt_of_le hb h.le) h1
    exact ⟨h3, h4.trans h2⟩, Nat.le_trans h.le k.le, k.r.trans h.r, h.below.trans k.below⟩
section
variable {base : Nat} {x : Gh} {L : Nat → Prop} {w w' : World} {H : Hp}
theorem HR.glt (h : HR base x L w H) {b : Nat} {k : Ob} (hb : H.get b = some k) (hL : L b) : (x b).1 < w.heap.size := (h.at_ b k hb hL).lt
/-- Memory that keeps all blocks below its size. -/
theorem HR.keep (h : HR base x L w H) (hs : w.heap.size ≤ w'.heap.size) (hb : ∀ k, k < w.heap.size → w'.heap[k]? = w.heap[k]?) : HR base x L w' H :=
  ⟨Nat.le_trans h.size hs, h.fin, h.rn, h.lt, h.gn, fun b k hk hL => (h.at_ b k hk hL).ext (Ext.refl _ _) (fun _ h => h) (hb _ (h.glt hk hL)), h.ro, h.rw_, h.inj⟩
theorem Hp.new_get (H : Hp) (k : Ob) (h : H.n < 1000000) (b : Nat) : (H.new k).get b = if b = H.n then some k else H.get b := by
  by_cases e : b = H.n
  · subst e; rw [if_pos rfl]; exact Tr.get_set _ _ _ _ (FU_pow h)
  · rw [if_neg e]; exact Tr.get_set_ne _ _ _ _ _ e
theorem Hp.put_get (H : Hp) {c : Nat} (k : Ob) (h : c < 1000000) (b : Nat) : (H.put c k).get b = if b = c then some k else H.get b := by
  by_cases e : b = c
  · subst e; rw [if_pos rfl]; exact Tr.get_set _ _ _ _ (FU_pow h)
  · rw [if_neg e]; exact Tr.get_set_ne _ _ _ _ _ e
theorem Hp.drop_get (H : Hp) {c : Nat} (h : c < 1000000) (b : Nat) : (H.drop c).get b = if b = c then none else H.get b := by
  by_cases e : b = c
  · subst e; rw [if_pos rfl]; exact Tr.get_set _ _ _ _ (FU_pow h)
  · rw [if_neg e]; exact Tr.get_set_ne _ _ _ _ _ e
/-- A block is laid on the data's side, not yet alive. -/
theorem HR.lay (h : HR base x L w H) (hn : H.n + 1 < 1000000) (k : Ob) : HR base x L w (H.new k) ∧ ¬ L H.n ∧ (H.new k).get H.n = some k := by
  have hL : ¬ L H.n := fun hl => Nat.lt_irrefl _ (h.lt _ hl)
  have hg : ∀ b k', (H.new k).get b = some k' → L b → H.get b = some k' := fun b k' hk hb => by
    rw [Hp.new_get _ _ h.fin, if_neg (show b ≠ H.n from fun e => hL (e ▸ hb))] at hk
    exact hk
  refine ⟨⟨h.size, hn, Nat.le_succ_of_le h.rn, fun b hb => Nat.lt_succ_of_lt (h.lt b hb), fun b k' hk => ?_, fun b k' hk hb => h.at_ b k' (hg b k' hk hb) hb, fun b k' hk hb => h.ro b k' (hg b k' hk hb) hb, fun b k' hk hb => h.rw_ b k' (hg b k' hk hb) hb, fun b c k' l hk hl hb hc => h.inj b c k' l (hg b k' hk hb) (hg c l hl hc) hb hc⟩, hL, ?_⟩
  · rw [Hp.new_get _ _ h.fin] at hk
    by_cases e : b = H.n
    · subst e; exact Nat.lt_succ_self _
    · rw [if_neg e] at hk
      exact Nat.lt_succ_of_lt (h.gn b k' hk)
  · rw [Hp.new_get _ _ h.fin, if_pos rfl]
/-- A block comes alive: it lies at g now. -/
theorem HR.live' (h : HR base x L w H) {b0 : Nat} {k : Ob} (hL : ¬ L b0) (hk : H.get b0 = some k) (hr : H.r ≤ b0) {g cap : Nat} (hs : base ≤ w'.heap.size) (hold : ∀ b l, H.get b = some l → L b → w'.heap[(x b).1]? = w.heap[(x b).1]?)
    (hg : base ≤ g) (hne : ∀ b l, H.get b = some l → L b → H.r ≤ b → (x b).1 ≠ g) (ho : ObR (Gh.up x b0 (g, cap)) (Lup L b0) w' g cap k) : HR base (Gh.up x b0 (g, cap)) (Lup L b0) w' H := by
  have hx : Ext L x (Gh.up x b0 (g, cap)) := Gh.up_ext x _ hL
  have hcase : ∀ b, Lup L b0 b → (b = b0) ∨ (b ≠ b0 ∧ L b) := fun b hb => by
    by_cases e : b = b0
    · exact .inl e
    · exact .inr ⟨e, hb.resolve_right e⟩
  refine ⟨hs, h.fin, h.rn, fun b hb => ?_, h.gn, fun b l hl hb => ?_, fun b l hl hb hbr => ?_, fun b l hl hb hbr => ?_, fun b c l m hl hm hb hc hbr hcr he => ?_⟩
  · rcases hb with hb | rfl
    · exact h.lt b hb
    · exact h.gn _ _ hk
  · rcases hcase b hb with rfl | ⟨hne, hb'⟩
    · rw [hk] at hl
      injection hl with hl
      subst hl
      rw [Gh.up_at]
      exact ho
    · rw [Gh.up_ne _ _ hne]
      exact (h.at_ b l hl hb').ext hx (Lup.sub _ _) (hold _ _ hl hb')
  · rcases hcase b hb with rfl | ⟨hne, hb'⟩
    · omega
    · rw [Gh.up_ne _ _ hne]
      exact h.ro b l hl hb' hbr
  · rcases hcase b hb with rfl | ⟨hne, hb'⟩
    · rw [Gh.up_at]
      exact hg
    · rw [Gh.up_ne _ _ hne]
      exact h.rw_ b l hl hb' hbr
  · rcases hcase b hb with rfl | ⟨hneb, hb'⟩ <;> rcases hcase c hc with rfl | ⟨hnc, hc'⟩
    · rfl
    · rw [Gh.up_at, Gh.up_ne _ _ hnc] at he
      exact absurd he.symm (hne c m hm hc' hcr)
    · rw [Gh.up_at, Gh.up_ne _ _ hneb] at he
      exact absurd he (hne b l hl hb' hbr)
    · rw [Gh.up_ne _ _ hneb, Gh.up_ne _ _ hnc] at he
      exact h.inj b c l m hl hm hb' hc' hbr hcr he
theorem HR.live (h : HR base x L w H) {b0 : Nat} {k : Ob} (hL : ¬ L b0) (hk : H.get b0 = some k) (hr : H.r ≤ b0) (hs : w.heap.size ≤ w'.heap.size) (hold : ∀ k, k < w.heap.size → w'.heap[k]? = w.heap[k]?)
    {g cap : Nat} (hg : w.heap.size ≤ g) (ho : ObR (Gh.up x b0 (g, cap)) (Lup L b0) w' g cap k) : HR base (Gh.up x b0 (g, cap)) (Lup L b0) w' H :=
  h.live' hL hk hr (Nat.le_trans h.size hs) (fun b l hl hb => hold _ (h.glt hl hb)) (Nat.le_trans h.size hg) (fun b l hl hb _ e => by have := h.glt hl hb; omega) ho
/-- A new block, alive at once. -/
theorem HR.new (h : HR base x L w H) (hn : H.n + 1 < 1000000) {k : Ob} (hs : w.heap.size ≤ w'.heap.size) (hold : ∀ k, k < w.heap.size → w'.heap[k]? = w.heap[k]?)
    {g cap : Nat} (hg : w.heap.size ≤ g) (ho : ObR (Gh.up x H.n (g, cap)) (Lup L H.n) w' g cap k) (hb : Below base w w') : Nx base x L w H (Gh.up x H.n (g, cap)) (Lup L H.n) w' (H.new k) := by
  obtain ⟨h1, h2, h3⟩ := h.lay hn k
  refine ⟨h1.live h2 h3 h.rn hs hold hg ho, Gh.up_ext x _ h2, Lup.sub _ _, fun b hb hnL => ⟨fun hl => ?_, ?_⟩, Nat.le_succ _, rfl, hb⟩
  · rcases hl with hl | rfl
    · exact hnL hl
    · omega
  · rw [Hp.new_get _ _ h.fin, if_neg (by omega)]
/-- A block is dropped. -/
theorem HR.drop (h : HR base x L w H) {b : Nat} (hb : L b) : Nx base x L w H x L w (H.drop b) := by
  have hbn := h.lt b hb
  have hget : ∀ c k, (H.drop b).get c = some k → H.get c = some k := fun c k hk => by
    rw [Hp.drop_get _ (by have := h.fin; omega)] at hk
    by_cases e : c = b
    · rw [if_pos e] at hk; cases hk
    · rwa [if_neg e] at hk
  refine ⟨⟨h.size, h.fin, h.rn, h.lt, fun c k hk => h.gn c k (hget c k hk), fun c k hk => h.at_ c k (hget c k hk), fun c k hk => h.ro c k (hget c k hk), fun c k hk => h.rw_ c k (hget c k hk), fun c d k l hk hl => h.inj c d k l (hget c k hk) (hget d l hl)⟩, Ext.refl _ _, fun _ h => h, fun c _ hnL => ⟨hnL, ?_⟩, Nat.le_refl _, rfl, Below.refl _ _⟩
  rw [Hp.drop_get _ (by have := h.fin; omega), if_neg (show c ≠ b from fun e => hnL (e ▸ hb))]
/-- A block's content is another. -/
theorem HR.put (h : HR base x L w H) {b : Nat} {k k' : Ob} (hk : H.get b = some k) (hb : L b) (hr : H.r ≤ b)
    (hs : w'.heap.size = w.heap.size) (hold : ∀ j, j ≠ (x b).1 → w'.heap[j]? = w.heap[j]?) (ho : ObR x L w' (x b).1 (x b).2 k') (hbl : Below base w w') : Nx base x L w H x L w' (H.put b k') := by
  have hbn : b < 1000000 := by have := h.fin; have := h.lt b hb; omega
  have hget : ∀ c l, (H.put b k').get c = some l → (c = b ∧ l = k') ∨ (c ≠ b ∧ H.get c = some l) := fun c l hl => by
    rw [Hp.put_get _ _ hbn] at hl
    by_cases e : c = b
    · rw [if_pos e] at hl
      exact .inl ⟨e, (Option.some.inj hl).symm⟩
    · rw [if_neg e] at hl
      exact .inr ⟨e, hl⟩
  have hin : ∀ c l, (H.put b k').get c = some l → ∃ l', H.get c = some l' := fun c l hl => by
    rcases hget c l hl with ⟨rfl, _⟩ | ⟨_, h⟩
    · exact ⟨k, hk⟩
    · exact ⟨l, h⟩
  refine ⟨⟨by rw [hs]; exact h.size, h.fin, h.rn, h.lt, fun c l hl => ?_, fun c l hl hc => ?_, fun c l hl hc hcr => ?_, fun c l hl hc hcr => ?_, fun c d l m hl hm hc hd hcr hdr he => ?_⟩, Ext.refl _ _, fun _ h => h, fun c _ hnL => ⟨hnL, ?_⟩, Nat.le_refl _, rfl, hbl⟩
  · obtain ⟨l', hl'⟩ := hin c l hl
    exact h.gn c l' hl'
  · rcases hget c l hl with ⟨rfl, rfl⟩ | ⟨hcb, hl'⟩
    · exact ho
    · refine (h.at_ c l hl' hc).ext (Ext.refl _ _) (fun _ h => h) (hold _ fun he => ?_)
      rcases Nat.lt_or_ge c H.r with hcr | hcr
      · have h1 := h.ro c l hl' hc hcr
        have h2 := h.rw_ b k hk hb hr
        omega
      · exact hcb (h.inj c b l k hl' hk hc hb hcr hr he)
  · obtain ⟨l', hl'⟩ := hin c l hl
    exact h.ro c l' hl' hc hcr
  · obtain ⟨l', hl'⟩ := hin c l hl
    exact h.rw_ c l' hl' hc hcr
  · obtain ⟨l', hl'⟩ := hin c l hl
    obtain ⟨m', hm'⟩ := hin d m hm
    exact h.inj c d l' m' hl' hm' hc hd hcr hdr he
  · rw [Hp.put_get _ _ hbn, if_neg (show c ≠ b from fun e => hnL (e ▸ hb))]
theorem putO_eq {H H' : Hp} {b : Nat} {k : Ob} (h : H.putO b k = some H') : H.r ≤ b ∧ H' = H.put b k := by
  unfold Hp.putO at h
  cases hb : Nat.ble H.r b with
  | false => rw [hb] at h; cases h
  | true => rw [hb] at h; injection h with h; exact ⟨Nat.le_of_ble_eq_true hb, h.symm⟩
end
end Go.Proofs.YtklanoppbbaolaaGreat
/- A closed run: the operations that neither read nor turn memory. No program is named here. -/
namespace Go.Proofs.YtklanoppbbaolaaGreat
open Go Go.RowKit
set_option linter.unusedVariables false
set_option linter.unusedSimpArgs false
theorem setC_len : ∀ (l : List AV) (o : Nat) (m : List AV), (setC l o m).length = l.length
  | [], o, m => by simp only [setC]
  | y :: l, o + 1, m => by simp only [setC, List.length_cons, setC_len l o m]
  | y :: l, 0, [] => by simp only [setC]
  | y :: l, 0, a :: m => by simp only [setC, List.length_cons, setC_len l 0 m]
theorem setC_at : ∀ (l : List AV) (o : Nat) (m : List AV) (i : Nat), o + m.length ≤ l.length → (setC l o m)[i]? = if o ≤ i ∧ i < o + m.length then m[i - o]? else l[i]?
  | [], o, m, i, hl => by simp at hl; obtain ⟨rfl, rfl⟩ := hl; simp [setC]
  | y :: l, o + 1, m, i, hl => by
    cases i with
    | zero => rw [if_neg (by omega)]; simp only [setC, List.getElem?_cons_zero]
    | succ i =>
      simp only [setC, List.getElem?_cons_succ]
      rw [setC_at l o m i (by simp at hl; omega)]
      by_cases hc : o ≤ i ∧ i < o + m.length
      · rw [if_pos hc, if_pos (by omega), show i + 1 - (o + 1) = i - o by omega]
      · rw [if_neg hc, if_neg (by omega)]
  | y :: l, 0, [], i, _ => by
    rw [if_neg (by simp)]
    simp only [setC]
  | y :: l, 0, b :: m, i, hl => by
    cases i with
    | zero => rw [if_pos (by simp)]; simp only [setC, List.getElem?_cons_zero, Nat.sub_self]
    | succ i =>
      simp only [setC, List.getElem?_cons_succ]
      rw [setC_at l 0 m i (by simp at hl; omega)]
      by_cases hc : i < m.length
      · rw [if_pos (by omega), if_pos (by simp; omega)]; simp
      · rw [if_neg (by omega), if_neg (by simp; omega)]
theorem setC_ok {x : Gh} {L : Nat → Prop} : ∀ (l : List AV) (o : Nat) (m : List AV), okL x L l → okL x L m → okL x L (setC l o m)
  | [], o, m, _, _ => by simp only [setC, okL]
  | y :: l, o + 1, m, h, k => by
    rw [okL] at h
    simp only [setC, okL]
    exact ⟨h.1, setC_ok l o m h.2 k⟩
  | y :: l, 0, [], h, _ => by simpa only [setC] using h
  | y :: l, 0, a :: m, h, k => by
    rw [okL] at h k
    simp only [setC, okL]
    exact ⟨k.1, setC_ok l 0 m h.2 k.2⟩
theorem conc_cells (x : Gh) (a : AV) : (conc x a).cells.toList = a.cells.map (conc x) := by
  cases a with
  | v y =>
    simp only [conc, AV.cells, List.map_map]
    have : (conc x ∘ AV.v) = id := funext fun z => conc_v x z
    rw [this, List.map_id]
  | agg l => simp only [conc, AV.cells, concL_map, Value.cells]
  | ptr b o => simp [conc, AV.cells, Value.cells]
  | sl b o e n => simp [conc, AV.cells, Value.cells]
  | sk b o e n => simp [conc, AV.cells, Value.cells]
  | tup l => simp [conc, AV.cells, Value.cells]
  | fn f a l => simp [conc, AV.cells, Value.cells]
  | yl b => simp [conc, AV.cells, Value.cells]
  | mp b => simp [conc, AV.cells, Value.cells]
  | ifc t a => simp [conc, AV.cells, Value.cells]
theorem cells_v (z : Array Value) (x : Gh) : (z.toList.map AV.v).map (conc x) = z.toList := by
  rw [List.map_map, show (conc x ∘ AV.v) = id from funext fun y => conc_v x y, List.map_id]
theorem ok_vs {x : Gh} {L : Nat → Prop} (z : List Value) : okL x L (z.map AV.v) := okL_iff.2 fun a ha => by obtain ⟨y, _, rfl⟩ := List.mem_map.1 ha; simp only [AV.ok]
theorem cells_len (x : Gh) (a : AV) : (conc x a).cells.size = a.cells.length := by
  have := congrArg List.length (conc_cells x a)
  simpa using this
theorem ok_cells {x : Gh} {L : Nat → Prop} : ∀ {a : AV}, a.ok x L → okL x L a.cells
  | .v y, _ => ok_vs _
  | .agg l, h => by simpa only [AV.ok, AV.cells] using h
  | .ptr b o, h => by simp only [AV.cells, okL]; exact ⟨h, trivial⟩
  | .sl b o e m, h => by simp only [AV.cells, okL]; exact ⟨h, trivial⟩
  | .sk b o e m, h => by simp only [AV.cells, okL]; exact ⟨h, trivial⟩
  | .tup l, h => by simp only [AV.cells, okL]; exact ⟨h, trivial⟩
  | .fn f a l, h => by simp only [AV.cells, okL]; exact ⟨h, trivial⟩
  | .yl b, h => by simp only [AV.cells, okL]; exact ⟨h, trivial⟩
  | .mp b, h => by simp only [AV.cells, okL]; exact ⟨h, trivial⟩
  | .ifc t a, h => by simp only [AV.cells, okL]; exact ⟨h, trivial⟩
theorem fold_set (off : Nat) : ∀ (vs : List Value) (k : Nat) (cs : Array Value), ((vs.zipIdx k).foldl (fun cs (p : Value × Nat) => cs.setIfInBounds (off + p.2) p.1) cs).size = cs.size ∧
    (off + k + vs.length ≤ cs.size → ∀ i, ((vs.zipIdx k).foldl (fun cs (p : Value × Nat) => cs.setIfInBounds (off + p.2) p.1) cs)[i]? = if off + k ≤ i ∧ i < off + k + vs.length then vs[i - (off + k)]? else cs[i]?)
  | [], k, cs => ⟨rfl, fun _ i => by rw [if_neg (by simp)]; rfl⟩
  | v :: vs, k, cs => by
    obtain ⟨h1, h2⟩ := fold_set off vs (k + 1) (cs.setIfInBounds (off + k) v)
    simp only [List.zipIdx_cons, List.foldl_cons]
    refine ⟨by rw [h1]; simp, fun hl i => ?_⟩
    simp only [List.length_cons] at hl
    rw [h2 (by simp; omega) i, List.length_cons]
    by_cases hi : i = off + k
    · subst hi
      rw [if_neg (by omega), if_pos (by omega), Nat.sub_self, List.getElem?_cons_zero, Array.getElem?_setIfInBounds, if_pos rfl, if_pos (by omega)]
    · by_cases hc : off + (k + 1) ≤ i ∧ i < off + (k + 1) + vs.length
      · rw [if_pos hc, if_pos (by omega), show i - (off + k) = (i - (off + (k + 1))) + 1 by omega, List.getElem?_cons_succ]
      · rw [if_neg hc, if_neg (by omega), Array.getElem?_setIfInBounds_ne (by omega)]
section
variable {P : Program} {x : Gh} {L : Nat → Prop} {w : World} {T : Tr AV} {ρ : Operand → Value}
/-- Parts laid into cells. -/
theorem fill_sound (place : Nat → Option (Nat × Nat)) (pl : List (Nat × Nat)) (hp : ∀ i p, pl[i]? = some p → place i = some p) : ∀ (ps : List (Nat × AV)) (zs cs : List AV) (cells : Array Value), cells.toList = zs.map (conc x) → okL x L zs → (∀ p ∈ ps, p.2.ok x L) → setF zs pl ps = some cs →
    ∃ cells', Instr.fill place cells (ps.map fun p => (p.1, conc x p.2)) = some cells' ∧ cells'.toList = cs.map (conc x) ∧ okL x L cs ∧ cs.length = zs.length
  | [], zs, cs, cells, hc, hz, _, h => by
    rw [setF] at h
    injection h with h
    subst h
    exact ⟨cells, rfl, hc, hz, rfl⟩
  | (i, a) :: ps, zs, cs, cells, hc, hz, hok, h => by
    rw [setF, nthL_eq] at h
    cases hpi : pl[i]? with
    | none => rw [hpi] at h; cases h
    | some p =>
      obtain ⟨off, size⟩ := p
      rw [hpi] at h
      dsimp only at h
      rw [lenL_eq, lenL_eq] at h
      cases h1 : Nat.beq a.cells.length size with
      | false => rw [h1] at h; cases h
      | true =>
        cases h2 : Nat.ble (off + size) zs.length with
        | false => rw [h1, h2] at h; cases h
        | true =>
          rw [h1, h2] at h
          dsimp only at h
          have e1 : a.cells.length = size := Nat.eq_of_beq_eq_true h1
          have e2 : off + size ≤ zs.length := Nat.le_of_ble_eq_true h2
          have hcl : cells.size = zs.length := by have := congrArg List.length hc; simpa using this
          have ha : a.ok x L := hok (i, a) (by simp)
          obtain ⟨f1, f2⟩ := fold_set off (conc x a).cells.toList 0 cells
          have hlen : (conc x a).cells.toList.length = size := by rw [conc_cells, List.length_map, e1]
          have hnew : ((((conc x a).cells.toList.zipIdx 0).foldl (fun cs (p : Value × Nat) => cs.setIfInBounds (off + p.2) p.1) cells)).toList = (setC zs off a.cells).map (conc x) := by
            refine List.ext_getElem? fun j => ?_
            rw [Array.getElem?_toList, f2 (by omega) j, List.getElem?_map, setC_at _ _ _ _ (by omega), conc_cells, List.length_map]
            rw [Nat.add_zero]
            by_cases hj : off ≤ j ∧ j < off + a.cells.length
            · rw [if_pos hj, if_pos hj, List.getElem?_map]
            · rw [if_neg hj, if_neg hj, ← List.getElem?_map, ← hc, Array.getElem?_toList]
          obtain ⟨cells', g1, g2, g3, g4⟩ := fill_sound place pl hp ps (setC zs off a.cells) cs _ hnew (setC_ok _ _ _ hz (ok_cells ha)) (fun p hp => hok p (by simp [hp])) h
          refine ⟨cells', ?_, g2, g3, by rw [g4, setC_len]⟩
          rw [List.map_cons, Instr.fill, hp i _ hpi]
          dsimp only
          rw [if_neg]
          · rw [← g1]
            congr 1
            rw [← Array.foldl_toList]
            simp
          · rw [cells_len, e1]
            simp
            omega
theorem evO_fn (f : FuncId) : conc x (.fn f [] []) = .func (.func f) #[] #[] := by simp [conc, concL]
/-- The operands of an operation, as far as they are known. -/
def OpR (x : Gh) (L : Nat → Prop) (T : Tr AV) (ρ : Operand → Value) (l : List Operand) : Prop := ∀ y ∈ l, ∀ a, evO T y = some a → ρ y = conc x a ∧ a.ok x L
theorem evL_sound : ∀ (l : List Operand) (r : List AV), OpR x L T ρ l → evL T l = some r → l.map ρ = concL x r ∧ okL x L r
  | [], r, _, h => by rw [evL] at h; injection h with h; subst h; exact ⟨by simp [concL], by simp [okL]⟩
  | y :: l, r, hop, h => by
    rw [evL] at h
    cases hy : evO T y with
    | none => rw [hy] at h; cases h
    | some a =>
      cases hl : evL T l with
      | none => rw [hy, hl] at h; cases h
      | some q =>
        rw [hy, hl] at h
        injection h with h
        subst h
        obtain ⟨h1, h2⟩ := evL_sound l q (fun z hz => hop z (by simp [hz])) hl
        obtain ⟨h3, h4⟩ := hop y (by simp) a hy
        exact ⟨by simp only [List.map_cons, concL, h1, h3], by simp only [okL]; exact ⟨h4, h2⟩⟩
theorem evP_sound : ∀ (l : List (Nat × Operand)) (r : List (Nat × AV)), OpR x L T ρ (l.map (·.2)) → evP T l = some r → (l.map fun p => (p.1, ρ p.2)) = r.map (fun p => (p.1, conc x p.2)) ∧ ∀ p ∈ r, p.2.ok x L
  | [], r, _, h => by rw [evP] at h; injection h with h; subst h; exact ⟨rfl, fun p hp => by simp at hp⟩
  | (i, y) :: l, r, hop, h => by
    rw [evP] at h
    cases hy : evO T y with
    | none => rw [hy] at h; cases h
    | some a =>
      cases hl : evP T l with
      | none => rw [hy, hl] at h; cases h
      | some q =>
        rw [hy, hl] at h
        injection h with h
        subst h
        obtain ⟨h1, h2⟩ := evP_sound l q (fun z hz => hop z (by simp at hz ⊢; exact .inr hz)) hl
        obtain ⟨h3, h4⟩ := hop y (by simp) a hy
        exact ⟨by simp only [List.map_cons, h1, h3], fun p hp => by
          rcases List.mem_cons.1 hp with rfl | hp
          · exact h4
          · exact h2 p hp⟩
theorem evOo_sound {y : Option Operand} {r : Option AV} (hop : OpR x L T ρ y.toList) (h : evOo T y = some r) : y.map ρ = r.map (conc x) := by
  cases y with
  | none => rw [evOo] at h; injection h with h; subst h; rfl
  | some y =>
    rw [evOo] at h
    cases hy : evO T y with
    | none => rw [hy] at h; cases h
    | some a =>
      rw [hy] at h
      injection h with h
      subst h
      rw [Option.map_some, Option.map_some, (hop y (by simp) a hy).1]
theorem exec_v {s : Sem Value} {r : Value} {w' : World} (h : s.run P w = .ok r w') : ((do pure (Next.value (← s))) : Sem Next).run P w = .ok (.value r) w' := by simp [h]
end
end Go.Proofs.YtklanoppbbaolaaGreat
