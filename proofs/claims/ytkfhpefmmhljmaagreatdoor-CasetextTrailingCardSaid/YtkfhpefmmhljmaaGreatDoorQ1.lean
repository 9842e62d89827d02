/- Texts in one: Words, Open, Only, AnyO, AnyG, AnyW, AnyX. -/
import Derived.WalkKit
import Derived.Below
import Derived.Laws.OwnMore
import Derived.Deep.AppendLies
import Derived.Deep.Draws
import Derived.Lib.Hide
import Derived.ProofKit
import Derived.OpenShut
import Derived.JoinedCond
import Derived.Deep.Slices
import Derived.Deep.Fields
import Derived.ChangeSame
import Derived.Lib.SmallJoins
import Derived.Orders
import Derived.Calls
import Derived.KernelRfl
import Derived.OrdersIn
import Derived.OwnWalkIn
import Derived.Test.YtkfhpefmmhljmaaGreatDoorRows
set_option linter.unusedVariables false
set_option linter.unusedSimpArgs false
set_option maxHeartbeats 16000000
/- Words -/
namespace Go.Proofs.YtkfhpefmmhljmaaGreatDoor
open Go.RowKit
abbrev Ln := Int × Int × Int × Int
def IntsR (w : World) (B : Nat) (A : Option Addr) (xs : List Int) : Prop :=
 0 < xs.length → ∃ b off, A = some ⟨b, off, none⟩ ∧ b < B ∧ ∀ i, i < xs.length → w.cell? ⟨b, off + i, none⟩ = some (.int .i64 (xs.getD i 0))
def LinesR (w : World) (B : Nat) (A : Option Addr) (ls : List Ln) : Prop :=
 0 < ls.length → ∃ b off, A = some ⟨b, off, none⟩ ∧ b < B ∧ ∀ i, i < ls.length →
  w.cell? ⟨b, off + i * 4, none⟩ = some (.int .i64 (ls.getD i (0, 0, 0, 0)).1) ∧
  w.cell? ⟨b, off + i * 4 + 1, none⟩ = some (.int .i64 (ls.getD i (0, 0, 0, 0)).2.1) ∧
  w.cell? ⟨b, off + i * 4 + 2, none⟩ = some (.int .i64 (ls.getD i (0, 0, 0, 0)).2.2.1) ∧
  w.cell? ⟨b, off + i * 4 + 3, none⟩ = some (.int .i64 (ls.getD i (0, 0, 0, 0)).2.2.2)
section
variable {w w' : World} {B B' : Nat} {A : Option Addr} {xs : List Int} {ls : List Ln}
theorem IntsR.nil_ : IntsR w B A [] := fun h => absurd h (by simp)
theorem IntsR.keep (h : IntsR w B A xs) (hk : ∀ p : Addr, p.block < B → w'.cell? p = w.cell? p) : IntsR w' B A xs := fun hn => by
 obtain ⟨b, off, e, hb, hc⟩ := h hn;exact ⟨b, off, e, hb, fun i hi => (hk _ hb).trans (hc i hi)⟩
theorem IntsR.more (h : IntsR w B A xs) (hB : B ≤ B') : IntsR w B' A xs := fun hn => by
 obtain ⟨b, off, e, hb, hc⟩ := h hn;exact ⟨b, off, e, by omega, hc⟩
theorem IntsR.below (h : IntsR w B A xs) (hb : Below B w w') : IntsR w' B A xs := h.keep fun _ hp => hb.cell hp
theorem IntsR.upto (h : IntsR w w.heap.size A xs) (hb : Below w.heap.size w w') : IntsR w' w'.heap.size A xs := (h.below hb).more hb.size
theorem IntsR.drewN (h : IntsR w B A xs) (n : Nat) : IntsR (w.drewN n) B A xs := h
theorem IntsR.alloc (h : IntsR w B A xs) (hB : B ≤ w.heap.size) (o : Obj) : IntsR (w.alloc o) B A xs := h.keep fun p hp => World.cell?_alloc_lt w o p (by omega)
theorem LinesR.nil_ : LinesR w B A [] := fun h => absurd h (by simp)
theorem LinesR.keep (h : LinesR w B A ls) (hk : ∀ p : Addr, p.block < B → w'.cell? p = w.cell? p) : LinesR w' B A ls := fun hn => by
 obtain ⟨b, off, e, hb, hc⟩ := h hn;refine ⟨b, off, e, hb, fun i hi => ?_⟩;obtain ⟨h0, h1, h2, h3⟩ := hc i hi;exact ⟨(hk _ hb).trans h0, (hk _ hb).trans h1, (hk _ hb).trans h2, (hk _ hb).trans h3⟩
theorem LinesR.more (h : LinesR w B A ls) (hB : B ≤ B') : LinesR w B' A ls := fun hn => by
 obtain ⟨b, off, e, hb, hc⟩ := h hn;exact ⟨b, off, e, by omega, hc⟩
theorem LinesR.below (h : LinesR w B A ls) (hb : Below B w w') : LinesR w' B A ls := h.keep fun _ hp => hb.cell hp
theorem LinesR.upto (h : LinesR w w.heap.size A ls) (hb : Below w.heap.size w w') : LinesR w' w'.heap.size A ls := (h.below hb).more hb.size
theorem LinesR.drewN (h : LinesR w B A ls) (n : Nat) : LinesR (w.drewN n) B A ls := h
theorem LinesR.alloc (h : LinesR w B A ls) (hB : B ≤ w.heap.size) (o : Obj) : LinesR (w.alloc o) B A ls := h.keep fun p hp => World.cell?_alloc_lt w o p (by omega)
end
theorem below_drewN {B : Nat} {a w : World} (h : Below B a w) (n : Nat) : Below B a (w.drewN n) := ⟨h.os, h.tape, h.output, h.size, h.block⟩
theorem cell_alloc_at (w : World) (cs : Array Value) (t : TypeId) (b off : Nat) (hb : b = w.heap.size) : (w.alloc (.cells cs t)).cell? ⟨b, off, none⟩ = cs[off]? := by
 subst hb;have h : (w.alloc (.cells cs t)).heap[w.heap.size]? = some (.cells cs t) := heap_alloc_new w _;simp only [World.cell?, h];rfl
theorem cell_alloc_of {w : World} {p : Addr} {v : Value} (o : Obj) (h : w.cell? p = some v) : (w.alloc o).cell? p = some v :=
 (World.cell?_alloc_lt w o p (World.block_lt_of_cell? w p h)).trans h
theorem ret_bool {a b : Bool} (h : a = b) : Ending.returned (.bool a) = .returned (.bool b) := by rw [h]
theorem ret_int {k : IntKind} {a b : Int} (h : a = b) : Ending.returned (.int k a) = .returned (.int k b) := by rw [h]
theorem getD_eq {α : Type} (l : List α) (i : Nat) (d : α) (h : i < l.length) : l.getD i d = l[i] := by simp [h]
end Go.Proofs.YtkfhpefmmhljmaaGreatDoor
/- Open -/
namespace Go.Proofs.YtkfhpefmmhljmaaGreatDoor
open Go.ChangeShapes Go.WideShapes Go.ChangeAt Go.RowKit Go.Deep Go.Joins
theorem Tryz.own : ownKnob Tryz.prog.godebug = none := by kernel_rfl
theorem Tryz.laidOut : laidOutB Tryz.prog = true := by kernel_rfl
section
variable {H : Type} {enc : TypeId × Value → H} {P : Program}
theorem trodAll_stays {W W' : World} {sp : Nat → Bool} (hl : laidOutB P = true) : ∀ {ts : List TypeId} {vs : List Value} {ds : List (DataW H)} {ps : List MemPlace}, (∀ t ∈ ts, P.readableRec t = true ∧ t < P.types.size) →
  DataW.TrodAll enc P W 0 (fun _ => true) true ts vs ds ps → (∀ p ∈ ps, W.sameAt W' p) → (∀ p ∈ ps, sp p.block = true) → DataW.TrodAll enc P W' 0 sp true ts vs ds ps
 | [], vs, ds, ps, _, h, _, _ => by
  obtain ⟨rfl, rfl, rfl⟩ := trodAll_nil h;exact rfl
 | t :: ts, vs, ds, ps, hts, h, h1, h2 => by
  obtain ⟨v, vs', d, ds', p, q, rfl, rfl, rfl, hv, hr⟩ := trodAll_cons h;exact trodAll_cons_mk (WideElems.Trod_stays hl (hts t (by simp)).1 (hts t (by simp)).2 hv (fun x hx => h1 x (by simp [hx])) (fun x hx => h2 x (by simp [hx])))
   (trodAll_stays hl (fun x hx => hts x (by simp [hx])) hr (fun x hx => h1 x (by simp [hx])) (fun x hx => h2 x (by simp [hx])))
theorem law_post {f : Func} {s : ChangeSpec} {tb : TypeId} {W W' : World} {args : Array Value} {ds gs : List (DataW H)} {before : List MemPlace}
  (hlo : laidOutB P = true) (hts : ∀ t ∈ f.params.toList, P.readableRec t = true ∧ t < P.types.size) (hrt : f.resultTypes = #[tb]) (htb : P.underlying tb = some .bool) (hsv : s.vars = [])
  (hW : DataW.Whole enc P f.params.toList s.vars false W args.toList ds gs before)
  (hres : (s.fn H (ds ++ gs)).results = [.lit (.bool true)]) (harg : (s.fn H (ds ++ gs)).args = ds) (hvr : (s.fn H (ds ++ gs)).vars = []) (hb : Below W.heap.size W W') :
  s.post enc P f false true false false W args (.bool true) W' := by
 have hlt : ∀ p ∈ before, p.block < W.heap.size := fun p hp => hW.lt p hp
 have hW' := hW;obtain ⟨p, q, hA, hV, rfl, hz, hn⟩ := hW';rw [hsv] at hV;obtain ⟨rfl, rfl⟩ := trodVars_none hV;rw [List.append_nil] at hlt;have hstay : ∀ sp : Nat → Bool, (∀ x ∈ p, sp x.block = true) → DataW.TrodAll enc P W' 0 sp true f.params.toList args.toList ds p := fun sp hsp =>
  trodAll_stays hlo hts hA (fun x hx => hb.same (hlt x hx)) hsp
 have hold : ∀ x ∈ p, (fun b => decide (b < W.heap.size)) x.block = true := fun x hx => by simpa using hlt x hx
 have hr : ∀ (b : Nat) (sp : Nat → Bool) (hd : Bool), DataW.TrodAll enc P W' b sp hd f.resultTypes.toList ((Value.bool true).resultList f.resultTypes.size) (s.fn H (ds ++ [])).results [] := by
  intro b sp hd;rw [hres, hrt];exact trodAll_cons_mk (shut_bool htb _) trodAll_mk0
 refine ⟨ds, [], p ++ [], [], p, [], hW, hr _ _ _, ?_, ?_, World.keptBut_mono (fun x hx => ⟨hx, .inr ?_⟩) (hb.frame (· ∈ p ++ [])), fun h => by cases h⟩
 ·rw [harg]; exact hstay _ hold
 ·rw [hsv, hvr]; exact rfl
 ·simpa using hx
end
section
variable {H : Type} {enc : TypeId × Value → H} {P : Program} {w : World} {base : Nat} {spare : Nat → Bool} {held : Bool}
end
end Go.Proofs.YtkfhpefmmhljmaaGreatDoor
/- Only -/
namespace Go.Proofs.YtkfhpefmmhljmaaGreatDoor
open Go.RowKit
section
variable {a w : World} {row : Option Nat}
theorem only_alloc (h : a.grownBy w row) (o : Obj) : a.grownBy (w.alloc o) row :=
 ⟨h.os, h.tape, h.output, Nat.le_trans h.size (by simp), fun i hi hne => (Below.heap_alloc w o i (Nat.lt_of_lt_of_le hi h.size)).trans (h.block i hi hne)⟩
theorem only_setCell {g : Nat} (h : a.grownBy w (some g)) {p : Addr} (hp : p.block = g ∨ a.heap.size ≤ p.block) (u : Value) : a.grownBy (w.setCell p u) (some g) :=
 ⟨h.os, h.tape, h.output, by simpa [World.setCell] using h.size, fun i hi hne => (Below.heap_setCell w p u i (by
  rintro rfl;rcases hp with hp | hp
  ·exact hne (by rw [hp])
  ·omega)).trans (h.block i hi hne)⟩
end
theorem own_ne {w : World} {b b' : Nat} {e e' : TypeId} {s s' : Nat} {v u : Value} {n m : Nat} {xs ys : List Value} (h : w.ownsRow b e s v n xs) (k : w.ownsRow b' e' s' u m ys) (hne : e ≠ e') : u.ownBlock = none ∨ u.ownBlock ≠ v.ownBlock := by
 rcases k.2 with ⟨rfl, _⟩ | ⟨g', cap', cur', rfl, _, hg', _⟩
 ·exact .inl rfl
 ·right;rcases h.2 with ⟨rfl, _⟩ | ⟨g, cap, cur, rfl, _, hg, _⟩
  ·simp [Value.ownBlock]
  ·intro he;have : g' = g := by simpa [Value.ownBlock] using he
   subst this;rw [hg] at hg';injection hg' with hg'
   injection hg' with _ ht
   exact hne ht
section
variable {P : Program} {ops : Array Oper} {Q : Exit → Act → World → Prop} {F : Nat → Value → World → Prop} {I : World → Prop} {a0 : Act}
def Apart (ops : Array Oper) (d : Tmp) : Prop := ∀ (j : Nat) (o : Oper), ops[j]? = some o → o.dst ≠ some d
theorem getD_put (a : Act) (d e : Tmp) (v : Value) (h : d < a.tmps.size) : (a.put (some d) v).tmps.getD e undef = if d = e then v else a.tmps.getD e undef := by
 unfold Act.put;simp only [Array.getD_eq_getD_getElem?, Array.getElem?_setIfInBounds];by_cases hde : d = e
 ·subst hde;simp [h]
 ·simp [hde]
theorem size_put (a : Act) (d : Option Tmp) (v : Value) : (a.put d v).tmps.size = a.tmps.size := by
 unfold Act.put;cases d <;> simp
theorem defers_put (a : Act) (d : Option Tmp) (v : Value) : (a.put d v).defers = a.defers := by
 unfold Act.put;cases d <;> rfl
theorem listed_set (listed : Array Bool) (i j : Nat) (h : i < listed.size) : (listed.setIfInBounds i true).getD j false = true ↔ i = j ∨ listed.getD j false = true := by
 simp only [Array.getD_eq_getD_getElem?, Array.getElem?_setIfInBounds];by_cases hij : i = j
 ·subst hij;simp [h]
 ·simp [hij]
theorem listed_set' (listed : Array Bool) (i j : Nat) (h : i < listed.size) : (listed.setIfInBounds i true).getD j true = true ↔ i = j ∨ listed.getD j true = true := by
 simp only [Array.getD_eq_getD_getElem?, Array.getElem?_setIfInBounds];by_cases hij : i = j
 ·subst hij;simp [h]
 ·simp [hij]
theorem getD_ft (listed : Array Bool) (j : Nat) (h : j < listed.size) : listed.getD j false = listed.getD j true := by simp [Array.getD, h]
def unlisted (n : Nat) (listed : Array Bool) : Nat := ((List.range n).filter fun i => !listed.getD i true).length
theorem unlisted_set {n i : Nat} {listed : Array Bool} (hn : listed.size = n) (hi : i < n) (h : listed.getD i true = false) : unlisted n (listed.setIfInBounds i true) < unlisted n listed := by
 have e : ((List.range n).filter fun k => !(listed.setIfInBounds i true).getD k true) = (((List.range n).filter fun k => !listed.getD k true).filter fun k => decide (k ≠ i)) := by
  rw [List.filter_filter];refine List.filter_congr fun k hk => ?_
  have := listed_set' listed i k (by omega);cases h1 : (listed.setIfInBounds i true).getD k true <;> cases h2 : listed.getD k true <;> by_cases h3 : k = i <;> simp_all
 unfold unlisted;rw [e];refine List.length_filter_lt_length_iff_exists.2 ⟨i, ?_, by simp⟩;rw [List.mem_filter, List.mem_range];exact ⟨hi, by simp [h]⟩
def putAll (ops : List Oper) (vs : Nat → Value) (k : Nat) (a : Act) : Act :=
 match ops with
 | [] => a
 | o :: rest => putAll rest vs (k + 1) (a.put o.dst (vs k))
theorem putAll_defers (ops : List Oper) (vs : Nat → Value) : ∀ (k : Nat) (a : Act), (putAll ops vs k a).defers = a.defers := by
 induction ops with
 | nil => intro k a; rfl
 | cons o rest ih => intro k a; rw [putAll, ih, defers_put]
theorem putAll_size (ops : List Oper) (vs : Nat → Value) : ∀ (k : Nat) (a : Act), (putAll ops vs k a).tmps.size = a.tmps.size := by
 induction ops with
 | nil => intro k a; rfl
 | cons o rest ih => intro k a; rw [putAll, ih, size_put]
theorem act_ext {a b : Act} (h1 : a.defers = b.defers) (h2 : a.tmps.size = b.tmps.size) (h : ∀ d, a.tmps.getD d undef = b.tmps.getD d undef) : a = b := by
 obtain ⟨t, ds⟩ := a;obtain ⟨t', ds'⟩ := b;simp only at h1 h2 h;subst h1
 congr 1
 refine Array.ext h2 fun i hi hi' => ?_
 have := h i;simpa [Array.getD, hi, hi'] using this
end
section
variable {P : Program} {ops : Array Oper} {Q : Exit → Act → World → Prop} {F : Nat → Value → World → Prop} {I : World → Prop} {a0 : Act}
theorem all_of_unlisted {listed : Array Bool} (hu : unlisted ops.size listed ≤ 0) : ∀ j, j < ops.size → listed.getD j true = true := by
 intro j hj;by_cases hl : listed.getD j true = true
 ·exact hl
 ·exfalso;have h0 : ((List.range ops.size).filter fun i => !listed.getD i true) = [] := List.eq_nil_of_length_eq_zero (by unfold unlisted at hu; omega);have : j ∈ ((List.range ops.size).filter fun i => !listed.getD i true) := by
   rw [List.mem_filter, List.mem_range];exact ⟨hj, by simpa using hl⟩
  rw [h0] at this;simp at this
theorem ready_none {listed : Array Bool} (hall : ∀ j, j < ops.size → listed.getD j true = true) : Region.ready .any ops listed = [] := by
 refine List.eq_nil_iff_forall_not_mem.2 fun j hj => ?_
 rw [mem_ready] at hj;obtain ⟨h1, o, ho, _⟩ := hj;rw [hall j (Array.getElem?_eq_some_iff.1 ho).1] at h1;simp at h1
theorem unlisted_le (n : Nat) (listed : Array Bool) : unlisted n listed ≤ n := Nat.le_trans (List.length_filter_le _ _) (by simp)
theorem yielded_of {a : Act} {j : Nat} {o : Oper} {d : Tmp} {b : Bool} (ho : ops[j]? = some o) (hd : o.dst = some d) (h : a.tmps.getD d undef = .bool b) : yielded ops a.tmps j = some b := by
 unfold yielded;rw [ho];simp only [Option.bind_some, hd];have e : a.tmps[d]? = some (.bool b) := by
  rw [Array.getD_eq_getD_getElem?] at h;cases hq : a.tmps[d]? with
  | none => rw [hq] at h; simp [undef] at h
  | some u => rw [hq] at h; simp at h; rw [h]
 rw [e]
theorem wanted_is {o o' : Oper} {a : Act} {j : Nat} {want b : Bool} {d : Tmp} (hg : o.guard = some (j, want)) (ho : ops[j]? = some o') (hd : o'.dst = some d) (h : a.tmps.getD d undef = .bool b) : Region.wanted o (yielded ops a.tmps) = (b == want) := by
 unfold Region.wanted;rw [hg];show (yielded ops a.tmps j == some want) = (b == want)
 rw [yielded_of ho hd h];cases b <;> cases want <;> rfl
end
section
variable {P : Program} {ops : Array Oper} {Q : Exit → Act → World → Prop} {F : Nat → Value → World → Prop} {I : World → Prop} {a0 : Act}
def Did (F : Nat → Value → World → Prop) (a : Act) (w : World) (j : Nat) (o : Oper) : Prop := (∀ d, o.dst = some d → F j (a.tmps.getD d undef) w) ∧ (o.dst = none → ∃ v, F j v w)
structure WInv (ops : Array Oper) (F : Nat → Value → World → Prop) (I : World → Prop) (a0 : Act) (listed : Array Bool) (a : Act) (w : World) : Prop where
 size : listed.size = ops.size
 defers : a.defers = a0.defers
 tmps : a.tmps.size = a0.tmps.size
 world : I w
 did : ∀ (j : Nat) (o : Oper), ops[j]? = some o → listed.getD j false = true → Did F a w j o
 rest : ∀ d : Tmp, Apart ops d → a.tmps.getD d undef = a0.tmps.getD d undef
theorem ready_nilW {listed : Array Bool} (hs : listed.size = ops.size) (hac : ∀ (j : Nat) (o : Oper), ops[j]? = some o → ∀ e ∈ o.after, Region.binds .any e = true → e.on < j) (h : Region.ready .any ops listed = []) : ∀ j, j < ops.size → listed.getD j true = true := by
 intro j
 induction j using Nat.strongRecOn with
 | ind j ih =>
  intro hj;by_cases hl : listed.getD j true = true
  ·exact hl
  ·exfalso;have hm : j ∈ Region.ready .any ops listed := by
    rw [mem_ready];refine ⟨by simpa using hl, ops[j], Array.getElem?_eq_getElem hj, fun e he hb => ?_⟩;have hlt := hac j _ (Array.getElem?_eq_getElem hj) e he hb;rw [getD_ft _ _ (by omega)];exact ih e.on hlt (by omega)
   rw [h] at hm;simp at hm
theorem putAll_otherW (ops : List Oper) (vs : Nat → Value) (d : Tmp) : ∀ (k : Nat) (a : Act), (∀ o ∈ ops, ∀ e, o.dst = some e → e < a.tmps.size) → (∀ o ∈ ops, o.dst ≠ some d) → (putAll ops vs k a).tmps.getD d undef = a.tmps.getD d undef := by
 induction ops with
 | nil => intro k a _ _; rfl
 | cons o rest ih =>
  intro k a hb h;rw [putAll, ih _ _ (fun o' ho' => by rw [size_put]; exact hb o' (by simp [ho'])) (fun o' ho' => h o' (by simp [ho']))];cases he : o.dst with
  | none => rfl
  | some e => rw [getD_put _ _ _ _ (hb o (by simp) e he), if_neg (fun e' => h o (by simp) (by rw [he, e']))]
theorem putAll_atW (ops : List Oper) (vs : Nat → Value) (d : Tmp) : ∀ (k j : Nat) (a : Act) (o : Oper), (∀ o ∈ ops, ∀ e, o.dst = some e → e < a.tmps.size) → (∀ (i j : Nat) (o o' : Oper) (d : Tmp), ops[i]? = some o → ops[j]? = some o' → o.dst = some d → o'.dst = some d → i = j) → ops[j]? = some o → o.dst = some d → (putAll ops vs k a).tmps.getD d undef = vs (k + j) := by
 induction ops with
 | nil => intro k j a o _ _ h; simp at h
 | cons x rest ih =>
  intro k j a o hb hdj hj hd;cases j with
  | zero =>
   simp at hj;subst hj;rw [putAll, putAll_otherW _ _ _ _ _ (fun o' ho' => by rw [size_put]; exact hb o' (by simp [ho'])), hd, getD_put _ _ _ _ (hb x (by simp) d hd), if_pos rfl]
   ·simp
   ·intro o' ho' hd';obtain ⟨n, hn⟩ := List.mem_iff_getElem?.1 ho';have := hdj 0 (n + 1) x o' d (by simp) (by simpa using hn) hd hd';omega
  | succ j =>
   rw [putAll, ih (k + 1) j _ o (fun o' ho' => by rw [size_put]; exact hb o' (by simp [ho'])) (fun i j o o' d hi hj h h' => by
    have := hdj (i + 1) (j + 1) o o' d (by simpa using hi) (by simpa using hj) h h';omega) (by simpa using hj) hd]
   congr 1
   omega
theorem winv_done (hds : ∀ (j : Nat) (o : Oper), ops[j]? = some o → ∀ d, o.dst = some d → d < a0.tmps.size) (hdj : ∀ (i j : Nat) (o o' : Oper) (d : Tmp), ops[i]? = some o → ops[j]? = some o' → o.dst = some d → o'.dst = some d → i = j)
  (hdone : ∀ (vs : Nat → Value) w, I w → (∀ j, j < ops.size → F j (vs j) w) → Q .normal (putAll ops.toList vs 0 a0) w) (a : Act) (w : World) (h : WInv ops F I a0 (Array.replicate ops.size true) a w) : Q .normal a w := by
 have hb : ∀ o ∈ ops.toList, ∀ e, o.dst = some e → e < a0.tmps.size := fun o ho => by
  obtain ⟨n, hn⟩ := List.mem_iff_getElem?.1 ho;exact hds n o (by simpa using hn)
 have hdj' : ∀ (i j : Nat) (o o' : Oper) (d : Tmp), ops.toList[i]? = some o → ops.toList[j]? = some o' → o.dst = some d → o'.dst = some d → i = j := fun i j o o' d hi hj he => hdj i j o o' d (by simpa using hi) (by simpa using hj) he
 have hd : ∀ (j : Nat) (o : Oper), ops[j]? = some o → Did F a w j o := fun j o hj => h.did j o hj (by
  have hlt : j < ops.size := (Array.getElem?_eq_some_iff.1 hj).1;simp [Array.getD, hlt])
 have hex : ∀ j : Nat, ∃ v : Value, (j < ops.size → F j v w) ∧ ∀ o d, ops[j]? = some o → o.dst = some d → v = a.tmps.getD d undef := fun j => by
  by_cases hj : j < ops.size
  ·obtain ⟨h1, h2⟩ := hd j ops[j] (Array.getElem?_eq_getElem hj);cases hdd : ops[j].dst with
   | none =>
    obtain ⟨v, hv⟩ := h2 hdd;exact ⟨v, fun _ => hv, fun o d ho hod => by rw [Array.getElem?_eq_getElem hj] at ho; injection ho with ho; subst ho; rw [hdd] at hod; cases hod⟩
   | some d =>
    exact ⟨_, fun _ => h1 d hdd, fun o d' ho hod => by rw [Array.getElem?_eq_getElem hj] at ho; injection ho with ho; subst ho; rw [hdd] at hod; injection hod with hod; rw [hod]⟩
  ·exact ⟨undef, fun h => absurd h hj, fun o d ho _ => absurd (Array.getElem?_eq_some_iff.1 ho).1 hj⟩
 have hc := fun j => Classical.choose_spec (hex j)
 have e : a = putAll ops.toList (fun j => Classical.choose (hex j)) 0 a0 := by
  refine act_ext (by rw [putAll_defers]; exact h.defers) (by rw [putAll_size]; exact h.tmps) fun d => ?_
  by_cases hap : Apart ops d
  ·rw [putAll_otherW _ _ _ _ _ hb (fun o ho hd => by
    obtain ⟨n, hn⟩ := List.mem_iff_getElem?.1 ho;exact hap n o (by simpa using hn) hd)]
   exact h.rest d hap
  ·unfold Apart at hap;simp only [Classical.not_forall, Classical.not_not] at hap;obtain ⟨j, o, hj, hod⟩ := hap;rw [putAll_atW _ _ d 0 j a0 o hb hdj' (by simpa using hj) hod, Nat.zero_add];exact ((hc j).2 o d hj hod).symm
 rw [e];exact hdone _ w h.world fun j hj => (hc j).1 hj
def regionWB (ops : Array Oper) (n : Nat) : Bool :=
 (List.range ops.size).all fun j => match ops[j]? with
  | none => true
  | some o => (o.after.all fun e => !Region.binds .any e || decide (e.on < j)) && (match o.dst with | some d => decide (d < n) | none => true) &&
   (List.range j).all fun i => match ops[i]? with
    | none => true
    | some o' => decide (o'.dst = none) || decide (o'.dst ≠ o.dst)
theorem regionW {n : Nat} (h : regionWB ops n = true) : (∀ (j : Nat) (o : Oper), ops[j]? = some o → ∀ e ∈ o.after, Region.binds .any e = true → e.on < j) ∧
  (∀ (j : Nat) (o : Oper), ops[j]? = some o → ∀ d, o.dst = some d → d < n) ∧ (∀ (i j : Nat) (o o' : Oper) (d : Tmp), ops[i]? = some o → ops[j]? = some o' → o.dst = some d → o'.dst = some d → i = j) := by
 unfold regionWB at h;rw [List.all_eq_true] at h;have each : ∀ (j : Nat) (o : Oper), ops[j]? = some o → (∀ e ∈ o.after, Region.binds .any e = true → e.on < j) ∧ (∀ d, o.dst = some d → d < n) ∧ ∀ (i : Nat) (o' : Oper), i < j → ops[i]? = some o' → ∀ d, o'.dst = some d → o.dst ≠ some d := by
  intro j o ho;have hlt : j < ops.size := (Array.getElem?_eq_some_iff.1 ho).1;have hj := h j (List.mem_range.2 hlt);rw [ho] at hj;simp only [Bool.and_eq_true] at hj;obtain ⟨⟨h1, h3⟩, h4⟩ := hj;refine ⟨?_, ?_, ?_⟩
  ·rw [Array.all_eq_true_iff_forall_mem] at h1;intro e he hb;simpa [hb] using h1 e he
  ·intro d hd;rw [hd] at h3;simpa using h3
  ·intro i o' hi ho' d hd hd';rw [List.all_eq_true] at h4;have := h4 i (List.mem_range.2 hi);rw [ho'] at this;simp [hd, hd'] at this
 refine ⟨fun j o ho => (each j o ho).1, fun j o ho => (each j o ho).2.1, fun i j o o' d hi hj he he' => ?_⟩;rcases Nat.lt_trichotomy i j with h1 | h1 | h1
 ·exact absurd he' ((each j o' hj).2.2 i o h1 hi d he)
 ·exact h1
 ·exact absurd he ((each i o hi).2.2 j o' h1 hj d he')
theorem wp_of_value {o : Oper} {a : Act} {w w' : World} {v : Value} {K : Act → World → Prop} (hrun : (execOp a.eval o).run P w = .ok (.value v) w') (h : K (a.put o.dst v) w') : o.wp P a w K Q := by
 unfold Oper.wp; rw [hrun]; exact h
theorem wp_of_skip {o : Oper} {a : Act} {w w' : World} {K : Act → World → Prop} (hrun : (execOp a.eval o).run P w = .ok .skip w') (h : K (a.put o.dst undef) w') : o.wp P a w K Q := by
 unfold Oper.wp; rw [hrun]; exact h
theorem wp_of_enter {o : Oper} {a : Act} {w w' : World} {f : FuncId} {args : Array Value} {K : Act → World → Prop} {R : Value → World → Prop} (hrun : (execOp a.eval o).run P w = .ok (.enter f args) w') (hc : Calls P f args w' fun e w'' => ∃ v, e = .returned v ∧ R v w'') (h : ∀ v w'', R v w'' → K (a.put o.dst v) w'') : o.wp P a w K Q := by
 unfold Oper.wp; rw [hrun];exact hc.mono fun e w'' ⟨v, he, hr⟩ => by subst he; exact h v w'' hr
end
section
variable {P : Program} {ops : Array Oper} {Q : Exit → Act → World → Prop} {F : (Nat → Prop) → Nat → Value → World → Prop} {I : (Nat → Prop) → World → Prop} {a0 : Act}
def Closed (ops : Array Oper) (done : Nat → Prop) : Prop := ∀ (j : Nat) (o : Oper), ops[j]? = some o → done j → ∀ e ∈ o.after, Region.binds .any e = true → done e.on
def more (done : Nat → Prop) (i : Nat) : Nat → Prop := fun j => j = i ∨ done j
structure XInv (ops : Array Oper) (F : (Nat → Prop) → Nat → Value → World → Prop) (I : (Nat → Prop) → World → Prop) (a0 : Act) (listed : Array Bool) (done : Nat → Prop) (a : Act) (w : World) : Prop where
 size : listed.size = ops.size
 listed : ∀ j, j < ops.size → (done j ↔ listed.getD j false = true)
 closed : Closed ops done
 defers : a.defers = a0.defers
 tmps : a.tmps.size = a0.tmps.size
 world : I done w
 did : ∀ (j : Nat) (o : Oper), ops[j]? = some o → done j → Did (F done) a w j o
 rest : ∀ d : Tmp, Apart ops d → a.tmps.getD d undef = a0.tmps.getD d undef
theorem xinv_put {listed : Array Bool} {done : Nat → Prop} {a : Act} {w w' : World} {i : Nat} {o : Oper} {v : Value} (h : XInv ops F I a0 listed done a w) (ho : ops[i]? = some o) (hni : ¬ done i) (hdep : ∀ e ∈ o.after, Region.binds .any e = true → done e.on)
  (hds : ∀ d, o.dst = some d → d < a0.tmps.size) (hdj : ∀ (i j : Nat) (o o' : Oper) (d : Tmp), ops[i]? = some o → ops[j]? = some o' → o.dst = some d → o'.dst = some d → i = j)
  (hI : I (more done i) w') (hF : F (more done i) i v w') (hkeep : ∀ (j : Nat) (u : Value), done j → (∀ (o' : Oper) (d : Tmp), ops[j]? = some o' → o'.dst = some d → u = a.tmps.getD d undef) → F done j u w → F (more done i) j u w') : XInv ops F I a0 (listed.setIfInBounds i true) (more done i) (a.put o.dst v) w' := by
 have hlt : i < ops.size := (Array.getElem?_eq_some_iff.1 ho).1;have hlist : ∀ j, j < ops.size → (more done i j ↔ (listed.setIfInBounds i true).getD j false = true) := fun j hj => by
  rw [listed_set _ _ _ (by rw [h.size]; exact hlt), ← h.listed j hj];exact ⟨fun e => e.imp (fun e => e.symm) id, fun e => e.imp (fun e => e.symm) id⟩
 have hcl : Closed ops (more done i) := fun j o' hj hd e he hb => by
  rcases hd with rfl | hd
  ·rw [ho] at hj;injection hj with hj
   subst hj;exact .inr (hdep e he hb)
  ·exact .inr (h.closed j o' hj hd e he hb)
 cases hd : o.dst with
 | none =>
  refine ⟨by simp [h.size], hlist, hcl, by rw [defers_put]; exact h.defers, by rw [size_put]; exact h.tmps, hI, fun j o' hj hl => ?_, fun d' hap => h.rest d' hap⟩;rcases hl with rfl | hl
  ·rw [ho] at hj;injection hj with hj
   subst hj;exact ⟨fun d hd' => (by rw [hd] at hd'; cases hd'), fun _ => ⟨v, hF⟩⟩
  ·obtain ⟨h1, h2⟩ := h.did j o' hj hl;exact ⟨fun d hd' => hkeep j _ hl (fun o'' d'' ho'' hd'' => by rw [hj] at ho''; injection ho'' with ho''; subst ho''; rw [hd'] at hd''; injection hd'' with hd''; subst hd''; rfl) (h1 d hd'), fun hn => (h2 hn).imp fun v hv => hkeep j v hl (fun o'' d'' ho'' hd'' => by rw [hj] at ho''; injection ho'' with ho''; subst ho''; rw [hn] at hd''; cases hd'') hv⟩
 | some d =>
  have hdl := hds d hd;refine ⟨by simp [h.size], hlist, hcl, by rw [defers_put]; exact h.defers, by rw [size_put]; exact h.tmps, hI, fun j o' hj hl => ?_, fun d' hap => ?_⟩
  ·rcases hl with rfl | hl
   ·rw [ho] at hj;injection hj with hj
    subst hj;refine ⟨fun d' hd' => ?_, fun hn => ⟨v, hF⟩⟩;rw [hd] at hd';injection hd' with hd'
    subst hd';rw [getD_put _ _ _ _ (by rw [h.tmps]; exact hdl), if_pos rfl];exact hF
   ·have hij : i ≠ j := fun e => hni (e ▸ hl)
    obtain ⟨h1, h2⟩ := h.did j o' hj hl;refine ⟨fun d' hd' => ?_, fun hn => (h2 hn).imp fun v hv => hkeep j v hl (fun o'' d'' ho'' hd'' => by rw [hj] at ho''; injection ho'' with ho''; subst ho''; rw [hn] at hd''; cases hd'') hv⟩;rw [getD_put _ _ _ _ (by rw [h.tmps]; exact hdl), if_neg (fun e => hij (hdj i j o o' d ho hj hd (by rw [hd', e])))];exact hkeep j _ hl (fun o'' d'' ho'' hd'' => by rw [hj] at ho''; injection ho'' with ho''; subst ho''; rw [hd'] at hd''; injection hd'' with hd''; subst hd''; rfl) (h1 d' hd')
  ·rw [getD_put _ _ _ _ (by rw [h.tmps]; exact hdl), if_neg (fun e => hap i o ho (by rw [hd, e]))];exact h.rest d' hap
theorem xinv_done (hds : ∀ (j : Nat) (o : Oper), ops[j]? = some o → ∀ d, o.dst = some d → d < a0.tmps.size) (hdj : ∀ (i j : Nat) (o o' : Oper) (d : Tmp), ops[i]? = some o → ops[j]? = some o' → o.dst = some d → o'.dst = some d → i = j)
  (hdone : ∀ (done : Nat → Prop) (vs : Nat → Value) w, (∀ j, j < ops.size → done j) → I done w → (∀ j, j < ops.size → F done j (vs j) w) → Q .normal (putAll ops.toList vs 0 a0) w) (listed : Array Bool) (done : Nat → Prop) (a : Act) (w : World) (h : XInv ops F I a0 listed done a w) (hall : ∀ j, j < ops.size → done j) : Q .normal a w := by
 refine winv_done (F := F done) (I := I done) hds hdj (fun vs w hI hF => hdone done vs w hall hI hF) a w ⟨by simp, h.defers, h.tmps, h.world, fun j o hj _ => h.did j o hj (hall j (Array.getElem?_eq_some_iff.1 hj).1), h.rest⟩
end
end Go.Proofs.YtkfhpefmmhljmaaGreatDoor
