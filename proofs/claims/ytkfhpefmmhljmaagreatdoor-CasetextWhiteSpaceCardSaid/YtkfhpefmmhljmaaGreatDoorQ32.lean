/- Texts in one: AnyQ, CpI. -/
import Derived.Test.YtkfhpefmmhljmaaGreatDoorQ21
import Derived.Test.YtkfhpefmmhljmaaGreatDoorQ11
import Derived.Test.YtkfhpefmmhljmaaGreatDoorQ2
import Derived.Test.YtkfhpefmmhljmaaGreatDoorQ24
import Derived.Test.YtkfhpefmmhljmaaGreatDoorQ31
import Derived.Test.YtkfhpefmmhljmaaGreatDoorQ23
import Derived.Test.YtkfhpefmmhljmaaGreatDoorQ19
set_option linter.unusedVariables false
set_option linter.unusedSimpArgs false
set_option maxRecDepth 100000
/- AnyQ -/
namespace Go.Proofs.YtkfhpefmmhljmaaGreatDoor
open Go.RowKit
set_option linter.unusedVariables false
def TB (w : World) (g : Nat) (t : TypeId) : Prop := ∃ cur fz, w.heap[g]? = some (.cells cur t fz)
theorem TB.new (w : World) (cs : Array Value) (t : TypeId) : TB (w.alloc (.cells cs t)) w.heap.size t := ⟨cs, (0, 0), heap_alloc_new w _⟩
theorem TB.up {w w' : World} {B g : Nat} {t : TypeId} (h : TB w g t) (hb : Below B w w') (hg : g < B) : TB w' g t := by
 obtain ⟨cur, fz, hc⟩ := h;exact ⟨cur, fz, (hb.block g hg).trans hc⟩
theorem TB.set {w : World} {g : Nat} {t : TypeId} (h : TB w g t) (p : Addr) (v : Value) : TB (w.setCell p v) g t := by
 obtain ⟨cur, fz, hc⟩ := h;by_cases hg : g = p.block
 ·subst hg;refine ⟨if p.spot.isSome then cur else cur.setIfInBounds p.off v, fz, ?_⟩;show (w.heap.modify p.block _)[p.block]? = _
  rw [Array.getElem?_modify];simp [hc]
 ·exact ⟨cur, fz, by rw [Below.heap_setCell w p v g (by exact hg)]; exact hc⟩
theorem TB.sets {g : Nat} {t : TypeId} {b : Nat} {w : World} (h : TB w g t) (vs : List Value) (o : Nat) : TB (w.setCells b o vs) g t := by
 induction vs generalizing w o with
 | nil => exact h
 | cons v r ih => exact ih (h.set _ v) _
structure TieQ (X : Type) where
 /-- the call's number -/
 n : Nat
 /-- the numbers of the laying and of the store of the box, or numbers past the end -/
 m : Nat
 q : Nat
 /-- the slots -/
 V : Option X → Nat → Value
 /-- which slots come of the call -/
 dep : Nat → Bool
 Post : X → World → Prop
 zs : List Value
 /-- the type of the box -/
 bt : TypeId
 S : X → List Value
section
variable {P : Program} {ops : Array Oper} {Q : Exit → Act → World → Prop} {a0 : Act} {X : Type}
structure TieQE (T : TieQ X) (ops : Array Oper) (a0 : Act) (w0 : World) (done : Nat → Prop) (a : Act) (w : World) : Prop where
 size : a.tmps.size = a0.tmps.size
 fin : ∀ j, done j → j < ops.size
 late : ∀ d : Tmp, NotYet ops done d → a.tmps.getD d undef = a0.tmps.getD d undef
 st : ∃ (ox : Option X) (og : Option Nat), (done T.n ↔ ox.isSome = true) ∧ (done T.m ↔ og.isSome = true) ∧ (∀ x, ox = some x → T.Post x w) ∧
  (∀ g, og = some g → w0.heap.size ≤ g ∧ g < w.heap.size ∧ ∃ vs, (Box w g vs ∧ TB w g T.bt) ∧ (¬ done T.q → vs = T.zs) ∧ (done T.q → ∃ x, ox = some x ∧ vs = T.S x)) ∧
  (∀ (j : Nat) (o : Oper) (d : Tmp), ops[j]? = some o → done j → o.dst = some d → j ≠ T.m → a.tmps.getD d undef = T.V ox j) ∧
  (∀ (o : Oper) (d : Tmp) g, ops[T.m]? = some o → og = some g → o.dst = some d → a.tmps.getD d undef = .pointer (some ⟨g, 0, none⟩))
def tieBQ (T : TieQ X) (ops : Array Oper) : Bool :=
 ((List.range ops.size).all fun j => !T.dep j || decide (j = T.n) || match ops[j]? with
  | none => true
  | some o => o.after.any fun e => Region.binds .any e && decide (e.on < j) && (decide (e.on = T.n) || T.dep e.on)) &&
 (match ops[T.q]? with
  | none => true
  | some o => o.dst.isNone && decide (T.q ≠ T.m) && decide (T.q ≠ T.n) && (o.after.any fun e => Region.binds .any e && decide (e.on = T.m)) && (o.after.any fun e => Region.binds .any e && (decide (e.on = T.n) || T.dep e.on)) && decide (T.n < ops.size)) &&
 (decide (T.m ≠ T.n)) && T.dep T.n && !T.dep T.m && decide (T.n < ops.size)
theorem dep_doneQ {T : TieQ X} (h : tieBQ T ops = true) {done : Nat → Prop} (hcl : Closed ops done) : ∀ j, j < ops.size → T.dep j = true → done j → done T.n := by
 unfold tieBQ at h;simp only [Bool.and_eq_true] at h;obtain ⟨⟨⟨⟨⟨h, _⟩, _⟩, _⟩, _⟩, _⟩ := h;intro j
 induction j using Nat.strongRecOn with
 | _ j ih =>
  intro hj hd hdo;have h1 := List.all_eq_true.1 h j (List.mem_range.2 hj);rw [hd, Array.getElem?_eq_getElem hj] at h1;simp only [Bool.not_true, Bool.false_or, Bool.or_eq_true, decide_eq_true_eq] at h1;rcases h1 with rfl | h1
  ·exact hdo
  ·rw [Array.any_eq_true] at h1;obtain ⟨k, hk, h2⟩ := h1;simp only [Bool.and_eq_true, Bool.or_eq_true, decide_eq_true_eq] at h2;obtain ⟨⟨hb, hlt⟩, h3⟩ := h2;have hde := hcl j ops[j] (Array.getElem?_eq_getElem hj) hdo _ (Array.getElem_mem hk) hb;rcases h3 with h3 | h3
   ·exact h3 ▸ hde
   ·exact ih _ hlt (by omega) h3 hde
def StepTQ (P : Program) (T : TieQ X) (ops : Array Oper) (a0 : Act) (w0 : World) : Prop :=
 ∀ (i : Nat) (o : Oper), ops[i]? = some o → ∀ (a : Act) (w : World) (ox : Option X), Below w0.heap.size w0 w → (T.dep i = true → i ≠ T.n → ∃ x, ox = some x) → (∀ x, ox = some x → T.Post x w) →
  (∀ e ∈ o.after, Region.binds .any e = true → e.on ≠ T.m → ∀ (o' : Oper) (d : Tmp), ops[e.on]? = some o' → o'.dst = some d → a.tmps.getD d undef = T.V ox e.on) → (∀ d : Tmp, lateB ops i d = true → a.tmps.getD d undef = a0.tmps.getD d undef) →
  (∀ (j : Nat) (want : Bool), o.guard = some (j, want) → ∀ (o' : Oper) (d : Tmp), ops[j]? = some o' → o'.dst = some d → ∀ b, a.tmps.getD d undef = .bool b → Region.wanted o (yielded ops a.tmps) = (b == want)) →
  (Region.wanted o (yielded ops a.tmps) = true →
   (i = T.n → ∃ f args, (execOp a.eval o).run P w = .ok (.enter f args) w ∧ Calls P f args w fun e w' => ∃ x, e = .returned (T.V (some x) i) ∧ T.Post x w' ∧ Below w.heap.size w w') ∧
   (i = T.m → (execOp a.eval o).run P w = .ok (.value (.pointer (some ⟨w.heap.size, 0, none⟩))) (w.alloc (.cells T.zs.toArray T.bt))) ∧
   (i = T.q → ∀ x g, ox = some x → w0.heap.size ≤ g → g < w.heap.size → Box w g T.zs → TB w g T.bt → (∀ (o' : Oper) (d : Tmp), ops[T.m]? = some o' → o'.dst = some d → a.tmps.getD d undef = .pointer (some ⟨g, 0, none⟩)) → (execOp a.eval o).run P w = .ok .skip (w.setCells g 0 (T.S x)) ∧ T.Post x (w.setCells g 0 (T.S x)) ∧ (T.S x).length = T.zs.length) ∧
   (i ≠ T.n → i ≠ T.m → i ≠ T.q → (execOp a.eval o).run P w = .ok (.value (T.V ox i)) w)) ∧
  (Region.wanted o (yielded ops a.tmps) = false → i ≠ T.n ∧ i ≠ T.m ∧ i ≠ T.q ∧ T.V ox i = undef)
theorem region_tieQ {id : Nat} {w0 : World} (T : TieQ X) (hm : P.follows .mixedOrders = true) (hok : regionWB ops a0.tmps.size = true) (ht : tieBQ T ops = true)
  (hind : ∀ x j, T.dep j = false → T.V none j = T.V (some x) j) (hPost : ∀ x w w', Below w.heap.size w w' → T.Post x w → T.Post x w') (hstep : StepTQ P T ops a0 w0)
  (hdone : ∀ x g w, Below w0.heap.size w0 w → T.Post x w → (T.m < ops.size → w0.heap.size ≤ g ∧ g < w.heap.size ∧ (T.q < ops.size → Box w g (T.S x))) →
   Q .normal (putAll ops.toList (fun j => if j = T.m then .pointer (some ⟨g, 0, none⟩) else T.V (some x) j) 0 a0) w) : (Code.region id ops true).wp P Q a0 w0 := by
 have hds := (regionW hok).2.1;have hdj := (regionW hok).2.2;have hT := ht;unfold tieBQ at hT;simp only [Bool.and_eq_true, decide_eq_true_eq, Bool.not_eq_true'] at hT;obtain ⟨⟨⟨⟨⟨_, hq⟩, hmn⟩, hdn⟩, hdm⟩, hnlt⟩ := hT;refine region_eachE (fun _ _ _ _ => True) (fun _ W => Below w0.heap.size w0 W) (TieQE T ops a0 w0) hm hok (Below.refl _ _).drew
  ⟨rfl, (fun j h => h.elim), fun _ _ => rfl, none, none, by simp, by simp, (fun x h => by cases h), (fun g h => by cases h), (fun _ _ _ _ h => h.elim), (fun _ _ _ _ h => by cases h)⟩ ?_ ?_
 ·intro i o ho done a w hni hcl hI hE hdep _;obtain ⟨hsz, hfin, hlate, ox, og, hox, hog, hpo, hbx, hsl, hgm⟩ := hE;have hlt : i < ops.size := (Array.getElem?_eq_some_iff.1 ho).1;have hdone' : ∀ e ∈ o.after, Region.binds .any e = true → done e.on := fun e he hb => (hdep e he hb).1
  have hclm : Closed ops (more done i) := fun j o' hj hd e he hb => by
   rcases hd with rfl | hd
   ·rw [ho] at hj; injection hj with hj; subst hj; exact .inr (hdone' e he hb)
   ·exact .inr (hcl j o' hj hd e he hb)
  have hxi : T.dep i = true → i ≠ T.n → ∃ x, ox = some x := fun hd hne => by
   have := dep_doneQ ht hclm i hlt hd (.inl rfl);rcases this with h | h
   ·exact absurd h.symm hne
   ·exact Option.isSome_iff_exists.1 (hox.1 h)
  obtain ⟨hw1, hw2⟩ := hstep i o ho a w ox hI hxi hpo (fun e he hb hne o' d ho' hd => hsl e.on o' d ho' (hdone' e he hb) hd hne) (fun d hd => hlate d (late_notYet hd hni hcl)) (fun j want hg o' d ho' hd b hb => wanted_is hg ho' hd hb);have hfin' : ∀ j, more done i j → j < ops.size := fun j h => h.elim (fun e => e ▸ hlt) (hfin j)
  have hlate' : ∀ (v : Value) (d : Tmp), NotYet ops (more done i) d → (a.put o.dst v).tmps.getD d undef = a0.tmps.getD d undef := fun v d hd => by
   cases hod : o.dst with
   | none => exact hlate d hd.less
   | some d' =>
    rw [getD_put _ _ _ _ (by rw [hsz]; exact hds i o ho d' hod), if_neg (fun e => hd i o ho (.inl rfl) (by rw [hod, e]))];exact hlate d hd.less
  have hold : ∀ (v : Value) (j : Nat) (o' : Oper) (d : Tmp), ops[j]? = some o' → done j → o'.dst = some d → (a.put o.dst v).tmps.getD d undef = a.tmps.getD d undef := fun v j o' d hj hd hd' => by
   cases hod : o.dst with
   | none => rfl
   | some d' =>
    rw [getD_put _ _ _ _ (by rw [hsz]; exact hds i o ho d' hod), if_neg (fun e => hni (by rw [hdj i j o o' d' ho hj hod (by rw [hd', e])]; exact hd))]
  have hnew : ∀ (v : Value) (d : Tmp), o.dst = some d → (a.put o.dst v).tmps.getD d undef = v := fun v d hod => by
   rw [hod, getD_put _ _ _ _ (by rw [hsz]; exact hds i o ho d hod), if_pos rfl]
  refine ⟨fun hw K Q' hK => ?_, fun hw => ?_⟩
  ·obtain ⟨k1, k2, k3, k4⟩ := hw1 hw;by_cases en : i = T.n
   ·subst en;have hnone : ox = none := by
     cases hh : ox with
     | none => rfl
     | some x => exact absurd (hox.2 (by rw [hh]; rfl)) hni
    subst hnone;obtain ⟨f, args, hrun, hc⟩ := k1 rfl;refine wp_of_enter (R := fun v w' => ∃ x, v = T.V (some x) T.n ∧ T.Post x w' ∧ Below w.heap.size w w') hrun (hc.mono fun e w' ⟨x, he, hp, hb⟩ => ⟨_, he, x, rfl, hp, hb⟩) ?_;rintro v w' ⟨x, rfl, hp, hb⟩;refine hK _ _ (hI.trans (hb.mono hI.size)) trivial (fun _ _ _ _ _ => trivial) ⟨by rw [size_put]; exact hsz, hfin', hlate' _, some x, og, by simp [more], ?_, ?_, ?_, ?_, ?_⟩
    ·refine ⟨fun h => hog.1 (h.resolve_left hmn), fun h => .inr (hog.2 h)⟩
    ·intro y hy; injection hy with hy; subst hy; exact hp
    ·intro g hg;obtain ⟨h1, h2, vs, h3, h4, h5⟩ := hbx g hg;refine ⟨h1, Nat.lt_of_lt_of_le h2 hb.size, vs, ⟨h3.1.up hb h2, h3.2.up hb h2⟩, fun h => h4 (fun h' => h (.inr h')), fun h => ?_⟩;rcases h with h | h
     ·rw [show ops[T.q]? = some o by rw [h]; exact ho] at hq;simp only [Bool.and_eq_true, decide_eq_true_eq] at hq;exact absurd h hq.1.1.1.2
     ·obtain ⟨y, hy, _⟩ := h5 h;cases hy
    ·intro j o' d hj hd hod hjm;rcases hd with rfl | hd
     ·rw [ho] at hj; injection hj with hj; subst hj
      exact hnew _ d hod
     ·rw [hold _ j o' d hj hd hod, hsl j o' d hj hd hod hjm];refine hind x j ?_;cases hdj' : T.dep j with
      | false => rfl
      | true => exact absurd (dep_doneQ ht hcl j (Array.getElem?_eq_some_iff.1 hj).1 hdj' hd) hni
    ·intro o' d g hj hg hod;rw [hold _ T.m o' d hj (hog.2 (by rw [hg]; rfl)) hod];exact hgm o' d g hj hg hod
   by_cases em : i = T.m
   ·subst em;have hnone : og = none := by
     cases hh : og with
     | none => rfl
     | some x => exact absurd (hog.2 (by rw [hh]; rfl)) hni
    subst hnone;have hrun := k2 rfl;have hal : Below w.heap.size w (w.alloc (.cells T.zs.toArray T.bt)) := (Below.refl _ _).alloc (Nat.le_refl _) _;refine wp_of_value hrun (hK _ _ (hI.trans (hal.mono hI.size)) trivial (fun _ _ _ _ _ => trivial) ⟨by rw [size_put]; exact hsz, hfin', hlate' _, ox, some w.heap.size, ?_, by simp [more], ?_, ?_, ?_, ?_⟩)
    ·exact ⟨fun h => hox.1 (h.resolve_left fun h => en h.symm), fun h => .inr (hox.2 h)⟩
    ·intro x hx; exact hPost x _ _ hal (hpo x hx)
    ·intro g hg;injection hg with hg
     subst hg;refine ⟨hI.size, by simp, T.zs, ?_, fun _ => rfl, fun h => ?_⟩
     ·have := Box.new w T.zs.toArray T.bt;exact ⟨by simpa using this, TB.new _ _ _⟩
     ·exfalso;rcases h with h | h
      ·rw [show ops[T.q]? = some o by rw [h]; exact ho] at hq;simp only [Bool.and_eq_true, decide_eq_true_eq] at hq;exact hq.1.1.1.1.2 h
      ·cases hoq : ops[T.q]? with
       | none =>
        have := hfin _ h;rw [Array.getElem?_eq_getElem this] at hoq;cases hoq
       | some oq =>
        rw [hoq] at hq;simp only [Bool.and_eq_true, decide_eq_true_eq] at hq;obtain ⟨k, hk, h2⟩ := Array.any_eq_true.1 hq.1.1.2;simp only [Bool.and_eq_true, decide_eq_true_eq] at h2;exact hni (h2.2 ▸ hcl T.q oq hoq h _ (Array.getElem_mem hk) h2.1)
    ·intro j o' d hj hd hod hjm;rcases hd with rfl | hd
     ·exact absurd rfl hjm
     ·rw [hold _ j o' d hj hd hod];exact hsl j o' d hj hd hod hjm
    ·intro o' d g hj hg hod;injection hg with hg
     subst hg;rw [ho] at hj; injection hj with hj; subst hj
     exact hnew _ d hod
   by_cases eq : i = T.q
   ·subst eq;rw [ho] at hq;simp only [Bool.and_eq_true, decide_eq_true_eq] at hq;obtain ⟨⟨⟨⟨⟨hdst, hqm⟩, hqn⟩, hqa⟩, hqb⟩, _⟩ := hq;have hdst' : o.dst = none := by simpa using hdst
    have hdm' : done T.m := by
     obtain ⟨k, hk, h2⟩ := Array.any_eq_true.1 hqa;simp only [Bool.and_eq_true, decide_eq_true_eq] at h2;exact h2.2 ▸ hdone' _ (Array.getElem_mem hk) h2.1
    have hdn' : done T.n := by
     obtain ⟨k, hk, h2⟩ := Array.any_eq_true.1 hqb;simp only [Bool.and_eq_true, Bool.or_eq_true, decide_eq_true_eq] at h2;have hd := hdone' _ (Array.getElem_mem hk) h2.1;rcases h2.2 with h3 | h3
     ·exact h3 ▸ hd
     ·exact dep_doneQ ht hcl _ (hfin _ hd) h3 hd
    obtain ⟨x, hx⟩ := Option.isSome_iff_exists.1 (hox.1 hdn');obtain ⟨g, hg⟩ := Option.isSome_iff_exists.1 (hog.1 hdm');obtain ⟨h1, h2, vs, h3, h4, h5⟩ := hbx g hg;obtain rfl := h4 hni;obtain ⟨hrun, hp, hl⟩ := k3 rfl x g hx h1 h2 h3.1 h3.2 (fun o' d ho' hd => hgm o' d g ho' hg hd);refine wp_of_skip hrun (hK _ _ (below_sets hI h1 _ _) trivial (fun _ _ _ _ _ => trivial) ⟨by rw [size_put]; exact hsz, hfin', hlate' _, ox, og, ?_, ?_, ?_, ?_, ?_, ?_⟩)
    ·exact ⟨fun h => hox.1 (h.resolve_left fun h => hqn h.symm), fun h => .inr (hox.2 h)⟩
    ·exact ⟨fun h => hog.1 (h.resolve_left fun h => hqm h.symm), fun h => .inr (hog.2 h)⟩
    ·intro y hy;rw [hx] at hy; injection hy with hy; subst hy
     exact hp
    ·intro g' hg';rw [hg] at hg'; injection hg' with hg'; subst hg'
     exact ⟨h1, by rw [size_sets]; exact h2, T.S x, ⟨h3.1.sets hl, h3.2.sets (T.S x) 0⟩, fun h => absurd (.inl rfl) h, fun _ => ⟨x, hx, rfl⟩⟩
    ·intro j o' d hj hd hod hjm;rcases hd with rfl | hd
     ·rw [ho] at hj; injection hj with hj; subst hj
      rw [hdst'] at hod; cases hod
     ·rw [hold _ j o' d hj hd hod];exact hsl j o' d hj hd hod hjm
    ·intro o' d g' hj hg' hod;rw [hold _ T.m o' d hj hdm' hod];exact hgm o' d g' hj hg' hod
   ·have hrun := k4 en em eq;refine wp_of_value hrun (hK _ _ hI trivial (fun _ _ _ _ _ => trivial) ⟨by rw [size_put]; exact hsz, hfin', hlate' _, ox, og, ?_, ?_, hpo, ?_, ?_, ?_⟩)
    ·exact ⟨fun h => hox.1 (h.resolve_left fun h => en h.symm), fun h => .inr (hox.2 h)⟩
    ·exact ⟨fun h => hog.1 (h.resolve_left fun h => em h.symm), fun h => .inr (hog.2 h)⟩
    ·intro g hg;obtain ⟨h1, h2, vs, h3, h4, h5⟩ := hbx g hg;exact ⟨h1, h2, vs, h3, fun h => h4 (fun h' => h (.inr h')), fun h => h5 (h.resolve_left fun h => eq h.symm)⟩
    ·intro j o' d hj hd hod hjm;rcases hd with rfl | hd
     ·rw [ho] at hj; injection hj with hj; subst hj
      exact hnew _ d hod
     ·rw [hold _ j o' d hj hd hod];exact hsl j o' d hj hd hod hjm
    ·intro o' d g hj hg hod;rw [hold _ T.m o' d hj (hog.2 (by rw [hg]; rfl)) hod];exact hgm o' d g hj hg hod
  ·obtain ⟨en, em, eq, hu⟩ := hw2 hw;refine ⟨hI, trivial, fun _ _ _ _ => trivial, ⟨by rw [size_put]; exact hsz, hfin', hlate' _, ox, og, ?_, ?_, hpo, ?_, ?_, ?_⟩⟩
   ·exact ⟨fun h => hox.1 (h.resolve_left fun h => en h.symm), fun h => .inr (hox.2 h)⟩
   ·exact ⟨fun h => hog.1 (h.resolve_left fun h => em h.symm), fun h => .inr (hog.2 h)⟩
   ·intro g hg;obtain ⟨h1, h2, vs, h3, h4, h5⟩ := hbx g hg;exact ⟨h1, h2, vs, h3, fun h => h4 (fun h' => h (.inr h')), fun h => h5 (h.resolve_left fun h => eq h.symm)⟩
   ·intro j o' d hj hd hod hjm;rcases hd with rfl | hd
    ·rw [ho] at hj; injection hj with hj; subst hj
     rw [hnew _ d hod, hu]
    ·rw [hold _ j o' d hj hd hod];exact hsl j o' d hj hd hod hjm
   ·intro o' d g hj hg hod;rw [hold _ T.m o' d hj (hog.2 (by rw [hg]; rfl)) hod];exact hgm o' d g hj hg hod
 ·intro done a vs w hd hI hE ha _;obtain ⟨hsz, hfin, hlate, ox, og, hox, hog, hpo, hbx, hsl, hgm⟩ := hE;obtain ⟨x, hx⟩ := Option.isSome_iff_exists.1 (hox.1 (hd _ hnlt));subst hx;have hg : ∃ g, (T.m < ops.size → og = some g) := by
   by_cases h : T.m < ops.size
   ·obtain ⟨g, hg⟩ := Option.isSome_iff_exists.1 (hog.1 (hd _ h));exact ⟨g, fun _ => hg⟩
   ·exact ⟨0, fun h' => absurd h' h⟩
  obtain ⟨g, hg⟩ := hg;have := hdone x g w hI (hpo x rfl) (fun hml => by
   obtain ⟨h1, h2, vs', h3, h4, h5⟩ := hbx g (hg hml);refine ⟨h1, h2, fun hql => ?_⟩;obtain ⟨y, hy, rfl⟩ := h5 (hd _ hql);injection hy with hy
   subst hy;exact h3.1)
  rw [ha];rw [putAll_congrD ops.toList vs _ 0 a0 (fun j o d hj hod => ?_)]
  ·exact this
  ·have hj' : ops[j]? = some o := by simpa using hj
   have hlt : j < ops.size := (Array.getElem?_eq_some_iff.1 hj').1;have hat := putAll_atW ops.toList vs d 0 j a0 o (fun o ho e he => by
    obtain ⟨n, hn⟩ := List.mem_iff_getElem?.1 ho;exact hds n o (by simpa using hn) e he) (fun i j o o' d hi hj he he' => hdj i j o o' d (by simpa using hi) (by simpa using hj) he he') hj hod
   rw [← ha] at hat;rw [← hat, Nat.zero_add];by_cases e : j = T.m
   ·rw [if_pos e];exact hgm o d g (by rw [← e]; exact hj') (hg (e ▸ hlt)) hod
   ·rw [if_neg e];exact hsl j o d hj' (hd j hlt) hod e
end
end Go.Proofs.YtkfhpefmmhljmaaGreatDoor
/- CpI -/
namespace Go.Proofs.YtkfhpefmmhljmaaGreatDoor
open Go.RowKit
set_option maxRecDepth 100000
def OneE {α : Type} (E : Enc α) (b : Nat) (s : Bytes) (r : α × Rd) (w : World) (e : Ending) (w' : World) : Prop :=
 ∃ cells, e = .returned (.agg cells.toArray) ∧ E w' w.heap.size cells r.1 ∧ RdR w' b s r.2 ∧ w.grownBy w' (some b)
theorem heap_setsO {w : World} {g k : Nat} (vs : List Value) (h : k ≠ g) (o : Nat) : (w.setCells g o vs).heap[k]? = w.heap[k]? := by
 induction vs generalizing w o with
 | nil => rfl
 | cons v r ih => rw [World.setCells, ih, Below.heap_setCell w ⟨g, o, none⟩ v k (by show k ≠ g; exact h)]
theorem EOwn.setTB {α : Type} {E : Enc α} {ts : List TypeId} {w : World} {base : Nat} {c : List Value} {x : α} (hE : EOwn E ts) (h : E w base c x) {g : Nat} {t : TypeId} (htb : TB w g t) (ht : t ∉ ts) (vs : List Value) (o : Nat) : E (w.setCells g o vs) base c x :=
 hE.out (Nat.le_refl _) (fun k hk ⟨t', ht', cur, fz, hc⟩ => by
  by_cases hkg : k = g
  ·subst hkg;obtain ⟨cur', fz', hc'⟩ := htb;rw [hc] at hc';injection hc' with hc'
   injection hc' with _ h2 _
   exact absurd (h2 ▸ ht') ht
  ·exact heap_setsO vs hkg o) h
theorem ErR.mv {e er : Int} (h : ErR e er) (nx : Int) : MvP (e, nx) nx er := by
 rcases h with ⟨h1, h2⟩ | ⟨h1, h2, h3⟩
 ·exact .inl ⟨h1, h2, fun _ => rfl⟩
 ·exact .inr ⟨h1, h2, h3⟩
theorem sliceO {α : Type} {E : Enc α} {t : TypeId} {n : Nat} {w : World} {base : Nat} {v : Value} {l : List α} (h : RowO E t n w base v l) : ∃ A c, v = .slice A l.length c := by
 obtain ⟨_, _, _, _, ho⟩ := h;obtain ⟨A, c, hv, _⟩ := ownsRow_slice ho;exact ⟨A, c, hv⟩
set_option maxHeartbeats 8000000 in
theorem oneNet_any (b : Nat) (s : Bytes) (rd : Rd) (w : World) (p : Int → Int × Nt × Int) (hl : s.length ≤ 1000000)
  (KP : ∀ (i : Int) (W : World), -9223372036854775808 ≤ i ∧ i ≤ 9223372036854775807 → Calls Tryz.prog 47 #[.string (bstr s), .int .i64 i] W (ParE NtO (p i) W)) (hle : ∀ i, (p i).1 = 0 → 0 ≤ (p i).2.2 ∧ (p i).2.2 ≤ s.length) (hR : RdR w b s rd) :
  Calls Tryz.prog 46 #[.pointer (some ⟨b, 0, none⟩), .func (.func 47) #[] #[]] w (OneE NtO b s (oneP nt0 p rd) w) := by
 have hbw := hR.lt;have HX : Hid (Box ((w.alloc (.cells #[.int .i64 0, .slice none 0 0] 24)).alloc (.cells #[.int .i64 0, .slice none 0 0] 24)) w.heap.size [.int .i64 0, .slice none 0 0]) := (Box.new w #[.int .i64 0, .slice none 0 0] 24).alloc (by simp) _;have HN : Hid (Box ((w.alloc (.cells #[.int .i64 0, .slice none 0 0] 24)).alloc (.cells #[.int .i64 0, .slice none 0 0] 24)) (w.heap.size + 1) [.int .i64 0, .slice none 0 0]) := by
  have := Box.new (w.alloc (.cells #[.int .i64 0, .slice none 0 0] 24)) #[.int .i64 0, .slice none 0 0] 24;show Box _ _ _
  simpa using this
 have HR : Hid (RdR ((w.alloc (.cells #[.int .i64 0, .slice none 0 0] 24)).alloc (.cells #[.int .i64 0, .slice none 0 0] 24)) b s rd) := (hR.alloc _).alloc _;have HG : Hid (w.grownBy ((w.alloc (.cells #[.int .i64 0, .slice none 0 0] 24)).alloc (.cells #[.int .i64 0, .slice none 0 0] 24)) (some b)) := grown_alloc (grown_alloc (World.grownBy.refl w (some b)) _) _;have hzz : w.heap.size + 1 < ((w.alloc (.cells #[.int .i64 0, .slice none 0 0] 24)).alloc (.cells #[.int .i64 0, .slice none 0 0] 24)).heap.size := by simp
 have EO : Hid (oneP nt0 p rd = if rd.e ≠ 0 then (nt0, rd) else ((p rd.i).2.1, rMove rd (p rd.i).1 (p rd.i).2.2)) := rfl;generalize oneP nt0 p rd = R at *;clear hR;go_enter Tryz.func46, Tryz.ntmps46;obtain ⟨i, er, hB, h0, h1, h2, h3⟩ := HR.out.er;obtain ⟨q0, s0, q1, s1, q2, s2⟩ := sqX3 hB;obtain ⟨u0, v0, u1, v1⟩ := sqX2 HX.out;obtain ⟨y0, z0, y1, z1⟩ := sqX2 HN.out;by_cases he : rd.e = 0
 case neg =>
  have EF : R = (nt0, rd) := by rw [EO.out, if_pos he]
  have e0 : (er == 0) = false := beq_eq_false_iff_ne.2 fun h => he (h0.1 h)
  have e1 : (er != 0) = true := bne_iff_ne.2 fun h => he (h0.1 h)
  have hlt : w.heap.size < ((w.alloc (.cells #[.int .i64 0, .slice none 0 0] 24)).alloc (.cells #[.int .i64 0, .slice none 0 0] 24)).heap.size := by omega
  clear hB h0 h1 h2 h3 he;go_wp2_with fail;exact bodyPost_ret (v := .agg #[.int .i64 0, .slice none 0 0]) (by simp [results, Tryz.results46, go_sem, u0, u1, hlt]) rfl ⟨_, rfl, by rw [EF]; exact ⟨_, rfl, RowO.nil_ _ _ _ _ _⟩, by rw [EF]; exact HR.out, HG.out⟩
 case pos =>
  obtain rfl := h0.2 he;obtain ⟨rfl, hi1, hi2⟩ := h3 he;have KC := Lib.hid fun W => KP rd.i W ⟨hi1, hi2⟩
  have HLE := Lib.hid (hle rd.i);have EF : Hid (R = ((p rd.i).2.1, rMove rd (p rd.i).1 (p rd.i).2.2)) := by show _ = _; rw [EO.out, if_neg (by simp [he])]
  have HBX := Lib.hid hB;clear hB h0 h1 h2 h3 EO hle KP HN he y0 y1 z0 z1;generalize p rd.i = pr at *;obtain ⟨pe, vv, pn⟩ := pr;dsimp only at HLE EF;go_wp2_with fail;generalize ((w.alloc (.cells #[.int .i64 0, .slice none 0 0] 24)).alloc (.cells #[.int .i64 0, .slice none 0 0] 24)) = w1 at *;have hlt : b < w1.heap.size := by omega
  clear u0 u1 v0 v1;refine region_tieQ (X := Option Addr × Nat × Int) (w0 := w1) { n := 9, m := 14, q := 15, V := fun ox jq => (match jq with | 0 => .func (.func 47) #[] #[] | 1 => .pointer (some ⟨b, 0, none⟩) | 2 => .pointer (some ⟨b, 0, none⟩) | 3 => .pointer (some ⟨b, 0, none⟩) | 4 => .string (bstr s) | 5 => .pointer (some ⟨b, 0, none⟩) | 6 => .pointer (some ⟨b, 0, none⟩) | 7 => .pointer (some ⟨b, 1, none⟩) | 8 => .int .i64 rd.i | 9 => ox.elim undef (fun x => .tuple #[.agg #[.int .i64 vv.buses, .slice x.1 vv.lines.length x.2.1], .int .i64 pn, .int .i64 x.2.2]) | 10 => ox.elim undef (fun x => .tuple #[.agg #[.int .i64 vv.buses, .slice x.1 vv.lines.length x.2.1], .int .i64 pn, .int .i64 x.2.2]) | 11 => ox.elim undef (fun x => .agg #[.int .i64 vv.buses, .slice x.1 vv.lines.length x.2.1]) | 12 => ox.elim undef (fun x => .int .i64 pn) | 13 => ox.elim undef (fun x => .int .i64 x.2.2) | 14 => undef | 15 => undef | 16 => ox.elim undef (fun x => .int .i64 pn) | 17 => ox.elim undef (fun x => .int .i64 x.2.2) | _ => undef), dep := fun jq => ([9, 10, 11, 12, 13, 16, 17] : List Nat).contains jq, Post := fun x W => NtO W w1.heap.size [Value.int .i64 vv.buses, .slice x.1 vv.lines.length x.2.1] vv ∧ ErR pe x.2.2, bt := 24, zs := [.int .i64 0, .slice none 0 0], S := fun x => [.int .i64 vv.buses, .slice x.1 vv.lines.length x.2.1] } (by kernel_rfl) (by kernel_rfl) (by kernel_rfl) ?_ (fun x W W' hb h => ⟨NtO.own.up h.1 hb, h.2⟩) ?_ ?_
  ·intro x jq hd;rcases jq with _ | _ | _ | _ | _ | _ | _ | _ | _ | _ | _ | _ | _ | _ | _ | _ | _ | _ | jq <;> first | rfl | exact absurd (show true = false from hd) (by decide)
  ·intro iq oq ho aq W ox hI hx hpo hdep hrest hgd;have hdep := @sqE _ _ _ _ hdep;have hgd := @sqG _ _ _ _ hgd;have hfn := sqF aq;rcases iq with _|_|_|_|_|_|_|_|_|_|_|_|_|_|_|_|_|_|iq
   ·cases ho;refine sqT 0 9 14 15 ?_;simp [go_sem, hrest 1 (by kernel_rfl)]
   ·cases ho;refine sqT 1 9 14 15 ?_;simp [go_sem, hrest 0 (by kernel_rfl)]
   ·cases ho;refine sqT 2 9 14 15 ?_;simp [go_sem, hdep ⟨1, .data⟩ (sqM 1 14)]
   ·cases ho;refine sqT 3 9 14 15 ?_;simp [go_sem, hdep ⟨2, .data⟩ (sqM 2 14)]
   ·cases ho;have c0 := (hI.cell (p := ⟨b, 0, none⟩) hlt).trans q0;have hlz : b < W.heap.size := Nat.lt_of_lt_of_le hlt hI.size;refine sqT 4 9 14 15 ?_;simp [go_sem, hdep ⟨3, .data⟩ (sqM 3 14), c0, hlz]
   ·cases ho;refine sqT 5 9 14 15 ?_;simp [go_sem, hrest 0 (by kernel_rfl)]
   ·cases ho;refine sqT 6 9 14 15 ?_;simp [go_sem, hdep ⟨5, .data⟩ (sqM 5 14)]
   ·cases ho;refine sqT 7 9 14 15 ?_;simp [go_sem, hdep ⟨6, .data⟩ (sqM 6 14)]
   ·cases ho;have c1 := (hI.cell (p := ⟨b, 1, none⟩) hlt).trans q1;have hlz : b < W.heap.size := Nat.lt_of_lt_of_le hlt hI.size;refine sqT 8 9 14 15 ?_;simp [go_sem, hdep ⟨7, .data⟩ (sqM 7 14), c1, hlz]
   ·cases ho;refine ⟨fun _ => ⟨fun _ => ⟨47, #[.string (bstr s), .int .i64 rd.i], ?_, (KC.out W).mono fun e w' ⟨hb, cells, er, he, hE, hEr⟩ => by subst he; obtain ⟨v, rfl, hrow⟩ := id hE; obtain ⟨A, c, rfl⟩ := sliceO hrow; exact ⟨(A, c, er), rfl, ⟨NtO.own.mono hE hI.size, hEr⟩, hb⟩⟩, sqN 9 14, sqN 9 15, fun h => absurd rfl h⟩, nofun⟩;simp [go_sem, hdep ⟨0, .data⟩ (sqM 0 14), hdep ⟨4, .data⟩ (sqM 4 14), hdep ⟨8, .data⟩ (sqM 8 14), hfn]
   ·cases ho;obtain ⟨x, rfl⟩ := hx rfl (sqM 10 9);refine sqT 10 9 14 15 ?_;simp [go_sem, hdep ⟨9, .data⟩ (sqM 9 14)]
   ·cases ho;obtain ⟨x, rfl⟩ := hx rfl (sqM 11 9);refine sqT 11 9 14 15 ?_;simp [go_sem, hdep ⟨10, .data⟩ (sqM 10 14)]
   ·cases ho;obtain ⟨x, rfl⟩ := hx rfl (sqM 12 9);refine sqT 12 9 14 15 ?_;simp [go_sem, hdep ⟨10, .data⟩ (sqM 10 14)]
   ·cases ho;obtain ⟨x, rfl⟩ := hx rfl (sqM 13 9);refine sqT 13 9 14 15 ?_;simp [go_sem, hdep ⟨10, .data⟩ (sqM 10 14)]
   ·cases ho;clear hrest hdep hgd;exact ⟨fun _ => ⟨sqN 14 9, fun _ => rfl, sqN 14 15, fun _ h => absurd rfl h⟩, nofun⟩
   ·cases ho;clear hrest;refine ⟨fun _ => ⟨sqN 15 9, sqN 15 14, fun _ x gg hox h1 h2 hbox htb hgg => ?_, fun _ _ h => absurd rfl h⟩, nofun⟩;subst hox;have d14 : aq.eval (.tmp 6) = .pointer (some ⟨gg, 0, none⟩) := hgg _ _ rfl rfl;have d11 : aq.eval (.tmp 26) = .agg #[.int .i64 vv.buses, .slice x.1 vv.lines.length x.2.1] := hdep ⟨11, .data⟩ (sqM 11 14);clear hdep hgd;obtain ⟨b0, c0, b1, c1⟩ := sqX2 hbox;refine ⟨?_, ⟨NtO.own.setTB (hpo x rfl).1 htb (by show ¬ ((24 : TypeId) ∈ ([127] : List TypeId)); decide) _ 0, (hpo x rfl).2⟩, rfl⟩;clear hI hpo hx hbox htb hgg;generalize aq.eval = ρ at *;simp [go_sem, d14, d11, b0, c0, b1, c1]
    try rfl
   ·cases ho;obtain ⟨x, rfl⟩ := hx rfl (sqM 16 9);refine sqT 16 9 14 15 ?_;simp [go_sem, hdep ⟨12, .data⟩ (sqM 12 14)]
   ·cases ho;obtain ⟨x, rfl⟩ := hx rfl (sqM 17 9);refine sqT 17 9 14 15 ?_;simp [go_sem, hdep ⟨13, .data⟩ (sqM 13 14)]
   ·simp at ho
  intro x g wx hb hP hG;simp (decide := true) only [putAll, Act.put, List.setIfInBounds_toArray, List.set_cons_zero, List.set_cons_succ, Nat.reduceAdd, Option.elim, if_true, if_false];replace hP : (fun x W => NtO W w1.heap.size [Value.int .i64 vv.buses, .slice x.1 vv.lines.length x.2.1] vv ∧ ErR pe x.2.2) x wx := hP
  (try dsimp only at hP)
  obtain ⟨hg1, hg2, hg3⟩ : w1.heap.size ≤ g ∧ g < wx.heap.size ∧ Box wx g [.int .i64 vv.buses, .slice x.1 vv.lines.length x.2.1] := ⟨(hG (show (14 : Nat) < 18 by decide)).1, (hG (show (14 : Nat) < 18 by decide)).2.1, (hG (show (14 : Nat) < 18 by decide)).2.2 (show (15 : Nat) < 18 by decide)⟩;clear hG;have HX2 := Lib.hid (HX.out.up hb (by omega));have HB2 := Lib.hid (HBX.out.up hb hlt);have HG2 := Lib.hid (grown_trans HG.out (grown_below (b := b) hb));have HP := Lib.hid hP;have HG3 := Lib.hid hg3;have hzx : w.heap.size + 1 < wx.heap.size := Nat.lt_of_lt_of_le hzz hb.size;clear KC HX HBX HG HR hb hP hg3 q0 q1 q2 s0 s1 s2;go_wp2_with fail;refine (cMove_any b (bstr s) rd.i pn (x.2.2) _ HB2.out).mono ?_;rintro e w2 ⟨rfl, hB2, hg'⟩;have HX3 := Lib.hid (HX2.out.grown hg' (by omega) (by omega));have HG4 := Lib.hid (HG3.out.grown hg' (by omega) hg2);have hEE := NtO.own.grown HP.out.1 hg' (by omega);have hER := HP.out.2;have HGW := Lib.hid (grown_trans HG2.out hg');have HRW := Lib.hid (RdR.move (rd := rd) hB2 (ErR.mv hER pn) HLE.out hl);have hz2 : w.heap.size < w2.heap.size := by have := hg'.size; omega
  have hgz : g < w2.heap.size := Nat.lt_of_lt_of_le hg2 hg'.size;have HE2 := Lib.hid (NtO.own.mono (NtO.own.set hEE (g := w.heap.size) (by omega) [.int .i64 vv.buses, .slice x.1 vv.lines.length x.2.1] 0) (show w.heap.size ≤ w1.heap.size by omega));have HZ := Lib.hid (HX3.out.sets (vs' := [.int .i64 vv.buses, .slice x.1 vv.lines.length x.2.1]) rfl);have HRz : Hid (RdR (w2.setCells w.heap.size 0 [.int .i64 vv.buses, .slice x.1 vv.lines.length x.2.1]) b s (rMove rd pe pn)) := by
   obtain ⟨i, er, h1, h2⟩ := HRW.out;exact ⟨i, er, h1.others (b' := w.heap.size) (by omega) 0 _, h2⟩
  have HGz := Lib.hid (grown_setsN (b' := w.heap.size) HGW.out (Nat.le_refl _) [.int .i64 vv.buses, .slice x.1 vv.lines.length x.2.1] 0);have hlt2 : w.heap.size < (w2.setCells w.heap.size 0 [.int .i64 vv.buses, .slice x.1 vv.lines.length x.2.1]).heap.size := by rw [size_sets]; exact hz2
  clear hB2 hg' HX2 HB2 HG2 HP HG3 hEE hER HGW HRW;obtain ⟨u0, v0, u1, v1⟩ := sqX2 HX3.out;obtain ⟨y0, z0, y1, z1⟩ := sqX2 HG4.out;go_wp2_with fail;rw [show ((w2.setCell ⟨w.heap.size, 0, none⟩ (.int .i64 vv.buses)).setCell ⟨w.heap.size, 1, none⟩ (.slice x.1 vv.lines.length x.2.1)) = (w2.setCells w.heap.size 0 [.int .i64 vv.buses, .slice x.1 vv.lines.length x.2.1]) from rfl];generalize (w2.setCells w.heap.size 0 [.int .i64 vv.buses, .slice x.1 vv.lines.length x.2.1]) = wz at *;clear u0 u1 v0 v1 y0 y1 z0 z1;obtain ⟨u0, v0, u1, v1⟩ := sqX2 HZ.out;exact bodyPost_ret (v := .agg #[.int .i64 vv.buses, .slice x.1 vv.lines.length x.2.1]) (by simp [results, Tryz.results46, go_sem, u0, u1, hlt2]) rfl ⟨_, rfl, by rw [EF.out]; exact HE2.out, by rw [EF.out]; exact HRz.out, HGz.out⟩
set_option maxHeartbeats 8000000 in
theorem oneUnit_any (b : Nat) (s : Bytes) (rd : Rd) (w : World) (p : Int → Int × Un × Int) (hl : s.length ≤ 1000000)
  (KP : ∀ (i : Int) (W : World), -9223372036854775808 ≤ i ∧ i ≤ 9223372036854775807 → Calls Tryz.prog 49 #[.string (bstr s), .int .i64 i] W (ParE UnO (p i) W)) (hle : ∀ i, (p i).1 = 0 → 0 ≤ (p i).2.2 ∧ (p i).2.2 ≤ s.length) (hR : RdR w b s rd) :
  Calls Tryz.prog 107 #[.pointer (some ⟨b, 0, none⟩), .func (.func 49) #[] #[]] w (OneE UnO b s (oneP un0 p rd) w) := by
 have hbw := hR.lt;have HX : Hid (Box ((w.alloc (.cells #[.int .i64 0, .int .i64 0, .slice none 0 0, .int .i64 0, .int .i64 0, .int .i64 0, .int .i64 0, .int .i64 0, .int .i64 0] 62)).alloc (.cells #[.int .i64 0, .int .i64 0, .slice none 0 0, .int .i64 0, .int .i64 0, .int .i64 0, .int .i64 0, .int .i64 0, .int .i64 0] 62)) w.heap.size [.int .i64 0, .int .i64 0, .slice none 0 0, .int .i64 0, .int .i64 0, .int .i64 0, .int .i64 0, .int .i64 0, .int .i64 0]) := (Box.new w #[.int .i64 0, .int .i64 0, .slice none 0 0, .int .i64 0, .int .i64 0, .int .i64 0, .int .i64 0, .int .i64 0, .int .i64 0] 62).alloc (by simp) _;have HN : Hid (Box ((w.alloc (.cells #[.int .i64 0, .int .i64 0, .slice none 0 0, .int .i64 0, .int .i64 0, .int .i64 0, .int .i64 0, .int .i64 0, .int .i64 0] 62)).alloc (.cells #[.int .i64 0, .int .i64 0, .slice none 0 0, .int .i64 0, .int .i64 0, .int .i64 0, .int .i64 0, .int .i64 0, .int .i64 0] 62)) (w.heap.size + 1) [.int .i64 0, .int .i64 0, .slice none 0 0, .int .i64 0, .int .i64 0, .int .i64 0, .int .i64 0, .int .i64 0, .int .i64 0]) := by
  have := Box.new (w.alloc (.cells #[.int .i64 0, .int .i64 0, .slice none 0 0, .int .i64 0, .int .i64 0, .int .i64 0, .int .i64 0, .int .i64 0, .int .i64 0] 62)) #[.int .i64 0, .int .i64 0, .slice none 0 0, .int .i64 0, .int .i64 0, .int .i64 0, .int .i64 0, .int .i64 0, .int .i64 0] 62;show Box _ _ _
  simpa using this
 have HR : Hid (RdR ((w.alloc (.cells #[.int .i64 0, .int .i64 0, .slice none 0 0, .int .i64 0, .int .i64 0, .int .i64 0, .int .i64 0, .int .i64 0, .int .i64 0] 62)).alloc (.cells #[.int .i64 0, .int .i64 0, .slice none 0 0, .int .i64 0, .int .i64 0, .int .i64 0, .int .i64 0, .int .i64 0, .int .i64 0] 62)) b s rd) := (hR.alloc _).alloc _;have HG : Hid (w.grownBy ((w.alloc (.cells #[.int .i64 0, .int .i64 0, .slice none 0 0, .int .i64 0, .int .i64 0, .int .i64 0, .int .i64 0, .int .i64 0, .int .i64 0] 62)).alloc (.cells #[.int .i64 0, .int .i64 0, .slice none 0 0, .int .i64 0, .int .i64 0, .int .i64 0, .int .i64 0, .int .i64 0, .int .i64 0] 62)) (some b)) := grown_alloc (grown_alloc (World.grownBy.refl w (some b)) _) _;have hzz : w.heap.size + 1 < ((w.alloc (.cells #[.int .i64 0, .int .i64 0, .slice none 0 0, .int .i64 0, .int .i64 0, .int .i64 0, .int .i64 0, .int .i64 0, .int .i64 0] 62)).alloc (.cells #[.int .i64 0, .int .i64 0, .slice none 0 0, .int .i64 0, .int .i64 0, .int .i64 0, .int .i64 0, .int .i64 0, .int .i64 0] 62)).heap.size := by simp
 have EO : Hid (oneP un0 p rd = if rd.e ≠ 0 then (un0, rd) else ((p rd.i).2.1, rMove rd (p rd.i).1 (p rd.i).2.2)) := rfl;generalize oneP un0 p rd = R at *;clear hR;go_enter Tryz.func107, Tryz.ntmps107;obtain ⟨i, er, hB, h0, h1, h2, h3⟩ := HR.out.er;obtain ⟨q0, s0, q1, s1, q2, s2⟩ := sqX3 hB;obtain ⟨u0, v0, u1, v1, u2, v2, u3, v3, u4, v4, u5, v5, u6, v6, u7, v7, u8, v8⟩ := sqX9 HX.out;obtain ⟨y0, z0, y1, z1, y2, z2, y3, z3, y4, z4, y5, z5, y6, z6, y7, z7, y8, z8⟩ := sqX9 HN.out;by_cases he : rd.e = 0
 case neg =>
  have EF : R = (un0, rd) := by rw [EO.out, if_pos he]
  have e0 : (er == 0) = false := beq_eq_false_iff_ne.2 fun h => he (h0.1 h)
  have e1 : (er != 0) = true := bne_iff_ne.2 fun h => he (h0.1 h)
  have hlt : w.heap.size < ((w.alloc (.cells #[.int .i64 0, .int .i64 0, .slice none 0 0, .int .i64 0, .int .i64 0, .int .i64 0, .int .i64 0, .int .i64 0, .int .i64 0] 62)).alloc (.cells #[.int .i64 0, .int .i64 0, .slice none 0 0, .int .i64 0, .int .i64 0, .int .i64 0, .int .i64 0, .int .i64 0, .int .i64 0] 62)).heap.size := by omega
  clear hB h0 h1 h2 h3 he;go_wp2_with fail;exact bodyPost_ret (v := .agg #[.int .i64 0, .int .i64 0, .slice none 0 0, .int .i64 0, .int .i64 0, .int .i64 0, .int .i64 0, .int .i64 0, .int .i64 0]) (by simp [results, Tryz.results107, go_sem, u0, u1, u2, u3, u4, u5, u6, u7, u8, hlt]) rfl ⟨_, rfl, by rw [EF]; exact ⟨_, rfl, RowO.nil_ _ _ _ _ _⟩, by rw [EF]; exact HR.out, HG.out⟩
 case pos =>
  obtain rfl := h0.2 he;obtain ⟨rfl, hi1, hi2⟩ := h3 he;have KC := Lib.hid fun W => KP rd.i W ⟨hi1, hi2⟩
  have HLE := Lib.hid (hle rd.i);have EF : Hid (R = ((p rd.i).2.1, rMove rd (p rd.i).1 (p rd.i).2.2)) := by show _ = _; rw [EO.out, if_neg (by simp [he])]
  have HBX := Lib.hid hB;clear hB h0 h1 h2 h3 EO hle KP HN he y0 y1 y2 y3 y4 y5 y6 y7 y8 z0 z1 z2 z3 z4 z5 z6 z7 z8;generalize p rd.i = pr at *;obtain ⟨pe, vv, pn⟩ := pr;dsimp only at HLE EF;go_wp2_with fail;generalize ((w.alloc (.cells #[.int .i64 0, .int .i64 0, .slice none 0 0, .int .i64 0, .int .i64 0, .int .i64 0, .int .i64 0, .int .i64 0, .int .i64 0] 62)).alloc (.cells #[.int .i64 0, .int .i64 0, .slice none 0 0, .int .i64 0, .int .i64 0, .int .i64 0, .int .i64 0, .int .i64 0, .int .i64 0] 62)) = w1 at *;have hlt : b < w1.heap.size := by omega
  clear u0 u1 u2 u3 u4 u5 u6 u7 u8 v0 v1 v2 v3 v4 v5 v6 v7 v8;refine region_tieQ (X := Option Addr × Nat × Int) (w0 := w1) { n := 9, m := 14, q := 15, V := fun ox jq => (match jq with | 0 => .func (.func 49) #[] #[] | 1 => .pointer (some ⟨b, 0, none⟩) | 2 => .pointer (some ⟨b, 0, none⟩) | 3 => .pointer (some ⟨b, 0, none⟩) | 4 => .string (bstr s) | 5 => .pointer (some ⟨b, 0, none⟩) | 6 => .pointer (some ⟨b, 0, none⟩) | 7 => .pointer (some ⟨b, 1, none⟩) | 8 => .int .i64 rd.i | 9 => ox.elim undef (fun x => .tuple #[.agg #[.int .i64 vv.bus, .int .i64 vv.min, .slice x.1 vv.steps.length x.2.1, .int .i64 vv.up, .int .i64 vv.down, .int .i64 vv.start, .int .i64 vv.idle, .int .i64 vv.spin, .int .i64 vv.on], .int .i64 pn, .int .i64 x.2.2]) | 10 => ox.elim undef (fun x => .tuple #[.agg #[.int .i64 vv.bus, .int .i64 vv.min, .slice x.1 vv.steps.length x.2.1, .int .i64 vv.up, .int .i64 vv.down, .int .i64 vv.start, .int .i64 vv.idle, .int .i64 vv.spin, .int .i64 vv.on], .int .i64 pn, .int .i64 x.2.2]) | 11 => ox.elim undef (fun x => .agg #[.int .i64 vv.bus, .int .i64 vv.min, .slice x.1 vv.steps.length x.2.1, .int .i64 vv.up, .int .i64 vv.down, .int .i64 vv.start, .int .i64 vv.idle, .int .i64 vv.spin, .int .i64 vv.on]) | 12 => ox.elim undef (fun x => .int .i64 pn) | 13 => ox.elim undef (fun x => .int .i64 x.2.2) | 14 => undef | 15 => undef | 16 => ox.elim undef (fun x => .int .i64 pn) | 17 => ox.elim undef (fun x => .int .i64 x.2.2) | _ => undef), dep := fun jq => ([9, 10, 11, 12, 13, 16, 17] : List Nat).contains jq, Post := fun x W => UnO W w1.heap.size [Value.int .i64 vv.bus, .int .i64 vv.min, .slice x.1 vv.steps.length x.2.1, .int .i64 vv.up, .int .i64 vv.down, .int .i64 vv.start, .int .i64 vv.idle, .int .i64 vv.spin, .int .i64 vv.on] vv ∧ ErR pe x.2.2, bt := 62, zs := [.int .i64 0, .int .i64 0, .slice none 0 0, .int .i64 0, .int .i64 0, .int .i64 0, .int .i64 0, .int .i64 0, .int .i64 0], S := fun x => [.int .i64 vv.bus, .int .i64 vv.min, .slice x.1 vv.steps.length x.2.1, .int .i64 vv.up, .int .i64 vv.down, .int .i64 vv.start, .int .i64 vv.idle, .int .i64 vv.spin, .int .i64 vv.on] } (by kernel_rfl) (by kernel_rfl) (by kernel_rfl) ?_ (fun x W W' hb h => ⟨UnO.own.up h.1 hb, h.2⟩) ?_ ?_
  ·intro x jq hd;rcases jq with _ | _ | _ | _ | _ | _ | _ | _ | _ | _ | _ | _ | _ | _ | _ | _ | _ | _ | jq <;> first | rfl | exact absurd (show true = false from hd) (by decide)
  ·intro iq oq ho aq W ox hI hx hpo hdep hrest hgd;have hdep := @sqE _ _ _ _ hdep;have hgd := @sqG _ _ _ _ hgd;have hfn := sqF aq;rcases iq with _|_|_|_|_|_|_|_|_|_|_|_|_|_|_|_|_|_|iq
   ·cases ho;refine sqT 0 9 14 15 ?_;simp [go_sem, hrest 1 (by kernel_rfl)]
   ·cases ho;refine sqT 1 9 14 15 ?_;simp [go_sem, hrest 0 (by kernel_rfl)]
   ·cases ho;refine sqT 2 9 14 15 ?_;simp [go_sem, hdep ⟨1, .data⟩ (sqM 1 14)]
   ·cases ho;refine sqT 3 9 14 15 ?_;simp [go_sem, hdep ⟨2, .data⟩ (sqM 2 14)]
   ·cases ho;have c0 := (hI.cell (p := ⟨b, 0, none⟩) hlt).trans q0;have hlz : b < W.heap.size := Nat.lt_of_lt_of_le hlt hI.size;refine sqT 4 9 14 15 ?_;simp [go_sem, hdep ⟨3, .data⟩ (sqM 3 14), c0, hlz]
   ·cases ho;refine sqT 5 9 14 15 ?_;simp [go_sem, hrest 0 (by kernel_rfl)]
   ·cases ho;refine sqT 6 9 14 15 ?_;simp [go_sem, hdep ⟨5, .data⟩ (sqM 5 14)]
   ·cases ho;refine sqT 7 9 14 15 ?_;simp [go_sem, hdep ⟨6, .data⟩ (sqM 6 14)]
   ·cases ho;have c1 := (hI.cell (p := ⟨b, 1, none⟩) hlt).trans q1;have hlz : b < W.heap.size := Nat.lt_of_lt_of_le hlt hI.size;refine sqT 8 9 14 15 ?_;simp [go_sem, hdep ⟨7, .data⟩ (sqM 7 14), c1, hlz]
   ·cases ho;refine ⟨fun _ => ⟨fun _ => ⟨49, #[.string (bstr s), .int .i64 rd.i], ?_, (KC.out W).mono fun e w' ⟨hb, cells, er, he, hE, hEr⟩ => by subst he; obtain ⟨v, rfl, hrow⟩ := id hE; obtain ⟨A, c, rfl⟩ := sliceO hrow; exact ⟨(A, c, er), rfl, ⟨UnO.own.mono hE hI.size, hEr⟩, hb⟩⟩, sqN 9 14, sqN 9 15, fun h => absurd rfl h⟩, nofun⟩;simp [go_sem, hdep ⟨0, .data⟩ (sqM 0 14), hdep ⟨4, .data⟩ (sqM 4 14), hdep ⟨8, .data⟩ (sqM 8 14), hfn]
   ·cases ho;obtain ⟨x, rfl⟩ := hx rfl (sqM 10 9);refine sqT 10 9 14 15 ?_;simp [go_sem, hdep ⟨9, .data⟩ (sqM 9 14)]
   ·cases ho;obtain ⟨x, rfl⟩ := hx rfl (sqM 11 9);refine sqT 11 9 14 15 ?_;simp [go_sem, hdep ⟨10, .data⟩ (sqM 10 14)]
   ·cases ho;obtain ⟨x, rfl⟩ := hx rfl (sqM 12 9);refine sqT 12 9 14 15 ?_;simp [go_sem, hdep ⟨10, .data⟩ (sqM 10 14)]
   ·cases ho;obtain ⟨x, rfl⟩ := hx rfl (sqM 13 9);refine sqT 13 9 14 15 ?_;simp [go_sem, hdep ⟨10, .data⟩ (sqM 10 14)]
   ·cases ho;clear hrest hdep hgd;exact ⟨fun _ => ⟨sqN 14 9, fun _ => rfl, sqN 14 15, fun _ h => absurd rfl h⟩, nofun⟩
   ·cases ho;clear hrest;refine ⟨fun _ => ⟨sqN 15 9, sqN 15 14, fun _ x gg hox h1 h2 hbox htb hgg => ?_, fun _ _ h => absurd rfl h⟩, nofun⟩;subst hox;have d14 : aq.eval (.tmp 6) = .pointer (some ⟨gg, 0, none⟩) := hgg _ _ rfl rfl;have d11 : aq.eval (.tmp 26) = .agg #[.int .i64 vv.bus, .int .i64 vv.min, .slice x.1 vv.steps.length x.2.1, .int .i64 vv.up, .int .i64 vv.down, .int .i64 vv.start, .int .i64 vv.idle, .int .i64 vv.spin, .int .i64 vv.on] := hdep ⟨11, .data⟩ (sqM 11 14);clear hdep hgd;obtain ⟨b0, c0, b1, c1, b2, c2, b3, c3, b4, c4, b5, c5, b6, c6, b7, c7, b8, c8⟩ := sqX9 hbox;refine ⟨?_, ⟨UnO.own.setTB (hpo x rfl).1 htb (by show ¬ ((62 : TypeId) ∈ ([205] : List TypeId)); decide) _ 0, (hpo x rfl).2⟩, rfl⟩;clear hI hpo hx hbox htb hgg;generalize aq.eval = ρ at *;simp [go_sem, d14, d11, b0, c0, b1, c1, b2, c2, b3, c3, b4, c4, b5, c5, b6, c6, b7, c7, b8, c8]
    try rfl
   ·cases ho;obtain ⟨x, rfl⟩ := hx rfl (sqM 16 9);refine sqT 16 9 14 15 ?_;simp [go_sem, hdep ⟨12, .data⟩ (sqM 12 14)]
   ·cases ho;obtain ⟨x, rfl⟩ := hx rfl (sqM 17 9);refine sqT 17 9 14 15 ?_;simp [go_sem, hdep ⟨13, .data⟩ (sqM 13 14)]
   ·simp at ho
  intro x g wx hb hP hG;simp (decide := true) only [putAll, Act.put, List.setIfInBounds_toArray, List.set_cons_zero, List.set_cons_succ, Nat.reduceAdd, Option.elim, if_true, if_false];replace hP : (fun x W => UnO W w1.heap.size [Value.int .i64 vv.bus, .int .i64 vv.min, .slice x.1 vv.steps.length x.2.1, .int .i64 vv.up, .int .i64 vv.down, .int .i64 vv.start, .int .i64 vv.idle, .int .i64 vv.spin, .int .i64 vv.on] vv ∧ ErR pe x.2.2) x wx := hP
  (try dsimp only at hP)
  obtain ⟨hg1, hg2, hg3⟩ : w1.heap.size ≤ g ∧ g < wx.heap.size ∧ Box wx g [.int .i64 vv.bus, .int .i64 vv.min, .slice x.1 vv.steps.length x.2.1, .int .i64 vv.up, .int .i64 vv.down, .int .i64 vv.start, .int .i64 vv.idle, .int .i64 vv.spin, .int .i64 vv.on] := ⟨(hG (show (14 : Nat) < 18 by decide)).1, (hG (show (14 : Nat) < 18 by decide)).2.1, (hG (show (14 : Nat) < 18 by decide)).2.2 (show (15 : Nat) < 18 by decide)⟩;clear hG;have HX2 := Lib.hid (HX.out.up hb (by omega));have HB2 := Lib.hid (HBX.out.up hb hlt);have HG2 := Lib.hid (grown_trans HG.out (grown_below (b := b) hb));have HP := Lib.hid hP;have HG3 := Lib.hid hg3;have hzx : w.heap.size + 1 < wx.heap.size := Nat.lt_of_lt_of_le hzz hb.size;clear KC HX HBX HG HR hb hP hg3 q0 q1 q2 s0 s1 s2;go_wp2_with fail;refine (cMove_any b (bstr s) rd.i pn (x.2.2) _ HB2.out).mono ?_;rintro e w2 ⟨rfl, hB2, hg'⟩;have HX3 := Lib.hid (HX2.out.grown hg' (by omega) (by omega));have HG4 := Lib.hid (HG3.out.grown hg' (by omega) hg2);have hEE := UnO.own.grown HP.out.1 hg' (by omega);have hER := HP.out.2;have HGW := Lib.hid (grown_trans HG2.out hg');have HRW := Lib.hid (RdR.move (rd := rd) hB2 (ErR.mv hER pn) HLE.out hl);have hz2 : w.heap.size < w2.heap.size := by have := hg'.size; omega
  have hgz : g < w2.heap.size := Nat.lt_of_lt_of_le hg2 hg'.size;have HE2 := Lib.hid (UnO.own.mono (UnO.own.set hEE (g := w.heap.size) (by omega) [.int .i64 vv.bus, .int .i64 vv.min, .slice x.1 vv.steps.length x.2.1, .int .i64 vv.up, .int .i64 vv.down, .int .i64 vv.start, .int .i64 vv.idle, .int .i64 vv.spin, .int .i64 vv.on] 0) (show w.heap.size ≤ w1.heap.size by omega));have HZ := Lib.hid (HX3.out.sets (vs' := [.int .i64 vv.bus, .int .i64 vv.min, .slice x.1 vv.steps.length x.2.1, .int .i64 vv.up, .int .i64 vv.down, .int .i64 vv.start, .int .i64 vv.idle, .int .i64 vv.spin, .int .i64 vv.on]) rfl);have HRz : Hid (RdR (w2.setCells w.heap.size 0 [.int .i64 vv.bus, .int .i64 vv.min, .slice x.1 vv.steps.length x.2.1, .int .i64 vv.up, .int .i64 vv.down, .int .i64 vv.start, .int .i64 vv.idle, .int .i64 vv.spin, .int .i64 vv.on]) b s (rMove rd pe pn)) := by
   obtain ⟨i, er, h1, h2⟩ := HRW.out;exact ⟨i, er, h1.others (b' := w.heap.size) (by omega) 0 _, h2⟩
  have HGz := Lib.hid (grown_setsN (b' := w.heap.size) HGW.out (Nat.le_refl _) [.int .i64 vv.bus, .int .i64 vv.min, .slice x.1 vv.steps.length x.2.1, .int .i64 vv.up, .int .i64 vv.down, .int .i64 vv.start, .int .i64 vv.idle, .int .i64 vv.spin, .int .i64 vv.on] 0);have hlt2 : w.heap.size < (w2.setCells w.heap.size 0 [.int .i64 vv.bus, .int .i64 vv.min, .slice x.1 vv.steps.length x.2.1, .int .i64 vv.up, .int .i64 vv.down, .int .i64 vv.start, .int .i64 vv.idle, .int .i64 vv.spin, .int .i64 vv.on]).heap.size := by rw [size_sets]; exact hz2
  clear hB2 hg' HX2 HB2 HG2 HP HG3 hEE hER HGW HRW;obtain ⟨u0, v0, u1, v1, u2, v2, u3, v3, u4, v4, u5, v5, u6, v6, u7, v7, u8, v8⟩ := sqX9 HX3.out;obtain ⟨y0, z0, y1, z1, y2, z2, y3, z3, y4, z4, y5, z5, y6, z6, y7, z7, y8, z8⟩ := sqX9 HG4.out;go_wp2_with fail;rw [show (((((((((w2.setCell ⟨w.heap.size, 0, none⟩ (.int .i64 vv.bus)).setCell ⟨w.heap.size, 1, none⟩ (.int .i64 vv.min)).setCell ⟨w.heap.size, 2, none⟩ (.slice x.1 vv.steps.length x.2.1)).setCell ⟨w.heap.size, 3, none⟩ (.int .i64 vv.up)).setCell ⟨w.heap.size, 4, none⟩ (.int .i64 vv.down)).setCell ⟨w.heap.size, 5, none⟩ (.int .i64 vv.start)).setCell ⟨w.heap.size, 6, none⟩ (.int .i64 vv.idle)).setCell ⟨w.heap.size, 7, none⟩ (.int .i64 vv.spin)).setCell ⟨w.heap.size, 8, none⟩ (.int .i64 vv.on)) = (w2.setCells w.heap.size 0 [.int .i64 vv.bus, .int .i64 vv.min, .slice x.1 vv.steps.length x.2.1, .int .i64 vv.up, .int .i64 vv.down, .int .i64 vv.start, .int .i64 vv.idle, .int .i64 vv.spin, .int .i64 vv.on]) from rfl];generalize (w2.setCells w.heap.size 0 [.int .i64 vv.bus, .int .i64 vv.min, .slice x.1 vv.steps.length x.2.1, .int .i64 vv.up, .int .i64 vv.down, .int .i64 vv.start, .int .i64 vv.idle, .int .i64 vv.spin, .int .i64 vv.on]) = wz at *;clear u0 u1 u2 u3 u4 u5 u6 u7 u8 v0 v1 v2 v3 v4 v5 v6 v7 v8 y0 y1 y2 y3 y4 y5 y6 y7 y8 z0 z1 z2 z3 z4 z5 z6 z7 z8;obtain ⟨u0, v0, u1, v1, u2, v2, u3, v3, u4, v4, u5, v5, u6, v6, u7, v7, u8, v8⟩ := sqX9 HZ.out;exact bodyPost_ret (v := .agg #[.int .i64 vv.bus, .int .i64 vv.min, .slice x.1 vv.steps.length x.2.1, .int .i64 vv.up, .int .i64 vv.down, .int .i64 vv.start, .int .i64 vv.idle, .int .i64 vv.spin, .int .i64 vv.on]) (by simp [results, Tryz.results107, go_sem, u0, u1, u2, u3, u4, u5, u6, u7, u8, hlt2]) rfl ⟨_, rfl, by rw [EF.out]; exact HE2.out, by rw [EF.out]; exact HRz.out, HGz.out⟩
set_option maxHeartbeats 8000000 in
theorem oneHour_any (b : Nat) (s : Bytes) (rd : Rd) (w : World) (p : Int → Int × Hr × Int) (hl : s.length ≤ 1000000)
  (KP : ∀ (i : Int) (W : World), -9223372036854775808 ≤ i ∧ i ≤ 9223372036854775807 → Calls Tryz.prog 51 #[.string (bstr s), .int .i64 i] W (ParE HrO (p i) W)) (hle : ∀ i, (p i).1 = 0 → 0 ≤ (p i).2.2 ∧ (p i).2.2 ≤ s.length) (hR : RdR w b s rd) :
  Calls Tryz.prog 113 #[.pointer (some ⟨b, 0, none⟩), .func (.func 51) #[] #[]] w (OneE HrO b s (oneP hr0 p rd) w) := by
 have hbw := hR.lt;have HX : Hid (Box ((w.alloc (.cells #[.slice none 0 0, .slice none 0 0, .int .i64 0] 49)).alloc (.cells #[.slice none 0 0, .slice none 0 0, .int .i64 0] 49)) w.heap.size [.slice none 0 0, .slice none 0 0, .int .i64 0]) := (Box.new w #[.slice none 0 0, .slice none 0 0, .int .i64 0] 49).alloc (by simp) _;have HN : Hid (Box ((w.alloc (.cells #[.slice none 0 0, .slice none 0 0, .int .i64 0] 49)).alloc (.cells #[.slice none 0 0, .slice none 0 0, .int .i64 0] 49)) (w.heap.size + 1) [.slice none 0 0, .slice none 0 0, .int .i64 0]) := by
  have := Box.new (w.alloc (.cells #[.slice none 0 0, .slice none 0 0, .int .i64 0] 49)) #[.slice none 0 0, .slice none 0 0, .int .i64 0] 49;show Box _ _ _
  simpa using this
 have HR : Hid (RdR ((w.alloc (.cells #[.slice none 0 0, .slice none 0 0, .int .i64 0] 49)).alloc (.cells #[.slice none 0 0, .slice none 0 0, .int .i64 0] 49)) b s rd) := (hR.alloc _).alloc _;have HG : Hid (w.grownBy ((w.alloc (.cells #[.slice none 0 0, .slice none 0 0, .int .i64 0] 49)).alloc (.cells #[.slice none 0 0, .slice none 0 0, .int .i64 0] 49)) (some b)) := grown_alloc (grown_alloc (World.grownBy.refl w (some b)) _) _;have hzz : w.heap.size + 1 < ((w.alloc (.cells #[.slice none 0 0, .slice none 0 0, .int .i64 0] 49)).alloc (.cells #[.slice none 0 0, .slice none 0 0, .int .i64 0] 49)).heap.size := by simp
 have EO : Hid (oneP hr0 p rd = if rd.e ≠ 0 then (hr0, rd) else ((p rd.i).2.1, rMove rd (p rd.i).1 (p rd.i).2.2)) := rfl;generalize oneP hr0 p rd = R at *;clear hR;go_enter Tryz.func113, Tryz.ntmps113;obtain ⟨i, er, hB, h0, h1, h2, h3⟩ := HR.out.er;obtain ⟨q0, s0, q1, s1, q2, s2⟩ := sqX3 hB;obtain ⟨u0, v0, u1, v1, u2, v2⟩ := sqX3 HX.out;obtain ⟨y0, z0, y1, z1, y2, z2⟩ := sqX3 HN.out;by_cases he : rd.e = 0
 case neg =>
  have EF : R = (hr0, rd) := by rw [EO.out, if_pos he]
  have e0 : (er == 0) = false := beq_eq_false_iff_ne.2 fun h => he (h0.1 h)
  have e1 : (er != 0) = true := bne_iff_ne.2 fun h => he (h0.1 h)
  have hlt : w.heap.size < ((w.alloc (.cells #[.slice none 0 0, .slice none 0 0, .int .i64 0] 49)).alloc (.cells #[.slice none 0 0, .slice none 0 0, .int .i64 0] 49)).heap.size := by omega
  clear hB h0 h1 h2 h3 he;go_wp2_with fail;exact bodyPost_ret (v := .agg #[.slice none 0 0, .slice none 0 0, .int .i64 0]) (by simp [results, Tryz.results113, go_sem, u0, u1, u2, hlt]) rfl ⟨_, rfl, by rw [EF]; exact ⟨_, _, rfl, RowO.nil_ _ _ _ _ _, RowO.nil_ _ _ _ _ _⟩, by rw [EF]; exact HR.out, HG.out⟩
 case pos =>
  obtain rfl := h0.2 he;obtain ⟨rfl, hi1, hi2⟩ := h3 he;have KC := Lib.hid fun W => KP rd.i W ⟨hi1, hi2⟩
  have HLE := Lib.hid (hle rd.i);have EF : Hid (R = ((p rd.i).2.1, rMove rd (p rd.i).1 (p rd.i).2.2)) := by show _ = _; rw [EO.out, if_neg (by simp [he])]
  have HBX := Lib.hid hB;clear hB h0 h1 h2 h3 EO hle KP HN he y0 y1 y2 z0 z1 z2;generalize p rd.i = pr at *;obtain ⟨pe, vv, pn⟩ := pr;dsimp only at HLE EF;go_wp2_with fail;generalize ((w.alloc (.cells #[.slice none 0 0, .slice none 0 0, .int .i64 0] 49)).alloc (.cells #[.slice none 0 0, .slice none 0 0, .int .i64 0] 49)) = w1 at *;have hlt : b < w1.heap.size := by omega
  clear u0 u1 u2 v0 v1 v2;refine region_tieQ (X := Option Addr × Nat × Option Addr × Nat × Int) (w0 := w1) { n := 9, m := 14, q := 15, V := fun ox jq => (match jq with | 0 => .func (.func 51) #[] #[] | 1 => .pointer (some ⟨b, 0, none⟩) | 2 => .pointer (some ⟨b, 0, none⟩) | 3 => .pointer (some ⟨b, 0, none⟩) | 4 => .string (bstr s) | 5 => .pointer (some ⟨b, 0, none⟩) | 6 => .pointer (some ⟨b, 0, none⟩) | 7 => .pointer (some ⟨b, 1, none⟩) | 8 => .int .i64 rd.i | 9 => ox.elim undef (fun x => .tuple #[.agg #[.slice x.1 vv.bids.length x.2.1, .slice x.2.2.1 vv.real.length x.2.2.2.1, .int .i64 vv.need], .int .i64 pn, .int .i64 x.2.2.2.2]) | 10 => ox.elim undef (fun x => .tuple #[.agg #[.slice x.1 vv.bids.length x.2.1, .slice x.2.2.1 vv.real.length x.2.2.2.1, .int .i64 vv.need], .int .i64 pn, .int .i64 x.2.2.2.2]) | 11 => ox.elim undef (fun x => .agg #[.slice x.1 vv.bids.length x.2.1, .slice x.2.2.1 vv.real.length x.2.2.2.1, .int .i64 vv.need]) | 12 => ox.elim undef (fun x => .int .i64 pn) | 13 => ox.elim undef (fun x => .int .i64 x.2.2.2.2) | 14 => undef | 15 => undef | 16 => ox.elim undef (fun x => .int .i64 pn) | 17 => ox.elim undef (fun x => .int .i64 x.2.2.2.2) | _ => undef), dep := fun jq => ([9, 10, 11, 12, 13, 16, 17] : List Nat).contains jq, Post := fun x W => HrO W w1.heap.size [Value.slice x.1 vv.bids.length x.2.1, .slice x.2.2.1 vv.real.length x.2.2.2.1, .int .i64 vv.need] vv ∧ ErR pe x.2.2.2.2, bt := 49, zs := [.slice none 0 0, .slice none 0 0, .int .i64 0], S := fun x => [.slice x.1 vv.bids.length x.2.1, .slice x.2.2.1 vv.real.length x.2.2.2.1, .int .i64 vv.need] } (by kernel_rfl) (by kernel_rfl) (by kernel_rfl) ?_ (fun x W W' hb h => ⟨HrO.own.up h.1 hb, h.2⟩) ?_ ?_
  ·intro x jq hd;rcases jq with _ | _ | _ | _ | _ | _ | _ | _ | _ | _ | _ | _ | _ | _ | _ | _ | _ | _ | jq <;> first | rfl | exact absurd (show true = false from hd) (by decide)
  ·intro iq oq ho aq W ox hI hx hpo hdep hrest hgd;have hdep := @sqE _ _ _ _ hdep;have hgd := @sqG _ _ _ _ hgd;have hfn := sqF aq;rcases iq with _|_|_|_|_|_|_|_|_|_|_|_|_|_|_|_|_|_|iq
   ·cases ho;refine sqT 0 9 14 15 ?_;simp [go_sem, hrest 1 (by kernel_rfl)]
   ·cases ho;refine sqT 1 9 14 15 ?_;simp [go_sem, hrest 0 (by kernel_rfl)]
   ·cases ho;refine sqT 2 9 14 15 ?_;simp [go_sem, hdep ⟨1, .data⟩ (sqM 1 14)]
   ·cases ho;refine sqT 3 9 14 15 ?_;simp [go_sem, hdep ⟨2, .data⟩ (sqM 2 14)]
   ·cases ho;have c0 := (hI.cell (p := ⟨b, 0, none⟩) hlt).trans q0;have hlz : b < W.heap.size := Nat.lt_of_lt_of_le hlt hI.size;refine sqT 4 9 14 15 ?_;simp [go_sem, hdep ⟨3, .data⟩ (sqM 3 14), c0, hlz]
   ·cases ho;refine sqT 5 9 14 15 ?_;simp [go_sem, hrest 0 (by kernel_rfl)]
   ·cases ho;refine sqT 6 9 14 15 ?_;simp [go_sem, hdep ⟨5, .data⟩ (sqM 5 14)]
   ·cases ho;refine sqT 7 9 14 15 ?_;simp [go_sem, hdep ⟨6, .data⟩ (sqM 6 14)]
   ·cases ho;have c1 := (hI.cell (p := ⟨b, 1, none⟩) hlt).trans q1;have hlz : b < W.heap.size := Nat.lt_of_lt_of_le hlt hI.size;refine sqT 8 9 14 15 ?_;simp [go_sem, hdep ⟨7, .data⟩ (sqM 7 14), c1, hlz]
   ·cases ho;refine ⟨fun _ => ⟨fun _ => ⟨51, #[.string (bstr s), .int .i64 rd.i], ?_, (KC.out W).mono fun e w' ⟨hb, cells, er, he, hE, hEr⟩ => by subst he; obtain ⟨v, v', rfl, hrow, hrow'⟩ := id hE; obtain ⟨A, c, rfl⟩ := sliceO hrow; obtain ⟨A', c', rfl⟩ := sliceO hrow'; exact ⟨(A, c, A', c', er), rfl, ⟨HrO.own.mono hE hI.size, hEr⟩, hb⟩⟩, sqN 9 14, sqN 9 15, fun h => absurd rfl h⟩, nofun⟩;simp [go_sem, hdep ⟨0, .data⟩ (sqM 0 14), hdep ⟨4, .data⟩ (sqM 4 14), hdep ⟨8, .data⟩ (sqM 8 14), hfn]
   ·cases ho;obtain ⟨x, rfl⟩ := hx rfl (sqM 10 9);refine sqT 10 9 14 15 ?_;simp [go_sem, hdep ⟨9, .data⟩ (sqM 9 14)]
   ·cases ho;obtain ⟨x, rfl⟩ := hx rfl (sqM 11 9);refine sqT 11 9 14 15 ?_;simp [go_sem, hdep ⟨10, .data⟩ (sqM 10 14)]
   ·cases ho;obtain ⟨x, rfl⟩ := hx rfl (sqM 12 9);refine sqT 12 9 14 15 ?_;simp [go_sem, hdep ⟨10, .data⟩ (sqM 10 14)]
   ·cases ho;obtain ⟨x, rfl⟩ := hx rfl (sqM 13 9);refine sqT 13 9 14 15 ?_;simp [go_sem, hdep ⟨10, .data⟩ (sqM 10 14)]
   ·cases ho;clear hrest hdep hgd;exact ⟨fun _ => ⟨sqN 14 9, fun _ => rfl, sqN 14 15, fun _ h => absurd rfl h⟩, nofun⟩
   ·cases ho;clear hrest;refine ⟨fun _ => ⟨sqN 15 9, sqN 15 14, fun _ x gg hox h1 h2 hbox htb hgg => ?_, fun _ _ h => absurd rfl h⟩, nofun⟩;subst hox;have d14 : aq.eval (.tmp 6) = .pointer (some ⟨gg, 0, none⟩) := hgg _ _ rfl rfl;have d11 : aq.eval (.tmp 26) = .agg #[.slice x.1 vv.bids.length x.2.1, .slice x.2.2.1 vv.real.length x.2.2.2.1, .int .i64 vv.need] := hdep ⟨11, .data⟩ (sqM 11 14);clear hdep hgd;obtain ⟨b0, c0, b1, c1, b2, c2⟩ := sqX3 hbox;refine ⟨?_, ⟨HrO.own.setTB (hpo x rfl).1 htb (by show ¬ ((49 : TypeId) ∈ ([133, 205] : List TypeId)); decide) _ 0, (hpo x rfl).2⟩, rfl⟩;clear hI hpo hx hbox htb hgg;generalize aq.eval = ρ at *;simp [go_sem, d14, d11, b0, c0, b1, c1, b2, c2]
    try rfl
   ·cases ho;obtain ⟨x, rfl⟩ := hx rfl (sqM 16 9);refine sqT 16 9 14 15 ?_;simp [go_sem, hdep ⟨12, .data⟩ (sqM 12 14)]
   ·cases ho;obtain ⟨x, rfl⟩ := hx rfl (sqM 17 9);refine sqT 17 9 14 15 ?_;simp [go_sem, hdep ⟨13, .data⟩ (sqM 13 14)]
   ·simp at ho
  intro x g wx hb hP hG;simp (decide := true) only [putAll, Act.put, List.setIfInBounds_toArray, List.set_cons_zero, List.set_cons_succ, Nat.reduceAdd, Option.elim, if_true, if_false];replace hP : (fun x W => HrO W w1.heap.size [Value.slice x.1 vv.bids.length x.2.1, .slice x.2.2.1 vv.real.length x.2.2.2.1, .int .i64 vv.need] vv ∧ ErR pe x.2.2.2.2) x wx := hP
  (try dsimp only at hP)
  obtain ⟨hg1, hg2, hg3⟩ : w1.heap.size ≤ g ∧ g < wx.heap.size ∧ Box wx g [.slice x.1 vv.bids.length x.2.1, .slice x.2.2.1 vv.real.length x.2.2.2.1, .int .i64 vv.need] := ⟨(hG (show (14 : Nat) < 18 by decide)).1, (hG (show (14 : Nat) < 18 by decide)).2.1, (hG (show (14 : Nat) < 18 by decide)).2.2 (show (15 : Nat) < 18 by decide)⟩;clear hG;have HX2 := Lib.hid (HX.out.up hb (by omega));have HB2 := Lib.hid (HBX.out.up hb hlt);have HG2 := Lib.hid (grown_trans HG.out (grown_below (b := b) hb));have HP := Lib.hid hP;have HG3 := Lib.hid hg3;have hzx : w.heap.size + 1 < wx.heap.size := Nat.lt_of_lt_of_le hzz hb.size;clear KC HX HBX HG HR hb hP hg3 q0 q1 q2 s0 s1 s2;go_wp2_with fail;refine (cMove_any b (bstr s) rd.i pn (x.2.2.2.2) _ HB2.out).mono ?_;rintro e w2 ⟨rfl, hB2, hg'⟩;have HX3 := Lib.hid (HX2.out.grown hg' (by omega) (by omega));have HG4 := Lib.hid (HG3.out.grown hg' (by omega) hg2);have hEE := HrO.own.grown HP.out.1 hg' (by omega);have hER := HP.out.2;have HGW := Lib.hid (grown_trans HG2.out hg');have HRW := Lib.hid (RdR.move (rd := rd) hB2 (ErR.mv hER pn) HLE.out hl);have hz2 : w.heap.size < w2.heap.size := by have := hg'.size; omega
  have hgz : g < w2.heap.size := Nat.lt_of_lt_of_le hg2 hg'.size;have HE2 := Lib.hid (HrO.own.mono (HrO.own.set hEE (g := w.heap.size) (by omega) [.slice x.1 vv.bids.length x.2.1, .slice x.2.2.1 vv.real.length x.2.2.2.1, .int .i64 vv.need] 0) (show w.heap.size ≤ w1.heap.size by omega));have HZ := Lib.hid (HX3.out.sets (vs' := [.slice x.1 vv.bids.length x.2.1, .slice x.2.2.1 vv.real.length x.2.2.2.1, .int .i64 vv.need]) rfl);have HRz : Hid (RdR (w2.setCells w.heap.size 0 [.slice x.1 vv.bids.length x.2.1, .slice x.2.2.1 vv.real.length x.2.2.2.1, .int .i64 vv.need]) b s (rMove rd pe pn)) := by
   obtain ⟨i, er, h1, h2⟩ := HRW.out;exact ⟨i, er, h1.others (b' := w.heap.size) (by omega) 0 _, h2⟩
  have HGz := Lib.hid (grown_setsN (b' := w.heap.size) HGW.out (Nat.le_refl _) [.slice x.1 vv.bids.length x.2.1, .slice x.2.2.1 vv.real.length x.2.2.2.1, .int .i64 vv.need] 0);have hlt2 : w.heap.size < (w2.setCells w.heap.size 0 [.slice x.1 vv.bids.length x.2.1, .slice x.2.2.1 vv.real.length x.2.2.2.1, .int .i64 vv.need]).heap.size := by rw [size_sets]; exact hz2
  clear hB2 hg' HX2 HB2 HG2 HP HG3 hEE hER HGW HRW;obtain ⟨u0, v0, u1, v1, u2, v2⟩ := sqX3 HX3.out;obtain ⟨y0, z0, y1, z1, y2, z2⟩ := sqX3 HG4.out;go_wp2_with fail;rw [show (((w2.setCell ⟨w.heap.size, 0, none⟩ (.slice x.1 vv.bids.length x.2.1)).setCell ⟨w.heap.size, 1, none⟩ (.slice x.2.2.1 vv.real.length x.2.2.2.1)).setCell ⟨w.heap.size, 2, none⟩ (.int .i64 vv.need)) = (w2.setCells w.heap.size 0 [.slice x.1 vv.bids.length x.2.1, .slice x.2.2.1 vv.real.length x.2.2.2.1, .int .i64 vv.need]) from rfl];generalize (w2.setCells w.heap.size 0 [.slice x.1 vv.bids.length x.2.1, .slice x.2.2.1 vv.real.length x.2.2.2.1, .int .i64 vv.need]) = wz at *;clear u0 u1 u2 v0 v1 v2 y0 y1 y2 z0 z1 z2;obtain ⟨u0, v0, u1, v1, u2, v2⟩ := sqX3 HZ.out;exact bodyPost_ret (v := .agg #[.slice x.1 vv.bids.length x.2.1, .slice x.2.2.1 vv.real.length x.2.2.2.1, .int .i64 vv.need]) (by simp [results, Tryz.results113, go_sem, u0, u1, u2, hlt2]) rfl ⟨_, rfl, by rw [EF.out]; exact HE2.out, by rw [EF.out]; exact HRz.out, HGz.out⟩
set_option maxHeartbeats 8000000 in
theorem oneOutage_any (b : Nat) (s : Bytes) (rd : Rd) (w : World) (p : Int → Int × Og × Int) (hl : s.length ≤ 1000000)
  (KP : ∀ (i : Int) (W : World), -9223372036854775808 ≤ i ∧ i ≤ 9223372036854775807 → Calls Tryz.prog 53 #[.string (bstr s), .int .i64 i] W (ParE OgE' (p i) W)) (hle : ∀ i, (p i).1 = 0 → 0 ≤ (p i).2.2 ∧ (p i).2.2 ≤ s.length) (hR : RdR w b s rd) :
  Calls Tryz.prog 117 #[.pointer (some ⟨b, 0, none⟩), .func (.func 53) #[] #[]] w (OneE OgE' b s (oneP (0, 0, 0, 0) p rd) w) := by
 have hbw := hR.lt;have HX : Hid (Box ((w.alloc (.cells #[.int .u8 0, .int .i64 0, .int .i64 0, .int .i64 0] 53)).alloc (.cells #[.int .u8 0, .int .i64 0, .int .i64 0, .int .i64 0] 53)) w.heap.size [.int .u8 0, .int .i64 0, .int .i64 0, .int .i64 0]) := (Box.new w #[.int .u8 0, .int .i64 0, .int .i64 0, .int .i64 0] 53).alloc (by simp) _;have HN : Hid (Box ((w.alloc (.cells #[.int .u8 0, .int .i64 0, .int .i64 0, .int .i64 0] 53)).alloc (.cells #[.int .u8 0, .int .i64 0, .int .i64 0, .int .i64 0] 53)) (w.heap.size + 1) [.int .u8 0, .int .i64 0, .int .i64 0, .int .i64 0]) := by
  have := Box.new (w.alloc (.cells #[.int .u8 0, .int .i64 0, .int .i64 0, .int .i64 0] 53)) #[.int .u8 0, .int .i64 0, .int .i64 0, .int .i64 0] 53;show Box _ _ _
  simpa using this
 have HR : Hid (RdR ((w.alloc (.cells #[.int .u8 0, .int .i64 0, .int .i64 0, .int .i64 0] 53)).alloc (.cells #[.int .u8 0, .int .i64 0, .int .i64 0, .int .i64 0] 53)) b s rd) := (hR.alloc _).alloc _;have HG : Hid (w.grownBy ((w.alloc (.cells #[.int .u8 0, .int .i64 0, .int .i64 0, .int .i64 0] 53)).alloc (.cells #[.int .u8 0, .int .i64 0, .int .i64 0, .int .i64 0] 53)) (some b)) := grown_alloc (grown_alloc (World.grownBy.refl w (some b)) _) _;have hzz : w.heap.size + 1 < ((w.alloc (.cells #[.int .u8 0, .int .i64 0, .int .i64 0, .int .i64 0] 53)).alloc (.cells #[.int .u8 0, .int .i64 0, .int .i64 0, .int .i64 0] 53)).heap.size := by simp
 have EO : Hid (oneP (0, 0, 0, 0) p rd = if rd.e ≠ 0 then ((0, 0, 0, 0), rd) else ((p rd.i).2.1, rMove rd (p rd.i).1 (p rd.i).2.2)) := rfl;generalize oneP (0, 0, 0, 0) p rd = R at *;clear hR;go_enter Tryz.func117, Tryz.ntmps117;obtain ⟨i, er, hB, h0, h1, h2, h3⟩ := HR.out.er;obtain ⟨q0, s0, q1, s1, q2, s2⟩ := sqX3 hB;obtain ⟨u0, v0, u1, v1, u2, v2, u3, v3⟩ := sqX4 HX.out;obtain ⟨y0, z0, y1, z1, y2, z2, y3, z3⟩ := sqX4 HN.out;by_cases he : rd.e = 0
 case neg =>
  have EF : R = ((0, 0, 0, 0), rd) := by rw [EO.out, if_pos he]
  have e0 : (er == 0) = false := beq_eq_false_iff_ne.2 fun h => he (h0.1 h)
  have e1 : (er != 0) = true := bne_iff_ne.2 fun h => he (h0.1 h)
  have hlt : w.heap.size < ((w.alloc (.cells #[.int .u8 0, .int .i64 0, .int .i64 0, .int .i64 0] 53)).alloc (.cells #[.int .u8 0, .int .i64 0, .int .i64 0, .int .i64 0] 53)).heap.size := by omega
  clear hB h0 h1 h2 h3 he;go_wp2_with fail;exact bodyPost_ret (v := .agg #[.int .u8 0, .int .i64 0, .int .i64 0, .int .i64 0]) (by simp [results, Tryz.results117, go_sem, u0, u1, u2, u3, hlt]) rfl ⟨_, rfl, by rw [EF]; exact rfl, by rw [EF]; exact HR.out, HG.out⟩
 case pos =>
  obtain rfl := h0.2 he;obtain ⟨rfl, hi1, hi2⟩ := h3 he;have KC := Lib.hid fun W => KP rd.i W ⟨hi1, hi2⟩
  have HLE := Lib.hid (hle rd.i);have EF : Hid (R = ((p rd.i).2.1, rMove rd (p rd.i).1 (p rd.i).2.2)) := by show _ = _; rw [EO.out, if_neg (by simp [he])]
  have HBX := Lib.hid hB;clear hB h0 h1 h2 h3 EO hle KP HN he y0 y1 y2 y3 z0 z1 z2 z3;generalize p rd.i = pr at *;obtain ⟨pe, vv, pn⟩ := pr;dsimp only at HLE EF;go_wp2_with fail;generalize ((w.alloc (.cells #[.int .u8 0, .int .i64 0, .int .i64 0, .int .i64 0] 53)).alloc (.cells #[.int .u8 0, .int .i64 0, .int .i64 0, .int .i64 0] 53)) = w1 at *;have hlt : b < w1.heap.size := by omega
  clear u0 u1 u2 u3 v0 v1 v2 v3;refine region_tieQ (X := Int) (w0 := w1) { n := 9, m := 14, q := 15, V := fun ox jq => (match jq with | 0 => .func (.func 53) #[] #[] | 1 => .pointer (some ⟨b, 0, none⟩) | 2 => .pointer (some ⟨b, 0, none⟩) | 3 => .pointer (some ⟨b, 0, none⟩) | 4 => .string (bstr s) | 5 => .pointer (some ⟨b, 0, none⟩) | 6 => .pointer (some ⟨b, 0, none⟩) | 7 => .pointer (some ⟨b, 1, none⟩) | 8 => .int .i64 rd.i | 9 => ox.elim undef (fun x => .tuple #[.agg #[.int .u8 vv.1, .int .i64 vv.2.1, .int .i64 vv.2.2.1, .int .i64 vv.2.2.2], .int .i64 pn, .int .i64 x]) | 10 => ox.elim undef (fun x => .tuple #[.agg #[.int .u8 vv.1, .int .i64 vv.2.1, .int .i64 vv.2.2.1, .int .i64 vv.2.2.2], .int .i64 pn, .int .i64 x]) | 11 => ox.elim undef (fun x => .agg #[.int .u8 vv.1, .int .i64 vv.2.1, .int .i64 vv.2.2.1, .int .i64 vv.2.2.2]) | 12 => ox.elim undef (fun x => .int .i64 pn) | 13 => ox.elim undef (fun x => .int .i64 x) | 14 => undef | 15 => undef | 16 => ox.elim undef (fun x => .int .i64 pn) | 17 => ox.elim undef (fun x => .int .i64 x) | _ => undef), dep := fun jq => ([9, 10, 11, 12, 13, 16, 17] : List Nat).contains jq, Post := fun x W => OgE' W w1.heap.size [Value.int .u8 vv.1, .int .i64 vv.2.1, .int .i64 vv.2.2.1, .int .i64 vv.2.2.2] vv ∧ ErR pe x, bt := 53, zs := [.int .u8 0, .int .i64 0, .int .i64 0, .int .i64 0], S := fun x => [.int .u8 vv.1, .int .i64 vv.2.1, .int .i64 vv.2.2.1, .int .i64 vv.2.2.2] } (by kernel_rfl) (by kernel_rfl) (by kernel_rfl) ?_ (fun x W W' hb h => ⟨OgE'.own.up h.1 hb, h.2⟩) ?_ ?_
  ·intro x jq hd;rcases jq with _ | _ | _ | _ | _ | _ | _ | _ | _ | _ | _ | _ | _ | _ | _ | _ | _ | _ | jq <;> first | rfl | exact absurd (show true = false from hd) (by decide)
  ·intro iq oq ho aq W ox hI hx hpo hdep hrest hgd;have hdep := @sqE _ _ _ _ hdep;have hgd := @sqG _ _ _ _ hgd;have hfn := sqF aq;rcases iq with _|_|_|_|_|_|_|_|_|_|_|_|_|_|_|_|_|_|iq
   ·cases ho;refine sqT 0 9 14 15 ?_;simp [go_sem, hrest 1 (by kernel_rfl)]
   ·cases ho;refine sqT 1 9 14 15 ?_;simp [go_sem, hrest 0 (by kernel_rfl)]
   ·cases ho;refine sqT 2 9 14 15 ?_;simp [go_sem, hdep ⟨1, .data⟩ (sqM 1 14)]
   ·cases ho;refine sqT 3 9 14 15 ?_;simp [go_sem, hdep ⟨2, .data⟩ (sqM 2 14)]
   ·cases ho;have c0 := (hI.cell (p := ⟨b, 0, none⟩) hlt).trans q0;have hlz : b < W.heap.size := Nat.lt_of_lt_of_le hlt hI.size;refine sqT 4 9 14 15 ?_;simp [go_sem, hdep ⟨3, .data⟩ (sqM 3 14), c0, hlz]
   ·cases ho;refine sqT 5 9 14 15 ?_;simp [go_sem, hrest 0 (by kernel_rfl)]
   ·cases ho;refine sqT 6 9 14 15 ?_;simp [go_sem, hdep ⟨5, .data⟩ (sqM 5 14)]
   ·cases ho;refine sqT 7 9 14 15 ?_;simp [go_sem, hdep ⟨6, .data⟩ (sqM 6 14)]
   ·cases ho;have c1 := (hI.cell (p := ⟨b, 1, none⟩) hlt).trans q1;have hlz : b < W.heap.size := Nat.lt_of_lt_of_le hlt hI.size;refine sqT 8 9 14 15 ?_;simp [go_sem, hdep ⟨7, .data⟩ (sqM 7 14), c1, hlz]
   ·cases ho;refine ⟨fun _ => ⟨fun _ => ⟨53, #[.string (bstr s), .int .i64 rd.i], ?_, (KC.out W).mono fun e w' ⟨hb, cells, er, he, hE, hEr⟩ => by subst he; cases id hE; exact ⟨er, rfl, ⟨OgE'.own.mono hE hI.size, hEr⟩, hb⟩⟩, sqN 9 14, sqN 9 15, fun h => absurd rfl h⟩, nofun⟩;simp [go_sem, hdep ⟨0, .data⟩ (sqM 0 14), hdep ⟨4, .data⟩ (sqM 4 14), hdep ⟨8, .data⟩ (sqM 8 14), hfn]
   ·cases ho;obtain ⟨x, rfl⟩ := hx rfl (sqM 10 9);refine sqT 10 9 14 15 ?_;simp [go_sem, hdep ⟨9, .data⟩ (sqM 9 14)]
   ·cases ho;obtain ⟨x, rfl⟩ := hx rfl (sqM 11 9);refine sqT 11 9 14 15 ?_;simp [go_sem, hdep ⟨10, .data⟩ (sqM 10 14)]
   ·cases ho;obtain ⟨x, rfl⟩ := hx rfl (sqM 12 9);refine sqT 12 9 14 15 ?_;simp [go_sem, hdep ⟨10, .data⟩ (sqM 10 14)]
   ·cases ho;obtain ⟨x, rfl⟩ := hx rfl (sqM 13 9);refine sqT 13 9 14 15 ?_;simp [go_sem, hdep ⟨10, .data⟩ (sqM 10 14)]
   ·cases ho;clear hrest hdep hgd;exact ⟨fun _ => ⟨sqN 14 9, fun _ => rfl, sqN 14 15, fun _ h => absurd rfl h⟩, nofun⟩
   ·cases ho;clear hrest;refine ⟨fun _ => ⟨sqN 15 9, sqN 15 14, fun _ x gg hox h1 h2 hbox htb hgg => ?_, fun _ _ h => absurd rfl h⟩, nofun⟩;subst hox;have d14 : aq.eval (.tmp 6) = .pointer (some ⟨gg, 0, none⟩) := hgg _ _ rfl rfl;have d11 : aq.eval (.tmp 26) = .agg #[.int .u8 vv.1, .int .i64 vv.2.1, .int .i64 vv.2.2.1, .int .i64 vv.2.2.2] := hdep ⟨11, .data⟩ (sqM 11 14);clear hdep hgd;obtain ⟨b0, c0, b1, c1, b2, c2, b3, c3⟩ := sqX4 hbox;refine ⟨?_, ⟨OgE'.own.setTB (hpo x rfl).1 htb (by show ¬ ((53 : TypeId) ∈ ([] : List TypeId)); decide) _ 0, (hpo x rfl).2⟩, rfl⟩;clear hI hpo hx hbox htb hgg;generalize aq.eval = ρ at *;simp [go_sem, d14, d11, b0, c0, b1, c1, b2, c2, b3, c3]
    try rfl
   ·cases ho;obtain ⟨x, rfl⟩ := hx rfl (sqM 16 9);refine sqT 16 9 14 15 ?_;simp [go_sem, hdep ⟨12, .data⟩ (sqM 12 14)]
   ·cases ho;obtain ⟨x, rfl⟩ := hx rfl (sqM 17 9);refine sqT 17 9 14 15 ?_;simp [go_sem, hdep ⟨13, .data⟩ (sqM 13 14)]
   ·simp at ho
  intro x g wx hb hP hG;simp (decide := true) only [putAll, Act.put, List.setIfInBounds_toArray, List.set_cons_zero, List.set_cons_succ, Nat.reduceAdd, Option.elim, if_true, if_false];replace hP : (fun x W => OgE' W w1.heap.size [Value.int .u8 vv.1, .int .i64 vv.2.1, .int .i64 vv.2.2.1, .int .i64 vv.2.2.2] vv ∧ ErR pe x) x wx := hP
  (try dsimp only at hP)
  obtain ⟨hg1, hg2, hg3⟩ : w1.heap.size ≤ g ∧ g < wx.heap.size ∧ Box wx g [.int .u8 vv.1, .int .i64 vv.2.1, .int .i64 vv.2.2.1, .int .i64 vv.2.2.2] := ⟨(hG (show (14 : Nat) < 18 by decide)).1, (hG (show (14 : Nat) < 18 by decide)).2.1, (hG (show (14 : Nat) < 18 by decide)).2.2 (show (15 : Nat) < 18 by decide)⟩;clear hG;have HX2 := Lib.hid (HX.out.up hb (by omega));have HB2 := Lib.hid (HBX.out.up hb hlt);have HG2 := Lib.hid (grown_trans HG.out (grown_below (b := b) hb));have HP := Lib.hid hP;have HG3 := Lib.hid hg3;have hzx : w.heap.size + 1 < wx.heap.size := Nat.lt_of_lt_of_le hzz hb.size;clear KC HX HBX HG HR hb hP hg3 q0 q1 q2 s0 s1 s2;go_wp2_with fail;refine (cMove_any b (bstr s) rd.i pn (x) _ HB2.out).mono ?_;rintro e w2 ⟨rfl, hB2, hg'⟩;have HX3 := Lib.hid (HX2.out.grown hg' (by omega) (by omega));have HG4 := Lib.hid (HG3.out.grown hg' (by omega) hg2);have hEE := OgE'.own.grown HP.out.1 hg' (by omega);have hER := HP.out.2;have HGW := Lib.hid (grown_trans HG2.out hg');have HRW := Lib.hid (RdR.move (rd := rd) hB2 (ErR.mv hER pn) HLE.out hl);have hz2 : w.heap.size < w2.heap.size := by have := hg'.size; omega
  have hgz : g < w2.heap.size := Nat.lt_of_lt_of_le hg2 hg'.size;have HE2 := Lib.hid (OgE'.own.mono (OgE'.own.set hEE (g := w.heap.size) (by omega) [.int .u8 vv.1, .int .i64 vv.2.1, .int .i64 vv.2.2.1, .int .i64 vv.2.2.2] 0) (show w.heap.size ≤ w1.heap.size by omega));have HZ := Lib.hid (HX3.out.sets (vs' := [.int .u8 vv.1, .int .i64 vv.2.1, .int .i64 vv.2.2.1, .int .i64 vv.2.2.2]) rfl);have HRz : Hid (RdR (w2.setCells w.heap.size 0 [.int .u8 vv.1, .int .i64 vv.2.1, .int .i64 vv.2.2.1, .int .i64 vv.2.2.2]) b s (rMove rd pe pn)) := by
   obtain ⟨i, er, h1, h2⟩ := HRW.out;exact ⟨i, er, h1.others (b' := w.heap.size) (by omega) 0 _, h2⟩
  have HGz := Lib.hid (grown_setsN (b' := w.heap.size) HGW.out (Nat.le_refl _) [.int .u8 vv.1, .int .i64 vv.2.1, .int .i64 vv.2.2.1, .int .i64 vv.2.2.2] 0);have hlt2 : w.heap.size < (w2.setCells w.heap.size 0 [.int .u8 vv.1, .int .i64 vv.2.1, .int .i64 vv.2.2.1, .int .i64 vv.2.2.2]).heap.size := by rw [size_sets]; exact hz2
  clear hB2 hg' HX2 HB2 HG2 HP HG3 hEE hER HGW HRW;obtain ⟨u0, v0, u1, v1, u2, v2, u3, v3⟩ := sqX4 HX3.out;obtain ⟨y0, z0, y1, z1, y2, z2, y3, z3⟩ := sqX4 HG4.out;go_wp2_with fail;rw [show ((((w2.setCell ⟨w.heap.size, 0, none⟩ (.int .u8 vv.1)).setCell ⟨w.heap.size, 1, none⟩ (.int .i64 vv.2.1)).setCell ⟨w.heap.size, 2, none⟩ (.int .i64 vv.2.2.1)).setCell ⟨w.heap.size, 3, none⟩ (.int .i64 vv.2.2.2)) = (w2.setCells w.heap.size 0 [.int .u8 vv.1, .int .i64 vv.2.1, .int .i64 vv.2.2.1, .int .i64 vv.2.2.2]) from rfl];generalize (w2.setCells w.heap.size 0 [.int .u8 vv.1, .int .i64 vv.2.1, .int .i64 vv.2.2.1, .int .i64 vv.2.2.2]) = wz at *;clear u0 u1 u2 u3 v0 v1 v2 v3 y0 y1 y2 y3 z0 z1 z2 z3;obtain ⟨u0, v0, u1, v1, u2, v2, u3, v3⟩ := sqX4 HZ.out;exact bodyPost_ret (v := .agg #[.int .u8 vv.1, .int .i64 vv.2.1, .int .i64 vv.2.2.1, .int .i64 vv.2.2.2]) (by simp [results, Tryz.results117, go_sem, u0, u1, u2, u3, hlt2]) rfl ⟨_, rfl, by rw [EF.out]; exact HE2.out, by rw [EF.out]; exact HRz.out, HGz.out⟩
set_option maxHeartbeats 8000000 in
theorem oneRight_any (b : Nat) (s : Bytes) (rd : Rd) (w : World) (p : Int → Int × Rt × Int) (hl : s.length ≤ 1000000)
  (KP : ∀ (i : Int) (W : World), -9223372036854775808 ≤ i ∧ i ≤ 9223372036854775807 → Calls Tryz.prog 55 #[.string (bstr s), .int .i64 i] W (ParE RtE (p i) W)) (hle : ∀ i, (p i).1 = 0 → 0 ≤ (p i).2.2 ∧ (p i).2.2 ≤ s.length) (hR : RdR w b s rd) :
  Calls Tryz.prog 120 #[.pointer (some ⟨b, 0, none⟩), .func (.func 55) #[] #[]] w (OneE RtE b s (oneP (0, 0, 0) p rd) w) := by
 have hbw := hR.lt;have HX : Hid (Box ((w.alloc (.cells #[.int .i64 0, .int .i64 0, .int .i64 0] 51)).alloc (.cells #[.int .i64 0, .int .i64 0, .int .i64 0] 51)) w.heap.size [.int .i64 0, .int .i64 0, .int .i64 0]) := (Box.new w #[.int .i64 0, .int .i64 0, .int .i64 0] 51).alloc (by simp) _;have HN : Hid (Box ((w.alloc (.cells #[.int .i64 0, .int .i64 0, .int .i64 0] 51)).alloc (.cells #[.int .i64 0, .int .i64 0, .int .i64 0] 51)) (w.heap.size + 1) [.int .i64 0, .int .i64 0, .int .i64 0]) := by
  have := Box.new (w.alloc (.cells #[.int .i64 0, .int .i64 0, .int .i64 0] 51)) #[.int .i64 0, .int .i64 0, .int .i64 0] 51;show Box _ _ _
  simpa using this
 have HR : Hid (RdR ((w.alloc (.cells #[.int .i64 0, .int .i64 0, .int .i64 0] 51)).alloc (.cells #[.int .i64 0, .int .i64 0, .int .i64 0] 51)) b s rd) := (hR.alloc _).alloc _;have HG : Hid (w.grownBy ((w.alloc (.cells #[.int .i64 0, .int .i64 0, .int .i64 0] 51)).alloc (.cells #[.int .i64 0, .int .i64 0, .int .i64 0] 51)) (some b)) := grown_alloc (grown_alloc (World.grownBy.refl w (some b)) _) _;have hzz : w.heap.size + 1 < ((w.alloc (.cells #[.int .i64 0, .int .i64 0, .int .i64 0] 51)).alloc (.cells #[.int .i64 0, .int .i64 0, .int .i64 0] 51)).heap.size := by simp
 have EO : Hid (oneP (0, 0, 0) p rd = if rd.e ≠ 0 then ((0, 0, 0), rd) else ((p rd.i).2.1, rMove rd (p rd.i).1 (p rd.i).2.2)) := rfl;generalize oneP (0, 0, 0) p rd = R at *;clear hR;go_enter Tryz.func120, Tryz.ntmps120;obtain ⟨i, er, hB, h0, h1, h2, h3⟩ := HR.out.er;obtain ⟨q0, s0, q1, s1, q2, s2⟩ := sqX3 hB;obtain ⟨u0, v0, u1, v1, u2, v2⟩ := sqX3 HX.out;obtain ⟨y0, z0, y1, z1, y2, z2⟩ := sqX3 HN.out;by_cases he : rd.e = 0
 case neg =>
  have EF : R = ((0, 0, 0), rd) := by rw [EO.out, if_pos he]
  have e0 : (er == 0) = false := beq_eq_false_iff_ne.2 fun h => he (h0.1 h)
  have e1 : (er != 0) = true := bne_iff_ne.2 fun h => he (h0.1 h)
  have hlt : w.heap.size < ((w.alloc (.cells #[.int .i64 0, .int .i64 0, .int .i64 0] 51)).alloc (.cells #[.int .i64 0, .int .i64 0, .int .i64 0] 51)).heap.size := by omega
  clear hB h0 h1 h2 h3 he;go_wp2_with fail;exact bodyPost_ret (v := .agg #[.int .i64 0, .int .i64 0, .int .i64 0]) (by simp [results, Tryz.results120, go_sem, u0, u1, u2, hlt]) rfl ⟨_, rfl, by rw [EF]; exact rfl, by rw [EF]; exact HR.out, HG.out⟩
 case pos =>
  obtain rfl := h0.2 he;obtain ⟨rfl, hi1, hi2⟩ := h3 he;have KC := Lib.hid fun W => KP rd.i W ⟨hi1, hi2⟩
  have HLE := Lib.hid (hle rd.i);have EF : Hid (R = ((p rd.i).2.1, rMove rd (p rd.i).1 (p rd.i).2.2)) := by show _ = _; rw [EO.out, if_neg (by simp [he])]
  have HBX := Lib.hid hB;clear hB h0 h1 h2 h3 EO hle KP HN he y0 y1 y2 z0 z1 z2;generalize p rd.i = pr at *;obtain ⟨pe, vv, pn⟩ := pr;dsimp only at HLE EF;go_wp2_with fail;generalize ((w.alloc (.cells #[.int .i64 0, .int .i64 0, .int .i64 0] 51)).alloc (.cells #[.int .i64 0, .int .i64 0, .int .i64 0] 51)) = w1 at *;have hlt : b < w1.heap.size := by omega
  clear u0 u1 u2 v0 v1 v2;refine region_tieQ (X := Int) (w0 := w1) { n := 9, m := 14, q := 15, V := fun ox jq => (match jq with | 0 => .func (.func 55) #[] #[] | 1 => .pointer (some ⟨b, 0, none⟩) | 2 => .pointer (some ⟨b, 0, none⟩) | 3 => .pointer (some ⟨b, 0, none⟩) | 4 => .string (bstr s) | 5 => .pointer (some ⟨b, 0, none⟩) | 6 => .pointer (some ⟨b, 0, none⟩) | 7 => .pointer (some ⟨b, 1, none⟩) | 8 => .int .i64 rd.i | 9 => ox.elim undef (fun x => .tuple #[.agg #[.int .i64 vv.1, .int .i64 vv.2.1, .int .i64 vv.2.2], .int .i64 pn, .int .i64 x]) | 10 => ox.elim undef (fun x => .tuple #[.agg #[.int .i64 vv.1, .int .i64 vv.2.1, .int .i64 vv.2.2], .int .i64 pn, .int .i64 x]) | 11 => ox.elim undef (fun x => .agg #[.int .i64 vv.1, .int .i64 vv.2.1, .int .i64 vv.2.2]) | 12 => ox.elim undef (fun x => .int .i64 pn) | 13 => ox.elim undef (fun x => .int .i64 x) | 14 => undef | 15 => undef | 16 => ox.elim undef (fun x => .int .i64 pn) | 17 => ox.elim undef (fun x => .int .i64 x) | _ => undef), dep := fun jq => ([9, 10, 11, 12, 13, 16, 17] : List Nat).contains jq, Post := fun x W => RtE W w1.heap.size [Value.int .i64 vv.1, .int .i64 vv.2.1, .int .i64 vv.2.2] vv ∧ ErR pe x, bt := 51, zs := [.int .i64 0, .int .i64 0, .int .i64 0], S := fun x => [.int .i64 vv.1, .int .i64 vv.2.1, .int .i64 vv.2.2] } (by kernel_rfl) (by kernel_rfl) (by kernel_rfl) ?_ (fun x W W' hb h => ⟨RtE.own.up h.1 hb, h.2⟩) ?_ ?_
  ·intro x jq hd;rcases jq with _ | _ | _ | _ | _ | _ | _ | _ | _ | _ | _ | _ | _ | _ | _ | _ | _ | _ | jq <;> first | rfl | exact absurd (show true = false from hd) (by decide)
  ·intro iq oq ho aq W ox hI hx hpo hdep hrest hgd;have hdep := @sqE _ _ _ _ hdep;have hgd := @sqG _ _ _ _ hgd;have hfn := sqF aq;rcases iq with _|_|_|_|_|_|_|_|_|_|_|_|_|_|_|_|_|_|iq
   ·cases ho;refine sqT 0 9 14 15 ?_;simp [go_sem, hrest 1 (by kernel_rfl)]
   ·cases ho;refine sqT 1 9 14 15 ?_;simp [go_sem, hrest 0 (by kernel_rfl)]
   ·cases ho;refine sqT 2 9 14 15 ?_;simp [go_sem, hdep ⟨1, .data⟩ (sqM 1 14)]
   ·cases ho;refine sqT 3 9 14 15 ?_;simp [go_sem, hdep ⟨2, .data⟩ (sqM 2 14)]
   ·cases ho;have c0 := (hI.cell (p := ⟨b, 0, none⟩) hlt).trans q0;have hlz : b < W.heap.size := Nat.lt_of_lt_of_le hlt hI.size;refine sqT 4 9 14 15 ?_;simp [go_sem, hdep ⟨3, .data⟩ (sqM 3 14), c0, hlz]
   ·cases ho;refine sqT 5 9 14 15 ?_;simp [go_sem, hrest 0 (by kernel_rfl)]
   ·cases ho;refine sqT 6 9 14 15 ?_;simp [go_sem, hdep ⟨5, .data⟩ (sqM 5 14)]
   ·cases ho;refine sqT 7 9 14 15 ?_;simp [go_sem, hdep ⟨6, .data⟩ (sqM 6 14)]
   ·cases ho;have c1 := (hI.cell (p := ⟨b, 1, none⟩) hlt).trans q1;have hlz : b < W.heap.size := Nat.lt_of_lt_of_le hlt hI.size;refine sqT 8 9 14 15 ?_;simp [go_sem, hdep ⟨7, .data⟩ (sqM 7 14), c1, hlz]
   ·cases ho;refine ⟨fun _ => ⟨fun _ => ⟨55, #[.string (bstr s), .int .i64 rd.i], ?_, (KC.out W).mono fun e w' ⟨hb, cells, er, he, hE, hEr⟩ => by subst he; cases id hE; exact ⟨er, rfl, ⟨RtE.own.mono hE hI.size, hEr⟩, hb⟩⟩, sqN 9 14, sqN 9 15, fun h => absurd rfl h⟩, nofun⟩;simp [go_sem, hdep ⟨0, .data⟩ (sqM 0 14), hdep ⟨4, .data⟩ (sqM 4 14), hdep ⟨8, .data⟩ (sqM 8 14), hfn]
   ·cases ho;obtain ⟨x, rfl⟩ := hx rfl (sqM 10 9);refine sqT 10 9 14 15 ?_;simp [go_sem, hdep ⟨9, .data⟩ (sqM 9 14)]
   ·cases ho;obtain ⟨x, rfl⟩ := hx rfl (sqM 11 9);refine sqT 11 9 14 15 ?_;simp [go_sem, hdep ⟨10, .data⟩ (sqM 10 14)]
   ·cases ho;obtain ⟨x, rfl⟩ := hx rfl (sqM 12 9);refine sqT 12 9 14 15 ?_;simp [go_sem, hdep ⟨10, .data⟩ (sqM 10 14)]
   ·cases ho;obtain ⟨x, rfl⟩ := hx rfl (sqM 13 9);refine sqT 13 9 14 15 ?_;simp [go_sem, hdep ⟨10, .data⟩ (sqM 10 14)]
   ·cases ho;clear hrest hdep hgd;exact ⟨fun _ => ⟨sqN 14 9, fun _ => rfl, sqN 14 15, fun _ h => absurd rfl h⟩, nofun⟩
   ·cases ho;clear hrest;refine ⟨fun _ => ⟨sqN 15 9, sqN 15 14, fun _ x gg hox h1 h2 hbox htb hgg => ?_, fun _ _ h => absurd rfl h⟩, nofun⟩;subst hox;have d14 : aq.eval (.tmp 6) = .pointer (some ⟨gg, 0, none⟩) := hgg _ _ rfl rfl;have d11 : aq.eval (.tmp 26) = .agg #[.int .i64 vv.1, .int .i64 vv.2.1, .int .i64 vv.2.2] := hdep ⟨11, .data⟩ (sqM 11 14);clear hdep hgd;obtain ⟨b0, c0, b1, c1, b2, c2⟩ := sqX3 hbox;refine ⟨?_, ⟨RtE.own.setTB (hpo x rfl).1 htb (by show ¬ ((51 : TypeId) ∈ ([] : List TypeId)); decide) _ 0, (hpo x rfl).2⟩, rfl⟩;clear hI hpo hx hbox htb hgg;generalize aq.eval = ρ at *;simp [go_sem, d14, d11, b0, c0, b1, c1, b2, c2]
    try rfl
   ·cases ho;obtain ⟨x, rfl⟩ := hx rfl (sqM 16 9);refine sqT 16 9 14 15 ?_;simp [go_sem, hdep ⟨12, .data⟩ (sqM 12 14)]
   ·cases ho;obtain ⟨x, rfl⟩ := hx rfl (sqM 17 9);refine sqT 17 9 14 15 ?_;simp [go_sem, hdep ⟨13, .data⟩ (sqM 13 14)]
   ·simp at ho
  intro x g wx hb hP hG;simp (decide := true) only [putAll, Act.put, List.setIfInBounds_toArray, List.set_cons_zero, List.set_cons_succ, Nat.reduceAdd, Option.elim, if_true, if_false];replace hP : (fun x W => RtE W w1.heap.size [Value.int .i64 vv.1, .int .i64 vv.2.1, .int .i64 vv.2.2] vv ∧ ErR pe x) x wx := hP
  (try dsimp only at hP)
  obtain ⟨hg1, hg2, hg3⟩ : w1.heap.size ≤ g ∧ g < wx.heap.size ∧ Box wx g [.int .i64 vv.1, .int .i64 vv.2.1, .int .i64 vv.2.2] := ⟨(hG (show (14 : Nat) < 18 by decide)).1, (hG (show (14 : Nat) < 18 by decide)).2.1, (hG (show (14 : Nat) < 18 by decide)).2.2 (show (15 : Nat) < 18 by decide)⟩;clear hG;have HX2 := Lib.hid (HX.out.up hb (by omega));have HB2 := Lib.hid (HBX.out.up hb hlt);have HG2 := Lib.hid (grown_trans HG.out (grown_below (b := b) hb));have HP := Lib.hid hP;have HG3 := Lib.hid hg3;have hzx : w.heap.size + 1 < wx.heap.size := Nat.lt_of_lt_of_le hzz hb.size;clear KC HX HBX HG HR hb hP hg3 q0 q1 q2 s0 s1 s2;go_wp2_with fail;refine (cMove_any b (bstr s) rd.i pn (x) _ HB2.out).mono ?_;rintro e w2 ⟨rfl, hB2, hg'⟩;have HX3 := Lib.hid (HX2.out.grown hg' (by omega) (by omega));have HG4 := Lib.hid (HG3.out.grown hg' (by omega) hg2);have hEE := RtE.own.grown HP.out.1 hg' (by omega);have hER := HP.out.2;have HGW := Lib.hid (grown_trans HG2.out hg');have HRW := Lib.hid (RdR.move (rd := rd) hB2 (ErR.mv hER pn) HLE.out hl);have hz2 : w.heap.size < w2.heap.size := by have := hg'.size; omega
  have hgz : g < w2.heap.size := Nat.lt_of_lt_of_le hg2 hg'.size;have HE2 := Lib.hid (RtE.own.mono (RtE.own.set hEE (g := w.heap.size) (by omega) [.int .i64 vv.1, .int .i64 vv.2.1, .int .i64 vv.2.2] 0) (show w.heap.size ≤ w1.heap.size by omega));have HZ := Lib.hid (HX3.out.sets (vs' := [.int .i64 vv.1, .int .i64 vv.2.1, .int .i64 vv.2.2]) rfl);have HRz : Hid (RdR (w2.setCells w.heap.size 0 [.int .i64 vv.1, .int .i64 vv.2.1, .int .i64 vv.2.2]) b s (rMove rd pe pn)) := by
   obtain ⟨i, er, h1, h2⟩ := HRW.out;exact ⟨i, er, h1.others (b' := w.heap.size) (by omega) 0 _, h2⟩
  have HGz := Lib.hid (grown_setsN (b' := w.heap.size) HGW.out (Nat.le_refl _) [.int .i64 vv.1, .int .i64 vv.2.1, .int .i64 vv.2.2] 0);have hlt2 : w.heap.size < (w2.setCells w.heap.size 0 [.int .i64 vv.1, .int .i64 vv.2.1, .int .i64 vv.2.2]).heap.size := by rw [size_sets]; exact hz2
  clear hB2 hg' HX2 HB2 HG2 HP HG3 hEE hER HGW HRW;obtain ⟨u0, v0, u1, v1, u2, v2⟩ := sqX3 HX3.out;obtain ⟨y0, z0, y1, z1, y2, z2⟩ := sqX3 HG4.out;go_wp2_with fail;rw [show (((w2.setCell ⟨w.heap.size, 0, none⟩ (.int .i64 vv.1)).setCell ⟨w.heap.size, 1, none⟩ (.int .i64 vv.2.1)).setCell ⟨w.heap.size, 2, none⟩ (.int .i64 vv.2.2)) = (w2.setCells w.heap.size 0 [.int .i64 vv.1, .int .i64 vv.2.1, .int .i64 vv.2.2]) from rfl];generalize (w2.setCells w.heap.size 0 [.int .i64 vv.1, .int .i64 vv.2.1, .int .i64 vv.2.2]) = wz at *;clear u0 u1 u2 v0 v1 v2 y0 y1 y2 z0 z1 z2;obtain ⟨u0, v0, u1, v1, u2, v2⟩ := sqX3 HZ.out;exact bodyPost_ret (v := .agg #[.int .i64 vv.1, .int .i64 vv.2.1, .int .i64 vv.2.2]) (by simp [results, Tryz.results120, go_sem, u0, u1, u2, hlt2]) rfl ⟨_, rfl, by rw [EF.out]; exact HE2.out, by rw [EF.out]; exact HRz.out, HGz.out⟩
set_option maxHeartbeats 8000000 in
theorem oneBid_any (b : Nat) (s : Bytes) (rd : Rd) (w : World) (p : Int → Int × Bd × Int) (hl : s.length ≤ 1000000)
  (KP : ∀ (i : Int) (W : World), -9223372036854775808 ≤ i ∧ i ≤ 9223372036854775807 → Calls Tryz.prog 116 #[.string (bstr s), .int .i64 i] W (ParE BdO (p i) W)) (hle : ∀ i, (p i).1 = 0 → 0 ≤ (p i).2.2 ∧ (p i).2.2 ≤ s.length) (hR : RdR w b s rd) :
  Calls Tryz.prog 168 #[.pointer (some ⟨b, 0, none⟩), .func (.func 116) #[] #[]] w (OneE BdO b s (oneP bd0 p rd) w) := by
 have hbw := hR.lt;have HX : Hid (Box ((w.alloc (.cells #[.int .i64 0, .slice none 0 0] 133)).alloc (.cells #[.int .i64 0, .slice none 0 0] 133)) w.heap.size [.int .i64 0, .slice none 0 0]) := (Box.new w #[.int .i64 0, .slice none 0 0] 133).alloc (by simp) _;have HN : Hid (Box ((w.alloc (.cells #[.int .i64 0, .slice none 0 0] 133)).alloc (.cells #[.int .i64 0, .slice none 0 0] 133)) (w.heap.size + 1) [.int .i64 0, .slice none 0 0]) := by
  have := Box.new (w.alloc (.cells #[.int .i64 0, .slice none 0 0] 133)) #[.int .i64 0, .slice none 0 0] 133;show Box _ _ _
  simpa using this
 have HR : Hid (RdR ((w.alloc (.cells #[.int .i64 0, .slice none 0 0] 133)).alloc (.cells #[.int .i64 0, .slice none 0 0] 133)) b s rd) := (hR.alloc _).alloc _;have HG : Hid (w.grownBy ((w.alloc (.cells #[.int .i64 0, .slice none 0 0] 133)).alloc (.cells #[.int .i64 0, .slice none 0 0] 133)) (some b)) := grown_alloc (grown_alloc (World.grownBy.refl w (some b)) _) _;have hzz : w.heap.size + 1 < ((w.alloc (.cells #[.int .i64 0, .slice none 0 0] 133)).alloc (.cells #[.int .i64 0, .slice none 0 0] 133)).heap.size := by simp
 have EO : Hid (oneP bd0 p rd = if rd.e ≠ 0 then (bd0, rd) else ((p rd.i).2.1, rMove rd (p rd.i).1 (p rd.i).2.2)) := rfl;generalize oneP bd0 p rd = R at *;clear hR;go_enter Tryz.func168, Tryz.ntmps168;obtain ⟨i, er, hB, h0, h1, h2, h3⟩ := HR.out.er;obtain ⟨q0, s0, q1, s1, q2, s2⟩ := sqX3 hB;obtain ⟨u0, v0, u1, v1⟩ := sqX2 HX.out;obtain ⟨y0, z0, y1, z1⟩ := sqX2 HN.out;by_cases he : rd.e = 0
 case neg =>
  have EF : R = (bd0, rd) := by rw [EO.out, if_pos he]
  have e0 : (er == 0) = false := beq_eq_false_iff_ne.2 fun h => he (h0.1 h)
  have e1 : (er != 0) = true := bne_iff_ne.2 fun h => he (h0.1 h)
  have hlt : w.heap.size < ((w.alloc (.cells #[.int .i64 0, .slice none 0 0] 133)).alloc (.cells #[.int .i64 0, .slice none 0 0] 133)).heap.size := by omega
  clear hB h0 h1 h2 h3 he;go_wp2_with fail;exact bodyPost_ret (v := .agg #[.int .i64 0, .slice none 0 0]) (by simp [results, Tryz.results168, go_sem, u0, u1, hlt]) rfl ⟨_, rfl, by rw [EF]; exact ⟨_, rfl, RowO.nil_ _ _ _ _ _⟩, by rw [EF]; exact HR.out, HG.out⟩
 case pos =>
  obtain rfl := h0.2 he;obtain ⟨rfl, hi1, hi2⟩ := h3 he;have KC := Lib.hid fun W => KP rd.i W ⟨hi1, hi2⟩
  have HLE := Lib.hid (hle rd.i);have EF : Hid (R = ((p rd.i).2.1, rMove rd (p rd.i).1 (p rd.i).2.2)) := by show _ = _; rw [EO.out, if_neg (by simp [he])]
  have HBX := Lib.hid hB;clear hB h0 h1 h2 h3 EO hle KP HN he y0 y1 z0 z1;generalize p rd.i = pr at *;obtain ⟨pe, vv, pn⟩ := pr;dsimp only at HLE EF;go_wp2_with fail;generalize ((w.alloc (.cells #[.int .i64 0, .slice none 0 0] 133)).alloc (.cells #[.int .i64 0, .slice none 0 0] 133)) = w1 at *;have hlt : b < w1.heap.size := by omega
  clear u0 u1 v0 v1;refine region_tieQ (X := Option Addr × Nat × Int) (w0 := w1) { n := 9, m := 14, q := 15, V := fun ox jq => (match jq with | 0 => .func (.func 116) #[] #[] | 1 => .pointer (some ⟨b, 0, none⟩) | 2 => .pointer (some ⟨b, 0, none⟩) | 3 => .pointer (some ⟨b, 0, none⟩) | 4 => .string (bstr s) | 5 => .pointer (some ⟨b, 0, none⟩) | 6 => .pointer (some ⟨b, 0, none⟩) | 7 => .pointer (some ⟨b, 1, none⟩) | 8 => .int .i64 rd.i | 9 => ox.elim undef (fun x => .tuple #[.agg #[.int .i64 vv.bus, .slice x.1 vv.steps.length x.2.1], .int .i64 pn, .int .i64 x.2.2]) | 10 => ox.elim undef (fun x => .tuple #[.agg #[.int .i64 vv.bus, .slice x.1 vv.steps.length x.2.1], .int .i64 pn, .int .i64 x.2.2]) | 11 => ox.elim undef (fun x => .agg #[.int .i64 vv.bus, .slice x.1 vv.steps.length x.2.1]) | 12 => ox.elim undef (fun x => .int .i64 pn) | 13 => ox.elim undef (fun x => .int .i64 x.2.2) | 14 => undef | 15 => undef | 16 => ox.elim undef (fun x => .int .i64 pn) | 17 => ox.elim undef (fun x => .int .i64 x.2.2) | _ => undef), dep := fun jq => ([9, 10, 11, 12, 13, 16, 17] : List Nat).contains jq, Post := fun x W => BdO W w1.heap.size [Value.int .i64 vv.bus, .slice x.1 vv.steps.length x.2.1] vv ∧ ErR pe x.2.2, bt := 133, zs := [.int .i64 0, .slice none 0 0], S := fun x => [.int .i64 vv.bus, .slice x.1 vv.steps.length x.2.1] } (by kernel_rfl) (by kernel_rfl) (by kernel_rfl) ?_ (fun x W W' hb h => ⟨BdO.own.up h.1 hb, h.2⟩) ?_ ?_
  ·intro x jq hd;rcases jq with _ | _ | _ | _ | _ | _ | _ | _ | _ | _ | _ | _ | _ | _ | _ | _ | _ | _ | jq <;> first | rfl | exact absurd (show true = false from hd) (by decide)
  ·intro iq oq ho aq W ox hI hx hpo hdep hrest hgd;have hdep := @sqE _ _ _ _ hdep;have hgd := @sqG _ _ _ _ hgd;have hfn := sqF aq;rcases iq with _|_|_|_|_|_|_|_|_|_|_|_|_|_|_|_|_|_|iq
   ·cases ho;refine sqT 0 9 14 15 ?_;simp [go_sem, hrest 1 (by kernel_rfl)]
   ·cases ho;refine sqT 1 9 14 15 ?_;simp [go_sem, hrest 0 (by kernel_rfl)]
   ·cases ho;refine sqT 2 9 14 15 ?_;simp [go_sem, hdep ⟨1, .data⟩ (sqM 1 14)]
   ·cases ho;refine sqT 3 9 14 15 ?_;simp [go_sem, hdep ⟨2, .data⟩ (sqM 2 14)]
   ·cases ho;have c0 := (hI.cell (p := ⟨b, 0, none⟩) hlt).trans q0;have hlz : b < W.heap.size := Nat.lt_of_lt_of_le hlt hI.size;refine sqT 4 9 14 15 ?_;simp [go_sem, hdep ⟨3, .data⟩ (sqM 3 14), c0, hlz]
   ·cases ho;refine sqT 5 9 14 15 ?_;simp [go_sem, hrest 0 (by kernel_rfl)]
   ·cases ho;refine sqT 6 9 14 15 ?_;simp [go_sem, hdep ⟨5, .data⟩ (sqM 5 14)]
   ·cases ho;refine sqT 7 9 14 15 ?_;simp [go_sem, hdep ⟨6, .data⟩ (sqM 6 14)]
   ·cases ho;have c1 := (hI.cell (p := ⟨b, 1, none⟩) hlt).trans q1;have hlz : b < W.heap.size := Nat.lt_of_lt_of_le hlt hI.size;refine sqT 8 9 14 15 ?_;simp [go_sem, hdep ⟨7, .data⟩ (sqM 7 14), c1, hlz]
   ·cases ho;refine ⟨fun _ => ⟨fun _ => ⟨116, #[.string (bstr s), .int .i64 rd.i], ?_, (KC.out W).mono fun e w' ⟨hb, cells, er, he, hE, hEr⟩ => by subst he; obtain ⟨v, rfl, hrow⟩ := id hE; obtain ⟨A, c, rfl⟩ := sliceO hrow; exact ⟨(A, c, er), rfl, ⟨BdO.own.mono hE hI.size, hEr⟩, hb⟩⟩, sqN 9 14, sqN 9 15, fun h => absurd rfl h⟩, nofun⟩;simp [go_sem, hdep ⟨0, .data⟩ (sqM 0 14), hdep ⟨4, .data⟩ (sqM 4 14), hdep ⟨8, .data⟩ (sqM 8 14), hfn]
   ·cases ho;obtain ⟨x, rfl⟩ := hx rfl (sqM 10 9);refine sqT 10 9 14 15 ?_;simp [go_sem, hdep ⟨9, .data⟩ (sqM 9 14)]
   ·cases ho;obtain ⟨x, rfl⟩ := hx rfl (sqM 11 9);refine sqT 11 9 14 15 ?_;simp [go_sem, hdep ⟨10, .data⟩ (sqM 10 14)]
   ·cases ho;obtain ⟨x, rfl⟩ := hx rfl (sqM 12 9);refine sqT 12 9 14 15 ?_;simp [go_sem, hdep ⟨10, .data⟩ (sqM 10 14)]
   ·cases ho;obtain ⟨x, rfl⟩ := hx rfl (sqM 13 9);refine sqT 13 9 14 15 ?_;simp [go_sem, hdep ⟨10, .data⟩ (sqM 10 14)]
   ·cases ho;clear hrest hdep hgd;exact ⟨fun _ => ⟨sqN 14 9, fun _ => rfl, sqN 14 15, fun _ h => absurd rfl h⟩, nofun⟩
   ·cases ho;clear hrest;refine ⟨fun _ => ⟨sqN 15 9, sqN 15 14, fun _ x gg hox h1 h2 hbox htb hgg => ?_, fun _ _ h => absurd rfl h⟩, nofun⟩;subst hox;have d14 : aq.eval (.tmp 6) = .pointer (some ⟨gg, 0, none⟩) := hgg _ _ rfl rfl;have d11 : aq.eval (.tmp 26) = .agg #[.int .i64 vv.bus, .slice x.1 vv.steps.length x.2.1] := hdep ⟨11, .data⟩ (sqM 11 14);clear hdep hgd;obtain ⟨b0, c0, b1, c1⟩ := sqX2 hbox;refine ⟨?_, ⟨BdO.own.setTB (hpo x rfl).1 htb (by show ¬ ((133 : TypeId) ∈ ([205] : List TypeId)); decide) _ 0, (hpo x rfl).2⟩, rfl⟩;clear hI hpo hx hbox htb hgg;generalize aq.eval = ρ at *;simp [go_sem, d14, d11, b0, c0, b1, c1]
    try rfl
   ·cases ho;obtain ⟨x, rfl⟩ := hx rfl (sqM 16 9);refine sqT 16 9 14 15 ?_;simp [go_sem, hdep ⟨12, .data⟩ (sqM 12 14)]
   ·cases ho;obtain ⟨x, rfl⟩ := hx rfl (sqM 17 9);refine sqT 17 9 14 15 ?_;simp [go_sem, hdep ⟨13, .data⟩ (sqM 13 14)]
   ·simp at ho
  intro x g wx hb hP hG;simp (decide := true) only [putAll, Act.put, List.setIfInBounds_toArray, List.set_cons_zero, List.set_cons_succ, Nat.reduceAdd, Option.elim, if_true, if_false];replace hP : (fun x W => BdO W w1.heap.size [Value.int .i64 vv.bus, .slice x.1 vv.steps.length x.2.1] vv ∧ ErR pe x.2.2) x wx := hP
  (try dsimp only at hP)
  obtain ⟨hg1, hg2, hg3⟩ : w1.heap.size ≤ g ∧ g < wx.heap.size ∧ Box wx g [.int .i64 vv.bus, .slice x.1 vv.steps.length x.2.1] := ⟨(hG (show (14 : Nat) < 18 by decide)).1, (hG (show (14 : Nat) < 18 by decide)).2.1, (hG (show (14 : Nat) < 18 by decide)).2.2 (show (15 : Nat) < 18 by decide)⟩;clear hG;have HX2 := Lib.hid (HX.out.up hb (by omega));have HB2 := Lib.hid (HBX.out.up hb hlt);have HG2 := Lib.hid (grown_trans HG.out (grown_below (b := b) hb));have HP := Lib.hid hP;have HG3 := Lib.hid hg3;have hzx : w.heap.size + 1 < wx.heap.size := Nat.lt_of_lt_of_le hzz hb.size;clear KC HX HBX HG HR hb hP hg3 q0 q1 q2 s0 s1 s2;go_wp2_with fail;refine (cMove_any b (bstr s) rd.i pn (x.2.2) _ HB2.out).mono ?_;rintro e w2 ⟨rfl, hB2, hg'⟩;have HX3 := Lib.hid (HX2.out.grown hg' (by omega) (by omega));have HG4 := Lib.hid (HG3.out.grown hg' (by omega) hg2);have hEE := BdO.own.grown HP.out.1 hg' (by omega);have hER := HP.out.2;have HGW := Lib.hid (grown_trans HG2.out hg');have HRW := Lib.hid (RdR.move (rd := rd) hB2 (ErR.mv hER pn) HLE.out hl);have hz2 : w.heap.size < w2.heap.size := by have := hg'.size; omega
  have hgz : g < w2.heap.size := Nat.lt_of_lt_of_le hg2 hg'.size;have HE2 := Lib.hid (BdO.own.mono (BdO.own.set hEE (g := w.heap.size) (by omega) [.int .i64 vv.bus, .slice x.1 vv.steps.length x.2.1] 0) (show w.heap.size ≤ w1.heap.size by omega));have HZ := Lib.hid (HX3.out.sets (vs' := [.int .i64 vv.bus, .slice x.1 vv.steps.length x.2.1]) rfl);have HRz : Hid (RdR (w2.setCells w.heap.size 0 [.int .i64 vv.bus, .slice x.1 vv.steps.length x.2.1]) b s (rMove rd pe pn)) := by
   obtain ⟨i, er, h1, h2⟩ := HRW.out;exact ⟨i, er, h1.others (b' := w.heap.size) (by omega) 0 _, h2⟩
  have HGz := Lib.hid (grown_setsN (b' := w.heap.size) HGW.out (Nat.le_refl _) [.int .i64 vv.bus, .slice x.1 vv.steps.length x.2.1] 0);have hlt2 : w.heap.size < (w2.setCells w.heap.size 0 [.int .i64 vv.bus, .slice x.1 vv.steps.length x.2.1]).heap.size := by rw [size_sets]; exact hz2
  clear hB2 hg' HX2 HB2 HG2 HP HG3 hEE hER HGW HRW;obtain ⟨u0, v0, u1, v1⟩ := sqX2 HX3.out;obtain ⟨y0, z0, y1, z1⟩ := sqX2 HG4.out;go_wp2_with fail;rw [show ((w2.setCell ⟨w.heap.size, 0, none⟩ (.int .i64 vv.bus)).setCell ⟨w.heap.size, 1, none⟩ (.slice x.1 vv.steps.length x.2.1)) = (w2.setCells w.heap.size 0 [.int .i64 vv.bus, .slice x.1 vv.steps.length x.2.1]) from rfl];generalize (w2.setCells w.heap.size 0 [.int .i64 vv.bus, .slice x.1 vv.steps.length x.2.1]) = wz at *;clear u0 u1 v0 v1 y0 y1 z0 z1;obtain ⟨u0, v0, u1, v1⟩ := sqX2 HZ.out;exact bodyPost_ret (v := .agg #[.int .i64 vv.bus, .slice x.1 vv.steps.length x.2.1]) (by simp [results, Tryz.results168, go_sem, u0, u1, hlt2]) rfl ⟨_, rfl, by rw [EF.out]; exact HE2.out, by rw [EF.out]; exact HRz.out, HGz.out⟩
end Go.Proofs.YtkfhpefmmhljmaaGreatDoor
