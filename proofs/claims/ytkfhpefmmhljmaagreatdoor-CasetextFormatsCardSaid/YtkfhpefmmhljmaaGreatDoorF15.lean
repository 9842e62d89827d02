/- Texts in one: AnyP, AnyQ. -/
import Derived.Test.YtkfhpefmmhljmaaGreatDoorF14
import Derived.Test.YtkfhpefmmhljmaaGreatDoorF11
set_option linter.unusedVariables false
set_option linter.unusedSimpArgs false
set_option maxHeartbeats 16000000
namespace Go.Proofs.YtkfhpefmmhljmaaGreatDoor
open Go.RowKit
section
variable {P : Program} {ops : Array Oper} {Q : Exit → Act → World → Prop} {a0 : Act} {X : Type}
theorem fJ (ops : List Oper) (vs us : Nat → Value) : ∀ (k : Nat) (a : Act), (∀ j (o : Oper) d, ops[j]? = some o → o.dst = some d → vs (k + j) = us (k + j)) → qE ops vs k a = qE ops us k a := by
 induction ops with
 | nil => intro k a _; rfl
 | cons o rest ih =>
  intro k a h;have e : a.put o.dst (vs k) = a.put o.dst (us k) := by
   cases hd : o.dst with
   | none => rfl
   | some d => rw [show vs k = us k from h 0 o d rfl hd]
  rw [qE, qE, e];exact ih _ _ fun j o' d hj hd => by
   have := h (j + 1) o' d (by simpa using hj) hd;rwa [show k + (j + 1) = k + 1 + j by omega] at this
end
def TB (w : World) (g : Nat) (t : TypeId) : Prop := ∃ cur fz, w.heap[g]? = some (.cells cur t fz)
theorem TB.new (w : World) (cs : Array Value) (t : TypeId) : TB (w.alloc (.cells cs t)) w.heap.size t := ⟨cs, (0, 0), heap_alloc_new w _⟩
theorem TB.up {w w' : World} {B g : Nat} {t : TypeId} (h : TB w g t) (hb : Below B w w') (hg : g < B) : TB w' g t := by
 obtain ⟨cur, fz, hc⟩ := h;exact ⟨cur, fz, (hb.block g hg).trans hc⟩
theorem TB.set {w : World} {g : Nat} {t : TypeId} (h : TB w g t) (p : Addr) (v : Value) : TB (w.setCell p v) g t := by
 obtain ⟨cur, fz, hc⟩ := h;by_cases hg : g = p.block
 ·subst hg;refine ⟨if p.spot.isSome then cur else cur.setIfInBounds p.off v, fz, ?_⟩;show (w.heap.modify p.block _)[p.block]? = _
  rw [Array.getElem?_modify];simp [hc]
 ·exact ⟨cur, fz, by rw [Below.heap_setCell w p v g (by exact hg)]; exact hc⟩
theorem TB.sets {g : Nat} {t : TypeId} {b : Nat} {w : World} (h : TB w g t) (vs : List Value) (o : Nat) : TB (w.setCells b o vs) g t := by
 induction vs generalizing w o with
 | nil => exact h
 | cons v r ih => exact ih (h.set _ v) _
structure TieQ (X : Type) where
 /-- the call's number -/
 n : Nat
 /-- the numbers of the laying and of the store of the box, or numbers past the end -/
 m : Nat
 q : Nat
 /-- the slots -/
 V : Option X → Nat → Value
 /-- which slots come of the call -/
 dep : Nat → Bool
 Post : X → World → Prop
 zs : List Value
 /-- the type of the box -/
 bt : TypeId
 S : X → List Value
section
variable {P : Program} {ops : Array Oper} {Q : Exit → Act → World → Prop} {a0 : Act} {X : Type}
structure TieQE (T : TieQ X) (ops : Array Oper) (a0 : Act) (w0 : World) (done : Nat → Prop) (a : Act) (w : World) : Prop where
 size : a.tmps.size = a0.tmps.size
 fin : ∀ j, done j → j < ops.size
 late : ∀ d : Tmp, vX ops done d → a.tmps.getD d undef = a0.tmps.getD d undef
 st : ∃ (ox : Option X) (og : Option Nat), (done T.n ↔ ox.isSome = true) ∧ (done T.m ↔ og.isSome = true) ∧ (∀ x, ox = some x → T.Post x w) ∧
  (∀ g, og = some g → w0.heap.size ≤ g ∧ g < w.heap.size ∧ ∃ vs, (Box w g vs ∧ TB w g T.bt) ∧ (¬ done T.q → vs = T.zs) ∧ (done T.q → ∃ x, ox = some x ∧ vs = T.S x)) ∧
  (∀ (j : Nat) (o : Oper) (d : Tmp), ops[j]? = some o → done j → o.dst = some d → j ≠ T.m → a.tmps.getD d undef = T.V ox j) ∧
  (∀ (o : Oper) (d : Tmp) g, ops[T.m]? = some o → og = some g → o.dst = some d → a.tmps.getD d undef = .pointer (some ⟨g, 0, none⟩))
def tieBQ (T : TieQ X) (ops : Array Oper) : Bool :=
 ((List.range ops.size).all fun j => !T.dep j || decide (j = T.n) || match ops[j]? with
  | none => true
  | some o => o.after.any fun e => Region.binds .any e && decide (e.on < j) && (decide (e.on = T.n) || T.dep e.on)) &&
 (match ops[T.q]? with
  | none => true
  | some o => o.dst.isNone && decide (T.q ≠ T.m) && decide (T.q ≠ T.n) && (o.after.any fun e => Region.binds .any e && decide (e.on = T.m)) && (o.after.any fun e => Region.binds .any e && (decide (e.on = T.n) || T.dep e.on)) && decide (T.n < ops.size)) &&
 (decide (T.m ≠ T.n)) && T.dep T.n && !T.dep T.m && decide (T.n < ops.size)
theorem hY {T : TieQ X} (h : tieBQ T ops = true) {done : Nat → Prop} (hcl : vY ops done) : ∀ j, j < ops.size → T.dep j = true → done j → done T.n := by
 unfold tieBQ at h;simp only [κb] at h;obtain ⟨⟨⟨⟨⟨h, _⟩, _⟩, _⟩, _⟩, _⟩ := h;intro j
 induction j using Nat.strongRecOn with
 | _ j ih =>
  intro hj hd hdo;have h1 := List.all_eq_true.1 h j (List.mem_range.2 hj);rw [hd, Array.getElem?_eq_getElem hj] at h1;simp only [Bool.not_true, Bool.false_or, Bool.or_eq_true, κe] at h1;rcases h1 with rfl | h1
  ·exact hdo
  ·rw [Array.any_eq_true] at h1;obtain ⟨k, hk, h2⟩ := h1;simp only [κb, Bool.or_eq_true, κe] at h2;obtain ⟨⟨hb, hlt⟩, h3⟩ := h2;have hde := hcl j ops[j] (Array.getElem?_eq_getElem hj) hdo _ (Array.getElem_mem hk) hb;rcases h3 with h3 | h3
   ·exact h3 ▸ hde
   ·exact ih _ hlt (by omega) h3 hde
def oY (P : Program) (T : TieQ X) (ops : Array Oper) (a0 : Act) (w0 : World) : Prop :=
 ∀ (i : Nat) (o : Oper), ops[i]? = some o → ∀ (a : Act) (w : World) (ox : Option X), Below w0.heap.size w0 w → (T.dep i = true → i ≠ T.n → ∃ x, ox = some x) → (∀ x, ox = some x → T.Post x w) →
  (∀ e ∈ o.after, Region.binds .any e = true → e.on ≠ T.m → ∀ (o' : Oper) (d : Tmp), ops[e.on]? = some o' → o'.dst = some d → a.tmps.getD d undef = T.V ox e.on) → (∀ d : Tmp, lateB ops i d = true → a.tmps.getD d undef = a0.tmps.getD d undef) →
  (∀ (j : Nat) (want : Bool), o.guard = some (j, want) → ∀ (o' : Oper) (d : Tmp), ops[j]? = some o' → o'.dst = some d → ∀ b, a.tmps.getD d undef = .bool b → Region.wanted o (yielded ops a.tmps) = (b == want)) →
  (Region.wanted o (yielded ops a.tmps) = true →
   (i = T.n → ∃ f args, (execOp a.eval o).run P w = .ok (.enter f args) w ∧ Calls P f args w fun e w' => ∃ x, e = .returned (T.V (some x) i) ∧ T.Post x w' ∧ Below w.heap.size w w') ∧
   (i = T.m → (execOp a.eval o).run P w = .ok (.value (.pointer (some ⟨w.heap.size, 0, none⟩))) (w.alloc (.cells T.zs.toArray T.bt))) ∧
   (i = T.q → ∀ x g, ox = some x → w0.heap.size ≤ g → g < w.heap.size → Box w g T.zs → TB w g T.bt → (∀ (o' : Oper) (d : Tmp), ops[T.m]? = some o' → o'.dst = some d → a.tmps.getD d undef = .pointer (some ⟨g, 0, none⟩)) → (execOp a.eval o).run P w = .ok .skip (w.setCells g 0 (T.S x)) ∧ T.Post x (w.setCells g 0 (T.S x)) ∧ (T.S x).length = T.zs.length) ∧
   (i ≠ T.n → i ≠ T.m → i ≠ T.q → (execOp a.eval o).run P w = .ok (.value (T.V ox i)) w)) ∧
  (Region.wanted o (yielded ops a.tmps) = false → i ≠ T.n ∧ i ≠ T.m ∧ i ≠ T.q ∧ T.V ox i = undef)
theorem pS {id : Nat} {w0 : World} (T : TieQ X) (hm : P.follows .mixedOrders = true) (hok : jU ops a0.tmps.size = true) (ht : tieBQ T ops = true)
  (hind : ∀ x j, T.dep j = false → T.V none j = T.V (some x) j) (hPost : ∀ x w w', Below w.heap.size w w' → T.Post x w → T.Post x w') (hstep : oY P T ops a0 w0)
  (hdone : ∀ x g w, Below w0.heap.size w0 w → T.Post x w → (T.m < ops.size → w0.heap.size ≤ g ∧ g < w.heap.size ∧ (T.q < ops.size → Box w g (T.S x))) →
   Q .normal (qE ops.toList (fun j => if j = T.m then .pointer (some ⟨g, 0, none⟩) else T.V (some x) j) 0 a0) w) : (Code.region id ops true).wp P Q a0 w0 := by
 have hds := (jG hok).2.1;have hdj := (jG hok).2.2;have hT := ht;unfold tieBQ at hT;simp only [κb, κe, Bool.not_eq_true'] at hT;obtain ⟨⟨⟨⟨⟨_, hq⟩, hmn⟩, hdn⟩, hdm⟩, hnlt⟩ := hT;refine yO (fun _ _ _ _ => True) (fun _ W => Below w0.heap.size w0 W) (TieQE T ops a0 w0) hm hok (Below.refl _ _).drew
  ⟨rfl, (fun j h => h.elim), fun _ _ => rfl, none, none, by simp, by simp, (fun x h => by cases h), (fun g h => by cases h), (fun _ _ _ _ h => h.elim), (fun _ _ _ _ h => by cases h)⟩ ?_ ?_
 ·intro i o ho done a w hni hcl hI hE hdep _;obtain ⟨hsz, hfin, hlate, ox, og, hox, hog, hpo, hbx, hsl, hgm⟩ := hE;have hlt : i < ops.size := (κi ho).1;have hdone' : ∀ e ∈ o.after, Region.binds .any e = true → done e.on := fun e he hb => (hdep e he hb).1
  have hclm : vY ops (more done i) := fun j o' hj hd e he hb => by
   rcases hd with rfl | hd
   ·rw [ho] at hj; injection hj with hj; subst hj; exact .inr (hdone' e he hb)
   ·exact .inr (hcl j o' hj hd e he hb)
  have hxi : T.dep i = true → i ≠ T.n → ∃ x, ox = some x := fun hd hne => by
   have := hY ht hclm i hlt hd (.inl rfl);rcases this with h | h
   ·exact absurd h.symm hne
   ·exact Option.isSome_iff_exists.1 (hox.1 h)
  obtain ⟨hw1, hw2⟩ := hstep i o ho a w ox hI hxi hpo (fun e he hb hne o' d ho' hd => hsl e.on o' d ho' (hdone' e he hb) hd hne) (fun d hd => hlate d (kC hd hni hcl)) (fun j want hg o' d ho' hd b hb => uB hg ho' hd hb);have hfin' : ∀ j, more done i j → j < ops.size := fun j h => h.elim (fun e => e ▸ hlt) (hfin j)
  have hlate' : ∀ (v : Value) (d : Tmp), vX ops (more done i) d → (a.put o.dst v).tmps.getD d undef = a0.tmps.getD d undef := fun v d hd => by
   cases hod : o.dst with
   | none => exact hlate d hd.less
   | some d' =>
    rw [qT _ _ _ _ (by rw [hsz]; exact hds i o ho d' hod), if_neg (fun e => hd i o ho (.inl rfl) (by rw [hod, e]))];exact hlate d hd.less
  have hold : ∀ (v : Value) (j : Nat) (o' : Oper) (d : Tmp), ops[j]? = some o' → done j → o'.dst = some d → (a.put o.dst v).tmps.getD d undef = a.tmps.getD d undef := fun v j o' d hj hd hd' => by
   cases hod : o.dst with
   | none => rfl
   | some d' =>
    rw [qT _ _ _ _ (by rw [hsz]; exact hds i o ho d' hod), if_neg (fun e => hni (by rw [hdj i j o o' d' ho hj hod (by rw [hd', e])]; exact hd))]
  have hnew : ∀ (v : Value) (d : Tmp), o.dst = some d → (a.put o.dst v).tmps.getD d undef = v := fun v d hod => by
   rw [hod, qT _ _ _ _ (by rw [hsz]; exact hds i o ho d hod), if_pos rfl]
  refine ⟨fun hw K Q' hK => ?_, fun hw => ?_⟩
  ·obtain ⟨k1, k2, k3, k4⟩ := hw1 hw;by_cases en : i = T.n
   ·subst en;have hnone : ox = none := by
     cases hh : ox with
     | none => rfl
     | some x => exact absurd (hox.2 (by rw [hh]; rfl)) hni
    subst hnone;obtain ⟨f, args, hrun, hc⟩ := k1 rfl;refine jJ (R := fun v w' => ∃ x, v = T.V (some x) T.n ∧ T.Post x w' ∧ Below w.heap.size w w') hrun (hc.mono fun e w' ⟨x, he, hp, hb⟩ => ⟨_, he, x, rfl, hp, hb⟩) ?_;rintro v w' ⟨x, rfl, hp, hb⟩;refine hK _ _ (hI.trans (hb.mono hI.size)) trivial (fun _ _ _ _ _ => trivial) ⟨by rw [qN]; exact hsz, hfin', hlate' _, some x, og, by simp [more], ?_, ?_, ?_, ?_, ?_⟩
    ·refine ⟨fun h => hog.1 (h.resolve_left hmn), fun h => .inr (hog.2 h)⟩
    ·intro y hy; injection hy with hy; subst hy; exact hp
    ·intro g hg;obtain ⟨h1, h2, vs, h3, h4, h5⟩ := hbx g hg;refine ⟨h1, νl h2 hb.size, vs, ⟨h3.1.up hb h2, h3.2.up hb h2⟩, fun h => h4 (fun h' => h (.inr h')), fun h => ?_⟩;rcases h with h | h
     ·rw [show ops[T.q]? = some o by rw [h]; exact ho] at hq;simp only [κb, κe] at hq;exact absurd h hq.1.1.1.2
     ·obtain ⟨y, hy, _⟩ := h5 h;cases hy
    ·intro j o' d hj hd hod hjm;rcases hd with rfl | hd
     ·rw [ho] at hj; injection hj with hj; subst hj
      exact hnew _ d hod
     ·rw [hold _ j o' d hj hd hod, hsl j o' d hj hd hod hjm];refine hind x j ?_;cases hdj' : T.dep j with
      | false => rfl
      | true => exact absurd (hY ht hcl j (κi hj).1 hdj' hd) hni
    ·intro o' d g hj hg hod;rw [hold _ T.m o' d hj (hog.2 (by rw [hg]; rfl)) hod];exact hgm o' d g hj hg hod
   by_cases em : i = T.m
   ·subst em;have hnone : og = none := by
     cases hh : og with
     | none => rfl
     | some x => exact absurd (hog.2 (by rw [hh]; rfl)) hni
    subst hnone;have hrun := k2 rfl;have hal : Below w.heap.size w (w.alloc (.cells T.zs.toArray T.bt)) := βA _;refine jD hrun (hK _ _ (hI.trans (hal.mono hI.size)) trivial (fun _ _ _ _ _ => trivial) ⟨by rw [qN]; exact hsz, hfin', hlate' _, ox, some w.heap.size, ?_, by simp [more], ?_, ?_, ?_, ?_⟩)
    ·exact ⟨fun h => hox.1 (h.resolve_left fun h => en h.symm), fun h => .inr (hox.2 h)⟩
    ·intro x hx; exact hPost x _ _ hal (hpo x hx)
    ·intro g hg;injection hg with hg
     subst hg;refine ⟨hI.size, by simp, T.zs, ?_, fun _ => rfl, fun h => ?_⟩
     ·have := Box.new w T.zs.toArray T.bt;exact ⟨by simpa using this, TB.new _ _ _⟩
     ·exfalso;rcases h with h | h
      ·rw [show ops[T.q]? = some o by rw [h]; exact ho] at hq;simp only [κb, κe] at hq;exact hq.1.1.1.1.2 h
      ·cases hoq : ops[T.q]? with
       | none =>
        have := hfin _ h;rw [Array.getElem?_eq_getElem this] at hoq;cases hoq
       | some oq =>
        rw [hoq] at hq;simp only [κb, κe] at hq;obtain ⟨k, hk, h2⟩ := Array.any_eq_true.1 hq.1.1.2;simp only [κb, κe] at h2;exact hni (h2.2 ▸ hcl T.q oq hoq h _ (Array.getElem_mem hk) h2.1)
    ·intro j o' d hj hd hod hjm;rcases hd with rfl | hd
     ·exact absurd rfl hjm
     ·rw [hold _ j o' d hj hd hod];exact hsl j o' d hj hd hod hjm
    ·intro o' d g hj hg hod;injection hg with hg
     subst hg;rw [ho] at hj; injection hj with hj; subst hj
     exact hnew _ d hod
   by_cases eq : i = T.q
   ·subst eq;rw [ho] at hq;simp only [κb, κe] at hq;obtain ⟨⟨⟨⟨⟨hdst, hqm⟩, hqn⟩, hqa⟩, hqb⟩, _⟩ := hq;have hdst' : o.dst = none := by simpa using hdst
    have hdm' : done T.m := by
     obtain ⟨k, hk, h2⟩ := Array.any_eq_true.1 hqa;simp only [κb, κe] at h2;exact h2.2 ▸ hdone' _ (Array.getElem_mem hk) h2.1
    have hdn' : done T.n := by
     obtain ⟨k, hk, h2⟩ := Array.any_eq_true.1 hqb;simp only [κb, Bool.or_eq_true, κe] at h2;have hd := hdone' _ (Array.getElem_mem hk) h2.1;rcases h2.2 with h3 | h3
     ·exact h3 ▸ hd
     ·exact hY ht hcl _ (hfin _ hd) h3 hd
    obtain ⟨x, hx⟩ := Option.isSome_iff_exists.1 (hox.1 hdn');obtain ⟨g, hg⟩ := Option.isSome_iff_exists.1 (hog.1 hdm');obtain ⟨h1, h2, vs, h3, h4, h5⟩ := hbx g hg;obtain rfl := h4 hni;obtain ⟨hrun, hp, hl⟩ := k3 rfl x g hx h1 h2 h3.1 h3.2 (fun o' d ho' hd => hgm o' d g ho' hg hd);refine jW hrun (hK _ _ (zI hI h1 _ _) trivial (fun _ _ _ _ _ => trivial) ⟨by rw [qN]; exact hsz, hfin', hlate' _, ox, og, ?_, ?_, ?_, ?_, ?_, ?_⟩)
    ·exact ⟨fun h => hox.1 (h.resolve_left fun h => hqn h.symm), fun h => .inr (hox.2 h)⟩
    ·exact ⟨fun h => hog.1 (h.resolve_left fun h => hqm h.symm), fun h => .inr (hog.2 h)⟩
    ·intro y hy;rw [hx] at hy; injection hy with hy; subst hy
     exact hp
    ·intro g' hg';rw [hg] at hg'; injection hg' with hg'; subst hg'
     exact ⟨h1, by rw [zG]; exact h2, T.S x, ⟨h3.1.sets hl, h3.2.sets (T.S x) 0⟩, fun h => absurd (.inl rfl) h, fun _ => ⟨x, hx, rfl⟩⟩
    ·intro j o' d hj hd hod hjm;rcases hd with rfl | hd
     ·rw [ho] at hj; injection hj with hj; subst hj
      rw [hdst'] at hod; cases hod
     ·rw [hold _ j o' d hj hd hod];exact hsl j o' d hj hd hod hjm
    ·intro o' d g' hj hg' hod;rw [hold _ T.m o' d hj hdm' hod];exact hgm o' d g' hj hg' hod
   ·have hrun := k4 en em eq;refine jD hrun (hK _ _ hI trivial (fun _ _ _ _ _ => trivial) ⟨by rw [qN]; exact hsz, hfin', hlate' _, ox, og, ?_, ?_, hpo, ?_, ?_, ?_⟩)
    ·exact ⟨fun h => hox.1 (h.resolve_left fun h => en h.symm), fun h => .inr (hox.2 h)⟩
    ·exact ⟨fun h => hog.1 (h.resolve_left fun h => em h.symm), fun h => .inr (hog.2 h)⟩
    ·intro g hg;obtain ⟨h1, h2, vs, h3, h4, h5⟩ := hbx g hg;exact ⟨h1, h2, vs, h3, fun h => h4 (fun h' => h (.inr h')), fun h => h5 (h.resolve_left fun h => eq h.symm)⟩
    ·intro j o' d hj hd hod hjm;rcases hd with rfl | hd
     ·rw [ho] at hj; injection hj with hj; subst hj
      exact hnew _ d hod
     ·rw [hold _ j o' d hj hd hod];exact hsl j o' d hj hd hod hjm
    ·intro o' d g hj hg hod;rw [hold _ T.m o' d hj (hog.2 (by rw [hg]; rfl)) hod];exact hgm o' d g hj hg hod
  ·obtain ⟨en, em, eq, hu⟩ := hw2 hw;refine ⟨hI, trivial, fun _ _ _ _ => trivial, ⟨by rw [qN]; exact hsz, hfin', hlate' _, ox, og, ?_, ?_, hpo, ?_, ?_, ?_⟩⟩
   ·exact ⟨fun h => hox.1 (h.resolve_left fun h => en h.symm), fun h => .inr (hox.2 h)⟩
   ·exact ⟨fun h => hog.1 (h.resolve_left fun h => em h.symm), fun h => .inr (hog.2 h)⟩
   ·intro g hg;obtain ⟨h1, h2, vs, h3, h4, h5⟩ := hbx g hg;exact ⟨h1, h2, vs, h3, fun h => h4 (fun h' => h (.inr h')), fun h => h5 (h.resolve_left fun h => eq h.symm)⟩
   ·intro j o' d hj hd hod hjm;rcases hd with rfl | hd
    ·rw [ho] at hj; injection hj with hj; subst hj
     rw [hnew _ d hod, hu]
    ·rw [hold _ j o' d hj hd hod];exact hsl j o' d hj hd hod hjm
   ·intro o' d g hj hg hod;rw [hold _ T.m o' d hj (hog.2 (by rw [hg]; rfl)) hod];exact hgm o' d g hj hg hod
 ·intro done a vs w hd hI hE ha _;obtain ⟨hsz, hfin, hlate, ox, og, hox, hog, hpo, hbx, hsl, hgm⟩ := hE;obtain ⟨x, hx⟩ := Option.isSome_iff_exists.1 (hox.1 (hd _ hnlt));subst hx;have hg : ∃ g, (T.m < ops.size → og = some g) := by
   by_cases h : T.m < ops.size
   ·obtain ⟨g, hg⟩ := Option.isSome_iff_exists.1 (hog.1 (hd _ h));exact ⟨g, fun _ => hg⟩
   ·exact ⟨0, fun h' => absurd h' h⟩
  obtain ⟨g, hg⟩ := hg;have := hdone x g w hI (hpo x rfl) (fun hml => by
   obtain ⟨h1, h2, vs', h3, h4, h5⟩ := hbx g (hg hml);refine ⟨h1, h2, fun hql => ?_⟩;obtain ⟨y, hy, rfl⟩ := h5 (hd _ hql);injection hy with hy
   subst hy;exact h3.1)
  rw [ha];rw [fJ ops.toList vs _ 0 a0 (fun j o d hj hod => ?_)]
  ·exact this
  ·have hj' : ops[j]? = some o := by simpa using hj
   have hlt : j < ops.size := (κi hj').1;have hat := yF ops.toList vs d 0 j a0 o (fun o ho e he => by
    obtain ⟨n, hn⟩ := List.mem_iff_getElem?.1 ho;exact hds n o (by simpa using hn) e he) (fun i j o o' d hi hj he he' => hdj i j o o' d (by simpa using hi) (by simpa using hj) he he') hj hod
   rw [← ha] at hat;rw [← hat, Nat.zero_add];by_cases e : j = T.m
   ·rw [if_pos e];exact hgm o d g (by rw [← e]; exact hj') (hg (e ▸ hlt)) hod
   ·rw [if_neg e];exact hsl j o d hj' (hd j hlt) hod e
end
end Go.Proofs.YtkfhpefmmhljmaaGreatDoor
