/- Texts in one: AnyE, AnyC. -/
import Derived.Test.YtkfhpefmmhljmaaGreatDoorF10
set_option linter.unusedVariables false
set_option linter.unusedSimpArgs false
set_option maxHeartbeats 16000000
namespace Go.Proofs.YtkfhpefmmhljmaaGreatDoor
open Go.RowKit
section
variable {P : Program} {ops : Array Oper} {Q : Exit → Act → World → Prop} {F : (Nat → Prop) → Nat → Value → World → Prop} {I : (Nat → Prop) → World → Prop} {E : (Nat → Prop) → Act → World → Prop} {a0 : Act}
def StepE (P : Program) (ops : Array Oper) (F : (Nat → Prop) → Nat → Value → World → Prop) (I : (Nat → Prop) → World → Prop) (E : (Nat → Prop) → Act → World → Prop) (a0 : Act) : Prop :=
 ∀ (i : Nat) (o : Oper), ops[i]? = some o → ∀ (done : Nat → Prop) (a : Act) (w : World), ¬ done i → vY ops done → I done w → E done a w → (∀ e ∈ o.after, Region.binds .any e = true → done e.on ∧ ∀ (o' : Oper), ops[e.on]? = some o' → Did (F done) a w e.on o') → (∀ d : Tmp, Apart ops d → a.tmps.getD d undef = a0.tmps.getD d undef) →
  (Region.wanted o (yielded ops a.tmps) = true → ∀ (K : Act → World → Prop) (Q : Exit → Act → World → Prop), (∀ v w', I (more done i) w' → F (more done i) i v w' → (∀ (j : Nat) (u : Value), done j → (∀ (o' : Oper) (d : Tmp), ops[j]? = some o' → o'.dst = some d → u = a.tmps.getD d undef) → F done j u w → F (more done i) j u w') → E (more done i) (a.put o.dst v) w' → K (a.put o.dst v) w') → o.wp P a w K Q) ∧
  (Region.wanted o (yielded ops a.tmps) = false → I (more done i) w ∧ F (more done i) i undef w ∧ (∀ (j : Nat) (u : Value), done j → F done j u w → F (more done i) j u w) ∧ E (more done i) (a.put o.dst undef) w)
theorem nW (hac : ∀ (j : Nat) (o : Oper), ops[j]? = some o → ∀ e ∈ o.after, Region.binds .any e = true → e.on < j)
  (hds : ∀ (j : Nat) (o : Oper), ops[j]? = some o → ∀ d, o.dst = some d → d < a0.tmps.size) (hdj : ∀ (i j : Nat) (o o' : Oper) (d : Tmp), ops[i]? = some o → ops[j]? = some o' → o.dst = some d → o'.dst = some d → i = j)
  (hstep : StepE P ops F I E a0) (hdone : ∀ (listed : Array Bool) (done : Nat → Prop) (a : Act) (w : World), XInv ops F I a0 listed done a w → E done a w → (∀ j, j < ops.size → done j) → Q .normal a w) :
  ∀ (fuel : Nat) (listed : Array Bool) (done : Nat → Prop) (a : Act) (w : World), jM ops.size listed ≤ fuel → XInv ops F I a0 listed done a w → E done a w → wpAny P .any ops Q fuel listed a w := by
 have fin : ∀ {listed : Array Bool} {done : Nat → Prop} {a : Act} {w : World}, XInv ops F I a0 listed done a w → E done a w → (∀ j, j < ops.size → listed.getD j true = true) → Q .normal a w := fun {listed done a w} h hE hall => by
  refine hdone _ _ a w h hE fun j hj => (h.listed j hj).2 ?_
  rw [uZ _ _ (by rw [h.size]; exact hj)];exact hall j hj
 intro fuel
 induction fuel with
 | zero =>
  intro listed done a w hu h hE;exact ⟨gQ (jI hu), fin h hE (jI hu)⟩
 | succ fuel ih =>
  intro listed done a w hu h hE;refine ⟨fun hr => fin h hE (gR h.size hac hr), fun i hi => ?_⟩;rw [mem_ready] at hi;obtain ⟨hli, o, ho, hdep⟩ := hi;have hlt : i < ops.size := (κi ho).1;have hni : ¬ done i := fun hd => by
   have := (h.listed i hlt).1 hd;rw [uZ _ _ (by rw [h.size]; exact hlt), hli] at this;cases this
  have hdd : ∀ e ∈ o.after, Region.binds .any e = true → done e.on := fun e he hb => (h.listed e.on (Nat.lt_trans (hac i o ho e he hb) hlt)).2 (hdep e he hb)
  have hs := hstep i o ho done a w hni h.closed h.world hE (fun e he hb => ⟨hdd e he hb, fun o' ho' => h.did e.on o' ho' (hdd e he hb)⟩) h.rest;have hu' : jM ops.size (listed.setIfInBounds i true) ≤ fuel := by have := yM h.size hlt hli; omega
  unfold wpOp;rw [ho];cases hw : Region.wanted o (yielded ops a.tmps) with
  | true =>
   simp only [hw, if_true];left;exact hs.1 hw _ _ fun v w' hI hF hkeep hE' => ih _ _ _ _ hu' (mX h ho hni hdd (hds i o ho) hdj hI hF hkeep) hE'
  | false =>
   simp only [hw, Bool.false_eq_true, if_false];obtain ⟨h1, h2, h3, h4⟩ := hs.2 hw;exact ih _ _ _ _ hu' (mX h ho hni hdd (hds i o ho) hdj h1 h2 fun j u hd _ => h3 j u hd) h4
theorem yO {id : Nat} {w0 : World} (F : (Nat → Prop) → Nat → Value → World → Prop) (I : (Nat → Prop) → World → Prop) (E : (Nat → Prop) → Act → World → Prop) (hm : P.follows .mixedOrders = true) (hok : jU ops a0.tmps.size = true) (hI : I (fun _ => False) w0.drew) (hE : E (fun _ => False) a0 w0.drew) (hstep : StepE P ops F I E a0)
  (hdone : ∀ (done : Nat → Prop) (a : Act) (vs : Nat → Value) w, (∀ j, j < ops.size → done j) → I done w → E done a w → a = qE ops.toList vs 0 a0 → (∀ j, j < ops.size → F done j (vs j) w) → Q .normal a w) : (Code.region id ops true).wp P Q a0 w0 :=
 wp_region_any hm (nW (jG hok).1 (jG hok).2.1 (jG hok).2.2 hstep (fun listed done a w h hE hall => by
   have key := bI (Q := fun _ a' w' => a' = a → E done a' w' → Q .normal a' w') (jG hok).2.1 (jG hok).2.2 (F := fun d j v W => F done j v W) (I := fun d W => I done W) (fun d vs w' hd hI' hF e hE' => hdone done _ vs w' hall hI' hE' rfl hF) listed done a w ⟨h.size, h.listed, h.closed, h.defers, h.tmps, h.world, fun j o hj hd => h.did j o hj hd, h.rest⟩ hall;exact key rfl hE) _ _ (fun _ => False) _ _ (uC _ _)
  ⟨by simp, fun j hj => ⟨fun h => h.elim, fun h => by simp [Array.getD, hj] at h⟩, fun _ _ _ h => h.elim, rfl, rfl, hI, fun _ _ _ h => h.elim, fun _ _ => rfl⟩ hE)
end
section
variable {P : Program} {ops : Array Oper} {Q : Exit → Act → World → Prop} {a0 : Act} {X : Type}
def eY (ops : Array Oper) (cs : List Nat) (cls ub : Nat → Nat) : Bool :=
 ((List.range ops.size).all fun i => decide (cs.length ≤ ub i) || (decide (cs.getD (ub i) ops.size = i)) || (List.range ops.size).any fun j => decide (i < j) && decide (ub j ≤ ub i) && match ops[j]? with
  | none => false
  | some o => o.after.any fun e => Region.binds .any e && decide (e.on = i)) &&
 ((List.range cs.length).all fun k => decide (cs.getD k 0 < ops.size) && decide (cls (cs.getD k 0) = k + 1) && (decide (k = 0) || match ops[cs.getD k 0]? with
  | none => false
  | some o => o.after.any fun e => Region.binds .any e && decide (e.on < cs.getD k 0) && decide (k ≤ cls e.on))) &&
 (List.range ops.size).all fun j => decide (cls j ≤ cs.length) && (decide (cls j = 0) || decide (cs.getD (cls j - 1) 0 = j) || match ops[j]? with
  | none => false
  | some o => o.after.any fun e => Region.binds .any e && decide (e.on < j) && decide (cls j ≤ cls e.on))
structure ChainE (cs : List Nat) (cls : Nat → Nat) (V : Nat → X → Nat → Value) (Inv : Nat → X → World → Prop) (ops : Array Oper) (a0 : Act) (done : Nat → Prop) (a : Act) (w : World) : Prop where
 size : a.tmps.size = a0.tmps.size
 fin : ∀ j, done j → j < ops.size
 late : ∀ d : Tmp, vX ops done d → a.tmps.getD d undef = a0.tmps.getD d undef
 st : ∃ (t : Nat) (x : X), t ≤ cs.length ∧ (∀ k, k < cs.length → (done (cs.getD k 0) ↔ k < t)) ∧ (∀ j, done j → cls j ≤ t) ∧ Inv t x w ∧ ∀ (j : Nat) (o : Oper) (d : Tmp), ops[j]? = some o → done j → o.dst = some d → a.tmps.getD d undef = V t x j
def oZ (P : Program) (cs : List Nat) (cls ub : Nat → Nat) (V : Nat → X → Nat → Value) (Inv : Nat → X → World → Prop) (ops : Array Oper) (a0 : Act) : Prop :=
 ∀ (i : Nat) (o : Oper), ops[i]? = some o → (∀ k, k < cs.length → cs.getD k 0 ≠ i) → ∀ (a : Act) (w : World) (t : Nat) (x : X), Inv t x w → t ≤ cs.length → cls i ≤ t → t ≤ ub i →
  (∀ e ∈ o.after, Region.binds .any e = true → ∀ (o' : Oper) (d : Tmp), ops[e.on]? = some o' → o'.dst = some d → a.tmps.getD d undef = V t x e.on) → (∀ d : Tmp, lateB ops i d = true → a.tmps.getD d undef = a0.tmps.getD d undef) →
  (∀ (j : Nat) (want : Bool), o.guard = some (j, want) → ∀ (o' : Oper) (d : Tmp), ops[j]? = some o' → o'.dst = some d → ∀ b, a.tmps.getD d undef = .bool b → Region.wanted o (yielded ops a.tmps) = (b == want)) →
  (Region.wanted o (yielded ops a.tmps) = true → (execOp a.eval o).run P w = .ok (.value (V t x i)) w) ∧ (Region.wanted o (yielded ops a.tmps) = false → V t x i = undef)
def wA (P : Program) (cs : List Nat) (cls : Nat → Nat) (V : Nat → X → Nat → Value) (Inv : Nat → X → World → Prop) (ops : Array Oper) (a0 : Act) : Prop :=
 ∀ (k : Nat) (o : Oper), k < cs.length → ops[cs.getD k 0]? = some o → ∀ (a : Act) (w : World) (x : X), Inv k x w →
  (∀ e ∈ o.after, Region.binds .any e = true → ∀ (o' : Oper) (d : Tmp), ops[e.on]? = some o' → o'.dst = some d → a.tmps.getD d undef = V k x e.on) → (∀ d : Tmp, lateB ops (cs.getD k 0) d = true → a.tmps.getD d undef = a0.tmps.getD d undef) →
  Region.wanted o (yielded ops a.tmps) = true ∧ ∀ (K : Act → World → Prop) (Q : Exit → Act → World → Prop), (∀ v w' x', Inv (k + 1) x' w' → (∀ d, o.dst = some d → v = V (k + 1) x' (cs.getD k 0)) → (∀ j, j < ops.size → cls j ≤ k → V (k + 1) x' j = V k x j) → K (a.put o.dst v) w') → o.wp P a w K Q
theorem fK (ops : List Oper) (vs us : Nat → Value) : ∀ (k : Nat) (a : Act), (∀ j (o : Oper) d, ops[j]? = some o → o.dst = some d → vs (k + j) = us (k + j)) → qE ops vs k a = qE ops us k a := by
 induction ops with
 | nil => intro k a _; rfl
 | cons o rest ih =>
  intro k a h;have e : a.put o.dst (vs k) = a.put o.dst (us k) := by
   cases hd : o.dst with
   | none => rfl
   | some d => rw [show vs k = us k from h 0 o d rfl hd]
  rw [qE, qE, e];exact ih _ _ fun j o' d hj hd => by
   have := h (j + 1) o' d (by simpa using hj) hd;rwa [show k + (j + 1) = k + 1 + j by omega] at this
theorem xF {id : Nat} {w0 : World} (cs : List Nat) (cls ub : Nat → Nat) (V : Nat → X → Nat → Value) (Inv : Nat → X → World → Prop) (x0 : X) (hm : P.follows .mixedOrders = true) (hok : jU ops a0.tmps.size = true) (hch : eY ops cs cls ub = true)
  (h0 : Inv 0 x0 w0.drew) (hread : oZ P cs cls ub V Inv ops a0) (hchain : wA P cs cls V Inv ops a0)
  (hdone : ∀ x w, Inv cs.length x w → Q .normal (qE ops.toList (V cs.length x) 0 a0) w) : (Code.region id ops true).wp P Q a0 w0 := by
 have hds := (jG hok).2.1;have hdj := (jG hok).2.2;unfold eY at hch;simp only [κb] at hch;obtain ⟨⟨hc0, hc1⟩, hc2⟩ := hch;have hcs : ∀ k, k < cs.length → cs.getD k 0 < ops.size ∧ cls (cs.getD k 0) = k + 1 ∧ (k = 0 ∨ ∃ o, ops[cs.getD k 0]? = some o ∧ ∃ e ∈ o.after, Region.binds .any e = true ∧ e.on < cs.getD k 0 ∧ k ≤ cls e.on) := fun k hk => by
  have h := List.all_eq_true.1 hc1 k (List.mem_range.2 hk);simp only [κb, Bool.or_eq_true, κe] at h;refine ⟨h.1.1, h.1.2, h.2.imp (fun h => h) fun h2 => ?_⟩;cases ho : ops[cs.getD k 0]? with
  | none => rw [ho] at h2; cases h2
  | some o =>
   rw [ho] at h2;obtain ⟨i, hi, h3⟩ := Array.any_eq_true.1 h2;simp only [κb, κe] at h3;exact ⟨o, rfl, _, Array.getElem_mem hi, h3.1.1, h3.1.2, h3.2⟩
 have hcl2 : ∀ j, j < ops.size → cls j ≤ cs.length ∧ (cls j = 0 ∨ cs.getD (cls j - 1) 0 = j ∨ ∃ o, ops[j]? = some o ∧ ∃ e ∈ o.after, Region.binds .any e = true ∧ e.on < j ∧ cls j ≤ cls e.on) := fun j hj => by
  have h := List.all_eq_true.1 hc2 j (List.mem_range.2 hj);simp only [κb, Bool.or_eq_true, κe] at h;refine ⟨h.1, ?_⟩;rcases h.2 with (h2 | h2) | h2
  ·exact .inl h2
  ·exact .inr (.inl h2)
  ·right; right;cases ho : ops[j]? with
   | none => rw [ho] at h2; cases h2
   | some o =>
    rw [ho] at h2;obtain ⟨i, hi, h3⟩ := Array.any_eq_true.1 h2;simp only [κb, κe] at h3;exact ⟨o, rfl, _, Array.getElem_mem hi, h3.1.1, h3.1.2, h3.2⟩
 -- whatever is known of class c behind the chain's operation c - 1
 have hinj : ∀ k k', k < cs.length → k' < cs.length → cs.getD k 0 = cs.getD k' 0 → k = k' := fun k k' hk hk' e => by
  have h1 := (hcs k hk).2.1;have h2 := (hcs k' hk').2.1;rw [e] at h1;omega
 have hub : ∀ (done : Nat → Prop), vY ops done → ∀ t, t ≤ cs.length → (∀ k, k < cs.length → (done (cs.getD k 0) ↔ k < t)) → ∀ n i, n = ops.size - i → i < ops.size → ¬ done i → t ≤ ub i := by
  intro done hcl t htl htd n
  induction n using Nat.strongRecOn with
  | _ n ih =>
   intro i hn hi hni;have h := List.all_eq_true.1 hc0 i (List.mem_range.2 hi);simp only [Bool.or_eq_true, κe] at h;rcases h with (h | h) | h
   ·omega
   ·have hk : ub i < cs.length := by
     refine Nat.lt_of_not_le fun hge => ?_
     rw [κd, List.getElem?_eq_none hge] at h;simp at h;omega
    have e : cs.getD (ub i) 0 = i := by
     rw [κd, κg hk] at h ⊢;exact h
    refine Nat.le_of_not_lt fun hlt => hni ?_
    have := (htd (ub i) hk).2 hlt;rwa [e] at this
   ·obtain ⟨j, hj, h2⟩ := List.any_eq_true.1 h;simp only [κb, κe] at h2;obtain ⟨⟨hij, hle⟩, h3⟩ := h2;have hjs := List.mem_range.1 hj;rw [Array.getElem?_eq_getElem hjs] at h3;obtain ⟨q, hq, h4⟩ := Array.any_eq_true.1 h3;simp only [κb, κe] at h4;have hnj : ¬ done j := fun hd => hni (h4.2 ▸ hcl j ops[j] (Array.getElem?_eq_getElem hjs) hd _ (Array.getElem_mem hq) h4.1)
    exact Nat.le_trans (ih (ops.size - j) (by omega) j rfl hjs hnj) hle
 refine yO (fun _ _ _ _ => True) (fun _ _ => True) (ChainE cs cls V Inv ops a0) hm hok trivial
  ⟨rfl, (fun j h => h.elim), fun _ _ => rfl, 0, x0, Nat.zero_le _, (fun k hk => ⟨fun h => h.elim, fun h => absurd h (Nat.not_lt_zero _)⟩), (fun j h => h.elim), h0, fun _ _ _ _ h => h.elim⟩ ?_ ?_
 ·intro i o ho done a w hni hcl _ hE hdep _;obtain ⟨hsz, hfin, hlate, t, x, htl, htd, hct, hinv, hsl⟩ := hE;have hlt : i < ops.size := (κi ho).1;have hdone' : ∀ e ∈ o.after, Region.binds .any e = true → done e.on := fun e he hb => (hdep e he hb).1
  have hfin' : ∀ j, more done i j → j < ops.size := fun j h => h.elim (fun e => e ▸ hlt) (hfin j)
  have hlate' : ∀ (v : Value) (d : Tmp), vX ops (more done i) d → (a.put o.dst v).tmps.getD d undef = a0.tmps.getD d undef := fun v d hd => by
   cases hod : o.dst with
   | none => exact hlate d hd.less
   | some d' =>
    rw [qT _ _ _ _ (by rw [hsz]; exact hds i o ho d' hod), if_neg (fun e => hd i o ho (.inl rfl) (by rw [hod, e]))];exact hlate d hd.less
  have hold : ∀ (v : Value) (j : Nat) (o' : Oper) (d : Tmp), ops[j]? = some o' → done j → o'.dst = some d → (a.put o.dst v).tmps.getD d undef = a.tmps.getD d undef := fun v j o' d hj hd hd' => by
   cases hod : o.dst with
   | none => rfl
   | some d' =>
    rw [qT _ _ _ _ (by rw [hsz]; exact hds i o ho d' hod), if_neg (fun e => hni (by rw [hdj i j o o' d' ho hj hod (by rw [hd', e])]; exact hd))]
  have hnew : ∀ (v : Value) (d : Tmp), o.dst = some d → (a.put o.dst v).tmps.getD d undef = v := fun v d hod => by
   rw [hod, qT _ _ _ _ (by rw [hsz]; exact hds i o ho d hod), if_pos rfl]
  have hdeps : ∀ e ∈ o.after, Region.binds .any e = true → ∀ (o' : Oper) (d : Tmp), ops[e.on]? = some o' → o'.dst = some d → a.tmps.getD d undef = V t x e.on := fun e he hb o' d ho' hd => hsl e.on o' d ho' (hdone' e he hb) hd
  have hlates : ∀ d : Tmp, lateB ops i d = true → a.tmps.getD d undef = a0.tmps.getD d undef := fun d hd => hlate d (kC hd hni hcl)
  by_cases hin : ∃ k, k < cs.length ∧ cs.getD k 0 = i
  ·obtain ⟨k, hk, rfl⟩ := hin;have hkt : k = t := by
    have h1 : ¬ k < t := fun h => hni ((htd k hk).2 h)
    rcases Nat.lt_or_ge t k with h2 | h2
    ·exfalso;obtain ⟨_, _, h3⟩ := hcs k hk;rcases h3 with h3 | ⟨o', ho', e, he, hb, _, hle⟩
     ·omega
     ·rw [ho] at ho'; injection ho' with ho'; subst ho'
      have := hct _ (hdone' e he hb);omega
    ·omega
   subst hkt;obtain ⟨hw, hst⟩ := hchain k o hk ho a w x hinv hdeps hlates;refine ⟨fun _ K Q' hK => hst K Q' fun v w' x' hinv' hv hstab => hK v w' trivial trivial (fun _ _ _ _ _ => trivial) ⟨by rw [qN]; exact hsz, hfin', hlate' _, k + 1, x', hk, ?_, ?_, hinv', ?_⟩, fun hw' => by rw [hw] at hw'; cases hw'⟩
   ·intro k' hk';constructor
    ·rintro (h | h)
     ·rw [hinj k' k hk' hk h]; omega
     ·have := (htd k' hk').1 h; omega
    ·intro h;rcases Nat.lt_or_ge k' k with h2 | h2
     ·exact .inr ((htd k' hk').2 h2)
     ·obtain rfl : k' = k := by omega
      exact .inl rfl
   ·rintro j (rfl | hd)
    ·exact Nat.le_of_eq (hcs k hk).2.1
    ·exact Nat.le_succ_of_le (hct j hd)
   ·rintro j o' d hj (rfl | hd) hod
    ·rw [ho] at hj; injection hj with hj; subst hj
     rw [hnew _ d hod];exact hv d hod
    ·rw [hold _ j o' d hj hd hod, hsl j o' d hj hd hod];exact (hstab j (hfin j hd) (hct j hd)).symm
  ·have hne : ∀ k, k < cs.length → cs.getD k 0 ≠ i := fun k hk e => hin ⟨k, hk, e⟩
   have hci : cls i ≤ t := by
    obtain ⟨hle, h | h | ⟨o', ho', e, he, hb, _, hle'⟩⟩ := hcl2 i hlt
    ·omega
    ·by_cases hz : cls i = 0
     ·omega
     ·exact absurd h (hne _ (by omega))
    ·rw [ho] at ho'; injection ho' with ho'; subst ho'
     exact Nat.le_trans hle' (hct _ (hdone' e he hb))
   obtain ⟨h1, h2⟩ := hread i o ho hne a w t x hinv htl hci (hub done hcl t htl htd _ i rfl hlt hni) hdeps hlates (fun j want hg o' d ho' hd b hb => uB hg ho' hd hb);have key : ∀ v, v = V t x i → ChainE cs cls V Inv ops a0 (more done i) (a.put o.dst v) w := fun v hv => by
    refine ⟨by rw [qN]; exact hsz, hfin', hlate' _, t, x, htl, ?_, ?_, hinv, ?_⟩
    ·intro k hk;exact ⟨fun h => (htd k hk).1 (h.resolve_left (hne k hk)), fun h => .inr ((htd k hk).2 h)⟩
    ·rintro j (rfl | hd)
     ·exact hci
     ·exact hct j hd
    ·rintro j o' d hj (rfl | hd) hod
     ·rw [ho] at hj; injection hj with hj; subst hj
      rw [hnew _ d hod, hv]
     ·rw [hold _ j o' d hj hd hod];exact hsl j o' d hj hd hod
   exact ⟨fun hw K Q' hK => jD (h1 hw) (hK _ _ trivial trivial (fun _ _ _ _ _ => trivial) (key _ rfl)), fun hw => ⟨trivial, trivial, fun _ _ _ _ => trivial, key _ (h2 hw).symm⟩⟩
 ·intro done a vs w hd _ hE ha _;obtain ⟨hsz, hfin, hlate, t, x, htl, htd, hct, hinv, hsl⟩ := hE;have ht : t = cs.length := by
   rcases Nat.lt_or_ge t cs.length with h | h
   ·exact absurd ((htd t h).1 (hd _ (hcs t h).1)) (Nat.lt_irrefl _)
   ·omega
  subst ht;have := hdone x w hinv;rw [ha, fK ops.toList vs (V cs.length x) 0 a0 (fun j o d hj hod => ?_)]
  ·exact this
  ·have hj' : ops[j]? = some o := by simpa using hj
   have hlt : j < ops.size := (κi hj').1;have hat := yF ops.toList vs d 0 j a0 o (fun o ho e he => by
    obtain ⟨n, hn⟩ := List.mem_iff_getElem?.1 ho;exact hds n o (by simpa using hn) e he) (fun i j o o' d hi hj he he' => hdj i j o o' d (by simpa using hi) (by simpa using hj) he he') hj hod
   rw [← ha] at hat;rw [← hat, Nat.zero_add];exact hsl j o d hj' (hd j hlt) hod
end
end Go.Proofs.YtkfhpefmmhljmaaGreatDoor
