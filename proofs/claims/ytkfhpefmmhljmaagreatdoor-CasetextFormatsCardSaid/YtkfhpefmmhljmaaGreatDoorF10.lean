/- Texts in one: AnyY, AnyR. -/
import Derived.Test.YtkfhpefmmhljmaaGreatDoorF4
set_option linter.unusedVariables false
set_option linter.unusedSimpArgs false
set_option maxHeartbeats 16000000
namespace Go.Proofs.YtkfhpefmmhljmaaGreatDoor
open Go.RowKit
section
variable {P : Program} {ops : Array Oper} {Q : Exit → Act → World → Prop} {F : (Nat → Prop) → Nat → Value → World → Prop} {I : (Nat → Prop) → World → Prop} {a0 : Act}
def vX (ops : Array Oper) (done : Nat → Prop) (d : Tmp) : Prop := ∀ (j : Nat) (o : Oper), ops[j]? = some o → done j → o.dst ≠ some d
theorem vX.less {done : Nat → Prop} {i : Nat} {d : Tmp} (h : vX ops (more done i) d) : vX ops done d := fun j o hj hd => h j o hj (.inr hd)
structure YInv (ops : Array Oper) (F : (Nat → Prop) → Nat → Value → World → Prop) (I : (Nat → Prop) → World → Prop) (a0 : Act) (listed : Array Bool) (done : Nat → Prop) (a : Act) (w : World) : Prop where
 size : listed.size = ops.size
 listed : ∀ j, j < ops.size → (done j ↔ listed.getD j false = true)
 closed : vY ops done
 defers : a.defers = a0.defers
 tmps : a.tmps.size = a0.tmps.size
 world : I done w
 did : ∀ (j : Nat) (o : Oper), ops[j]? = some o → done j → Did (F done) a w j o
 rest : ∀ d : Tmp, vX ops done d → a.tmps.getD d undef = a0.tmps.getD d undef
def StepY (P : Program) (ops : Array Oper) (F : (Nat → Prop) → Nat → Value → World → Prop) (I : (Nat → Prop) → World → Prop) (a0 : Act) : Prop :=
 ∀ (i : Nat) (o : Oper), ops[i]? = some o → ∀ (done : Nat → Prop) (a : Act) (w : World), ¬ done i → vY ops done → I done w → (∀ e ∈ o.after, Region.binds .any e = true → done e.on ∧ ∀ (o' : Oper), ops[e.on]? = some o' → Did (F done) a w e.on o') → (∀ d : Tmp, vX ops done d → a.tmps.getD d undef = a0.tmps.getD d undef) →
  (Region.wanted o (yielded ops a.tmps) = true → ∀ (K : Act → World → Prop) (Q : Exit → Act → World → Prop), (∀ v w', I (more done i) w' → F (more done i) i v w' → (∀ (j : Nat) (u : Value), done j → (∀ (o' : Oper) (d : Tmp), ops[j]? = some o' → o'.dst = some d → u = a.tmps.getD d undef) → F done j u w → F (more done i) j u w') → K (a.put o.dst v) w') → o.wp P a w K Q) ∧
  (Region.wanted o (yielded ops a.tmps) = false → I (more done i) w ∧ F (more done i) i undef w ∧ ∀ (j : Nat) (u : Value), done j → F done j u w → F (more done i) j u w)
theorem mW {listed : Array Bool} {done : Nat → Prop} {a : Act} {w w' : World} {i : Nat} {o : Oper} {v : Value} (h : YInv ops F I a0 listed done a w) (ho : ops[i]? = some o) (hni : ¬ done i) (hdep : ∀ e ∈ o.after, Region.binds .any e = true → done e.on)
  (hds : ∀ d, o.dst = some d → d < a0.tmps.size) (hdj : ∀ (i j : Nat) (o o' : Oper) (d : Tmp), ops[i]? = some o → ops[j]? = some o' → o.dst = some d → o'.dst = some d → i = j)
  (hI : I (more done i) w') (hF : F (more done i) i v w') (hkeep : ∀ (j : Nat) (u : Value), done j → (∀ (o' : Oper) (d : Tmp), ops[j]? = some o' → o'.dst = some d → u = a.tmps.getD d undef) → F done j u w → F (more done i) j u w') : YInv ops F I a0 (listed.setIfInBounds i true) (more done i) (a.put o.dst v) w' := by
 have hlt : i < ops.size := (κi ho).1;have hlist : ∀ j, j < ops.size → (more done i j ↔ (listed.setIfInBounds i true).getD j false = true) := fun j hj => by
  rw [gW _ _ _ (by rw [h.size]; exact hlt), ← h.listed j hj];exact ⟨fun e => e.imp (fun e => e.symm) id, fun e => e.imp (fun e => e.symm) id⟩
 have hcl : vY ops (more done i) := fun j o' hj hd e he hb => by
  rcases hd with rfl | hd
  ·rw [ho] at hj;injection hj with hj
   subst hj;exact .inr (hdep e he hb)
  ·exact .inr (h.closed j o' hj hd e he hb)
 cases hd : o.dst with
 | none =>
  refine ⟨by simp [h.size], hlist, hcl, by rw [xO]; exact h.defers, by rw [qN]; exact h.tmps, hI, fun j o' hj hl => ?_, fun d' hap => h.rest d' (hap.less)⟩;rcases hl with rfl | hl
  ·rw [ho] at hj;injection hj with hj
   subst hj;exact ⟨fun d hd' => (by rw [hd] at hd'; cases hd'), fun _ => ⟨v, hF⟩⟩
  ·obtain ⟨h1, h2⟩ := h.did j o' hj hl;exact ⟨fun d hd' => hkeep j _ hl (fun o'' d'' ho'' hd'' => by rw [hj] at ho''; injection ho'' with ho''; subst ho''; rw [hd'] at hd''; injection hd'' with hd''; subst hd''; rfl) (h1 d hd'), fun hn => (h2 hn).imp fun v hv => hkeep j v hl (fun o'' d'' ho'' hd'' => by rw [hj] at ho''; injection ho'' with ho''; subst ho''; rw [hn] at hd''; cases hd'') hv⟩
 | some d =>
  have hdl := hds d hd;refine ⟨by simp [h.size], hlist, hcl, by rw [xO]; exact h.defers, by rw [qN]; exact h.tmps, hI, fun j o' hj hl => ?_, fun d' hap => ?_⟩
  ·rcases hl with rfl | hl
   ·rw [ho] at hj;injection hj with hj
    subst hj;refine ⟨fun d' hd' => ?_, fun hn => ⟨v, hF⟩⟩;rw [hd] at hd';injection hd' with hd'
    subst hd';rw [qT _ _ _ _ (by rw [h.tmps]; exact hdl), if_pos rfl];exact hF
   ·have hij : i ≠ j := fun e => hni (e ▸ hl)
    obtain ⟨h1, h2⟩ := h.did j o' hj hl;refine ⟨fun d' hd' => ?_, fun hn => (h2 hn).imp fun v hv => hkeep j v hl (fun o'' d'' ho'' hd'' => by rw [hj] at ho''; injection ho'' with ho''; subst ho''; rw [hn] at hd''; cases hd'') hv⟩;rw [qT _ _ _ _ (by rw [h.tmps]; exact hdl), if_neg (fun e => hij (hdj i j o o' d ho hj hd (by rw [hd', e])))];exact hkeep j _ hl (fun o'' d'' ho'' hd'' => by rw [hj] at ho''; injection ho'' with ho''; subst ho''; rw [hd'] at hd''; injection hd'' with hd''; subst hd''; rfl) (h1 d' hd')
  ·rw [qT _ _ _ _ (by rw [h.tmps]; exact hdl), if_neg (fun e => hap i o ho (.inl rfl) (by rw [hd, e]))];exact h.rest d' hap.less
theorem nV (hac : ∀ (j : Nat) (o : Oper), ops[j]? = some o → ∀ e ∈ o.after, Region.binds .any e = true → e.on < j)
  (hds : ∀ (j : Nat) (o : Oper), ops[j]? = some o → ∀ d, o.dst = some d → d < a0.tmps.size) (hdj : ∀ (i j : Nat) (o o' : Oper) (d : Tmp), ops[i]? = some o → ops[j]? = some o' → o.dst = some d → o'.dst = some d → i = j)
  (hstep : StepY P ops F I a0) (hdone : ∀ (listed : Array Bool) (done : Nat → Prop) (a : Act) (w : World), YInv ops F I a0 listed done a w → (∀ j, j < ops.size → done j) → Q .normal a w) :
  ∀ (fuel : Nat) (listed : Array Bool) (done : Nat → Prop) (a : Act) (w : World), jM ops.size listed ≤ fuel → YInv ops F I a0 listed done a w → wpAny P .any ops Q fuel listed a w := by
 have fin : ∀ {listed : Array Bool} {done : Nat → Prop} {a : Act} {w : World}, YInv ops F I a0 listed done a w → (∀ j, j < ops.size → listed.getD j true = true) → Q .normal a w := fun {listed done a w} h hall => by
  refine hdone _ _ a w h fun j hj => (h.listed j hj).2 ?_
  rw [uZ _ _ (by rw [h.size]; exact hj)];exact hall j hj
 intro fuel
 induction fuel with
 | zero =>
  intro listed done a w hu h;exact ⟨gQ (jI hu), fin h (jI hu)⟩
 | succ fuel ih =>
  intro listed done a w hu h;refine ⟨fun hr => fin h (gR h.size hac hr), fun i hi => ?_⟩;rw [mem_ready] at hi;obtain ⟨hli, o, ho, hdep⟩ := hi;have hlt : i < ops.size := (κi ho).1;have hni : ¬ done i := fun hd => by
   have := (h.listed i hlt).1 hd;rw [uZ _ _ (by rw [h.size]; exact hlt), hli] at this;cases this
  have hdd : ∀ e ∈ o.after, Region.binds .any e = true → done e.on := fun e he hb => (h.listed e.on (Nat.lt_trans (hac i o ho e he hb) hlt)).2 (hdep e he hb)
  have hs := hstep i o ho done a w hni h.closed h.world (fun e he hb => ⟨hdd e he hb, fun o' ho' => h.did e.on o' ho' (hdd e he hb)⟩) h.rest;have hu' : jM ops.size (listed.setIfInBounds i true) ≤ fuel := by have := yM h.size hlt hli; omega
  unfold wpOp;rw [ho];cases hw : Region.wanted o (yielded ops a.tmps) with
  | true =>
   simp only [hw, if_true];left;exact hs.1 hw _ _ fun v w' hI hF hkeep => ih _ _ _ _ hu' (mW h ho hni hdd (hds i o ho) hdj hI hF hkeep)
  | false =>
   simp only [hw, Bool.false_eq_true, if_false];obtain ⟨h1, h2, h3⟩ := hs.2 hw;exact ih _ _ _ _ hu' (mW h ho hni hdd (hds i o ho) hdj h1 h2 fun j u hd _ => h3 j u hd)
theorem bH (hds : ∀ (j : Nat) (o : Oper), ops[j]? = some o → ∀ d, o.dst = some d → d < a0.tmps.size) (hdj : ∀ (i j : Nat) (o o' : Oper) (d : Tmp), ops[i]? = some o → ops[j]? = some o' → o.dst = some d → o'.dst = some d → i = j)
  (hdone : ∀ (done : Nat → Prop) (vs : Nat → Value) w, (∀ j, j < ops.size → done j) → I done w → (∀ j, j < ops.size → F done j (vs j) w) → Q .normal (qE ops.toList vs 0 a0) w) (listed : Array Bool) (done : Nat → Prop) (a : Act) (w : World) (h : YInv ops F I a0 listed done a w) (hall : ∀ j, j < ops.size → done j) : Q .normal a w := by
 refine dA (F := F done) (I := I done) hds hdj (fun vs w hI hF => hdone done vs w hall hI hF) a w ⟨by simp, h.defers, h.tmps, h.world, fun j o hj _ => h.did j o hj (hall j (κi hj).1), fun d hap => h.rest d fun j o hj _ => hap j o hj⟩
theorem dJ {id : Nat} {w0 : World} (F : (Nat → Prop) → Nat → Value → World → Prop) (I : (Nat → Prop) → World → Prop) (hm : P.follows .mixedOrders = true) (hok : jU ops a0.tmps.size = true) (hI : I (fun _ => False) w0.drew) (hstep : StepY P ops F I a0)
  (hdone : ∀ (done : Nat → Prop) (vs : Nat → Value) w, (∀ j, j < ops.size → done j) → I done w → (∀ j, j < ops.size → F done j (vs j) w) → Q .normal (qE ops.toList vs 0 a0) w) : (Code.region id ops true).wp P Q a0 w0 :=
 wp_region_any hm (nV (jG hok).1 (jG hok).2.1 (jG hok).2.2 hstep (bH (jG hok).2.1 (jG hok).2.2 hdone) _ _ (fun _ => False) _ _ (uC _ _)
  ⟨by simp, fun j hj => ⟨fun h => h.elim, fun h => by simp [Array.getD, hj] at h⟩, fun _ _ _ h => h.elim, rfl, rfl, hI, fun _ _ _ h => h.elim, fun _ _ => rfl⟩)
def lateB (ops : Array Oper) (i : Nat) (d : Tmp) : Bool := (List.range ops.size).all fun n => match ops[n]? with
 | none => true
 | some o => decide (o.dst ≠ some d) || decide (n = i) || o.after.any fun e => decide (e.on = i) && Region.binds .any e
theorem kC {done : Nat → Prop} {i : Nat} {d : Tmp} (h : lateB ops i d = true) (hni : ¬ done i) (hcl : vY ops done) : vX ops done d := by
 intro j o hj hd e;unfold lateB at h;have h1 := List.all_eq_true.1 h j (List.mem_range.2 (κi hj).1);rw [hj] at h1;simp only [Bool.or_eq_true, κe] at h1;rcases h1 with (h1 | rfl) | h1
 ·exact h1 e
 ·exact hni hd
 ·rw [Array.any_eq_true] at h1;obtain ⟨k, hk, h2⟩ := h1;rw [κb] at h2;have h3 := of_decide_eq_true h2.1;exact hni (h3 ▸ hcl j o hj hd _ (Array.getElem_mem hk) h2.2)
end
def EvT (T : Tmp → Value) : Operand → Value
 | .tmp d => T d
 | .const v => v
 | .global g => .pointer (some ⟨g, 0, none⟩)
 | .func f => .func (.func f) #[] #[]
def look : List (Tmp × Value) → Tmp → Value
 | [], _ => undef
 | p :: l, d => if p.1 = d then p.2 else look l d
def valT (T : Tmp → Value) : List (Tmp × Value) → Tmp → Value
 | [], d => T d
 | p :: l, d => if p.1 = d then p.2 else valT T l d
def zA (T : Tmp → Value) : List (Tmp × Value) → Prop
 | [] => True
 | p :: l => T p.1 = p.2 ∧ zA T l
def AllO (p : Oper → Prop) : List Oper → Prop
 | [] => True
 | o :: l => p o ∧ AllO p l
theorem AllO.nil {p : Oper → Prop} : AllO p [] := trivial
theorem AllO.cons {p : Oper → Prop} {o : Oper} {l : List Oper} (h : p o) (k : AllO p l) : AllO p (o :: l) := ⟨h, k⟩
theorem AllO.at {p : Oper → Prop} : ∀ {l : List Oper} {i : Nat} {o : Oper}, AllO p l → l[i]? = some o → p o
 | [], i, o, _, h => by simp at h
 | x :: l, 0, o, h, k => by simp at k; subst k; exact h.1
 | x :: l, i + 1, o, h, k => h.2.at (by simpa using k)
theorem kD {T T' : Tmp → Value} : ∀ {L : List (Tmp × Value)}, (∀ p ∈ L, T p.1 = T' p.1) → zA T L → zA T' L
 | [], _, _ => trivial
 | p :: l, h, k => ⟨(h p (by simp)).symm.trans k.1, kD (fun q hq => h q (by simp [hq])) k.2⟩
def uT : List (Tmp × Value) → Bool
 | [] => true
 | p :: l => l.all (fun q => p.1 != q.1) && uT l
theorem jL : ∀ {L : List (Tmp × Value)}, uT L = true → zA (look L) L
 | [], _ => trivial
 | p :: l, h => by
  unfold uT at h;rw [κb, List.all_eq_true] at h;refine ⟨by unfold look; rw [if_pos rfl], kD (fun q hq => ?_) (jL h.2)⟩;show look l q.1 = look (p :: l) q.1
  rw [look, if_neg (by have := h.1 q hq; simpa using this)]
section
variable {P : Program} {ops : Array Oper} {Q : Exit → Act → World → Prop} {a0 : Act} {T : Tmp → Value} {N : List (Tmp × Value)} {W : World} {o o' : Oper}
def WantT (T : Tmp → Value) (N : List (Tmp × Value)) (o : Oper) (u : Value) : Prop := ∀ d, o.dst = some d → u = valT T N d
def RunT (P : Program) (T : Tmp → Value) (N : List (Tmp × Value)) (W : World) (o : Oper) : Prop :=
 (∃ u, (execOp (EvT T) o).run P W = .ok (.value u) W ∧ WantT T N o u) ∨ ∃ f args, (execOp (EvT T) o).run P W = .ok (.enter f args) W ∧ Calls P f args W fun e w' => ∃ u, e = .returned u ∧ WantT T N o u ∧ Below W.heap.size W w'
def OpT (P : Program) (ops : Array Oper) (T : Tmp → Value) (N : List (Tmp × Value)) (W : World) (o : Oper) : Prop :=
 match o.guard with
 | none => RunT P T N W o
 | some (j, want) => ∀ o' g, ops[j]? = some o' → o'.dst = some g → ∃ b, T g = .bool b ∧ (b = want → RunT P T N W o) ∧ (b ≠ want → WantT T N o undef)
theorem tR {d : Tmp} (h : (execOp (EvT T) o).run P W = .ok (.value (valT T N d)) W) (hd : o.dst = some d := by rfl) : RunT P T N W o :=
 .inl ⟨_, h, fun d' hd' => by rw [hd] at hd'; injection hd' with hd'; rw [hd']⟩
theorem oI {u : Value} (h : (execOp (EvT T) o).run P W = .ok (.value u) W) (hd : o.dst = none := by rfl) : RunT P T N W o :=
 .inl ⟨_, h, fun d' hd' => by rw [hd] at hd'; cases hd'⟩
theorem zO {d : Tmp} (f : FuncId) (args : Array Value) (h : (execOp (EvT T) o).run P W = .ok (.enter f args) W) (hc : Calls P f args W fun e w' => e = .returned (valT T N d) ∧ Below W.heap.size W w') (hd : o.dst = some d := by rfl) : RunT P T N W o :=
 .inr ⟨f, args, h, hc.mono fun e w' ⟨he, hb⟩ => ⟨_, he, fun d' hd' => by rw [hd] at hd'; injection hd' with hd'; rw [hd'], hb⟩⟩
theorem opT_r (h : RunT P T N W o) (hg : o.guard = none := by rfl) : OpT P ops T N W o := by unfold OpT; rw [hg]; exact h
theorem opT_g {j : Nat} {want : Bool} {g : Tmp} (hg : o.guard = some (j, want) := by rfl) (ho : ops[j]? = some o' := by rfl) (hd : o'.dst = some g := by rfl) (t : T g = .bool want) (h : RunT P T N W o) : OpT P ops T N W o := by
 unfold OpT;rw [hg];intro o'' g' ho'' hd'';rw [ho] at ho'';injection ho'' with ho''
 subst ho'';rw [hd] at hd'';injection hd'' with hd''
 subst hd'';exact ⟨_, t, fun _ => h, fun hn => absurd rfl hn⟩
theorem opT_s {j : Nat} {want : Bool} (b : Bool) {g d : Tmp} (hg : o.guard = some (j, want) := by rfl) (ho : ops[j]? = some o' := by rfl) (hd : o'.dst = some g := by rfl) (ho2 : o.dst = some d := by rfl) (t : T g = .bool b) (n : b ≠ want) (e : valT T N d = undef) : OpT P ops T N W o := by
 unfold OpT;rw [hg];intro o'' g' ho'' hd'';rw [ho] at ho'';injection ho'' with ho''
 subst ho'';rw [hd] at hd'';injection hd'' with hd''
 subst hd'';exact ⟨_, t, fun hn => absurd hn n, fun _ d' hd' => by rw [ho2] at hd'; injection hd' with hd'; rw [← hd', e]⟩
theorem oV {d : Tmp} (h : (execOp (EvT T) o).run P W = .ok (.value (valT T N d)) W) (hd : o.dst = some d := by rfl) (hg : o.guard = none := by rfl) : OpT P ops T N W o := opT_r (tR h hd) hg
theorem oN {u : Value} (h : (execOp (EvT T) o).run P W = .ok (.value u) W) (hd : o.dst = none := by rfl) (hg : o.guard = none := by rfl) : OpT P ops T N W o := opT_r (oI h hd) hg
theorem oG {j : Nat} {want : Bool} {g d : Tmp} (hg : o.guard = some (j, want) := by rfl) (ho : ops[j]? = some o' := by rfl) (hd : o'.dst = some g := by rfl) (hd2 : o.dst = some d := by rfl) (t : T g = .bool want) (h : (execOp (EvT T) o).run P W = .ok (.value (valT T N d)) W) : OpT P ops T N W o := opT_g hg ho hd t (tR h hd2)
def fromB (ops : Array Oper) (o : Oper) (d : Tmp) : Bool := o.after.any fun e => Region.binds .any e && match ops[e.on]? with
 | some o' => o'.dst == some d
 | none => false
def readB (ops : Array Oper) (outs : List Tmp) (N : List (Tmp × Value)) (i : Nat) (o : Oper) (d : Tmp) : Bool :=
 (outs.contains d && lateB ops i d) || (N.all (fun p => p.1 != d) && fromB ops o d)
def skipB (want : Bool) : Value → Bool
 | .bool b => b != want
 | _ => false
theorem iG {want : Bool} : ∀ {v : Value}, skipB want v = true → v = .bool (!want)
 | .bool b, h => by cases b <;> cases want <;> first | rfl | cases h
def kP (ops : Array Oper) (outs : List Tmp) (N : List (Tmp × Value)) (i : Nat) (o : Oper) : Bool := (match o.op with | .select _ _ => false | _ => true) && (o.op.operands.all fun x => match x with | .tmp d => readB ops outs N i o d | _ => true)
def okT (ops : Array Oper) (outs : List Tmp) (N : List (Tmp × Value)) (T : Tmp → Value) : Bool := (List.range ops.size).all fun i => match ops[i]? with
 | none => true
 | some o =>
  match o.guard with
  | none => kP ops outs N i o
  | some (j, want) => match ops[j]? with
   | some o' => match o'.dst with
    | some g => (N.all (fun p => p.1 != g) && o.after.any fun e => e.on == j && Region.binds .any e) && (kP ops outs N i o || skipB want (T g))
    | none => false
   | none => false
def putT (val : Tmp → Value) : List Oper → Act → Act
 | [], a => a
 | o :: l, a => putT val l (a.put o.dst (match o.dst with | some d => val d | none => undef))
theorem fH (val : Tmp → Value) (vs : Nat → Value) : ∀ (l : List Oper) (k : Nat) (a : Act), (∀ (j : Nat) (o : Oper), l[j]? = some o → ∀ d, o.dst = some d → vs (k + j) = val d) → qE l vs k a = putT val l a
 | [], _, _, _ => rfl
 | o :: l, k, a, h => by
  rw [qE, putT, fH val vs l (k + 1) _ (fun j o' hj d hd => by rw [show k + 1 + j = k + (j + 1) by omega]; exact h (j + 1) o' (by simpa using hj) d hd)]
  congr 1
  cases hd : o.dst with
  | none => rfl
  | some d => rw [show vs k = val d from h 0 o rfl d hd]
theorem fA {d : Tmp} : ∀ {N : List (Tmp × Value)}, N.all (fun p => p.1 != d) = true → valT T N d = T d
 | [], _ => rfl
 | p :: l, h => by
  rw [List.all_cons, κb] at h;rw [valT, if_neg (by simpa using h.1), fA h.2]
theorem zE {id : Nat} {w0 : World} (L N : List (Tmp × Value)) (outs : List Tmp)
  (hstep : ∀ T, zA T L → ∀ W, Below w0.heap.size w0 W → AllO (OpT P ops T N W) ops.toList)
  (hdone : ∀ w, Below w0.heap.size w0 w → Q .normal (putT (valT (look L) N) ops.toList a0) w)
  (hm : P.follows .mixedOrders = true := by kernel_rfl) (hok : (jU ops a0.tmps.size && okT ops outs N (look L) && uT L) = true := by kernel_rfl) (hout : outs.map (fun d => a0.tmps.getD d undef) = outs.map (look L) := by rfl) : (Code.region id ops true).wp P Q a0 w0 := by
 rw [κb, κb] at hok;obtain ⟨⟨hok, hT⟩, hnd⟩ := hok;have hL := jL hnd;obtain ⟨T, hTT⟩ : ∃ T, look L = T := ⟨_, rfl⟩;rw [hTT] at hdone hout hL hT;have hout' : ∀ d ∈ outs, a0.tmps.getD d undef = T d := fun d hd => by
  obtain ⟨n, hn⟩ := List.mem_iff_getElem?.1 hd;have := congrArg (·[n]?) hout;simp only [List.getElem?_map, hn, Option.map_some] at this;injection this
 refine dJ (fun _ j v _ => ∀ o, ops[j]? = some o → WantT T N o v) (fun _ W => Below w0.heap.size w0 W) hm hok (Below.refl _ _).drew ?_ fun done vs w _ hw hF => ?_
 ·intro i o ho done a w hni hcl hI hdep hrest;have hlt : i < ops.size := (κi ho).1;have hO : OpT P ops T N w o := (hstep T hL w hI).at (i := i) (by simpa using ho);unfold okT at hT;have hTi := List.all_eq_true.1 hT i (List.mem_range.2 hlt);rw [ho] at hTi;have hd1 : ∀ d, N.all (fun p => p.1 != d) = true → (∃ e ∈ o.after, Region.binds .any e = true ∧ ∃ o', ops[e.on]? = some o' ∧ o'.dst = some d) → a.tmps.getD d undef = T d := by
   rintro d hN ⟨e, he, hb, o', ho', hd⟩;have := ((hdep e he hb).2 o' ho').1 d hd;rw [this o' ho' d hd, fA hN]
  have hev : kP ops outs N i o = true → execOp a.eval o = execOp (EvT T) o := by
   intro hrd;unfold kP at hrd;rw [κb] at hrd;obtain ⟨hsel, hrd⟩ := hrd;refine execOp_congr o (fun cs b h => by rw [h] at hsel; cases hsel) fun x hx => ?_
   rw [Array.all_eq_true] at hrd;obtain ⟨k, hk, hxk⟩ := Array.mem_iff_getElem.1 hx;have := hrd k hk;rw [hxk] at this;cases x with
   | const v => rfl
   | global g => rfl
   | func f => rfl
   | tmp d =>
    show a.tmps.getD d undef = T d
    simp only [readB, Bool.or_eq_true, κb] at this;rcases this with ⟨h1, h2⟩ | ⟨h1, h2⟩
    ·rw [hrest d (kC h2 hni hcl)];exact hout' d (by simpa using h1)
    ·refine hd1 d h1 ?_;unfold fromB at h2;rw [Array.any_eq_true] at h2;obtain ⟨k, hk, h3⟩ := h2;rw [κb] at h3;obtain ⟨h3, h4⟩ := h3;cases he : ops[(o.after[k]).on]? with
     | none => rw [he] at h4; cases h4
     | some o' => rw [he] at h4; exact ⟨_, Array.getElem_mem hk, h3, o', he, by simpa using h4⟩
  have key : kP ops outs N i o = true → RunT P T N w o → ∀ (K : Act → World → Prop) (Q : Exit → Act → World → Prop), (∀ v w', Below w0.heap.size w0 w' → (∀ o', ops[i]? = some o' → WantT T N o' v) → K (a.put o.dst v) w') → o.wp P a w K Q := by
   intro hrd hR K Q hK;replace hev := hev hrd;have hw' : ∀ v, WantT T N o v → ∀ o', ops[i]? = some o' → WantT T N o' v := fun v hv o' ho' => by rw [ho] at ho'; injection ho' with ho'; exact ho' ▸ hv
   rcases hR with ⟨u, hrun, hu⟩ | ⟨f, args, hrun, hc⟩
   ·exact jD (by rw [hev]; exact hrun) (hK _ _ hI (hw' _ hu))
   ·refine jJ (R := fun v w' => WantT T N o v ∧ Below w.heap.size w w') (by rw [hev]; exact hrun) (hc.mono fun e w' ⟨u, he, hu, hb⟩ => ⟨_, he, hu, hb⟩) ?_;rintro v w' ⟨hv, hb⟩;exact hK _ _ (hI.trans (hb.mono hI.size)) (hw' _ hv)
  unfold OpT at hO;cases hg : o.guard with
  | none =>
   rw [hg] at hO;simp only [hg] at hTi;refine ⟨fun _ K Q hK => key hTi hO K Q fun v w' h1 h2 => hK v w' h1 h2 fun _ _ _ _ h => h, fun hw => ?_⟩;simp [Region.wanted, hg] at hw
  | some jw =>
   obtain ⟨j, want⟩ := jw;rw [hg] at hO;simp only [hg] at hTi;dsimp only at hO;cases hj : ops[j]? with
   | none => rw [hj] at hTi; cases hTi
   | some o' =>
    rw [hj] at hTi;dsimp only at hTi;cases hd : o'.dst with
    | none => rw [hd] at hTi; cases hTi
    | some g =>
     rw [hd] at hTi;dsimp only at hTi;rw [κb, κb, Array.any_eq_true, Bool.or_eq_true] at hTi;obtain ⟨⟨hN, k, hk, h3⟩, hsk⟩ := hTi;rw [κb] at h3;have hjk : (o.after[k]).on = j := by simpa using h3.1
     obtain ⟨b, hb, hO1, hO2⟩ := hO o' g hj hd;have hval : a.tmps.getD g undef = .bool b := (hd1 g hN ⟨_, Array.getElem_mem hk, h3.2, o', by rw [hjk]; exact hj, hd⟩).trans hb;have hwd := uB hg hj hd hval;refine ⟨fun hw K Q hK => ?_, fun hw => ⟨hI, fun o'' ho'' => ?_, fun _ _ _ h => h⟩⟩
     ·have hbw : b = want := by rw [hwd] at hw; simpa using hw
      rcases hsk with hrd | hsk
      ·exact key hrd (hO1 hbw) K Q fun v w' h1 h2 => hK v w' h1 h2 fun _ _ _ _ h => h
      ·have := hb.symm.trans (iG hsk);injection this with this
       rw [hbw] at this;cases want <;> cases this
     ·rw [ho] at ho'';injection ho'' with ho''
      subst ho'';exact hO2 (by rw [hwd] at hw; simpa using hw)
 ·have hpe := fH (valT T N) vs ops.toList 0 a0 (fun j o hj d hd => by
   rw [Nat.zero_add];have hjl := (List.getElem?_eq_some_iff.1 hj).1;exact hF j (by simpa using hjl) o (by simpa using hj) d hd)
  rw [hpe];exact hdone w hw
end
end Go.Proofs.YtkfhpefmmhljmaaGreatDoor
