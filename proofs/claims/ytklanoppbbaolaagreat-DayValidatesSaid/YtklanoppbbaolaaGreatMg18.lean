/- The text AnyR. -/
import Derived.Orders
import Derived.Test.YtklanoppbbaolaaGreatMg13
/- A drawn region of reads, and of calls that leave old memory as it was: the values told slot by slot, one form for every operation. No program is named here. -/
namespace Go.Proofs.YtklanoppbbaolaaGreat
open Go.RowKit
set_option linter.unusedVariables false
set_option linter.unusedSimpArgs false

/-- The operands' values, the slots' told by T. -/
def EvT (T : Tmp → Value) : Operand → Value
  | .tmp d => T d
  | .const v => v
  | .global g => .pointer (some ⟨g, 0, none⟩)
  | .func f => .func (.func f) #[] #[]
def look : List (Tmp × Value) → Tmp → Value
  | [], _ => undef
  | p :: l, d => if p.1 = d then p.2 else look l d
/-- What is written into d: N tells it where a later value differs from the one read. -/
def valT (T : Tmp → Value) : List (Tmp × Value) → Tmp → Value
  | [], d => T d
  | p :: l, d => if p.1 = d then p.2 else valT T l d
def HoldsT (T : Tmp → Value) : List (Tmp × Value) → Prop
  | [] => True
  | p :: l => T p.1 = p.2 ∧ HoldsT T l
def AllO (p : Oper → Prop) : List Oper → Prop
  | [] => True
  | o :: l => p o ∧ AllO p l
theorem AllO.nil {p : Oper → Prop} : AllO p [] := trivial
theorem AllO.cons {p : Oper → Prop} {o : Oper} {l : List Oper} (h : p o) (k : AllO p l) : AllO p (o :: l) := ⟨h, k⟩
theorem AllO.at {p : Oper → Prop} : ∀ {l : List Oper} {i : Nat} {o : Oper}, AllO p l → l[i]? = some o → p o
  | [], i, o, _, h => by simp at h
  | x :: l, 0, o, h, k => by simp at k; subst k; exact h.1
  | x :: l, i + 1, o, h, k => h.2.at (by simpa using k)
theorem holds_congr {T T' : Tmp → Value} : ∀ {L : List (Tmp × Value)}, (∀ p ∈ L, T p.1 = T' p.1) → HoldsT T L → HoldsT T' L
  | [], _, _ => trivial
  | p :: l, h, k => ⟨(h p (by simp)).symm.trans k.1, holds_congr (fun q hq => h q (by simp [hq])) k.2⟩
def nodupT : List (Tmp × Value) → Bool
  | [] => true
  | p :: l => l.all (fun q => p.1 != q.1) && nodupT l
theorem holds_look : ∀ {L : List (Tmp × Value)}, nodupT L = true → HoldsT (look L) L
  | [], _ => trivial
  | p :: l, h => by
    unfold nodupT at h
    rw [Bool.and_eq_true, List.all_eq_true] at h
    refine ⟨by unfold look; rw [if_pos rfl], holds_congr (fun q hq => ?_) (holds_look h.2)⟩
    show look l q.1 = look (p :: l) q.1
    rw [look, if_neg (by have := h.1 q hq; simpa using this)]
section
variable {P : Program} {ops : Array Oper} {Q : Exit → Act → World → Prop} {a0 : Act} {T : Tmp → Value} {N : List (Tmp × Value)} {W : World} {o o' : Oper}

def WantT (T : Tmp → Value) (N : List (Tmp × Value)) (o : Oper) (u : Value) : Prop := ∀ d, o.dst = some d → u = valT T N d
def RunT (P : Program) (T : Tmp → Value) (N : List (Tmp × Value)) (W : World) (o : Oper) : Prop :=
  (∃ u, (execOp (EvT T) o).run P W = .ok (.value u) W ∧ WantT T N o u) ∨ ∃ f args, (execOp (EvT T) o).run P W = .ok (.enter f args) W ∧ Calls P f args W fun e w' => ∃ u, e = .returned u ∧ WantT T N o u ∧ Below W.heap.size W w'
/-- What is asked of one operation. -/
def OpT (P : Program) (ops : Array Oper) (T : Tmp → Value) (N : List (Tmp × Value)) (W : World) (o : Oper) : Prop :=
  match o.guard with
  | none => RunT P T N W o
  | some (j, want) => ∀ o' g, ops[j]? = some o' → o'.dst = some g → ∃ b, T g = .bool b ∧ (b = want → RunT P T N W o) ∧ (b ≠ want → WantT T N o undef)
theorem runT_v {d : Tmp} (h : (execOp (EvT T) o).run P W = .ok (.value (valT T N d)) W) (hd : o.dst = some d := by rfl) : RunT P T N W o :=
  .inl ⟨_, h, fun d' hd' => by rw [hd] at hd'; injection hd' with hd'; rw [hd']⟩
theorem runT_n {u : Value} (h : (execOp (EvT T) o).run P W = .ok (.value u) W) (hd : o.dst = none := by rfl) : RunT P T N W o :=
  .inl ⟨_, h, fun d' hd' => by rw [hd] at hd'; cases hd'⟩
theorem runT_c {d : Tmp} (f : FuncId) (args : Array Value) (h : (execOp (EvT T) o).run P W = .ok (.enter f args) W) (hc : Calls P f args W fun e w' => e = .returned (valT T N d) ∧ Below W.heap.size W w') (hd : o.dst = some d := by rfl) : RunT P T N W o :=
  .inr ⟨f, args, h, hc.mono fun e w' ⟨he, hb⟩ => ⟨_, he, fun d' hd' => by rw [hd] at hd'; injection hd' with hd'; rw [hd'], hb⟩⟩
theorem opT_r (h : RunT P T N W o) (hg : o.guard = none := by rfl) : OpT P ops T N W o := by unfold OpT; rw [hg]; exact h
theorem opT_g {j : Nat} {want : Bool} {g : Tmp} (hg : o.guard = some (j, want) := by rfl) (ho : ops[j]? = some o' := by rfl) (hd : o'.dst = some g := by rfl) (t : T g = .bool want) (h : RunT P T N W o) : OpT P ops T N W o := by
  unfold OpT
  rw [hg]
  intro o'' g' ho'' hd''
  rw [ho] at ho''
  injection ho'' with ho''
  subst ho''
  rw [hd] at hd''
  injection hd'' with hd''
  subst hd''
  exact ⟨_, t, fun _ => h, fun hn => absurd rfl hn⟩
theorem opT_s {j : Nat} {want : Bool} (b : Bool) {g d : Tmp} (hg : o.guard = some (j, want) := by rfl) (ho : ops[j]? = some o' := by rfl) (hd : o'.dst = some g := by rfl) (ho2 : o.dst = some d := by rfl) (t : T g = .bool b) (n : b ≠ want) (e : valT T N d = undef) : OpT P ops T N W o := by
  unfold OpT
  rw [hg]
  intro o'' g' ho'' hd''
  rw [ho] at ho''
  injection ho'' with ho''
  subst ho''
  rw [hd] at hd''
  injection hd'' with hd''
  subst hd''
  exact ⟨_, t, fun hn => absurd hn n, fun _ d' hd' => by rw [ho2] at hd'; injection hd' with hd'; rw [← hd', e]⟩
theorem oV {d : Tmp} (h : (execOp (EvT T) o).run P W = .ok (.value (valT T N d)) W) (hd : o.dst = some d := by rfl) (hg : o.guard = none := by rfl) : OpT P ops T N W o := opT_r (runT_v h hd) hg
theorem oN {u : Value} (h : (execOp (EvT T) o).run P W = .ok (.value u) W) (hd : o.dst = none := by rfl) (hg : o.guard = none := by rfl) : OpT P ops T N W o := opT_r (runT_n h hd) hg
theorem oG {j : Nat} {want : Bool} {g d : Tmp} (hg : o.guard = some (j, want) := by rfl) (ho : ops[j]? = some o' := by rfl) (hd : o'.dst = some g := by rfl) (hd2 : o.dst = some d := by rfl) (t : T g = .bool want) (h : (execOp (EvT T) o).run P W = .ok (.value (valT T N d)) W) : OpT P ops T N W o := opT_g hg ho hd t (runT_v h hd2)
/-- Slot d was written by an operation that o waits for. -/
def fromB (ops : Array Oper) (o : Oper) (d : Tmp) : Bool := o.after.any fun e => Region.binds .any e && match ops[e.on]? with
  | some o' => o'.dst == some d
  | none => false
def readB (ops : Array Oper) (outs : List Tmp) (N : List (Tmp × Value)) (i : Nat) (o : Oper) (d : Tmp) : Bool :=
  (outs.contains d && lateB ops i d) || (N.all (fun p => p.1 != d) && fromB ops o d)
def skipB (want : Bool) : Value → Bool
  | .bool b => b != want
  | _ => false
theorem skip_of {want : Bool} : ∀ {v : Value}, skipB want v = true → v = .bool (!want)
  | .bool b, h => by cases b <;> cases want <;> first | rfl | cases h
def readsB (ops : Array Oper) (outs : List Tmp) (N : List (Tmp × Value)) (i : Nat) (o : Oper) : Bool := (match o.op with | .select _ _ => false | _ => true) && (o.op.operands.all fun x => match x with | .tmp d => readB ops outs N i o d | _ => true)
def okT (ops : Array Oper) (outs : List Tmp) (N : List (Tmp × Value)) (T : Tmp → Value) : Bool := (List.range ops.size).all fun i => match ops[i]? with
  | none => true
  | some o =>
    match o.guard with
    | none => readsB ops outs N i o
    | some (j, want) => match ops[j]? with
      | some o' => match o'.dst with
        | some g => (N.all (fun p => p.1 != g) && o.after.any fun e => e.on == j && Region.binds .any e) && (readsB ops outs N i o || skipB want (T g))
        | none => false
      | none => false
def putT (val : Tmp → Value) : List Oper → Act → Act
  | [], a => a
  | o :: l, a => putT val l (a.put o.dst (match o.dst with | some d => val d | none => undef))
theorem putT_eq (val : Tmp → Value) (vs : Nat → Value) : ∀ (l : List Oper) (k : Nat) (a : Act), (∀ (j : Nat) (o : Oper), l[j]? = some o → ∀ d, o.dst = some d → vs (k + j) = val d) → putAll l vs k a = putT val l a
  | [], _, _, _ => rfl
  | o :: l, k, a, h => by
    rw [putAll, putT, putT_eq val vs l (k + 1) _ (fun j o' hj d hd => by rw [show k + 1 + j = k + (j + 1) by omega]; exact h (j + 1) o' (by simpa using hj) d hd)]
    congr 1
    cases hd : o.dst with
    | none => rfl
    | some d => rw [show vs k = val d from h 0 o rfl d hd]
theorem valT_no {d : Tmp} : ∀ {N : List (Tmp × Value)}, N.all (fun p => p.1 != d) = true → valT T N d = T d
  | [], _ => rfl
  | p :: l, h => by
    rw [List.all_cons, Bool.and_eq_true] at h
    rw [valT, if_neg (by simpa using h.1), valT_no h.2]

theorem region_T {id : Nat} {w0 : World} (L N : List (Tmp × Value)) (outs : List Tmp)
    (hstep : ∀ T, HoldsT T L → ∀ W, Below w0.heap.size w0 W → AllO (OpT P ops T N W) ops.toList)
    (hdone : ∀ w, Below w0.heap.size w0 w → Q .normal (putT (valT (look L) N) ops.toList a0) w)
    (hm : P.follows .mixedOrders = true := by kernel_rfl) (hok : (regionWB ops a0.tmps.size && okT ops outs N (look L) && nodupT L) = true := by kernel_rfl) (hout : outs.map (fun d => a0.tmps.getD d undef) = outs.map (look L) := by rfl) : (Code.region id ops true).wp P Q a0 w0 := by
  rw [Bool.and_eq_true, Bool.and_eq_true] at hok
  obtain ⟨⟨hok, hT⟩, hnd⟩ := hok
  have hL := holds_look hnd
  obtain ⟨T, hTT⟩ : ∃ T, look L = T := ⟨_, rfl⟩
  rw [hTT] at hdone hout hL hT
  have hout' : ∀ d ∈ outs, a0.tmps.getD d undef = T d := fun d hd => by
    obtain ⟨n, hn⟩ := List.mem_iff_getElem?.1 hd
    have := congrArg (·[n]?) hout
    simp only [List.getElem?_map, hn, Option.map_some] at this
    injection this
  refine region_eachY (fun _ j v _ => ∀ o, ops[j]? = some o → WantT T N o v) (fun _ W => Below w0.heap.size w0 W) hm hok (Below.refl _ _).drew ?_ fun done vs w _ hw hF => ?_
  · intro i o ho done a w hni hcl hI hdep hrest
    have hlt : i < ops.size := (Array.getElem?_eq_some_iff.1 ho).1
    have hO : OpT P ops T N w o := (hstep T hL w hI).at (i := i) (by simpa using ho)
    unfold okT at hT
    have hTi := List.all_eq_true.1 hT i (List.mem_range.2 hlt)
    rw [ho] at hTi
    have hd1 : ∀ d, N.all (fun p => p.1 != d) = true → (∃ e ∈ o.after, Region.binds .any e = true ∧ ∃ o', ops[e.on]? = some o' ∧ o'.dst = some d) → a.tmps.getD d undef = T d := by
      rintro d hN ⟨e, he, hb, o', ho', hd⟩
      have := ((hdep e he hb).2 o' ho').1 d hd
      rw [this o' ho' d hd, valT_no hN]
    have hev : readsB ops outs N i o = true → execOp a.eval o = execOp (EvT T) o := by
      intro hrd
      unfold readsB at hrd
      rw [Bool.and_eq_true] at hrd
      obtain ⟨hsel, hrd⟩ := hrd
      refine execOp_congr o (fun cs b h => by rw [h] at hsel; cases hsel) fun x hx => ?_
      rw [Array.all_eq_true] at hrd
      obtain ⟨k, hk, hxk⟩ := Array.mem_iff_getElem.1 hx
      have := hrd k hk
      rw [hxk] at this
      cases x with
      | const v => rfl
      | global g => rfl
      | func f => rfl
      | tmp d =>
        show a.tmps.getD d undef = T d
        simp only [readB, Bool.or_eq_true, Bool.and_eq_true] at this
        rcases this with ⟨h1, h2⟩ | ⟨h1, h2⟩
        · rw [hrest d (late_notYet h2 hni hcl)]
          exact hout' d (by simpa using h1)
        · refine hd1 d h1 ?_
          unfold fromB at h2
          rw [Array.any_eq_true] at h2
          obtain ⟨k, hk, h3⟩ := h2
          rw [Bool.and_eq_true] at h3
          obtain ⟨h3, h4⟩ := h3
          cases he : ops[(o.after[k]).on]? with
          | none => rw [he] at h4; cases h4
          | some o' => rw [he] at h4; exact ⟨_, Array.getElem_mem hk, h3, o', he, by simpa using h4⟩
    have key : readsB ops outs N i o = true → RunT P T N w o → ∀ (K : Act → World → Prop) (Q : Exit → Act → World → Prop), (∀ v w', Below w0.heap.size w0 w' → (∀ o', ops[i]? = some o' → WantT T N o' v) → K (a.put o.dst v) w') → o.wp P a w K Q := by
      intro hrd hR K Q hK
      replace hev := hev hrd
      have hw' : ∀ v, WantT T N o v → ∀ o', ops[i]? = some o' → WantT T N o' v := fun v hv o' ho' => by rw [ho] at ho'; injection ho' with ho'; exact ho' ▸ hv
      rcases hR with ⟨u, hrun, hu⟩ | ⟨f, args, hrun, hc⟩
      · exact wp_of_value (by rw [hev]; exact hrun) (hK _ _ hI (hw' _ hu))
      · refine wp_of_enter (R := fun v w' => WantT T N o v ∧ Below w.heap.size w w') (by rw [hev]; exact hrun) (hc.mono fun e w' ⟨u, he, hu, hb⟩ => ⟨_, he, hu, hb⟩) ?_
        rintro v w' ⟨hv, hb⟩
        exact hK _ _ (hI.trans (hb.mono hI.size)) (hw' _ hv)
    unfold OpT at hO
    cases hg : o.guard with
    | none =>
      rw [hg] at hO
      simp only [hg] at hTi
      refine ⟨fun _ K Q hK => key hTi hO K Q fun v w' h1 h2 => hK v w' h1 h2 fun _ _ _ _ h => h, fun hw => ?_⟩
      simp [Region.wanted, hg] at hw
    | some jw =>
      obtain ⟨j, want⟩ := jw
      rw [hg] at hO
      simp only [hg] at hTi
      dsimp only at hO
      cases hj : ops[j]? with
      | none => rw [hj] at hTi; cases hTi
      | some o' =>
        rw [hj] at hTi
        dsimp only at hTi
        cases hd : o'.dst with
        | none => rw [hd] at hTi; cases hTi
        | some g =>
          rw [hd] at hTi
          dsimp only at hTi
          rw [Bool.and_eq_true, Bool.and_eq_true, Array.any_eq_true, Bool.or_eq_true] at hTi
          obtain ⟨⟨hN, k, hk, h3⟩, hsk⟩ := hTi
          rw [Bool.and_eq_true] at h3
          have hjk : (o.after[k]).on = j := by simpa using h3.1
          obtain ⟨b, hb, hO1, hO2⟩ := hO o' g hj hd
          have hval : a.tmps.getD g undef = .bool b := (hd1 g hN ⟨_, Array.getElem_mem hk, h3.2, o', by rw [hjk]; exact hj, hd⟩).trans hb
          have hwd := wanted_is hg hj hd hval
          refine ⟨fun hw K Q hK => ?_, fun hw => ⟨hI, fun o'' ho'' => ?_, fun _ _ _ h => h⟩⟩
          · have hbw : b = want := by rw [hwd] at hw; simpa using hw
            rcases hsk with hrd | hsk
            · exact key hrd (hO1 hbw) K Q fun v w' h1 h2 => hK v w' h1 h2 fun _ _ _ _ h => h
            · have := hb.symm.trans (skip_of hsk)
              injection this with this
              rw [hbw] at this
              cases want <;> cases this
          · rw [ho] at ho''
            injection ho'' with ho''
            subst ho''
            exact hO2 (by rw [hwd] at hw; simpa using hw)
  · have hpe := putT_eq (valT T N) vs ops.toList 0 a0 (fun j o hj d hd => by
      rw [Nat.zero_add]
      have hjl := (List.getElem?_eq_some_iff.1 hj).1
      exact hF j (by simpa using hjl) o (by simpa using hj) d hd)
    rw [hpe]
    exact hdone w hw
end
end Go.Proofs.YtklanoppbbaolaaGreat
