/- Texts in one: AnyY, LnA. -/
import Derived.Deep.QuietTactic
import Derived.BigQuiet
import Derived.BigGuardPart
import Derived.LoopTactic
import Derived.Deep.LoopGhost
import Derived.Deep.DeepCutAuto
import Derived.WalkMore
import Derived.Outline
import Derived.Test.YtklanoppbbaolaaGreatMg12
import Derived.Test.YtklanoppbbaolaaGreatMg10
import Derived.Test.YtklanoppbbaolaaGreatMg9
import Derived.Test.YtklanoppbbaolaaGreatMg1
import Derived.Test.YtklanoppbbaolaaGreatProg
/- A region whose order is drawn: a slot that is not yet written has its old value, also where an operation of the region writes it later. No program is named here. -/
namespace Go.Proofs.YtklanoppbbaolaaGreat
open Go.RowKit
set_option linter.unusedSimpArgs false
set_option linter.unusedVariables false

section
variable {P : Program} {ops : Array Oper} {Q : Exit → Act → World → Prop} {F : (Nat → Prop) → Nat → Value → World → Prop} {I : (Nat → Prop) → World → Prop} {a0 : Act}

def NotYet (ops : Array Oper) (done : Nat → Prop) (d : Tmp) : Prop := ∀ (j : Nat) (o : Oper), ops[j]? = some o → done j → o.dst ≠ some d
theorem NotYet.less {done : Nat → Prop} {i : Nat} {d : Tmp} (h : NotYet ops (more done i) d) : NotYet ops done d := fun j o hj hd => h j o hj (.inr hd)
structure YInv (ops : Array Oper) (F : (Nat → Prop) → Nat → Value → World → Prop) (I : (Nat → Prop) → World → Prop) (a0 : Act) (listed : Array Bool) (done : Nat → Prop) (a : Act) (w : World) : Prop where
  size : listed.size = ops.size
  listed : ∀ j, j < ops.size → (done j ↔ listed.getD j false = true)
  closed : Closed ops done
  defers : a.defers = a0.defers
  tmps : a.tmps.size = a0.tmps.size
  world : I done w
  did : ∀ (j : Nat) (o : Oper), ops[j]? = some o → done j → Did (F done) a w j o
  rest : ∀ d : Tmp, NotYet ops done d → a.tmps.getD d undef = a0.tmps.getD d undef

/-- What is asked of one operation. -/
def StepY (P : Program) (ops : Array Oper) (F : (Nat → Prop) → Nat → Value → World → Prop) (I : (Nat → Prop) → World → Prop) (a0 : Act) : Prop :=
  ∀ (i : Nat) (o : Oper), ops[i]? = some o → ∀ (done : Nat → Prop) (a : Act) (w : World), ¬ done i → Closed ops done → I done w → (∀ e ∈ o.after, Region.binds .any e = true → done e.on ∧ ∀ (o' : Oper), ops[e.on]? = some o' → Did (F done) a w e.on o') → (∀ d : Tmp, NotYet ops done d → a.tmps.getD d undef = a0.tmps.getD d undef) →
    (Region.wanted o (yielded ops a.tmps) = true → ∀ (K : Act → World → Prop) (Q : Exit → Act → World → Prop), (∀ v w', I (more done i) w' → F (more done i) i v w' → (∀ (j : Nat) (u : Value), done j → (∀ (o' : Oper) (d : Tmp), ops[j]? = some o' → o'.dst = some d → u = a.tmps.getD d undef) → F done j u w → F (more done i) j u w') → K (a.put o.dst v) w') → o.wp P a w K Q) ∧
    (Region.wanted o (yielded ops a.tmps) = false → I (more done i) w ∧ F (more done i) i undef w ∧ ∀ (j : Nat) (u : Value), done j → F done j u w → F (more done i) j u w)

theorem yinv_put {listed : Array Bool} {done : Nat → Prop} {a : Act} {w w' : World} {i : Nat} {o : Oper} {v : Value} (h : YInv ops F I a0 listed done a w) (ho : ops[i]? = some o) (hni : ¬ done i) (hdep : ∀ e ∈ o.after, Region.binds .any e = true → done e.on)
    (hds : ∀ d, o.dst = some d → d < a0.tmps.size) (hdj : ∀ (i j : Nat) (o o' : Oper) (d : Tmp), ops[i]? = some o → ops[j]? = some o' → o.dst = some d → o'.dst = some d → i = j)
    (hI : I (more done i) w') (hF : F (more done i) i v w') (hkeep : ∀ (j : Nat) (u : Value), done j → (∀ (o' : Oper) (d : Tmp), ops[j]? = some o' → o'.dst = some d → u = a.tmps.getD d undef) → F done j u w → F (more done i) j u w') : YInv ops F I a0 (listed.setIfInBounds i true) (more done i) (a.put o.dst v) w' := by
  have hlt : i < ops.size := (Array.getElem?_eq_some_iff.1 ho).1
  have hlist : ∀ j, j < ops.size → (more done i j ↔ (listed.setIfInBounds i true).getD j false = true) := fun j hj => by
    rw [listed_set _ _ _ (by rw [h.size]; exact hlt), ← h.listed j hj]
    exact ⟨fun e => e.imp (fun e => e.symm) id, fun e => e.imp (fun e => e.symm) id⟩
  have hcl : Closed ops (more done i) := fun j o' hj hd e he hb => by
    rcases hd with rfl | hd
    · rw [ho] at hj
      injection hj with hj
      subst hj
      exact .inr (hdep e he hb)
    · exact .inr (h.closed j o' hj hd e he hb)
  cases hd : o.dst with
  | none =>
    refine ⟨by simp [h.size], hlist, hcl, by rw [defers_put]; exact h.defers, by rw [size_put]; exact h.tmps, hI, fun j o' hj hl => ?_, fun d' hap => h.rest d' (hap.less)⟩
    rcases hl with rfl | hl
    · rw [ho] at hj
      injection hj with hj
      subst hj
      exact ⟨fun d hd' => (by rw [hd] at hd'; cases hd'), fun _ => ⟨v, hF⟩⟩
    · obtain ⟨h1, h2⟩ := h.did j o' hj hl
      exact ⟨fun d hd' => hkeep j _ hl (fun o'' d'' ho'' hd'' => by rw [hj] at ho''; injection ho'' with ho''; subst ho''; rw [hd'] at hd''; injection hd'' with hd''; subst hd''; rfl) (h1 d hd'), fun hn => (h2 hn).imp fun v hv => hkeep j v hl (fun o'' d'' ho'' hd'' => by rw [hj] at ho''; injection ho'' with ho''; subst ho''; rw [hn] at hd''; cases hd'') hv⟩
  | some d =>
    have hdl := hds d hd
    refine ⟨by simp [h.size], hlist, hcl, by rw [defers_put]; exact h.defers, by rw [size_put]; exact h.tmps, hI, fun j o' hj hl => ?_, fun d' hap => ?_⟩
    · rcases hl with rfl | hl
      · rw [ho] at hj
        injection hj with hj
        subst hj
        refine ⟨fun d' hd' => ?_, fun hn => ⟨v, hF⟩⟩
        rw [hd] at hd'
        injection hd' with hd'
        subst hd'
        rw [getD_put _ _ _ _ (by rw [h.tmps]; exact hdl), if_pos rfl]
        exact hF
      · have hij : i ≠ j := fun e => hni (e ▸ hl)
        obtain ⟨h1, h2⟩ := h.did j o' hj hl
        refine ⟨fun d' hd' => ?_, fun hn => (h2 hn).imp fun v hv => hkeep j v hl (fun o'' d'' ho'' hd'' => by rw [hj] at ho''; injection ho'' with ho''; subst ho''; rw [hn] at hd''; cases hd'') hv⟩
        rw [getD_put _ _ _ _ (by rw [h.tmps]; exact hdl), if_neg (fun e => hij (hdj i j o o' d ho hj hd (by rw [hd', e])))]
        exact hkeep j _ hl (fun o'' d'' ho'' hd'' => by rw [hj] at ho''; injection ho'' with ho''; subst ho''; rw [hd'] at hd''; injection hd'' with hd''; subst hd''; rfl) (h1 d' hd')
    · rw [getD_put _ _ _ _ (by rw [h.tmps]; exact hdl), if_neg (fun e => hap i o ho (.inl rfl) (by rw [hd, e]))]
      exact h.rest d' hap.less

theorem wpAny_invY (hac : ∀ (j : Nat) (o : Oper), ops[j]? = some o → ∀ e ∈ o.after, Region.binds .any e = true → e.on < j)
    (hds : ∀ (j : Nat) (o : Oper), ops[j]? = some o → ∀ d, o.dst = some d → d < a0.tmps.size) (hdj : ∀ (i j : Nat) (o o' : Oper) (d : Tmp), ops[i]? = some o → ops[j]? = some o' → o.dst = some d → o'.dst = some d → i = j)
    (hstep : StepY P ops F I a0) (hdone : ∀ (listed : Array Bool) (done : Nat → Prop) (a : Act) (w : World), YInv ops F I a0 listed done a w → (∀ j, j < ops.size → done j) → Q .normal a w) :
    ∀ (fuel : Nat) (listed : Array Bool) (done : Nat → Prop) (a : Act) (w : World), unlisted ops.size listed ≤ fuel → YInv ops F I a0 listed done a w → wpAny P .any ops Q fuel listed a w := by
  have fin : ∀ {listed : Array Bool} {done : Nat → Prop} {a : Act} {w : World}, YInv ops F I a0 listed done a w → (∀ j, j < ops.size → listed.getD j true = true) → Q .normal a w := fun {listed done a w} h hall => by
    refine hdone _ _ a w h fun j hj => (h.listed j hj).2 ?_
    rw [getD_ft _ _ (by rw [h.size]; exact hj)]
    exact hall j hj
  intro fuel
  induction fuel with
  | zero =>
    intro listed done a w hu h
    exact ⟨ready_none (all_of_unlisted hu), fin h (all_of_unlisted hu)⟩
  | succ fuel ih =>
    intro listed done a w hu h
    refine ⟨fun hr => fin h (ready_nilW h.size hac hr), fun i hi => ?_⟩
    rw [mem_ready] at hi
    obtain ⟨hli, o, ho, hdep⟩ := hi
    have hlt : i < ops.size := (Array.getElem?_eq_some_iff.1 ho).1
    have hni : ¬ done i := fun hd => by
      have := (h.listed i hlt).1 hd
      rw [getD_ft _ _ (by rw [h.size]; exact hlt), hli] at this
      cases this
    have hdd : ∀ e ∈ o.after, Region.binds .any e = true → done e.on := fun e he hb => (h.listed e.on (Nat.lt_trans (hac i o ho e he hb) hlt)).2 (hdep e he hb)
    have hs := hstep i o ho done a w hni h.closed h.world (fun e he hb => ⟨hdd e he hb, fun o' ho' => h.did e.on o' ho' (hdd e he hb)⟩) h.rest
    have hu' : unlisted ops.size (listed.setIfInBounds i true) ≤ fuel := by have := unlisted_set h.size hlt hli; omega
    unfold wpOp
    rw [ho]
    cases hw : Region.wanted o (yielded ops a.tmps) with
    | true =>
      simp only [hw, if_true]
      left
      exact hs.1 hw _ _ fun v w' hI hF hkeep => ih _ _ _ _ hu' (yinv_put h ho hni hdd (hds i o ho) hdj hI hF hkeep)
    | false =>
      simp only [hw, Bool.false_eq_true, if_false]
      obtain ⟨h1, h2, h3⟩ := hs.2 hw
      exact ih _ _ _ _ hu' (yinv_put h ho hni hdd (hds i o ho) hdj h1 h2 fun j u hd _ => h3 j u hd)

theorem yinv_done (hds : ∀ (j : Nat) (o : Oper), ops[j]? = some o → ∀ d, o.dst = some d → d < a0.tmps.size) (hdj : ∀ (i j : Nat) (o o' : Oper) (d : Tmp), ops[i]? = some o → ops[j]? = some o' → o.dst = some d → o'.dst = some d → i = j)
    (hdone : ∀ (done : Nat → Prop) (vs : Nat → Value) w, (∀ j, j < ops.size → done j) → I done w → (∀ j, j < ops.size → F done j (vs j) w) → Q .normal (putAll ops.toList vs 0 a0) w) (listed : Array Bool) (done : Nat → Prop) (a : Act) (w : World) (h : YInv ops F I a0 listed done a w) (hall : ∀ j, j < ops.size → done j) : Q .normal a w := by
  refine winv_done (F := F done) (I := I done) hds hdj (fun vs w hI hF => hdone done vs w hall hI hF) a w ⟨by simp, h.defers, h.tmps, h.world, fun j o hj _ => h.did j o hj (hall j (Array.getElem?_eq_some_iff.1 hj).1), fun d hap => h.rest d fun j o hj _ => hap j o hj⟩

theorem region_eachY {id : Nat} {w0 : World} (F : (Nat → Prop) → Nat → Value → World → Prop) (I : (Nat → Prop) → World → Prop) (hm : P.follows .mixedOrders = true) (hok : regionWB ops a0.tmps.size = true) (hI : I (fun _ => False) w0.drew) (hstep : StepY P ops F I a0)
    (hdone : ∀ (done : Nat → Prop) (vs : Nat → Value) w, (∀ j, j < ops.size → done j) → I done w → (∀ j, j < ops.size → F done j (vs j) w) → Q .normal (putAll ops.toList vs 0 a0) w) : (Code.region id ops true).wp P Q a0 w0 :=
  wp_region_any hm (wpAny_invY (regionW hok).1 (regionW hok).2.1 (regionW hok).2.2 hstep (yinv_done (regionW hok).2.1 (regionW hok).2.2 hdone) _ _ (fun _ => False) _ _ (unlisted_le _ _)
    ⟨by simp, fun j hj => ⟨fun h => h.elim, fun h => by simp [Array.getD, hj] at h⟩, fun _ _ _ h => h.elim, rfl, rfl, hI, fun _ _ _ h => h.elim, fun _ _ => rfl⟩)

/-- Whatever writes slot d comes after operation i, as one test. -/
def lateB (ops : Array Oper) (i : Nat) (d : Tmp) : Bool := (List.range ops.size).all fun n => match ops[n]? with
  | none => true
  | some o => decide (o.dst ≠ some d) || decide (n = i) || o.after.any fun e => decide (e.on = i) && Region.binds .any e
theorem late_notYet {done : Nat → Prop} {i : Nat} {d : Tmp} (h : lateB ops i d = true) (hni : ¬ done i) (hcl : Closed ops done) : NotYet ops done d := by
  intro j o hj hd e
  unfold lateB at h
  have h1 := List.all_eq_true.1 h j (List.mem_range.2 (Array.getElem?_eq_some_iff.1 hj).1)
  rw [hj] at h1
  simp only [Bool.or_eq_true, decide_eq_true_eq] at h1
  rcases h1 with (h1 | rfl) | h1
  · exact h1 e
  · exact hni hd
  · rw [Array.any_eq_true] at h1
    obtain ⟨k, hk, h2⟩ := h1
    rw [Bool.and_eq_true] at h2
    have h3 := of_decide_eq_true h2.1
    exact hni (h3 ▸ hcl j o hj hd _ (Array.getElem_mem hk) h2.2)
/-- One operation of a region of reads, and of calls that leave old memory as it was: the values are told. -/
def StepYB (P : Program) (ops : Array Oper) (val : Nat → Value) (a0 : Act) (w0 : World) : Prop :=
  ∀ (i : Nat) (o : Oper), ops[i]? = some o → ∀ (a : Act) (w : World), Below w0.heap.size w0 w → (∀ e ∈ o.after, Region.binds .any e = true → ∀ (o' : Oper) (d : Tmp), ops[e.on]? = some o' → o'.dst = some d → a.tmps.getD d undef = val e.on) → (∀ d : Tmp, lateB ops i d = true → a.tmps.getD d undef = a0.tmps.getD d undef) →
    (∀ (j : Nat) (want : Bool), o.guard = some (j, want) → ∀ (o' : Oper) (d : Tmp), ops[j]? = some o' → o'.dst = some d → ∀ b, a.tmps.getD d undef = .bool b → Region.wanted o (yielded ops a.tmps) = (b == want)) →
    (Region.wanted o (yielded ops a.tmps) = true → (execOp a.eval o).run P w = .ok (.value (val i)) w ∨ ∃ f args, (execOp a.eval o).run P w = .ok (.enter f args) w ∧ Calls P f args w fun e w' => e = .returned (val i) ∧ Below w.heap.size w w') ∧ (Region.wanted o (yielded ops a.tmps) = false → val i = undef)
theorem region_callsY {id : Nat} {w0 : World} (val : Nat → Value) (hm : P.follows .mixedOrders = true) (hok : regionWB ops a0.tmps.size = true) (hstep : StepYB P ops val a0 w0)
    (hdone : ∀ w, Below w0.heap.size w0 w → Q .normal (putAll ops.toList val 0 a0) w) : (Code.region id ops true).wp P Q a0 w0 := by
  refine region_eachY (fun _ j v _ => v = val j) (fun _ W => Below w0.heap.size w0 W) hm hok (Below.refl _ _).drew ?_ fun done vs w _ hw hF => ?_
  · intro i o ho done a w hni hcl hI hdep hrest
    obtain ⟨h1, h2⟩ := hstep i o ho a w hI (fun e he hb o' d ho' hd => ((hdep e he hb).2 o' ho').1 d hd) (fun d hd => hrest d (late_notYet hd hni hcl)) (fun j want hg o' d ho' hd b hb => wanted_is hg ho' hd hb)
    refine ⟨fun hw K Q hK => ?_, fun hw => ⟨hI, (h2 hw).symm, fun _ _ _ h => h⟩⟩
    rcases h1 hw with hrun | ⟨f, args, hrun, hc⟩
    · exact wp_of_value hrun (hK _ _ hI rfl fun _ _ _ _ h => h)
    · refine wp_of_enter (R := fun v w' => v = val i ∧ Below w.heap.size w w') hrun (hc.mono fun e w' ⟨he, hb⟩ => ⟨_, he, rfl, hb⟩) ?_
      rintro v w' ⟨rfl, hb⟩
      exact hK _ _ (hI.trans (hb.mono hI.size)) rfl fun _ _ _ _ h => h
  · rw [putAll_congr ops.toList vs val 0 a0 (fun j hj => by rw [Nat.zero_add]; exact hF j (by simpa using hj))]
    exact hdone w hw
end
end Go.Proofs.YtklanoppbbaolaaGreat
/- pylonlaw32.Long: some answer; if it is no, the lists are short. -/
namespace Go.Proofs.YtklanoppbbaolaaGreat
open Go.RowKit
set_option linter.unusedVariables false
set_option linter.unusedSimpArgs false
set_option maxRecDepth 100000
/-- Short lists of short curves. -/
def Shrt (us : List Un) (bs : List Bd) : Prop := us.length ≤ 12 ∧ bs.length ≤ 12 ∧ (∀ k, k < us.length → (us.getD k un0).steps.length ≤ 6) ∧ ∀ k, k < bs.length → (bs.getD k bd0).steps.length ≤ 6
def ShE (us : List Un) (bs : List Bd) (w : World) (e : Ending) (w' : World) : Prop := ∃ b : Bool, e = .returned (.bool b) ∧ (b = false → Shrt us bs) ∧ Below w.heap.size w w'
theorem ShE.yes {us : List Un} {bs : List Bd} {w w' : World} (hb : Below w.heap.size w w') : ShE us bs w (.returned (.bool true)) w' := ⟨true, rfl, (fun h => by cases h), hb⟩
theorem ShE.no {us : List Un} {bs : List Bd} {w w' : World} (h : Shrt us bs) (hb : Below w.heap.size w w') : ShE us bs w (.returned (.bool false)) w' := ⟨false, rfl, fun _ => h, hb⟩
set_option maxHeartbeats 8000000 in
theorem long32_any (nb : Int) (us : List Un) (bs : List Bd) (A1 A2 A3 A4 : Option Addr) (n1 n3 c1 c2 c3 c4 : Nat) (w : World) (h2 : RowR UnR 9 w w.heap.size A2 us) (h4 : RowR BdR 2 w w.heap.size A4 bs) :
    Calls Tryz.prog 95 #[.agg #[.int .i64 nb, .slice A1 n1 c1, .slice none 0 0, .slice A2 us.length c2, .slice A3 n3 c3, .slice A4 bs.length c4]] w (ShE us bs w) := by
  have HX : Hid (Box (w.alloc (.cells #[.int .i64 nb, .slice A1 n1 c1, .slice none 0 0, .slice A2 us.length c2, .slice A3 n3 c3, .slice A4 bs.length c4] 113)) w.heap.size [.int .i64 nb, .slice A1 n1 c1, .slice none 0 0, .slice A2 us.length c2, .slice A3 n3 c3, .slice A4 bs.length c4]) := Box.new w #[.int .i64 nb, .slice A1 n1 c1, .slice none 0 0, .slice A2 us.length c2, .slice A3 n3 c3, .slice A4 bs.length c4] 113
  have HB : Hid (Below w.heap.size w (w.alloc (.cells #[.int .i64 nb, .slice A1 n1 c1, .slice none 0 0, .slice A2 us.length c2, .slice A3 n3 c3, .slice A4 bs.length c4] 113))) := (Below.refl _ _).alloc (Nat.le_refl _) _
  have hz : w.heap.size < (w.alloc (.cells #[.int .i64 nb, .slice A1 n1 c1, .slice none 0 0, .slice A2 us.length c2, .slice A3 n3 c3, .slice A4 bs.length c4] 113)).heap.size := by simp
  have HU := Lib.hid h2
  have HD := Lib.hid h4
  clear h2 h4
  by_cases b1 : 30 < n1
  · have d2 : decide ((30 : Int) < (n1 : Int)) = true := decide_eq_true (by omega)
    go_enter Tryz.func95, Tryz.ntmps95
    go_wp2_with fail
    go_ret
    exact ShE.yes HB.out
  have d1 : decide ((30 : Int) < (n1 : Int)) = false := decide_eq_false (by omega)
  by_cases b2 : 12 < us.length
  · have d2 : decide ((12 : Int) < (us.length : Int)) = true := decide_eq_true (by omega)
    go_enter Tryz.func95, Tryz.ntmps95
    go_wp2_with fail
    go_ret
    exact ShE.yes HB.out
  have d2 : decide ((12 : Int) < (us.length : Int)) = false := decide_eq_false (by omega)
  by_cases b3 : 30 < n3
  · have d3 : decide ((30 : Int) < (n3 : Int)) = true := decide_eq_true (by omega)
    go_enter Tryz.func95, Tryz.ntmps95
    go_wp2_with fail
    go_ret
    exact ShE.yes HB.out
  have d3 : decide ((30 : Int) < (n3 : Int)) = false := decide_eq_false (by omega)
  by_cases b4 : 12 < bs.length
  · have d4 : decide ((12 : Int) < (bs.length : Int)) = true := decide_eq_true (by omega)
    go_enter Tryz.func95, Tryz.ntmps95
    go_wp2_with fail
    go_ret
    exact ShE.yes HB.out
  have d4 : decide ((12 : Int) < (bs.length : Int)) = false := decide_eq_false (by omega)
  go_enter Tryz.func95, Tryz.ntmps95
  go_wp2_with fail
  go_loopg [3] us.length (fun gk s wr => ∃ k : Nat, k + gk = us.length ∧ s = .int .i64 (k : Int) ∧ wr = (w.alloc (.cells #[.int .i64 nb, .slice A1 n1 c1, .slice none 0 0, .slice A2 us.length c2, .slice A3 n3 c3, .slice A4 bs.length c4] 113)) ∧ ∀ j, j < k → (us.getD j un0).steps.length ≤ 6)
  case atStart => exact ⟨0, by omega, rfl, rfl, fun j h => absurd h (by omega)⟩
  case round =>
    obtain ⟨k, hkg, rfl, rfl, hs⟩ := hrel
    have HS := Lib.hid hs
    clear hs
    cases gk with
    | zero =>
      obtain rfl : k = us.length := by omega
      clear hkg
      go_wp2_with fail
      go_loopg [4] bs.length (fun gk s wr => ∃ k : Nat, k + gk = bs.length ∧ s = .int .i64 (k : Int) ∧ wr = (w.alloc (.cells #[.int .i64 nb, .slice A1 n1 c1, .slice none 0 0, .slice A2 us.length c2, .slice A3 n3 c3, .slice A4 bs.length c4] 113)) ∧ ∀ j, j < k → (bs.getD j bd0).steps.length ≤ 6)
      case atStart => exact ⟨0, by omega, rfl, rfl, fun j h => absurd h (by omega)⟩
      case round =>
        obtain ⟨k, hkg, rfl, rfl, hs⟩ := hrel
        have HS2 := Lib.hid hs
        clear hs
        cases gk with
        | zero =>
          obtain rfl : k = bs.length := by omega
          clear hkg
          go_wp2_with fail
          go_ret
          exact ShE.no ⟨by omega, by omega, HS.out, HS2.out⟩ HB.out
        | succ g =>
          have hk : k < bs.length := by omega
          have HG := Lib.hid hkg
          clear hkg
          obtain ⟨b, off, cc, rfl, hb, hc1, hc2, hc3⟩ := HD.out.at_ k bd0 hk
          have HN : Hid ((bs.getD k bd0).steps.length ≤ 6 → ∀ j, j < k + 1 → (bs.getD j bd0).steps.length ≤ 6) := fun h j hj => by
            by_cases e : j = k
            · rw [e]; exact h
            · exact HS2.out j (by omega)
          generalize bs.getD k bd0 = h at *
          obtain ⟨Ax, cx, rfl, _, _⟩ := hc2
          have f0 := hc3 0 _ rfl
          have f1 := hc3 1 _ rfl
          rw [Nat.add_zero] at f0
          clear hc3 hc1
          have i2 : (k : Int) < (bs.length : Int) := by omega
          by_cases e1 : 6 < h.steps.length
          · have d1 : decide ((6 : Int) < (h.steps.length : Int)) = true := decide_eq_true (by omega)
            go_wp2_with fail
            go_ret
            exact ShE.yes HB.out
          have d1 : decide ((6 : Int) < (h.steps.length : Int)) = false := decide_eq_false (by omega)
          go_wp2_with fail
          go_roundg g
          case measure => omega
          case rel => exact ⟨k + 1, by have := HG.out; omega, by go_num, rfl, HN.out (by omega)⟩
    | succ g =>
      have hk : k < us.length := by omega
      have HG := Lib.hid hkg
      clear hkg
      obtain ⟨b, off, cc, rfl, hb, hc1, hc2, hc3⟩ := HU.out.at_ k un0 hk
      have HN : Hid ((us.getD k un0).steps.length ≤ 6 → ∀ j, j < k + 1 → (us.getD j un0).steps.length ≤ 6) := fun h j hj => by
        by_cases e : j = k
        · rw [e]; exact h
        · exact HS.out j (by omega)
      generalize us.getD k un0 = h at *
      obtain ⟨Ax, cx, rfl, _, _⟩ := hc2
      have f0 := hc3 0 _ rfl
      have f2 := hc3 2 _ rfl
      rw [Nat.add_zero] at f0
      clear hc3 hc1
      have i2 : (k : Int) < (us.length : Int) := by omega
      by_cases e1 : 6 < h.steps.length
      · have d1 : decide ((6 : Int) < (h.steps.length : Int)) = true := decide_eq_true (by omega)
        go_wp2_with fail
        go_ret
        exact ShE.yes HB.out
      have d1 : decide ((6 : Int) < (h.steps.length : Int)) = false := decide_eq_false (by omega)
      go_wp2_with fail
      go_roundg g
      case measure => omega
      case rel => exact ⟨k + 1, by have := HG.out; omega, by go_num, rfl, HN.out (by omega)⟩
end Go.Proofs.YtklanoppbbaolaaGreat
