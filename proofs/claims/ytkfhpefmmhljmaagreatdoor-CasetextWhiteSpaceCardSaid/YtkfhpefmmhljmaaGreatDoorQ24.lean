/- Texts in one: AnyC, CtU. -/
import Derived.Test.YtkfhpefmmhljmaaGreatDoorQ21
import Derived.Test.YtkfhpefmmhljmaaGreatDoorQ11
import Derived.Test.YtkfhpefmmhljmaaGreatDoorQ22
import Derived.Test.YtkfhpefmmhljmaaGreatDoorQ8
import Derived.Test.YtkfhpefmmhljmaaGreatDoorQ23
import Derived.Test.YtkfhpefmmhljmaaGreatDoorQ19
set_option linter.unusedVariables false
set_option linter.unusedSimpArgs false
set_option maxRecDepth 100000
/- AnyC -/
namespace Go.Proofs.YtkfhpefmmhljmaaGreatDoor
open Go.RowKit
section
variable {P : Program} {ops : Array Oper} {Q : Exit → Act → World → Prop} {a0 : Act} {X : Type}
def chainB (ops : Array Oper) (cs : List Nat) (cls ub : Nat → Nat) : Bool :=
 ((List.range ops.size).all fun i => decide (cs.length ≤ ub i) || (decide (cs.getD (ub i) ops.size = i)) || (List.range ops.size).any fun j => decide (i < j) && decide (ub j ≤ ub i) && match ops[j]? with
  | none => false
  | some o => o.after.any fun e => Region.binds .any e && decide (e.on = i)) &&
 ((List.range cs.length).all fun k => decide (cs.getD k 0 < ops.size) && decide (cls (cs.getD k 0) = k + 1) && (decide (k = 0) || match ops[cs.getD k 0]? with
  | none => false
  | some o => o.after.any fun e => Region.binds .any e && decide (e.on < cs.getD k 0) && decide (k ≤ cls e.on))) &&
 (List.range ops.size).all fun j => decide (cls j ≤ cs.length) && (decide (cls j = 0) || decide (cs.getD (cls j - 1) 0 = j) || match ops[j]? with
  | none => false
  | some o => o.after.any fun e => Region.binds .any e && decide (e.on < j) && decide (cls j ≤ cls e.on))
structure ChainE (cs : List Nat) (cls : Nat → Nat) (V : Nat → X → Nat → Value) (Inv : Nat → X → World → Prop) (ops : Array Oper) (a0 : Act) (done : Nat → Prop) (a : Act) (w : World) : Prop where
 size : a.tmps.size = a0.tmps.size
 fin : ∀ j, done j → j < ops.size
 late : ∀ d : Tmp, NotYet ops done d → a.tmps.getD d undef = a0.tmps.getD d undef
 st : ∃ (t : Nat) (x : X), t ≤ cs.length ∧ (∀ k, k < cs.length → (done (cs.getD k 0) ↔ k < t)) ∧ (∀ j, done j → cls j ≤ t) ∧ Inv t x w ∧ ∀ (j : Nat) (o : Oper) (d : Tmp), ops[j]? = some o → done j → o.dst = some d → a.tmps.getD d undef = V t x j
def StepCR (P : Program) (cs : List Nat) (cls ub : Nat → Nat) (V : Nat → X → Nat → Value) (Inv : Nat → X → World → Prop) (ops : Array Oper) (a0 : Act) : Prop :=
 ∀ (i : Nat) (o : Oper), ops[i]? = some o → (∀ k, k < cs.length → cs.getD k 0 ≠ i) → ∀ (a : Act) (w : World) (t : Nat) (x : X), Inv t x w → t ≤ cs.length → cls i ≤ t → t ≤ ub i →
  (∀ e ∈ o.after, Region.binds .any e = true → ∀ (o' : Oper) (d : Tmp), ops[e.on]? = some o' → o'.dst = some d → a.tmps.getD d undef = V t x e.on) → (∀ d : Tmp, lateB ops i d = true → a.tmps.getD d undef = a0.tmps.getD d undef) →
  (∀ (j : Nat) (want : Bool), o.guard = some (j, want) → ∀ (o' : Oper) (d : Tmp), ops[j]? = some o' → o'.dst = some d → ∀ b, a.tmps.getD d undef = .bool b → Region.wanted o (yielded ops a.tmps) = (b == want)) →
  (Region.wanted o (yielded ops a.tmps) = true → (execOp a.eval o).run P w = .ok (.value (V t x i)) w) ∧ (Region.wanted o (yielded ops a.tmps) = false → V t x i = undef)
def StepCC (P : Program) (cs : List Nat) (cls : Nat → Nat) (V : Nat → X → Nat → Value) (Inv : Nat → X → World → Prop) (ops : Array Oper) (a0 : Act) : Prop :=
 ∀ (k : Nat) (o : Oper), k < cs.length → ops[cs.getD k 0]? = some o → ∀ (a : Act) (w : World) (x : X), Inv k x w →
  (∀ e ∈ o.after, Region.binds .any e = true → ∀ (o' : Oper) (d : Tmp), ops[e.on]? = some o' → o'.dst = some d → a.tmps.getD d undef = V k x e.on) → (∀ d : Tmp, lateB ops (cs.getD k 0) d = true → a.tmps.getD d undef = a0.tmps.getD d undef) →
  Region.wanted o (yielded ops a.tmps) = true ∧ ∀ (K : Act → World → Prop) (Q : Exit → Act → World → Prop), (∀ v w' x', Inv (k + 1) x' w' → (∀ d, o.dst = some d → v = V (k + 1) x' (cs.getD k 0)) → (∀ j, j < ops.size → cls j ≤ k → V (k + 1) x' j = V k x j) → K (a.put o.dst v) w') → o.wp P a w K Q
theorem putAll_congrC (ops : List Oper) (vs us : Nat → Value) : ∀ (k : Nat) (a : Act), (∀ j (o : Oper) d, ops[j]? = some o → o.dst = some d → vs (k + j) = us (k + j)) → putAll ops vs k a = putAll ops us k a := by
 induction ops with
 | nil => intro k a _; rfl
 | cons o rest ih =>
  intro k a h;have e : a.put o.dst (vs k) = a.put o.dst (us k) := by
   cases hd : o.dst with
   | none => rfl
   | some d => rw [show vs k = us k from h 0 o d rfl hd]
  rw [putAll, putAll, e];exact ih _ _ fun j o' d hj hd => by
   have := h (j + 1) o' d (by simpa using hj) hd;rwa [show k + (j + 1) = k + 1 + j by omega] at this
theorem region_chain {id : Nat} {w0 : World} (cs : List Nat) (cls ub : Nat → Nat) (V : Nat → X → Nat → Value) (Inv : Nat → X → World → Prop) (x0 : X) (hm : P.follows .mixedOrders = true) (hok : regionWB ops a0.tmps.size = true) (hch : chainB ops cs cls ub = true)
  (h0 : Inv 0 x0 w0.drew) (hread : StepCR P cs cls ub V Inv ops a0) (hchain : StepCC P cs cls V Inv ops a0)
  (hdone : ∀ x w, Inv cs.length x w → Q .normal (putAll ops.toList (V cs.length x) 0 a0) w) : (Code.region id ops true).wp P Q a0 w0 := by
 have hds := (regionW hok).2.1;have hdj := (regionW hok).2.2;unfold chainB at hch;simp only [Bool.and_eq_true] at hch;obtain ⟨⟨hc0, hc1⟩, hc2⟩ := hch;have hcs : ∀ k, k < cs.length → cs.getD k 0 < ops.size ∧ cls (cs.getD k 0) = k + 1 ∧ (k = 0 ∨ ∃ o, ops[cs.getD k 0]? = some o ∧ ∃ e ∈ o.after, Region.binds .any e = true ∧ e.on < cs.getD k 0 ∧ k ≤ cls e.on) := fun k hk => by
  have h := List.all_eq_true.1 hc1 k (List.mem_range.2 hk);simp only [Bool.and_eq_true, Bool.or_eq_true, decide_eq_true_eq] at h;refine ⟨h.1.1, h.1.2, h.2.imp (fun h => h) fun h2 => ?_⟩;cases ho : ops[cs.getD k 0]? with
  | none => rw [ho] at h2; cases h2
  | some o =>
   rw [ho] at h2;obtain ⟨i, hi, h3⟩ := Array.any_eq_true.1 h2;simp only [Bool.and_eq_true, decide_eq_true_eq] at h3;exact ⟨o, rfl, _, Array.getElem_mem hi, h3.1.1, h3.1.2, h3.2⟩
 have hcl2 : ∀ j, j < ops.size → cls j ≤ cs.length ∧ (cls j = 0 ∨ cs.getD (cls j - 1) 0 = j ∨ ∃ o, ops[j]? = some o ∧ ∃ e ∈ o.after, Region.binds .any e = true ∧ e.on < j ∧ cls j ≤ cls e.on) := fun j hj => by
  have h := List.all_eq_true.1 hc2 j (List.mem_range.2 hj);simp only [Bool.and_eq_true, Bool.or_eq_true, decide_eq_true_eq] at h;refine ⟨h.1, ?_⟩;rcases h.2 with (h2 | h2) | h2
  ·exact .inl h2
  ·exact .inr (.inl h2)
  ·right; right;cases ho : ops[j]? with
   | none => rw [ho] at h2; cases h2
   | some o =>
    rw [ho] at h2;obtain ⟨i, hi, h3⟩ := Array.any_eq_true.1 h2;simp only [Bool.and_eq_true, decide_eq_true_eq] at h3;exact ⟨o, rfl, _, Array.getElem_mem hi, h3.1.1, h3.1.2, h3.2⟩
 -- whatever is known of class c behind the chain's operation c - 1
 have hinj : ∀ k k', k < cs.length → k' < cs.length → cs.getD k 0 = cs.getD k' 0 → k = k' := fun k k' hk hk' e => by
  have h1 := (hcs k hk).2.1;have h2 := (hcs k' hk').2.1;rw [e] at h1;omega
 have hub : ∀ (done : Nat → Prop), Closed ops done → ∀ t, t ≤ cs.length → (∀ k, k < cs.length → (done (cs.getD k 0) ↔ k < t)) → ∀ n i, n = ops.size - i → i < ops.size → ¬ done i → t ≤ ub i := by
  intro done hcl t htl htd n
  induction n using Nat.strongRecOn with
  | _ n ih =>
   intro i hn hi hni;have h := List.all_eq_true.1 hc0 i (List.mem_range.2 hi);simp only [Bool.or_eq_true, decide_eq_true_eq] at h;rcases h with (h | h) | h
   ·omega
   ·have hk : ub i < cs.length := by
     refine Nat.lt_of_not_le fun hge => ?_
     rw [List.getD_eq_getElem?_getD, List.getElem?_eq_none hge] at h;simp at h;omega
    have e : cs.getD (ub i) 0 = i := by
     rw [List.getD_eq_getElem?_getD, List.getElem?_eq_getElem hk] at h ⊢;exact h
    refine Nat.le_of_not_lt fun hlt => hni ?_
    have := (htd (ub i) hk).2 hlt;rwa [e] at this
   ·obtain ⟨j, hj, h2⟩ := List.any_eq_true.1 h;simp only [Bool.and_eq_true, decide_eq_true_eq] at h2;obtain ⟨⟨hij, hle⟩, h3⟩ := h2;have hjs := List.mem_range.1 hj;rw [Array.getElem?_eq_getElem hjs] at h3;obtain ⟨q, hq, h4⟩ := Array.any_eq_true.1 h3;simp only [Bool.and_eq_true, decide_eq_true_eq] at h4;have hnj : ¬ done j := fun hd => hni (h4.2 ▸ hcl j ops[j] (Array.getElem?_eq_getElem hjs) hd _ (Array.getElem_mem hq) h4.1)
    exact Nat.le_trans (ih (ops.size - j) (by omega) j rfl hjs hnj) hle
 refine region_eachE (fun _ _ _ _ => True) (fun _ _ => True) (ChainE cs cls V Inv ops a0) hm hok trivial
  ⟨rfl, (fun j h => h.elim), fun _ _ => rfl, 0, x0, Nat.zero_le _, (fun k hk => ⟨fun h => h.elim, fun h => absurd h (Nat.not_lt_zero _)⟩), (fun j h => h.elim), h0, fun _ _ _ _ h => h.elim⟩ ?_ ?_
 ·intro i o ho done a w hni hcl _ hE hdep _;obtain ⟨hsz, hfin, hlate, t, x, htl, htd, hct, hinv, hsl⟩ := hE;have hlt : i < ops.size := (Array.getElem?_eq_some_iff.1 ho).1;have hdone' : ∀ e ∈ o.after, Region.binds .any e = true → done e.on := fun e he hb => (hdep e he hb).1
  have hfin' : ∀ j, more done i j → j < ops.size := fun j h => h.elim (fun e => e ▸ hlt) (hfin j)
  have hlate' : ∀ (v : Value) (d : Tmp), NotYet ops (more done i) d → (a.put o.dst v).tmps.getD d undef = a0.tmps.getD d undef := fun v d hd => by
   cases hod : o.dst with
   | none => exact hlate d hd.less
   | some d' =>
    rw [getD_put _ _ _ _ (by rw [hsz]; exact hds i o ho d' hod), if_neg (fun e => hd i o ho (.inl rfl) (by rw [hod, e]))];exact hlate d hd.less
  have hold : ∀ (v : Value) (j : Nat) (o' : Oper) (d : Tmp), ops[j]? = some o' → done j → o'.dst = some d → (a.put o.dst v).tmps.getD d undef = a.tmps.getD d undef := fun v j o' d hj hd hd' => by
   cases hod : o.dst with
   | none => rfl
   | some d' =>
    rw [getD_put _ _ _ _ (by rw [hsz]; exact hds i o ho d' hod), if_neg (fun e => hni (by rw [hdj i j o o' d' ho hj hod (by rw [hd', e])]; exact hd))]
  have hnew : ∀ (v : Value) (d : Tmp), o.dst = some d → (a.put o.dst v).tmps.getD d undef = v := fun v d hod => by
   rw [hod, getD_put _ _ _ _ (by rw [hsz]; exact hds i o ho d hod), if_pos rfl]
  have hdeps : ∀ e ∈ o.after, Region.binds .any e = true → ∀ (o' : Oper) (d : Tmp), ops[e.on]? = some o' → o'.dst = some d → a.tmps.getD d undef = V t x e.on := fun e he hb o' d ho' hd => hsl e.on o' d ho' (hdone' e he hb) hd
  have hlates : ∀ d : Tmp, lateB ops i d = true → a.tmps.getD d undef = a0.tmps.getD d undef := fun d hd => hlate d (late_notYet hd hni hcl)
  by_cases hin : ∃ k, k < cs.length ∧ cs.getD k 0 = i
  ·obtain ⟨k, hk, rfl⟩ := hin;have hkt : k = t := by
    have h1 : ¬ k < t := fun h => hni ((htd k hk).2 h)
    rcases Nat.lt_or_ge t k with h2 | h2
    ·exfalso;obtain ⟨_, _, h3⟩ := hcs k hk;rcases h3 with h3 | ⟨o', ho', e, he, hb, _, hle⟩
     ·omega
     ·rw [ho] at ho'; injection ho' with ho'; subst ho'
      have := hct _ (hdone' e he hb);omega
    ·omega
   subst hkt;obtain ⟨hw, hst⟩ := hchain k o hk ho a w x hinv hdeps hlates;refine ⟨fun _ K Q' hK => hst K Q' fun v w' x' hinv' hv hstab => hK v w' trivial trivial (fun _ _ _ _ _ => trivial) ⟨by rw [size_put]; exact hsz, hfin', hlate' _, k + 1, x', hk, ?_, ?_, hinv', ?_⟩, fun hw' => by rw [hw] at hw'; cases hw'⟩
   ·intro k' hk';constructor
    ·rintro (h | h)
     ·rw [hinj k' k hk' hk h]; omega
     ·have := (htd k' hk').1 h; omega
    ·intro h;rcases Nat.lt_or_ge k' k with h2 | h2
     ·exact .inr ((htd k' hk').2 h2)
     ·obtain rfl : k' = k := by omega
      exact .inl rfl
   ·rintro j (rfl | hd)
    ·exact Nat.le_of_eq (hcs k hk).2.1
    ·exact Nat.le_succ_of_le (hct j hd)
   ·rintro j o' d hj (rfl | hd) hod
    ·rw [ho] at hj; injection hj with hj; subst hj
     rw [hnew _ d hod];exact hv d hod
    ·rw [hold _ j o' d hj hd hod, hsl j o' d hj hd hod];exact (hstab j (hfin j hd) (hct j hd)).symm
  ·have hne : ∀ k, k < cs.length → cs.getD k 0 ≠ i := fun k hk e => hin ⟨k, hk, e⟩
   have hci : cls i ≤ t := by
    obtain ⟨hle, h | h | ⟨o', ho', e, he, hb, _, hle'⟩⟩ := hcl2 i hlt
    ·omega
    ·by_cases hz : cls i = 0
     ·omega
     ·exact absurd h (hne _ (by omega))
    ·rw [ho] at ho'; injection ho' with ho'; subst ho'
     exact Nat.le_trans hle' (hct _ (hdone' e he hb))
   obtain ⟨h1, h2⟩ := hread i o ho hne a w t x hinv htl hci (hub done hcl t htl htd _ i rfl hlt hni) hdeps hlates (fun j want hg o' d ho' hd b hb => wanted_is hg ho' hd hb);have key : ∀ v, v = V t x i → ChainE cs cls V Inv ops a0 (more done i) (a.put o.dst v) w := fun v hv => by
    refine ⟨by rw [size_put]; exact hsz, hfin', hlate' _, t, x, htl, ?_, ?_, hinv, ?_⟩
    ·intro k hk;exact ⟨fun h => (htd k hk).1 (h.resolve_left (hne k hk)), fun h => .inr ((htd k hk).2 h)⟩
    ·rintro j (rfl | hd)
     ·exact hci
     ·exact hct j hd
    ·rintro j o' d hj (rfl | hd) hod
     ·rw [ho] at hj; injection hj with hj; subst hj
      rw [hnew _ d hod, hv]
     ·rw [hold _ j o' d hj hd hod];exact hsl j o' d hj hd hod
   exact ⟨fun hw K Q' hK => wp_of_value (h1 hw) (hK _ _ trivial trivial (fun _ _ _ _ _ => trivial) (key _ rfl)), fun hw => ⟨trivial, trivial, fun _ _ _ _ => trivial, key _ (h2 hw).symm⟩⟩
 ·intro done a vs w hd _ hE ha _;obtain ⟨hsz, hfin, hlate, t, x, htl, htd, hct, hinv, hsl⟩ := hE;have ht : t = cs.length := by
   rcases Nat.lt_or_ge t cs.length with h | h
   ·exact absurd ((htd t h).1 (hd _ (hcs t h).1)) (Nat.lt_irrefl _)
   ·omega
  subst ht;have := hdone x w hinv;rw [ha, putAll_congrC ops.toList vs (V cs.length x) 0 a0 (fun j o d hj hod => ?_)]
  ·exact this
  ·have hj' : ops[j]? = some o := by simpa using hj
   have hlt : j < ops.size := (Array.getElem?_eq_some_iff.1 hj').1;have hat := putAll_atW ops.toList vs d 0 j a0 o (fun o ho e he => by
    obtain ⟨n, hn⟩ := List.mem_iff_getElem?.1 ho;exact hds n o (by simpa using hn) e he) (fun i j o o' d hi hj he he' => hdj i j o o' d (by simpa using hi) (by simpa using hj) he he') hj hod
   rw [← ha] at hat;rw [← hat, Nat.zero_add];exact hsl j o d hj' (hd j hlt) hod
end
end Go.Proofs.YtkfhpefmmhljmaaGreatDoor
/- CtU -/
namespace Go.Proofs.YtkfhpefmmhljmaaGreatDoor
open Go.RowKit
set_option maxHeartbeats 1000000 in
theorem cMove_any (b : Nat) (s : ByteArray) (i nx er : Int) (w : World) (hB : Box w b [.string s, .int .i64 i, .int .i64 0]) :
  Calls Tryz.prog 100 #[.pointer (some ⟨b, 0, none⟩), .int .i64 nx, .int .i64 er] w fun e w' => e = .returned (.tuple #[]) ∧ Box w' b [.string s, .int .i64 (mvI er nx i), .int .i64 er] ∧ w.grownBy w' (some b) := by
 have HX := Lib.hid hB;obtain ⟨q0, s0, q1, s1, q2, s2⟩ := sqX3 hB;clear hB;by_cases h : er = 0
 ·subst h;have HF := Lib.hid ((HX.out.set1 2 (by simp) (.int .i64 0)).set1 1 (by simp) (.int .i64 nx));go_enter Tryz.func100, Tryz.ntmps100;go_wp2_with fail;exact bodyPost_end (v := .tuple #[]) (by simp [results, Tryz.results100, go_sem]) rfl ⟨rfl, HF.out, only_setCell (p := ⟨b, 1, none⟩) (only_setCell (p := ⟨b, 2, none⟩) (World.grownBy.refl _ _) (.inl rfl) _) (.inl rfl) _⟩
 ·have e0 : (er == 0) = false := beq_eq_false_iff_ne.2 h;have HM : Hid (mvI er nx i = i) := if_neg h;have HF := Lib.hid (HX.out.set1 2 (by simp) (.int .i64 er));clear h;go_enter Tryz.func100, Tryz.ntmps100;go_wp2_with fail;exact bodyPost_end (v := .tuple #[]) (by simp [results, Tryz.results100, go_sem]) rfl ⟨rfl, by rw [HM.out]; exact HF.out, only_setCell (p := ⟨b, 2, none⟩) (World.grownBy.refl _ _) (.inl rfl) _⟩
set_option maxHeartbeats 4000000 in
theorem cExpect_any (b : Nat) (s : Bytes) (k : Int) (rd : Rd) (w : World) (hs : SlOk s) (hl : s.length ≤ 1000000) (hk : k ≠ 4) (hR : RdR w b s rd) :
  Calls Tryz.prog 56 #[.pointer (some ⟨b, 0, none⟩), .int .u8 k] w (StepR b s (rTok s k rd) w) := by
 have hR0 := hR;obtain ⟨i, er, hB, h0, h1, h2, h3⟩ := hR.er;have HB := Lib.hid hB;obtain ⟨q0, s0, q1, s1, q2, s2⟩ := sqX3 hB;by_cases he : rd.e = 0
 ·obtain rfl := h0.2 he;obtain ⟨rfl, hi1, hi2⟩ := h3 he;have E : Hid (rTok s k rd = rMove rd (expT s rd.i k).1 (expT s rd.i k).2.2) := if_neg (by rw [he]; simp);have K1 := Lib.hid fun W => expect_any s rd.i k W hs ⟨hi1, hi2⟩ hl
  have hlt : b < w.heap.size := hB.lt (by simp);clear hB hR hR0 h0 h1 h2 h3 he;go_enter Tryz.func56, Tryz.ntmps56;go_wp2_with fail;refine region_tie (X := TkX) (w0 := w) { n := 9, m := 14, q := 15, V := fun ox jq => (match jq with | 0 => .pointer (some ⟨b, 0, none⟩) | 1 => .pointer (some ⟨b, 0, none⟩) | 2 => .pointer (some ⟨b, 0, none⟩) | 3 => .string (bstr s) | 4 => .pointer (some ⟨b, 0, none⟩) | 5 => .pointer (some ⟨b, 0, none⟩) | 6 => .pointer (some ⟨b, 1, none⟩) | 7 => .int .i64 rd.i | 8 => .int .u8 k | 9 => ox.elim undef (fun x => .tuple #[.agg #[.int .u8 x.k, .string x.t, .bool x.ng, .slice x.A x.l x.c, .bool x.ng', .slice x.A' x.l' x.c'], .int .i64 x.nx, .int .i64 x.er]) | 10 => ox.elim undef (fun x => .tuple #[.agg #[.int .u8 x.k, .string x.t, .bool x.ng, .slice x.A x.l x.c, .bool x.ng', .slice x.A' x.l' x.c'], .int .i64 x.nx, .int .i64 x.er]) | 11 => ox.elim undef (fun x => .agg #[.int .u8 x.k, .string x.t, .bool x.ng, .slice x.A x.l x.c, .bool x.ng', .slice x.A' x.l' x.c']) | 12 => ox.elim undef (fun x => .int .i64 x.nx) | 13 => ox.elim undef (fun x => .int .i64 x.er) | 14 => undef | 15 => undef | 16 => ox.elim undef (fun x => .int .i64 x.nx) | 17 => ox.elim undef (fun x => .int .i64 x.er) | _ => undef), dep := fun jq => ([9, 10, 11, 12, 13, 16, 17] : List Nat).contains jq, Post := fun x _ => MvP ((expT s rd.i k).1, (expT s rd.i k).2.2) x.nx x.er, zs := [.int .u8 0, .string ⟨#[]⟩, .bool false, .slice none 0 0, .bool false, .slice none 0 0], S := fun x => [.int .u8 x.k, .string x.t, .bool x.ng, .slice x.A x.l x.c, .bool x.ng', (Value.slice x.A' x.l' x.c')] } (by kernel_rfl) (by kernel_rfl) (by kernel_rfl) ?_ (fun _ _ _ _ h => h) ?_ ?_
  ·intro x jq hd;rcases jq with _ | _ | _ | _ | _ | _ | _ | _ | _ | _ | _ | _ | _ | _ | _ | _ | _ | _ | jq <;> first | rfl | exact absurd (show true = false from hd) (by decide)
  ·intro iq oq ho aq W ox hI hx hpo hdep hrest hgd;have hdep := @sqE _ _ _ _ hdep;have hgd := @sqG _ _ _ _ hgd;have hfn := sqF aq;rcases iq with _|_|_|_|_|_|_|_|_|_|_|_|_|_|_|_|_|_|iq
   ·cases ho;refine sqT 0 9 14 15 ?_;simp [go_sem, hrest 0 (by kernel_rfl)]
   ·cases ho;refine sqT 1 9 14 15 ?_;simp [go_sem, hdep ⟨0, .data⟩ (sqM 0 14)]
   ·cases ho;refine sqT 2 9 14 15 ?_;simp [go_sem, hdep ⟨1, .data⟩ (sqM 1 14)]
   ·cases ho;have c0 := (hI.cell (p := ⟨b, 0, none⟩) hlt).trans q0;refine sqT 3 9 14 15 ?_;simp [go_sem, hdep ⟨2, .data⟩ (sqM 2 14), c0]
   ·cases ho;refine sqT 4 9 14 15 ?_;simp [go_sem, hrest 0 (by kernel_rfl)]
   ·cases ho;refine sqT 5 9 14 15 ?_;simp [go_sem, hdep ⟨4, .data⟩ (sqM 4 14)]
   ·cases ho;refine sqT 6 9 14 15 ?_;simp [go_sem, hdep ⟨5, .data⟩ (sqM 5 14)]
   ·cases ho;have c1 := (hI.cell (p := ⟨b, 1, none⟩) hlt).trans q1;refine sqT 7 9 14 15 ?_;simp [go_sem, hdep ⟨6, .data⟩ (sqM 6 14), c1]
   ·cases ho;refine sqT 8 9 14 15 ?_;simp [go_sem, hrest 1 (by kernel_rfl)]
   ·cases ho;refine ⟨fun _ => ⟨fun _ => ⟨121, #[.string (bstr s), .int .i64 rd.i, .int .u8 k], ?_, (K1.out W).mono fun e w' ⟨hb, k', t, ng, A, l, c, ng', A', l', c', nx, er, he, hP, hK⟩ => ⟨⟨k', t, ng, A, l, c, ng', A', l', c', nx, er⟩, he, hP.mv hK hk, hb⟩⟩, sqN 9 14, sqN 9 15, fun h => absurd rfl h⟩, nofun⟩;simp [go_sem, hdep ⟨3, .data⟩ (sqM 3 14), hdep ⟨7, .data⟩ (sqM 7 14), hdep ⟨8, .data⟩ (sqM 8 14), hfn]
   ·cases ho;obtain ⟨x, rfl⟩ := hx rfl (sqM 10 9);refine sqT 10 9 14 15 ?_;simp [go_sem, hdep ⟨9, .data⟩ (sqM 9 14)]
   ·cases ho;obtain ⟨x, rfl⟩ := hx rfl (sqM 11 9);refine sqT 11 9 14 15 ?_;simp [go_sem, hdep ⟨10, .data⟩ (sqM 10 14)]
   ·cases ho;obtain ⟨x, rfl⟩ := hx rfl (sqM 12 9);refine sqT 12 9 14 15 ?_;simp [go_sem, hdep ⟨10, .data⟩ (sqM 10 14)]
   ·cases ho;obtain ⟨x, rfl⟩ := hx rfl (sqM 13 9);refine sqT 13 9 14 15 ?_;simp [go_sem, hdep ⟨10, .data⟩ (sqM 10 14)]
   ·cases ho;clear hrest hdep hgd;exact ⟨fun _ => ⟨sqN 14 9, fun _ => ⟨_, rfl⟩, sqN 14 15, fun _ h => absurd rfl h⟩, nofun⟩
   ·cases ho;clear hrest;refine ⟨fun _ => ⟨sqN 15 9, sqN 15 14, fun _ x gg hox h1 h2 hbox hgg => ?_, fun _ _ h => absurd rfl h⟩, nofun⟩;subst hox;have d14 : aq.eval (.tmp 4) = .pointer (some ⟨gg, 0, none⟩) := hgg _ _ rfl rfl;have d11 : aq.eval (.tmp 23) = .agg #[.int .u8 x.k, .string x.t, .bool x.ng, .slice x.A x.l x.c, .bool x.ng', .slice x.A' x.l' x.c'] := hdep ⟨11, .data⟩ (sqM 11 14);clear hdep hgd;obtain ⟨b0, c0, b1, c1, b2, c2, b3, c3, b4, c4, b5, c5⟩ := sqX6 hbox;refine ⟨?_, hpo x rfl, rfl⟩;clear hI hpo hx hbox hgg;generalize aq.eval = ρ at *;simp [go_sem, d14, d11, b0, c0, b1, c1, b2, c2, b3, c3, b4, c4, b5, c5]
    try rfl
   ·cases ho;obtain ⟨x, rfl⟩ := hx rfl (sqM 16 9);refine sqT 16 9 14 15 ?_;simp [go_sem, hdep ⟨12, .data⟩ (sqM 12 14)]
   ·cases ho;obtain ⟨x, rfl⟩ := hx rfl (sqM 17 9);refine sqT 17 9 14 15 ?_;simp [go_sem, hdep ⟨13, .data⟩ (sqM 13 14)]
   ·simp at ho
  intro x g wx hb hP hG;simp (decide := true) only [putAll, Act.put, List.setIfInBounds_toArray, List.set_cons_zero, List.set_cons_succ, Nat.reduceAdd, Option.elim, if_true, if_false];replace hP : (fun x _ => MvP ((expT s rd.i k).1, (expT s rd.i k).2.2) x.nx x.er) x wx := hP
  (try dsimp only at hP)
  obtain ⟨hg1, hg2, hg3⟩ : w.heap.size ≤ g ∧ g < wx.heap.size ∧ Box wx g [.int .u8 x.k, .string x.t, .bool x.ng, .slice x.A x.l x.c, .bool x.ng', (Value.slice x.A' x.l' x.c')] := ⟨(hG (show (14 : Nat) < 18 by decide)).1, (hG (show (14 : Nat) < 18 by decide)).2.1, (hG (show (14 : Nat) < 18 by decide)).2.2 (show (15 : Nat) < 18 by decide)⟩;clear hG;have HBX := Lib.hid (HB.out.up hb hlt);have HW := Lib.hid (grown_below (b := b) hb);have HP := Lib.hid hP;have HL := Lib.hid (fun h => expT_le s rd.i k h);clear K1 HB hb hg1 hg2 hg3 hP q0 q1 q2 s0 s1 s2;obtain ⟨xk, xt, xng, xA, xl, xc, xng', xA', xl', xc', nx, er⟩ := x;go_wp2_with fail;refine (cMove_any b (bstr s) rd.i nx er _ HBX.out).mono ?_;rintro e w2 ⟨rfl, hB2, hg2⟩;go_wp2_with fail;exact bodyPost_end (v := .tuple #[]) (by simp [results, Tryz.results56, go_sem]) rfl ⟨rfl, by rw [E.out]; exact RdR.move hB2 HP.out HL.out hl, grown_trans HW.out hg2⟩
 ·have E : Hid (rTok s k rd = rd) := if_pos he;have e0 : (er == 0) = false := beq_eq_false_iff_ne.2 fun h => he (h0.1 h)
  have e1 : (er != 0) = true := bne_iff_ne.2 fun h => he (h0.1 h)
  have HR := Lib.hid hR0;clear hB hR hR0 h0 h1 h2 h3 he;go_enter Tryz.func56, Tryz.ntmps56;go_wp2_with fail;exact bodyPost_end (v := .tuple #[]) (by simp [results, Tryz.results56, go_sem]) rfl ⟨rfl, by rw [E.out]; exact HR.out, World.grownBy.refl _ _⟩
set_option maxHeartbeats 4000000 in
theorem cInteger_any (b : Nat) (s : Bytes)  (rd : Rd) (w : World) (hs : SlOk s) (hl : s.length ≤ 1000000)  (hR : RdR w b s rd) :
  Calls Tryz.prog 114 #[.pointer (some ⟨b, 0, none⟩)] w (IntR b s (rInt s rd) w) := by
 have hR0 := hR;obtain ⟨i, er, hB, h0, h1, h2, h3⟩ := hR.er;have HB := Lib.hid hB;obtain ⟨q0, s0, q1, s1, q2, s2⟩ := sqX3 hB;by_cases he : rd.e = 0
 ·obtain rfl := h0.2 he;obtain ⟨rfl, hi1, hi2⟩ := h3 he;have E : Hid (rInt s rd = ((expI s rd.i).2.1, rMove rd (expI s rd.i).1 (expI s rd.i).2.2)) := if_neg (by rw [he]; simp);have K1 := Lib.hid fun W => expectInt_any s rd.i W hs ⟨hi1, hi2⟩ hl
  have hlt : b < w.heap.size := hB.lt (by simp);clear hB hR hR0 h0 h1 h2 h3 he;go_enter Tryz.func114, Tryz.ntmps114;go_wp2_with fail;refine region_tie (X := Int × Int × Int) (w0 := w) { n := 8, m := 1000, q := 1000, V := fun ox jq => (match jq with | 0 => .pointer (some ⟨b, 0, none⟩) | 1 => .pointer (some ⟨b, 0, none⟩) | 2 => .pointer (some ⟨b, 0, none⟩) | 3 => .string (bstr s) | 4 => .pointer (some ⟨b, 0, none⟩) | 5 => .pointer (some ⟨b, 0, none⟩) | 6 => .pointer (some ⟨b, 1, none⟩) | 7 => .int .i64 rd.i | 8 => ox.elim undef (fun x => .tuple #[.int .i64 x.1, .int .i64 x.2.1, .int .i64 x.2.2]) | 9 => ox.elim undef (fun x => .tuple #[.int .i64 x.1, .int .i64 x.2.1, .int .i64 x.2.2]) | 10 => ox.elim undef (fun x => .int .i64 x.1) | 11 => ox.elim undef (fun x => .int .i64 x.2.1) | 12 => ox.elim undef (fun x => .int .i64 x.2.2) | 13 => ox.elim undef (fun x => .int .i64 x.1) | 14 => ox.elim undef (fun x => .int .i64 x.2.1) | 15 => ox.elim undef (fun x => .int .i64 x.2.2) | _ => undef), dep := fun jq => ([8, 9, 10, 11, 12, 13, 14, 15] : List Nat).contains jq, Post := fun x _ => IntP (expI s rd.i) x.1 x.2.1 x.2.2, zs := [], S := fun x => [] } (by kernel_rfl) (by kernel_rfl) (by kernel_rfl) ?_ (fun _ _ _ _ h => h) ?_ ?_
  ·intro x jq hd;rcases jq with _ | _ | _ | _ | _ | _ | _ | _ | _ | _ | _ | _ | _ | _ | _ | _ | jq <;> first | rfl | exact absurd (show true = false from hd) (by decide)
  ·intro iq oq ho aq W ox hI hx hpo hdep hrest hgd;have hdep := @sqE _ _ _ _ hdep;have hfn := sqF aq;rcases iq with _|_|_|_|_|_|_|_|_|_|_|_|_|_|_|_|iq
   ·cases ho;refine sqT 0 8 1000 1000 ?_;simp [go_sem, hrest 0 (by kernel_rfl)]
   ·cases ho;refine sqT 1 8 1000 1000 ?_;simp [go_sem, hdep ⟨0, .data⟩ (sqM 0 1000)]
   ·cases ho;refine sqT 2 8 1000 1000 ?_;simp [go_sem, hdep ⟨1, .data⟩ (sqM 1 1000)]
   ·cases ho;have c0 := (hI.cell (p := ⟨b, 0, none⟩) hlt).trans q0;refine sqT 3 8 1000 1000 ?_;simp [go_sem, hdep ⟨2, .data⟩ (sqM 2 1000), c0]
   ·cases ho;refine sqT 4 8 1000 1000 ?_;simp [go_sem, hrest 0 (by kernel_rfl)]
   ·cases ho;refine sqT 5 8 1000 1000 ?_;simp [go_sem, hdep ⟨4, .data⟩ (sqM 4 1000)]
   ·cases ho;refine sqT 6 8 1000 1000 ?_;simp [go_sem, hdep ⟨5, .data⟩ (sqM 5 1000)]
   ·cases ho;have c1 := (hI.cell (p := ⟨b, 1, none⟩) hlt).trans q1;refine sqT 7 8 1000 1000 ?_;simp [go_sem, hdep ⟨6, .data⟩ (sqM 6 1000), c1]
   ·cases ho;refine ⟨fun _ => ⟨fun _ => ⟨166, #[.string (bstr s), .int .i64 rd.i], ?_, (K1.out W).mono fun e w' ⟨hb, n, nx, er, he, hP⟩ => ⟨(n, nx, er), he, hP, hb⟩⟩, sqN 8 1000, sqN 8 1000, fun h => absurd rfl h⟩, nofun⟩;simp [go_sem, hdep ⟨3, .data⟩ (sqM 3 1000), hdep ⟨7, .data⟩ (sqM 7 1000), hfn]
   ·cases ho;obtain ⟨x, rfl⟩ := hx rfl (sqM 9 8);refine sqT 9 8 1000 1000 ?_;simp [go_sem, hdep ⟨8, .data⟩ (sqM 8 1000)]
   ·cases ho;obtain ⟨x, rfl⟩ := hx rfl (sqM 10 8);refine sqT 10 8 1000 1000 ?_;simp [go_sem, hdep ⟨9, .data⟩ (sqM 9 1000)]
   ·cases ho;obtain ⟨x, rfl⟩ := hx rfl (sqM 11 8);refine sqT 11 8 1000 1000 ?_;simp [go_sem, hdep ⟨9, .data⟩ (sqM 9 1000)]
   ·cases ho;obtain ⟨x, rfl⟩ := hx rfl (sqM 12 8);refine sqT 12 8 1000 1000 ?_;simp [go_sem, hdep ⟨9, .data⟩ (sqM 9 1000)]
   ·cases ho;obtain ⟨x, rfl⟩ := hx rfl (sqM 13 8);refine sqT 13 8 1000 1000 ?_;simp [go_sem, hdep ⟨10, .data⟩ (sqM 10 1000)]
   ·cases ho;obtain ⟨x, rfl⟩ := hx rfl (sqM 14 8);refine sqT 14 8 1000 1000 ?_;simp [go_sem, hdep ⟨11, .data⟩ (sqM 11 1000)]
   ·cases ho;obtain ⟨x, rfl⟩ := hx rfl (sqM 15 8);refine sqT 15 8 1000 1000 ?_;simp [go_sem, hdep ⟨12, .data⟩ (sqM 12 1000)]
   ·simp at ho
  intro x g wx hb hP hG;simp (decide := true) only [putAll, Act.put, List.setIfInBounds_toArray, List.set_cons_zero, List.set_cons_succ, Nat.reduceAdd, Option.elim, if_true, if_false];replace hP : (fun x _ => IntP (expI s rd.i) x.1 x.2.1 x.2.2) x wx := hP
  (try dsimp only at hP)
  clear hG;have HBX := Lib.hid (HB.out.up hb hlt);have HW := Lib.hid (grown_below (b := b) hb);have HP := Lib.hid hP;have HL := Lib.hid (fun h => expI_le s rd.i h);clear K1 HB hb hP q0 q1 q2 s0 s1 s2;obtain ⟨n, nx, er⟩ := x;go_wp2_with fail;refine (cMove_any b (bstr s) rd.i nx er _ HBX.out).mono ?_;rintro e w2 ⟨rfl, hB2, hg2⟩;go_wp2_with fail;refine bodyPost_ret (v := .int .i64 n) (by simp [results, Tryz.results114, go_sem]) rfl ⟨by rw [E.out]; exact ret_int HP.out.1, by rw [E.out]; exact RdR.move (r := ((expI s rd.i).1, (expI s rd.i).2.2)) hB2 HP.out.2 HL.out hl, grown_trans HW.out hg2⟩
 ·have E : Hid (rInt s rd = (0, rd)) := if_pos he;have e0 : (er == 0) = false := beq_eq_false_iff_ne.2 fun h => he (h0.1 h)
  have e1 : (er != 0) = true := bne_iff_ne.2 fun h => he (h0.1 h)
  have HR := Lib.hid hR0;clear hB hR hR0 h0 h1 h2 h3 he;go_enter Tryz.func114, Tryz.ntmps114;go_wp2_with fail;exact bodyPost_ret (v := .int .i64 0) (by simp [results, Tryz.results114, go_sem]) rfl ⟨by rw [E.out], by rw [E.out]; exact HR.out, World.grownBy.refl _ _⟩
set_option maxHeartbeats 4000000 in
theorem cOpen_any (b : Nat) (s : Bytes) (y : Bytes) (rd : Rd) (w : World) (hs : SlOk s) (hl : s.length ≤ 1000000) (hR : RdR w b s rd) :
  Calls Tryz.prog 45 #[.pointer (some ⟨b, 0, none⟩), .string (bstr y)] w (StepR b s (rOpen s y rd) w) := by
 have K1 := Lib.hid (cExpect_any b s 1 rd w hs hl (by decide) hR);unfold rOpen;generalize rTok s 1 rd = rd1 at *;clear hR;go_enter Tryz.func45, Tryz.ntmps45;go_wp2_with fail;refine K1.out.mono ?_;rintro e w1 ⟨rfl, hR1, hg1⟩;have hR0 := hR1;obtain ⟨i, er, hB, h0, h1, h2, h3⟩ := hR1.er;have HB := Lib.hid hB;obtain ⟨q0, s0, q1, s1, q2, s2⟩ := sqX3 hB;have HW1 := Lib.hid hg1;clear hg1 K1;by_cases he : rd1.e = 0
 ·obtain rfl := h0.2 he;obtain ⟨rfl, hi1, hi2⟩ := h3 he;have E : Hid (rWord s y rd1 = rMove rd1 (expW s rd1.i y).1 (expW s rd1.i y).2) := if_neg (by rw [he]; simp);have K2 := Lib.hid fun W => expectWord_any s rd1.i y W hs ⟨hi1, hi2⟩ hl
  have K3 := Lib.hid fun nx er W h => cMove_any b (bstr s) rd1.i nx er W h
  have HL := Lib.hid (fun h => expW_le s rd1.i y h);have hlt : b < w1.heap.size := hB.lt (by simp);clear hB hR1 hR0 h0 h1 h2 h3 he;go_wp2_with fail;refine region_chain (X := Int × Int) (w0 := w1) [10, 13] (fun jq => [0, 0, 0, 0, 0, 0, 0, 0, 0, 0, 1, 1, 1, 2].getD jq 0) (fun jq => [1, 0, 0, 0, 0, 0, 0, 0, 0, 0, 0, 1, 1, 1].getD jq 0) (fun _ x jq => (match jq with | 0 => .pointer (some ⟨b, 0, none⟩) | 1 => .pointer (some ⟨b, 0, none⟩) | 2 => .pointer (some ⟨b, 0, none⟩) | 3 => .pointer (some ⟨b, 0, none⟩) | 4 => .string (bstr s) | 5 => .pointer (some ⟨b, 0, none⟩) | 6 => .pointer (some ⟨b, 0, none⟩) | 7 => .pointer (some ⟨b, 1, none⟩) | 8 => .int .i64 rd1.i | 9 => .string (bstr y) | 10 => .tuple #[.int .i64 x.1, .int .i64 x.2] | 11 => .int .i64 x.1 | 12 => .int .i64 x.2 | 13 => .tuple #[] | _ => undef)) (fun t x W => match t with | 0 => Below w1.heap.size w1 W | 1 => Below w1.heap.size w1 W ∧ MvP (expW s rd1.i y) x.1 x.2 | _ => RdR W b s (rWord s y rd1) ∧ w1.grownBy W (some b)) (0, 0) (by kernel_rfl) (by kernel_rfl) (by kernel_rfl) (Below.refl _ _).drew ?_ ?_ ?_
  ·intro iq oq ho hnc aq W t x hI htl hcl hub hdep hrest hgd;have hdep := @sqD _ _ _ hdep;have hgd := @sqG _ _ _ _ hgd;rcases iq with _|_|_|_|_|_|_|_|_|_|_|_|_|_|iq
   ·cases ho;refine sqJ ?_;simp [go_sem, hrest 0 (by kernel_rfl)]
   ·cases ho;refine sqJ ?_;simp [go_sem, hrest 0 (by kernel_rfl)]
   ·cases ho;refine sqJ ?_;simp [go_sem, hdep ⟨1, .data⟩]
   ·cases ho;refine sqJ ?_;simp [go_sem, hdep ⟨2, .data⟩]
   ·cases ho;clear hrest;have d3 : aq.eval (.tmp 14) = .pointer (some ⟨b, 0, none⟩) := hdep ⟨3, .data⟩;clear hdep hgd;refine sqJ ?_;have ht : t = 0 := by have h1 : 0 ≤ t := hcl; have h2 : t ≤ 0 := hub; omega
    clear hcl hub;rcases ht with rfl
    ·skip
     replace hI : Below w1.heap.size w1 W := hI;have c0 := (hI.cell (p := ⟨b, 0, none⟩) hlt).trans q0;clear hI htl;generalize aq.eval = ρ at *;simp [go_sem, d3, c0]
   ·cases ho;refine sqJ ?_;simp [go_sem, hrest 0 (by kernel_rfl)]
   ·cases ho;refine sqJ ?_;simp [go_sem, hdep ⟨5, .data⟩]
   ·cases ho;refine sqJ ?_;simp [go_sem, hdep ⟨6, .data⟩]
   ·cases ho;clear hrest;have d7 : aq.eval (.tmp 18) = .pointer (some ⟨b, 1, none⟩) := hdep ⟨7, .data⟩;clear hdep hgd;refine sqJ ?_;have ht : t = 0 := by have h1 : 0 ≤ t := hcl; have h2 : t ≤ 0 := hub; omega
    clear hcl hub;rcases ht with rfl
    ·skip
     replace hI : Below w1.heap.size w1 W := hI;have c1 := (hI.cell (p := ⟨b, 1, none⟩) hlt).trans q1;clear hI htl;generalize aq.eval = ρ at *;simp [go_sem, d7, c1]
   ·cases ho;refine sqJ ?_;simp [go_sem, hrest 1 (by kernel_rfl)]
   ·exact absurd rfl (hnc 0 (by decide))
   ·cases ho;refine sqJ ?_;simp [go_sem, hdep ⟨10, .data⟩]
   ·cases ho;refine sqJ ?_;simp [go_sem, hdep ⟨10, .data⟩]
   ·exact absurd rfl (hnc 1 (by decide))
   ·simp at ho
  ·intro k oq hk ho aq W x hI hdep hrest;have hc := sqC aq;have hfn := sqF aq;rcases k with _ | _ | k
   ·cases ho;clear hrest;have d4 : aq.eval (.tmp 15) = .string (bstr s) := hdep ⟨4, .data⟩ (by simp) rfl _ _ rfl rfl;have d8 : aq.eval (.tmp 19) = .int .i64 rd1.i := hdep ⟨8, .data⟩ (by simp) rfl _ _ rfl rfl;have d9 : aq.eval (.tmp 20) = .string (bstr y) := hdep ⟨9, .data⟩ (by simp) rfl _ _ rfl rfl;clear hdep;replace hI : Below w1.heap.size w1 W := hI;refine ⟨by simp [Region.wanted], fun K Q hK => ?_⟩;refine wp_of_enter (f := 101) (args := #[.string (bstr s), .int .i64 rd1.i, .string (bstr y)]) (w' := W) (R := fun v w' => ∃ x, v = (.tuple #[.int .i64 x.1, .int .i64 x.2]) ∧ (fun t x W => match t with | 0 => Below w1.heap.size w1 W | 1 => Below w1.heap.size w1 W ∧ MvP (expW s rd1.i y) x.1 x.2 | _ => RdR W b s (rWord s y rd1) ∧ w1.grownBy W (some b)) 1 x w') ?_ ((K2.out W).mono fun e w' ⟨hb, nx, er, he, hP⟩ => ⟨_, he, (nx, er), rfl, hI.trans (hb.mono hI.size), hP⟩) ?_
    ·clear hI hK;generalize aq.eval = ρ at *;simp [go_sem, d4, d8, d9, hfn]
    ·rintro v w' ⟨x', rfl, hinv⟩;exact hK _ _ x' hinv (fun d h => rfl) (fun j hj hc => by rcases j with _ | _ | _ | _ | _ | _ | _ | _ | _ | _ | _ | _ | _ | _ | j <;> first | rfl | exact absurd hc (by decide))
   ·cases ho;clear hrest;have d0 : aq.eval (.tmp 11) = .pointer (some ⟨b, 0, none⟩) := hdep ⟨0, .data⟩ (by simp) rfl _ _ rfl rfl;have d11 : aq.eval (.tmp 22) = .int .i64 x.1 := hdep ⟨11, .data⟩ (by simp) rfl _ _ rfl rfl;have d12 : aq.eval (.tmp 23) = .int .i64 x.2 := hdep ⟨12, .data⟩ (by simp) rfl _ _ rfl rfl;clear hdep;replace hI : Below w1.heap.size w1 W ∧ MvP (expW s rd1.i y) x.1 x.2 := hI;refine ⟨by simp [Region.wanted], fun K Q hK => ?_⟩;refine wp_of_enter (f := 100) (args := #[.pointer (some ⟨b, 0, none⟩), .int .i64 x.1, .int .i64 x.2]) (w' := W) (R := fun v w' => v = (.tuple #[]) ∧ (fun t x W => match t with | 0 => Below w1.heap.size w1 W | 1 => Below w1.heap.size w1 W ∧ MvP (expW s rd1.i y) x.1 x.2 | _ => RdR W b s (rWord s y rd1) ∧ w1.grownBy W (some b)) 2 x w') ?_ ((K3.out x.1 x.2 W (HB.out.up hI.1 hlt)).mono fun e w' ⟨he, hB2, hg2⟩ => ⟨_, he, rfl, by rw [E.out]; exact RdR.move hB2 hI.2 HL.out hl, grown_trans (grown_below hI.1) hg2⟩) ?_
    ·clear hI hK;generalize aq.eval = ρ at *;simp [go_sem, d0, d11, d12, hfn]
    ·rintro v w' ⟨rfl, hinv⟩;exact hK _ _ x hinv (fun d h => rfl) (fun j hj hc => by rcases j with _ | _ | _ | _ | _ | _ | _ | _ | _ | _ | _ | _ | _ | _ | j <;> first | rfl | exact absurd hc (by decide))
   ·exact absurd hk (by simp)
  intro x wx hI;simp only [putAll, Act.put, List.setIfInBounds_toArray, List.set_cons_zero, List.set_cons_succ, Nat.reduceAdd];replace hI : (fun t x W => match t with | 0 => Below w1.heap.size w1 W | 1 => Below w1.heap.size w1 W ∧ MvP (expW s rd1.i y) x.1 x.2 | _ => RdR W b s (rWord s y rd1) ∧ w1.grownBy W (some b)) 2 x wx := hI
  (try dsimp only at hI)
  obtain ⟨hR2, hg2⟩ := hI;go_wp2_with fail;exact bodyPost_end (v := .tuple #[]) (by simp [results, Tryz.results45, go_sem]) rfl ⟨rfl, hR2, grown_trans HW1.out hg2⟩
 ·have E : Hid (rWord s y rd1 = rd1) := if_pos he;have e0 : (er == 0) = false := beq_eq_false_iff_ne.2 fun h => he (h0.1 h)
  have HR := Lib.hid hR0;clear hB hR1 hR0 h0 h1 h2 h3 he;go_wp2_with fail;exact bodyPost_end (v := .tuple #[]) (by simp [results, Tryz.results45, go_sem]) rfl ⟨rfl, by rw [E.out]; exact HR.out, HW1.out⟩
end Go.Proofs.YtkfhpefmmhljmaaGreatDoor
