/- Texts in one: AnyO, AnyG, AnyW, Als, AnyX. -/
import Derived.OwnWalkIn
import Derived.Test.YtkfhpefmmhljmaaGreatDoorF2
set_option linter.unusedVariables false
set_option linter.unusedSimpArgs false
set_option maxHeartbeats 16000000
namespace Go.Proofs.YtkfhpefmmhljmaaGreatDoor
open Go.RowKit
section
variable {P : Program} {ops : Array Oper} {Q : Exit → Act → World → Prop} {F : Nat → Value → World → Prop} {I : World → Prop} {a0 : Act}
def Apart (ops : Array Oper) (d : Tmp) : Prop := ∀ (j : Nat) (o : Oper), ops[j]? = some o → o.dst ≠ some d
theorem qT (a : Act) (d e : Tmp) (v : Value) (h : d < a.tmps.size) : (a.put (some d) v).tmps.getD e undef = if d = e then v else a.tmps.getD e undef := by
 unfold Act.put;simp only [Array.getD_eq_getD_getElem?, Array.getElem?_setIfInBounds];by_cases hde : d = e
 ·subst hde;simp [h]
 ·simp [hde]
theorem qN (a : Act) (d : Option Tmp) (v : Value) : (a.put d v).tmps.size = a.tmps.size := by
 unfold Act.put;cases d <;> simp
theorem xO (a : Act) (d : Option Tmp) (v : Value) : (a.put d v).defers = a.defers := by
 unfold Act.put;cases d <;> rfl
theorem gW (listed : Array Bool) (i j : Nat) (h : i < listed.size) : (listed.setIfInBounds i true).getD j false = true ↔ i = j ∨ listed.getD j false = true := by
 simp only [Array.getD_eq_getD_getElem?, Array.getElem?_setIfInBounds];by_cases hij : i = j
 ·subst hij;simp [h]
 ·simp [hij]
theorem mE (listed : Array Bool) (i j : Nat) (h : i < listed.size) : (listed.setIfInBounds i true).getD j true = true ↔ i = j ∨ listed.getD j true = true := by
 simp only [Array.getD_eq_getD_getElem?, Array.getElem?_setIfInBounds];by_cases hij : i = j
 ·subst hij;simp [h]
 ·simp [hij]
theorem uZ (listed : Array Bool) (j : Nat) (h : j < listed.size) : listed.getD j false = listed.getD j true := by simp [Array.getD, h]
def jM (n : Nat) (listed : Array Bool) : Nat := ((List.range n).filter fun i => !listed.getD i true).length
theorem yM {n i : Nat} {listed : Array Bool} (hn : listed.size = n) (hi : i < n) (h : listed.getD i true = false) : jM n (listed.setIfInBounds i true) < jM n listed := by
 have e : ((List.range n).filter fun k => !(listed.setIfInBounds i true).getD k true) = (((List.range n).filter fun k => !listed.getD k true).filter fun k => decide (k ≠ i)) := by
  rw [List.filter_filter];refine List.filter_congr fun k hk => ?_
  have := mE listed i k (by omega);cases h1 : (listed.setIfInBounds i true).getD k true <;> cases h2 : listed.getD k true <;> by_cases h3 : k = i <;> simp_all
 unfold jM;rw [e];refine List.length_filter_lt_length_iff_exists.2 ⟨i, ?_, by simp⟩;rw [List.mem_filter, List.mem_range];exact ⟨hi, by simp [h]⟩
def qE (ops : List Oper) (vs : Nat → Value) (k : Nat) (a : Act) : Act :=
 match ops with
 | [] => a
 | o :: rest => qE rest vs (k + 1) (a.put o.dst (vs k))
theorem fI (ops : List Oper) (vs : Nat → Value) : ∀ (k : Nat) (a : Act), (qE ops vs k a).defers = a.defers := by
 induction ops with
 | nil => intro k a; rfl
 | cons o rest ih => intro k a; rw [qE, ih, xO]
theorem pY (ops : List Oper) (vs : Nat → Value) : ∀ (k : Nat) (a : Act), (qE ops vs k a).tmps.size = a.tmps.size := by
 induction ops with
 | nil => intro k a; rfl
 | cons o rest ih => intro k a; rw [qE, ih, qN]
theorem lW {a b : Act} (h1 : a.defers = b.defers) (h2 : a.tmps.size = b.tmps.size) (h : ∀ d, a.tmps.getD d undef = b.tmps.getD d undef) : a = b := by
 obtain ⟨t, ds⟩ := a;obtain ⟨t', ds'⟩ := b;simp only at h1 h2 h;subst h1
 congr 1
 refine Array.ext h2 fun i hi hi' => ?_
 have := h i;simpa [Array.getD, hi, hi'] using this
end
section
variable {P : Program} {ops : Array Oper} {Q : Exit → Act → World → Prop} {F : Nat → Value → World → Prop} {I : World → Prop} {a0 : Act}
theorem jI {listed : Array Bool} (hu : jM ops.size listed ≤ 0) : ∀ j, j < ops.size → listed.getD j true = true := by
 intro j hj;by_cases hl : listed.getD j true = true
 ·exact hl
 ·exfalso;have h0 : ((List.range ops.size).filter fun i => !listed.getD i true) = [] := List.eq_nil_of_length_eq_zero (by unfold jM at hu; omega);have : j ∈ ((List.range ops.size).filter fun i => !listed.getD i true) := by
   rw [List.mem_filter, List.mem_range];exact ⟨hj, by simpa using hl⟩
  rw [h0] at this;simp at this
theorem gQ {listed : Array Bool} (hall : ∀ j, j < ops.size → listed.getD j true = true) : Region.ready .any ops listed = [] := by
 refine List.eq_nil_iff_forall_not_mem.2 fun j hj => ?_
 rw [mem_ready] at hj;obtain ⟨h1, o, ho, _⟩ := hj;rw [hall j (Array.getElem?_eq_some_iff.1 ho).1] at h1;simp at h1
theorem uC (n : Nat) (listed : Array Bool) : jM n listed ≤ n := Nat.le_trans (List.length_filter_le _ _) (by simp)
theorem nU {a : Act} {j : Nat} {o : Oper} {d : Tmp} {b : Bool} (ho : ops[j]? = some o) (hd : o.dst = some d) (h : a.tmps.getD d undef = .bool b) : yielded ops a.tmps j = some b := by
 unfold yielded;rw [ho];simp only [Option.bind_some, hd];have e : a.tmps[d]? = some (.bool b) := by
  rw [Array.getD_eq_getD_getElem?] at h;cases hq : a.tmps[d]? with
  | none => rw [hq] at h; simp [undef] at h
  | some u => rw [hq] at h; simp at h; rw [h]
 rw [e]
theorem uB {o o' : Oper} {a : Act} {j : Nat} {want b : Bool} {d : Tmp} (hg : o.guard = some (j, want)) (ho : ops[j]? = some o') (hd : o'.dst = some d) (h : a.tmps.getD d undef = .bool b) : Region.wanted o (yielded ops a.tmps) = (b == want) := by
 unfold Region.wanted;rw [hg];show (yielded ops a.tmps j == some want) = (b == want)
 rw [nU ho hd h];cases b <;> cases want <;> rfl
end
section
variable {P : Program} {ops : Array Oper} {Q : Exit → Act → World → Prop} {F : Nat → Value → World → Prop} {I : World → Prop} {a0 : Act}
def Did (F : Nat → Value → World → Prop) (a : Act) (w : World) (j : Nat) (o : Oper) : Prop := (∀ d, o.dst = some d → F j (a.tmps.getD d undef) w) ∧ (o.dst = none → ∃ v, F j v w)
structure WInv (ops : Array Oper) (F : Nat → Value → World → Prop) (I : World → Prop) (a0 : Act) (listed : Array Bool) (a : Act) (w : World) : Prop where
 size : listed.size = ops.size
 defers : a.defers = a0.defers
 tmps : a.tmps.size = a0.tmps.size
 world : I w
 did : ∀ (j : Nat) (o : Oper), ops[j]? = some o → listed.getD j false = true → Did F a w j o
 rest : ∀ d : Tmp, Apart ops d → a.tmps.getD d undef = a0.tmps.getD d undef
theorem gR {listed : Array Bool} (hs : listed.size = ops.size) (hac : ∀ (j : Nat) (o : Oper), ops[j]? = some o → ∀ e ∈ o.after, Region.binds .any e = true → e.on < j) (h : Region.ready .any ops listed = []) : ∀ j, j < ops.size → listed.getD j true = true := by
 intro j
 induction j using Nat.strongRecOn with
 | ind j ih =>
  intro hj;by_cases hl : listed.getD j true = true
  ·exact hl
  ·exfalso;have hm : j ∈ Region.ready .any ops listed := by
    rw [mem_ready];refine ⟨by simpa using hl, ops[j], Array.getElem?_eq_getElem hj, fun e he hb => ?_⟩;have hlt := hac j _ (Array.getElem?_eq_getElem hj) e he hb;rw [uZ _ _ (by omega)];exact ih e.on hlt (by omega)
   rw [h] at hm;simp at hm
theorem kS (ops : List Oper) (vs : Nat → Value) (d : Tmp) : ∀ (k : Nat) (a : Act), (∀ o ∈ ops, ∀ e, o.dst = some e → e < a.tmps.size) → (∀ o ∈ ops, o.dst ≠ some d) → (qE ops vs k a).tmps.getD d undef = a.tmps.getD d undef := by
 induction ops with
 | nil => intro k a _ _; rfl
 | cons o rest ih =>
  intro k a hb h;rw [qE, ih _ _ (fun o' ho' => by rw [qN]; exact hb o' (by simp [ho'])) (fun o' ho' => h o' (by simp [ho']))];cases he : o.dst with
  | none => rfl
  | some e => rw [qT _ _ _ _ (hb o (by simp) e he), if_neg (fun e' => h o (by simp) (by rw [he, e']))]
theorem yF (ops : List Oper) (vs : Nat → Value) (d : Tmp) : ∀ (k j : Nat) (a : Act) (o : Oper), (∀ o ∈ ops, ∀ e, o.dst = some e → e < a.tmps.size) → (∀ (i j : Nat) (o o' : Oper) (d : Tmp), ops[i]? = some o → ops[j]? = some o' → o.dst = some d → o'.dst = some d → i = j) → ops[j]? = some o → o.dst = some d → (qE ops vs k a).tmps.getD d undef = vs (k + j) := by
 induction ops with
 | nil => intro k j a o _ _ h; simp at h
 | cons x rest ih =>
  intro k j a o hb hdj hj hd;cases j with
  | zero =>
   simp at hj;subst hj;rw [qE, kS _ _ _ _ _ (fun o' ho' => by rw [qN]; exact hb o' (by simp [ho'])), hd, qT _ _ _ _ (hb x (by simp) d hd), if_pos rfl]
   ·simp
   ·intro o' ho' hd';obtain ⟨n, hn⟩ := List.mem_iff_getElem?.1 ho';have := hdj 0 (n + 1) x o' d (by simp) (by simpa using hn) hd hd';omega
  | succ j =>
   rw [qE, ih (k + 1) j _ o (fun o' ho' => by rw [qN]; exact hb o' (by simp [ho'])) (fun i j o o' d hi hj h h' => by
    have := hdj (i + 1) (j + 1) o o' d (by simpa using hi) (by simpa using hj) h h';omega) (by simpa using hj) hd]
   congr 1
   omega
theorem dA (hds : ∀ (j : Nat) (o : Oper), ops[j]? = some o → ∀ d, o.dst = some d → d < a0.tmps.size) (hdj : ∀ (i j : Nat) (o o' : Oper) (d : Tmp), ops[i]? = some o → ops[j]? = some o' → o.dst = some d → o'.dst = some d → i = j)
  (hdone : ∀ (vs : Nat → Value) w, I w → (∀ j, j < ops.size → F j (vs j) w) → Q .normal (qE ops.toList vs 0 a0) w) (a : Act) (w : World) (h : WInv ops F I a0 (Array.replicate ops.size true) a w) : Q .normal a w := by
 have hb : ∀ o ∈ ops.toList, ∀ e, o.dst = some e → e < a0.tmps.size := fun o ho => by
  obtain ⟨n, hn⟩ := List.mem_iff_getElem?.1 ho;exact hds n o (by simpa using hn)
 have hdj' : ∀ (i j : Nat) (o o' : Oper) (d : Tmp), ops.toList[i]? = some o → ops.toList[j]? = some o' → o.dst = some d → o'.dst = some d → i = j := fun i j o o' d hi hj he => hdj i j o o' d (by simpa using hi) (by simpa using hj) he
 have hd : ∀ (j : Nat) (o : Oper), ops[j]? = some o → Did F a w j o := fun j o hj => h.did j o hj (by
  have hlt : j < ops.size := (Array.getElem?_eq_some_iff.1 hj).1;simp [Array.getD, hlt])
 have hex : ∀ j : Nat, ∃ v : Value, (j < ops.size → F j v w) ∧ ∀ o d, ops[j]? = some o → o.dst = some d → v = a.tmps.getD d undef := fun j => by
  by_cases hj : j < ops.size
  ·obtain ⟨h1, h2⟩ := hd j ops[j] (Array.getElem?_eq_getElem hj);cases hdd : ops[j].dst with
   | none =>
    obtain ⟨v, hv⟩ := h2 hdd;exact ⟨v, fun _ => hv, fun o d ho hod => by rw [Array.getElem?_eq_getElem hj] at ho; injection ho with ho; subst ho; rw [hdd] at hod; cases hod⟩
   | some d =>
    exact ⟨_, fun _ => h1 d hdd, fun o d' ho hod => by rw [Array.getElem?_eq_getElem hj] at ho; injection ho with ho; subst ho; rw [hdd] at hod; injection hod with hod; rw [hod]⟩
  ·exact ⟨undef, fun h => absurd h hj, fun o d ho _ => absurd (Array.getElem?_eq_some_iff.1 ho).1 hj⟩
 have hc := fun j => Classical.choose_spec (hex j)
 have e : a = qE ops.toList (fun j => Classical.choose (hex j)) 0 a0 := by
  refine lW (by rw [fI]; exact h.defers) (by rw [pY]; exact h.tmps) fun d => ?_
  by_cases hap : Apart ops d
  ·rw [kS _ _ _ _ _ hb (fun o ho hd => by
    obtain ⟨n, hn⟩ := List.mem_iff_getElem?.1 ho;exact hap n o (by simpa using hn) hd)]
   exact h.rest d hap
  ·unfold Apart at hap;simp only [Classical.not_forall, Classical.not_not] at hap;obtain ⟨j, o, hj, hod⟩ := hap;rw [yF _ _ d 0 j a0 o hb hdj' (by simpa using hj) hod, Nat.zero_add];exact ((hc j).2 o d hj hod).symm
 rw [e];exact hdone _ w h.world fun j hj => (hc j).1 hj
def jU (ops : Array Oper) (n : Nat) : Bool :=
 (List.range ops.size).all fun j => match ops[j]? with
  | none => true
  | some o => (o.after.all fun e => !Region.binds .any e || decide (e.on < j)) && (match o.dst with | some d => decide (d < n) | none => true) &&
   (List.range j).all fun i => match ops[i]? with
    | none => true
    | some o' => decide (o'.dst = none) || decide (o'.dst ≠ o.dst)
theorem jG {n : Nat} (h : jU ops n = true) : (∀ (j : Nat) (o : Oper), ops[j]? = some o → ∀ e ∈ o.after, Region.binds .any e = true → e.on < j) ∧
  (∀ (j : Nat) (o : Oper), ops[j]? = some o → ∀ d, o.dst = some d → d < n) ∧ (∀ (i j : Nat) (o o' : Oper) (d : Tmp), ops[i]? = some o → ops[j]? = some o' → o.dst = some d → o'.dst = some d → i = j) := by
 unfold jU at h;rw [List.all_eq_true] at h;have each : ∀ (j : Nat) (o : Oper), ops[j]? = some o → (∀ e ∈ o.after, Region.binds .any e = true → e.on < j) ∧ (∀ d, o.dst = some d → d < n) ∧ ∀ (i : Nat) (o' : Oper), i < j → ops[i]? = some o' → ∀ d, o'.dst = some d → o.dst ≠ some d := by
  intro j o ho;have hlt : j < ops.size := (Array.getElem?_eq_some_iff.1 ho).1;have hj := h j (List.mem_range.2 hlt);rw [ho] at hj;simp only [Bool.and_eq_true] at hj;obtain ⟨⟨h1, h3⟩, h4⟩ := hj;refine ⟨?_, ?_, ?_⟩
  ·rw [Array.all_eq_true_iff_forall_mem] at h1;intro e he hb;simpa [hb] using h1 e he
  ·intro d hd;rw [hd] at h3;simpa using h3
  ·intro i o' hi ho' d hd hd';rw [List.all_eq_true] at h4;have := h4 i (List.mem_range.2 hi);rw [ho'] at this;simp [hd, hd'] at this
 refine ⟨fun j o ho => (each j o ho).1, fun j o ho => (each j o ho).2.1, fun i j o o' d hi hj he he' => ?_⟩;rcases Nat.lt_trichotomy i j with h1 | h1 | h1
 ·exact absurd he' ((each j o' hj).2.2 i o h1 hi d he)
 ·exact h1
 ·exact absurd he ((each i o hi).2.2 j o' h1 hj d he')
theorem jD {o : Oper} {a : Act} {w w' : World} {v : Value} {K : Act → World → Prop} (hrun : (execOp a.eval o).run P w = .ok (.value v) w') (h : K (a.put o.dst v) w') : o.wp P a w K Q := by
 unfold Oper.wp; rw [hrun]; exact h
theorem jW {o : Oper} {a : Act} {w w' : World} {K : Act → World → Prop} (hrun : (execOp a.eval o).run P w = .ok .skip w') (h : K (a.put o.dst undef) w') : o.wp P a w K Q := by
 unfold Oper.wp; rw [hrun]; exact h
theorem jJ {o : Oper} {a : Act} {w w' : World} {f : FuncId} {args : Array Value} {K : Act → World → Prop} {R : Value → World → Prop} (hrun : (execOp a.eval o).run P w = .ok (.enter f args) w') (hc : Calls P f args w' fun e w'' => ∃ v, e = .returned v ∧ R v w'') (h : ∀ v w'', R v w'' → K (a.put o.dst v) w'') : o.wp P a w K Q := by
 unfold Oper.wp; rw [hrun];exact hc.mono fun e w'' ⟨v, he, hr⟩ => by subst he; exact h v w'' hr
end
theorem η {p : Prop} (h : p) : Hid p := Lib.hid h
theorem νl {a b c : Nat} (h : a < b) (k : b ≤ c) : a < c := Nat.lt_of_lt_of_le h k
theorem νr (n : Nat) : n ≤ n := Nat.le_refl n
theorem βf {α : Type} [BEq α] [LawfulBEq α] {a b : α} (h : a ≠ b) : (a == b) = false := beq_eq_false_iff_ne.2 h
theorem βt {α : Type} [BEq α] [LawfulBEq α] {a b : α} (h : a ≠ b) : (a != b) = true := bne_iff_ne.2 h
theorem σi {α : Type} (l : List α) (i : Nat) (a : α) : l.toArray.setIfInBounds i a = (l.set i a).toArray := List.setIfInBounds_toArray ..
theorem σo {α : Type} {x : α} {l : List α} {a : α} : (x :: l).set 0 a = a :: l := List.set_cons_zero
theorem σs {α : Type} {x : α} {l : List α} {n : Nat} {a : α} : (x :: l).set (n + 1) a = x :: l.set n a := List.set_cons_succ
theorem βA {w : World} (o : Obj) : Below w w (w.alloc o) := (Below.refl _ _).alloc (Nat.le_refl _) o
theorem βT {a w w' : World} (h : Hid (Below a a w)) (k : Below w w w') : Hid (Below a a w') := Lib.hid (h.out.trans (k.mono h.out.size))
theorem κa {α : Type} {u v : List α} : (u ++ v).length = u.length + v.length := List.length_append
theorem κf {p : Prop} [Decidable p] (h : ¬p) : decide p = false := decide_eq_false h
theorem κt {p : Prop} [Decidable p] (h : p) : decide p = true := decide_eq_true h
theorem κc {α : Type} {a : α} {u : List α} : (a :: u).length = u.length + 1 := List.length_cons
theorem κb (a b : Bool) : ((a && b) = true) = (a = true ∧ b = true) := Bool.and_eq_true a b
theorem κr {P : Program} {fn : Func} {R : Ending → World → Prop} {a : Act} {w : World} {v : Value} (h : Sem.run P (results fn a.tmps) w = Result.ok v w) (k : a.defers = []) (l : R (Ending.returned v) w) : bodyPost P fn R Exit.ret a w := bodyPost_ret h k l
theorem κe {p : Prop} [Decidable p] : (decide p = true) = p := decide_eq_true_eq
theorem κd {α : Type} {l : List α} {i : Nat} {a : α} : l.getD i a = l[i]?.getD a := List.getD_eq_getElem?_getD
theorem κn {α : Type} : ([] : List α).length = 0 := List.length_nil
theorem κo (w : World) (a b : Addr) (v : Value) (h : a ≠ b) : (w.setCell a v).cell? b = w.cell? b := World.cell?_setCell_other w a b v h
theorem κu (n : Int) (h : 0 ≤ n ∧ n ≤ 18446744073709551615) : IntKind.u64.wrap n = n := IntWalk.u64_in n h
theorem κl {n m : Nat} (h : n < m) : n ≤ m := Nat.le_of_lt h
theorem κk {α : Type} {i : Nat} {l : List α} : (List.take i l).length = min i l.length := List.length_take
theorem κx {Q : Exit → Act → World → Prop} {a : Act} {w : World} : Exit.noGoto Q Exit.ret a w = Q Exit.ret a w := Exit.noGoto_ret
theorem κg {α : Type} {l : List α} {i : Nat} (h : i < l.length) : l[i]? = some l[i] := List.getElem?_eq_getElem h
theorem κs {α : Type} {i : Nat} {l : List α} (h : i < l.length) : List.take (i + 1) l = List.take i l ++ [l[i]] := List.take_succ_eq_append_getElem h
theorem κz (n : Nat) : n + 0 = n := Nat.add_zero n
theorem κy {α : Type} {i : Nat} {l : List α} (h : l.length ≤ i) : List.take i l = l := List.take_of_length_le h
theorem κq {α : Type} (u v z : List α) : u ++ v ++ z = u ++ (v ++ z) := List.append_assoc u v z
theorem κp {α : Type} (u : List α) : u ++ [] = u := List.append_nil u
theorem κw {α : Type} {a : α} {u v : List α} : a :: u ++ v = a :: (u ++ v) := List.cons_append
theorem κi {α : Type} {xs : Array α} {i : Nat} {b : α} (h : xs[i]? = some b) : ∃ h : i < xs.size, xs[i] = b := Array.getElem?_eq_some_iff.1 h
section
variable {P : Program} {ops : Array Oper} {Q : Exit → Act → World → Prop} {F : (Nat → Prop) → Nat → Value → World → Prop} {I : (Nat → Prop) → World → Prop} {a0 : Act}
def vY (ops : Array Oper) (done : Nat → Prop) : Prop := ∀ (j : Nat) (o : Oper), ops[j]? = some o → done j → ∀ e ∈ o.after, Region.binds .any e = true → done e.on
def more (done : Nat → Prop) (i : Nat) : Nat → Prop := fun j => j = i ∨ done j
structure XInv (ops : Array Oper) (F : (Nat → Prop) → Nat → Value → World → Prop) (I : (Nat → Prop) → World → Prop) (a0 : Act) (listed : Array Bool) (done : Nat → Prop) (a : Act) (w : World) : Prop where
 size : listed.size = ops.size
 listed : ∀ j, j < ops.size → (done j ↔ listed.getD j false = true)
 closed : vY ops done
 defers : a.defers = a0.defers
 tmps : a.tmps.size = a0.tmps.size
 world : I done w
 did : ∀ (j : Nat) (o : Oper), ops[j]? = some o → done j → Did (F done) a w j o
 rest : ∀ d : Tmp, Apart ops d → a.tmps.getD d undef = a0.tmps.getD d undef
theorem mX {listed : Array Bool} {done : Nat → Prop} {a : Act} {w w' : World} {i : Nat} {o : Oper} {v : Value} (h : XInv ops F I a0 listed done a w) (ho : ops[i]? = some o) (hni : ¬ done i) (hdep : ∀ e ∈ o.after, Region.binds .any e = true → done e.on)
  (hds : ∀ d, o.dst = some d → d < a0.tmps.size) (hdj : ∀ (i j : Nat) (o o' : Oper) (d : Tmp), ops[i]? = some o → ops[j]? = some o' → o.dst = some d → o'.dst = some d → i = j)
  (hI : I (more done i) w') (hF : F (more done i) i v w') (hkeep : ∀ (j : Nat) (u : Value), done j → (∀ (o' : Oper) (d : Tmp), ops[j]? = some o' → o'.dst = some d → u = a.tmps.getD d undef) → F done j u w → F (more done i) j u w') : XInv ops F I a0 (listed.setIfInBounds i true) (more done i) (a.put o.dst v) w' := by
 have hlt : i < ops.size := (κi ho).1;have hlist : ∀ j, j < ops.size → (more done i j ↔ (listed.setIfInBounds i true).getD j false = true) := fun j hj => by
  rw [gW _ _ _ (by rw [h.size]; exact hlt), ← h.listed j hj];exact ⟨fun e => e.imp (fun e => e.symm) id, fun e => e.imp (fun e => e.symm) id⟩
 have hcl : vY ops (more done i) := fun j o' hj hd e he hb => by
  rcases hd with rfl | hd
  ·rw [ho] at hj;injection hj with hj
   subst hj;exact .inr (hdep e he hb)
  ·exact .inr (h.closed j o' hj hd e he hb)
 cases hd : o.dst with
 | none =>
  refine ⟨by simp [h.size], hlist, hcl, by rw [xO]; exact h.defers, by rw [qN]; exact h.tmps, hI, fun j o' hj hl => ?_, fun d' hap => h.rest d' hap⟩;rcases hl with rfl | hl
  ·rw [ho] at hj;injection hj with hj
   subst hj;exact ⟨fun d hd' => (by rw [hd] at hd'; cases hd'), fun _ => ⟨v, hF⟩⟩
  ·obtain ⟨h1, h2⟩ := h.did j o' hj hl;exact ⟨fun d hd' => hkeep j _ hl (fun o'' d'' ho'' hd'' => by rw [hj] at ho''; injection ho'' with ho''; subst ho''; rw [hd'] at hd''; injection hd'' with hd''; subst hd''; rfl) (h1 d hd'), fun hn => (h2 hn).imp fun v hv => hkeep j v hl (fun o'' d'' ho'' hd'' => by rw [hj] at ho''; injection ho'' with ho''; subst ho''; rw [hn] at hd''; cases hd'') hv⟩
 | some d =>
  have hdl := hds d hd;refine ⟨by simp [h.size], hlist, hcl, by rw [xO]; exact h.defers, by rw [qN]; exact h.tmps, hI, fun j o' hj hl => ?_, fun d' hap => ?_⟩
  ·rcases hl with rfl | hl
   ·rw [ho] at hj;injection hj with hj
    subst hj;refine ⟨fun d' hd' => ?_, fun hn => ⟨v, hF⟩⟩;rw [hd] at hd';injection hd' with hd'
    subst hd';rw [qT _ _ _ _ (by rw [h.tmps]; exact hdl), if_pos rfl];exact hF
   ·have hij : i ≠ j := fun e => hni (e ▸ hl)
    obtain ⟨h1, h2⟩ := h.did j o' hj hl;refine ⟨fun d' hd' => ?_, fun hn => (h2 hn).imp fun v hv => hkeep j v hl (fun o'' d'' ho'' hd'' => by rw [hj] at ho''; injection ho'' with ho''; subst ho''; rw [hn] at hd''; cases hd'') hv⟩;rw [qT _ _ _ _ (by rw [h.tmps]; exact hdl), if_neg (fun e => hij (hdj i j o o' d ho hj hd (by rw [hd', e])))];exact hkeep j _ hl (fun o'' d'' ho'' hd'' => by rw [hj] at ho''; injection ho'' with ho''; subst ho''; rw [hd'] at hd''; injection hd'' with hd''; subst hd''; rfl) (h1 d' hd')
  ·rw [qT _ _ _ _ (by rw [h.tmps]; exact hdl), if_neg (fun e => hap i o ho (by rw [hd, e]))];exact h.rest d' hap
theorem bI (hds : ∀ (j : Nat) (o : Oper), ops[j]? = some o → ∀ d, o.dst = some d → d < a0.tmps.size) (hdj : ∀ (i j : Nat) (o o' : Oper) (d : Tmp), ops[i]? = some o → ops[j]? = some o' → o.dst = some d → o'.dst = some d → i = j)
  (hdone : ∀ (done : Nat → Prop) (vs : Nat → Value) w, (∀ j, j < ops.size → done j) → I done w → (∀ j, j < ops.size → F done j (vs j) w) → Q .normal (qE ops.toList vs 0 a0) w) (listed : Array Bool) (done : Nat → Prop) (a : Act) (w : World) (h : XInv ops F I a0 listed done a w) (hall : ∀ j, j < ops.size → done j) : Q .normal a w := by
 refine dA (F := F done) (I := I done) hds hdj (fun vs w hI hF => hdone done vs w hall hI hF) a w ⟨by simp, h.defers, h.tmps, h.world, fun j o hj _ => h.did j o hj (hall j (κi hj).1), h.rest⟩
end
end Go.Proofs.YtkfhpefmmhljmaaGreatDoor
