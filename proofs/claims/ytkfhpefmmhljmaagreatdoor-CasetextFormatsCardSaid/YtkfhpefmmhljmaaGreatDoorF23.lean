/- Texts in one: AnyV, CtU, CtQ. -/
import Derived.Test.YtkfhpefmmhljmaaGreatDoorF22
set_option linter.unusedVariables false
set_option linter.unusedSimpArgs false
set_option maxHeartbeats 16000000
set_option maxRecDepth 100000
namespace Go.Proofs.YtkfhpefmmhljmaaGreatDoor
open Go.RowKit
section
variable {P : Program} {ops : Array Oper} {Q : Exit → Act → World → Prop} {a0 : Act} {X : Type} {T : Tmp → Value} {N : List (Tmp × Value)} {W : World} {o : Oper}
theorem ev_of {outs : List Tmp} {i : Nat} {a : Act} (sk : Tmp → Bool) (hrd : kP ops outs N i o = true) (hsk : (o.op.operands.all fun x => match x with | .tmp d => !sk d | _ => true) = true)
  (hdep : ∀ e ∈ o.after, Region.binds .any e = true → ∀ (o' : Oper) (d : Tmp), ops[e.on]? = some o' → o'.dst = some d → sk d = false → N.all (fun p => p.1 != d) = true → a.tmps.getD d undef = T d)
  (hlate : ∀ d : Tmp, lateB ops i d = true → a.tmps.getD d undef = a0.tmps.getD d undef) (hout : ∀ d ∈ outs, a0.tmps.getD d undef = T d) : execOp a.eval o = execOp (EvT T) o := by
 unfold kP at hrd;rw [κb] at hrd;obtain ⟨hsel, hrd⟩ := hrd;refine execOp_congr o (fun cs b h => by rw [h] at hsel; cases hsel) fun x hx => ?_
 rw [Array.all_eq_true] at hrd hsk;obtain ⟨k, hk, hxk⟩ := Array.mem_iff_getElem.1 hx;have := hrd k hk;have hs := hsk k hk;rw [hxk] at this hs;cases x with
 | const v => rfl
 | global g => rfl
 | func f => rfl
 | tmp d =>
  show a.tmps.getD d undef = T d
  simp only [readB, Bool.or_eq_true, κb] at this;rcases this with ⟨h1, h2⟩ | ⟨h1, h2⟩
  ·rw [hlate d h2];exact hout d (by simpa using h1)
  ·unfold fromB at h2;rw [Array.any_eq_true] at h2;obtain ⟨k, hk, h3⟩ := h2;rw [κb] at h3;obtain ⟨h3, h4⟩ := h3;cases he : ops[(o.after[k]).on]? with
   | none => rw [he] at h4; cases h4
   | some o' => rw [he] at h4; exact hdep _ (Array.getElem_mem hk) h3 o' d he (by simpa using h4) (by simpa using hs) h1
theorem mA {outs : List Tmp} (h : outs.map (fun d => a0.tmps.getD d undef) = outs.map T) : ∀ d ∈ outs, a0.tmps.getD d undef = T d := fun d hd => by
 obtain ⟨n, hn⟩ := List.mem_iff_getElem?.1 hd;have := congrArg (·[n]?) h;simp only [List.getElem?_map, hn, Option.map_some] at this;injection this
def AllI (p : Nat → Oper → Prop) : Nat → List Oper → Prop
 | _, [] => True
 | k, o :: l => p k o ∧ AllI p (k + 1) l
theorem AllI.nil {p : Nat → Oper → Prop} {k : Nat} : AllI p k [] := trivial
theorem AllI.cons {p : Nat → Oper → Prop} {o : Oper} {l : List Oper} {k : Nat} (h : p k o) (t : AllI p (k + 1) l) : AllI p k (o :: l) := ⟨h, t⟩
theorem AllI.at {p : Nat → Oper → Prop} : ∀ {l : List Oper} {k i : Nat} {o : Oper}, AllI p k l → l[i]? = some o → p (k + i) o
 | [], k, i, o, _, h => by simp at h
 | x :: l, k, 0, o, h, e => by simp at e; subst e; exact h.1
 | x :: l, k, i + 1, o, h, e => by
  have := h.2.at (i := i) (by simpa using e);rwa [show k + 1 + i = k + (i + 1) by omega] at this
theorem AllI.of {p : Nat → Oper → Prop} : ∀ (l : List Oper) (k : Nat), (∀ i o, l[i]? = some o → p (k + i) o) → AllI p k l
 | [], _, _ => trivial
 | o :: l, k, h => ⟨h 0 o rfl, AllI.of l (k + 1) fun i o' ho => by rw [show k + 1 + i = k + (i + 1) by omega]; exact h (i + 1) o' (by simpa using ho)⟩
theorem noI {l : List Oper} {cs : List Nat} {cls ub : Nat → Nat} {t : Nat} {q : Nat → Oper → Prop} (h : ((List.range l.length).all fun i => cs.contains i || !decide (cls i ≤ t) || !decide (t ≤ ub i)) = true := by kernel_rfl) : AllI (fun i o => cs.contains i = false → cls i ≤ t → t ≤ ub i → q i o) 0 l :=
 AllI.of l 0 fun i o ho h1 h2 h3 => by
  have := List.all_eq_true.1 h i (List.mem_range.2 (List.getElem?_eq_some_iff.1 ho).1);rw [Nat.zero_add] at h1 h2 h3;rw [h1, κt h2, κt h3] at this;cases this
def ReadT (P : Program) (T : Tmp → Value) (N : List (Tmp × Value)) (W : World) (o : Oper) : Prop := ∃ d, o.dst = some d ∧ (execOp (EvT T) o).run P W = .ok (.value (valT T N d)) W
theorem rdT {d : Tmp} (h : (execOp (EvT T) o).run P W = .ok (.value (valT T N d)) W) (hd : o.dst = some d := by rfl) : ReadT P T N W o := ⟨d, hd, h⟩
def slotV (ops : Array Oper) (T : Tmp → Value) (N : List (Tmp × Value)) (j : Nat) : Value := match ops[j]? with
 | some o => match o.dst with
  | some d => valT T N d
  | none => undef
 | none => undef
theorem xR {j : Nat} {d : Tmp} (h : ops[j]? = some o) (hd : o.dst = some d) : slotV ops T N j = valT T N d := by unfold slotV; rw [h]; dsimp only; rw [hd]
def cQ (ops : Array Oper) (outs : List Tmp) (N : List (Tmp × Value)) (sk : Tmp → Bool) (q : Nat) : Bool := (List.range ops.size).all fun i => match ops[i]? with
 | none => true
 | some o => o.guard.isNone && kP ops outs N i o && (i == q || o.op.operands.all fun x => match x with | .tmp d => !sk d | _ => true)
theorem fL {outs : List Tmp} {sk : Tmp → Bool} {q i : Nat} (h : cQ ops outs N sk q = true) (ho : ops[i]? = some o) : o.guard = none ∧ kP ops outs N i o = true ∧ (i = q ∨ (o.op.operands.all fun x => match x with | .tmp d => !sk d | _ => true) = true) := by
 have := List.all_eq_true.1 h i (List.mem_range.2 (κi ho).1);rw [ho] at this;simp only [κb, Bool.or_eq_true] at this;exact ⟨by simpa using this.1.1, this.1.2, this.2.imp (fun h => by simpa using h) id⟩
theorem vA {y : Nat → Option Bool} (h : o.guard = none) : Region.wanted o y = true := by simp [Region.wanted, h]
def NextT (ops : Array Oper) (cls : Nat → Nat) (L N : X → List (Tmp × Value)) (Inv : Nat → X → World → Prop) (k : Nat) (x : X) (o : Oper) (v : Value) (w : World) : Prop :=
 ∃ x', (∀ d, o.dst = some d → v = valT (look (L x')) (N x') d) ∧ Inv (k + 1) x' w ∧ ∀ j, j < ops.size → cls j ≤ k → slotV ops (look (L x')) (N x') j = slotV ops (look (L x)) (N x) j
def ChT (P : Program) (ops : Array Oper) (cls : Nat → Nat) (L N : X → List (Tmp × Value)) (Inv : Nat → X → World → Prop) (T : Tmp → Value) (k : Nat) (x : X) (W : World) (o : Oper) : Prop :=
 (∃ v W', ((execOp (EvT T) o).run P W = .ok (.value v) W' ∨ (execOp (EvT T) o).run P W = .ok .skip W' ∧ o.dst = none) ∧ NextT ops cls L N Inv k x o v W') ∨
 ∃ f args, (execOp (EvT T) o).run P W = .ok (.enter f args) W ∧ Calls P f args W fun e w' => ∃ v, e = .returned v ∧ NextT ops cls L N Inv k x o v w'
def sameB (ops : Array Oper) (cls : Nat → Nat) (k : Nat) : List Tmp := (List.range ops.size).filterMap fun j => if cls j ≤ k then (ops[j]?).bind (·.dst) else none
def AllD (p : Tmp → Prop) : List Tmp → Prop
 | [] => True
 | d :: l => p d ∧ AllD p l
theorem AllD.nil {p : Tmp → Prop} : AllD p [] := trivial
theorem AllD.cons {p : Tmp → Prop} {d : Tmp} {l : List Tmp} (h : p d) (k : AllD p l) : AllD p (d :: l) := ⟨h, k⟩
theorem AllD.mem {p : Tmp → Prop} : ∀ {l : List Tmp} {d : Tmp}, AllD p l → d ∈ l → p d
 | x :: l, d, h, hd => by
  rcases List.mem_cons.1 hd with rfl | hd
  ·exact h.1
  ·exact h.2.mem hd
theorem agree {cls : Nat → Nat} {k : Nat} {T' : Tmp → Value} {N' : List (Tmp × Value)} (h : AllD (fun d => valT T' N' d = valT T N d) (sameB ops cls k)) : ∀ j, j < ops.size → cls j ≤ k → slotV ops T' N' j = slotV ops T N j := fun j hj hc => by
 unfold slotV;cases ho : ops[j]? with
 | none => rfl
 | some o =>
  dsimp only;cases hd : o.dst with
  | none => rfl
  | some d =>
   dsimp only;refine h.mem (List.mem_filterMap.2 ⟨j, List.mem_range.2 hj, ?_⟩);rw [if_pos hc, ho];exact hd
section
variable {cls : Nat → Nat} {L N : X → List (Tmp × Value)} {Inv : Nat → X → World → Prop} {k : Nat} {x : X}
theorem chT_c {d : Tmp} (f : FuncId) (args : Array Value) (h : (execOp (EvT T) o).run P W = .ok (.enter f args) W) (hc : Calls P f args W fun e w' => ∃ v, e = .returned v ∧ ∃ x', v = valT (look (L x')) (N x') d ∧ Inv (k + 1) x' w')
  (ha : ∀ x', AllD (fun d => valT (look (L x')) (N x') d = valT (look (L x)) (N x) d) (sameB ops cls k) := by intro _; repeat' first | exact AllD.nil | refine AllD.cons rfl ?_) (hd : o.dst = some d := by rfl) : ChT P ops cls L N Inv T k x W o :=
 .inr ⟨f, args, h, hc.mono fun e w' ⟨v, he, x', hv, hi⟩ => ⟨v, he, x', fun d' hd' => by rw [hd] at hd'; injection hd' with hd'; rw [← hd', hv], hi, agree (ha x')⟩⟩
theorem chT_k {d : Tmp} (f : FuncId) (args : Array Value) (h : (execOp (EvT T) o).run P W = .ok (.enter f args) W) (hc : Calls P f args W fun e w' => ∃ v, e = .returned v ∧ v = valT (look (L x)) (N x) d ∧ Inv (k + 1) x w') (hd : o.dst = some d := by rfl) : ChT P ops cls L N Inv T k x W o :=
 .inr ⟨f, args, h, hc.mono fun e w' ⟨v, he, hv, hi⟩ => ⟨v, he, x, fun d' hd' => by rw [hd] at hd'; injection hd' with hd'; rw [← hd', hv], hi, fun _ _ _ => rfl⟩⟩
theorem chT_s {W' : World} (h : (execOp (EvT T) o).run P W = .ok .skip W') (hi : Inv (k + 1) x W') (hd : o.dst = none := by rfl) : ChT P ops cls L N Inv T k x W o :=
 .inl ⟨undef, W', .inr ⟨h, hd⟩, x, (fun d hd' => by rw [hd] at hd'; cases hd'), hi, fun _ _ _ => rfl⟩
theorem chT_v {W' : World} {d : Tmp} (x' : X) (h : (execOp (EvT T) o).run P W = .ok (.value (valT (look (L x')) (N x') d)) W') (hi : Inv (k + 1) x' W') (ha : AllD (fun d => valT (look (L x')) (N x') d = valT (look (L x)) (N x) d) (sameB ops cls k) := by repeat' first | exact AllD.nil | refine AllD.cons rfl ?_) (hd : o.dst = some d := by rfl) : ChT P ops cls L N Inv T k x W o :=
 .inl ⟨_, W', .inl h, x', fun d' hd' => by rw [hd] at hd'; injection hd' with hd'; rw [hd'], hi, agree ha⟩
end
theorem zL {id : Nat} {w0 : World} (cs : List Nat) (cls ub : Nat → Nat) (L N : X → List (Tmp × Value)) (outs : List Tmp) (Inv : Nat → X → World → Prop) (x0 : X) (h0 : Inv 0 x0 w0.drew)
  (hread : ∀ T x t W, zA T (L x) → Inv t x W → t ≤ cs.length → AllI (fun i o => cs.contains i = false → cls i ≤ t → t ≤ ub i → ReadT P T (N x) W o) 0 ops.toList)
  (hchain : ∀ T k x W o, k < cs.length → ops[cs.getD k 0]? = some o → zA T (L x) → Inv k x W → ChT P ops cls L N Inv T k x W o)
  (hdone : ∀ x w, Inv cs.length x w → Q .normal (putT (valT (look (L x)) (N x)) ops.toList a0) w)
  (hm : P.follows .mixedOrders = true := by kernel_rfl) (hok : jU ops a0.tmps.size = true := by kernel_rfl) (hch : eY ops cs cls ub = true := by kernel_rfl) (hpl : ∀ x, cQ ops outs (N x) (fun _ => false) 0 = true := by intro _; kernel_rfl) (hnd : ∀ x, uT (L x) = true := by intro _; kernel_rfl)
  (hout : ∀ x, outs.map (fun d => a0.tmps.getD d undef) = outs.map (look (L x)) := by intro _; rfl) : (Code.region id ops true).wp P Q a0 w0 := by
 have hsk : ∀ o : Oper, (o.op.operands.all fun x => match x with | .tmp d => !((fun _ => false : Tmp → Bool) d) | _ => true) = true := fun o => by
  rw [Array.all_eq_true];intro i hi;cases o.op.operands[i] <;> rfl
 refine xF cs cls ub (fun _ x j => slotV ops (look (L x)) (N x) j) Inv x0 hm hok hch h0 ?_ ?_ ?_
 ·intro i o ho hnc a w t x hI htl hcl hub hdep hrest _;obtain ⟨hg, hrd, _⟩ := fL (hpl x) ho;have hR := (hread (look (L x)) x t w (jL (hnd x)) hI htl).at (i := i) (by simpa using ho);rw [Nat.zero_add] at hR;obtain ⟨d, hd, hrun⟩ := hR (by
   cases hcc : cs.contains i with
   | false => rfl
   | true =>
    obtain ⟨k, hk⟩ := List.mem_iff_getElem?.1 (List.contains_iff_mem.1 hcc);have hkl := (List.getElem?_eq_some_iff.1 hk).1;exact absurd (by rw [κd, hk]; rfl) (hnc k hkl)) hcl hub
  have hev := ev_of (T := look (L x)) (N := N x) (fun _ => false) hrd (hsk o) (fun e he hb o' d' ho' hd' _ hN => (hdep e he hb o' d' ho' hd').trans ((xR ho' hd').trans (fA hN))) hrest (mA (hout x));refine ⟨fun _ => ?_, fun hw => by rw [vA hg] at hw; cases hw⟩;rw [hev];exact hrun.trans (by show _ = Result.ok (Next.value (slotV ops (look (L x)) (N x) i)) w; rw [xR ho hd])
 ·intro k o hk ho a w x hI hdep hrest;obtain ⟨hg, hrd, _⟩ := fL (hpl x) ho;have hev := ev_of (T := look (L x)) (N := N x) (fun _ => false) hrd (hsk o) (fun e he hb o' d' ho' hd' _ hN => (hdep e he hb o' d' ho' hd').trans ((xR ho' hd').trans (fA hN))) hrest (mA (hout x));refine ⟨vA hg, fun K Q hK => ?_⟩;rcases hchain (look (L x)) k x w o hk ho (jL (hnd x)) hI with ⟨v, W', hrun, x', h1, h2, h3⟩ | ⟨f, args, hrun, hc⟩
  ·have hput := hK v W' x' h2 (fun d hd => (h1 d hd).trans (xR ho hd).symm) h3;rcases hrun with hrun | ⟨hrun, hd⟩
   ·exact jD (by rw [hev]; exact hrun) hput
   ·exact jW (by rw [hev]; exact hrun) (by rw [hd] at hput ⊢; exact hput)
  ·refine jJ (R := fun v w' => NextT ops cls L N Inv k x o v w') (by rw [hev]; exact hrun) hc ?_;rintro v w' ⟨x', h1, h2, h3⟩;exact hK v w' x' h2 (fun d hd => (h1 d hd).trans (xR ho hd).symm) h3
 ·intro x w hI;have := hdone x w hI;rwa [fH _ (slotV ops (look (L x)) (N x)) ops.toList 0 a0 (fun j o hj d hd => by rw [Nat.zero_add]; exact xR (by simpa using hj) hd)]
theorem fQ : ∀ {L D : List (Tmp × Value)} {d : Tmp}, D.all (fun p => p.1 != d) = true → look (L ++ D) d = look L d
 | [], [], _, _ => rfl
 | [], p :: D, d, h => by
  rw [List.all_cons, κb] at h;have := fQ (L := []) h.2;rw [List.nil_append] at this ⊢;show (if p.1 = d then p.2 else look D d) = undef
  rw [if_neg (by simpa using h.1)];exact this
 | p :: L, D, d, h => by rw [κw, look, look, fQ h]
theorem kV {T : Tmp → Value} : ∀ {L D : List (Tmp × Value)}, zA T (L ++ D) → zA T L ∧ zA T D
 | [], D, h => ⟨trivial, h⟩
 | p :: L, D, h => ⟨⟨h.1, (kV h.2).1⟩, (kV h.2).2⟩
def depO (dk : List Tmp) (o : Oper) : Bool := match o.dst with
 | some d => dk.contains d
 | none => false
def ReadX (P : Program) (dk : List Tmp) (D : X → List (Tmp × Value)) (Post : X → World → Prop) (T : Tmp → Value) (W : World) (o : Oper) : Prop :=
 if depO dk o = true then ∀ x, zA T (D x) → Post x W → ReadT P T [] W o else ReadT P T [] W o
section
variable {dk : List Tmp} {D : X → List (Tmp × Value)} {Post : X → World → Prop}
theorem opN (h : ReadT P T [] W o) : ReadX P dk D Post T W o := by
 unfold ReadX;by_cases hd : depO dk o = true
 ·rw [if_pos hd]; exact fun _ _ _ => h
 ·rw [if_neg hd]; exact h
theorem opX (h : ∀ x, zA T (D x) → Post x W → ReadT P T [] W o) (hd : depO dk o = true := by rfl) : ReadX P dk D Post T W o := by
 unfold ReadX;rw [if_pos hd];exact h
end
theorem noSt {a b : Nat} {p : Prop} (h : decide (a < b) = false := by rfl) : a < b → p := fun k => by rw [κt k] at h; cases h
theorem zT {id : Nat} {w0 : World} (n m q : Nat) (gm : Tmp) (L : List (Tmp × Value)) (dk : List Tmp) (D : X → List (Tmp × Value)) (outs : List Tmp) (Post : X → World → Prop) (zs : List Value) (bt : TypeId) (S : X → List Value)
  (hPost : ∀ x w w', Below w.heap.size w w' → Post x w → Post x w')
  (hread : ∀ T W, zA T L → Below w0.heap.size w0 W → AllI (fun i o => i ≠ n → i ≠ m → i ≠ q → ReadX P dk D Post T W o) 0 ops.toList)
  (hcall : ∀ T W o, ops[n]? = some o → zA T L → Below w0.heap.size w0 W → ∃ f args, (execOp (EvT T) o).run P W = .ok (.enter f args) W ∧ Calls P f args W fun e w' => ∃ x, e = .returned (slotV ops (look (L ++ D x)) [] n) ∧ Post x w' ∧ Below W.heap.size W w')
  (hstore : q < ops.size → ∀ T x g W o, ops[q]? = some o → zA T L → zA T (D x) → T gm = .pointer (some ⟨g, 0, none⟩) → Post x W → Below w0.heap.size w0 W → w0.heap.size ≤ g → g < W.heap.size → Box W g zs → TB W g bt →
   (execOp (EvT T) o).run P W = .ok .skip (W.setCells g 0 (S x)) ∧ Post x (W.setCells g 0 (S x)) ∧ (S x).length = zs.length)
  (hdone : ∀ x g w, Below w0.heap.size w0 w → Post x w → (m < ops.size → w0.heap.size ≤ g ∧ g < w.heap.size ∧ (q < ops.size → Box w g (S x))) → Q .normal (putT (look ((gm, .pointer (some ⟨g, 0, none⟩)) :: (L ++ D x))) ops.toList a0) w)
  (hall : ∀ T W o, ops[m]? = some o → (execOp (EvT T) o).run P W = .ok (.value (.pointer (some ⟨W.heap.size, 0, none⟩))) (W.alloc (.cells zs.toArray bt)) := by intro T W o ho; cases ho <;> rfl)
  (hm : P.follows .mixedOrders = true := by kernel_rfl) (hok : jU ops a0.tmps.size = true := by kernel_rfl)
  (ht : (tieBQ (X := Unit) { n := n, m := m, q := q, V := fun _ _ => undef, dep := fun j => match ops[j]? with | some o => depO dk o | none => false, Post := fun _ _ => True, zs := [], bt := 0, S := fun _ => [] } ops && cQ ops outs [] (fun d => d == gm) q && uT L && (decide (ops.size ≤ q) || decide (m < ops.size)) && (match ops[m]? with | some o => o.dst == some gm | none => true) && (List.range ops.size).all fun j => decide (j = m) || match ops[j]? with | some o => !(o.dst == some gm) | none => true) = true := by kernel_rfl)
  (hnd : ∀ x, (uT (L ++ D x) && (L ++ D x).all (fun p => p.1 != gm)) = true := by intro _; kernel_rfl) (hdk : ∀ x, (D x).map (·.1) = dk := by intro _; rfl)
  (hout : outs.map (fun d => a0.tmps.getD d undef) = outs.map (look L) := by rfl) (hlo : outs.all (fun d => !dk.contains d && d != gm) = true := by kernel_rfl) : (Code.region id ops true).wp P Q a0 w0 := by
 simp only [κb] at ht;obtain ⟨⟨⟨⟨⟨ht, hpl⟩, hndL⟩, hmq⟩, hmd⟩, huq⟩ := ht;have hne : ∀ (x : X) (d : Tmp), dk.contains d = false → (D x).all (fun p => p.1 != d) = true := fun x d hd => by
  rw [List.all_eq_true];intro p hp;have : p.1 ∈ dk := by rw [← hdk x]; exact List.mem_map_of_mem hp
  rw [bne_iff_ne];rintro rfl;rw [List.contains_iff_mem.2 this] at hd;cases hd
 let T : TieQ X := { n := n, m := m, q := q, V := fun ox j => if j = m then undef else slotV ops (look (L ++ ox.elim [] D)) [] j, dep := fun j => match ops[j]? with | some o => depO dk o | none => false, Post := Post, zs := zs, bt := bt, S := S }
 have hmn : n ≠ m := by
  have h := ht;unfold tieBQ at h;simp only [κb, κe] at h;exact fun e => h.1.1.1.2 e.symm
 have hgm : ∀ (o : Oper) d, ops[m]? = some o → o.dst = some d → d = gm := fun o d ho hd => by
  rw [ho] at hmd;have := eq_of_beq hmd;rw [hd] at this;injection this
 have hoL : ∀ (ox : Option X), ∀ d ∈ outs, a0.tmps.getD d undef = look (L ++ ox.elim [] D) d := fun ox d hd => by
  rw [mA hout d hd];have h1 := List.all_eq_true.1 hlo d hd;rw [κb] at h1;cases ox with
  | none => simp
  | some x => exact (fQ (hne x d (by simpa using h1.1))).symm
 have hHL : ∀ (ox : Option X), zA (look (L ++ ox.elim [] D)) L := fun ox => by
  cases ox with
  | none => simpa using jL hndL
  | some x => exact (kV (jL (by have := hnd x; rw [κb] at this; exact this.1))).1
 have hHD : ∀ x, zA (look (L ++ D x)) (D x) := fun x => (kV (jL (by have := hnd x; rw [κb] at this; exact this.1))).2
 have hVs : ∀ (ox : Option X) (j : Nat) (o : Oper) (d : Tmp), ops[j]? = some o → o.dst = some d → j ≠ m → T.V ox j = look (L ++ ox.elim [] D) d := fun ox j o d ho hd hj => by
  show (if j = m then undef else slotV ops (look (L ++ ox.elim [] D)) [] j) = _
  rw [if_neg hj, xR ho hd];rfl
 have hg_ : ∀ (x : X) (g : Nat) (l : List (Tmp × Value)), l.all (fun p => p.1 != gm) = true → zA (look (L ++ D x)) l → zA (fun d => if d = gm then Value.pointer (some ⟨g, 0, none⟩) else look (L ++ D x) d) l := fun x g l hl h => kD (fun p hp => by
  have := List.all_eq_true.1 hl p hp;rw [if_neg (by simpa using this)]) h
 have hnk : ∀ x, L.all (fun p => p.1 != gm) = true ∧ (D x).all (fun p => p.1 != gm) = true := fun x => by
  have := hnd x;rw [κb, List.all_append, κb] at this;exact this.2
 refine pS T hm hok ht ?_ hPost ?_ ?_
 ·intro x j hd;show (if j = m then undef else slotV ops (look (L ++ [])) [] j) = (if j = m then undef else slotV ops (look (L ++ D x)) [] j)
  split
  ·rfl
  ·have hd' : (match ops[j]? with | some o => (match o.dst with | some d => dk.contains d | none => false) | none => false) = false := hd;unfold slotV;cases ho : ops[j]? with
   | none => rfl
   | some o =>
    rw [ho] at hd';dsimp only;cases hds : o.dst with
    | none => rfl
    | some d =>
     have hd' : depO dk o = false := hd';unfold depO at hd';rw [hds] at hd';dsimp only at hd' ⊢;show look (L ++ []) d = look (L ++ D x) d
     rw [κp, fQ (hne x d hd')]
 ·intro i o ho a w ox hI hx hpo hdep hrest _;obtain ⟨hg, hrd, hsk⟩ := fL hpl ho;refine ⟨fun _ => ⟨?_, ?_, ?_, ?_⟩, fun hw => by rw [vA hg] at hw; cases hw⟩
  all_goals intro hi
  ·subst hi;have hsk' := hsk;by_cases hnq : i = q
   ·exfalso;have h := ht;unfold tieBQ at h;simp only [κb, κe] at h;have h2 := h.1.1.1.1.2;rw [← hnq, ho] at h2;simp only [κb, κe] at h2;exact h2.1.1.1.2 rfl
   have hev := ev_of (T := look (L ++ ox.elim [] D)) (N := []) (fun d => d == gm) hrd (hsk.resolve_left hnq) (fun e he hb o' d' ho' hd' hs _ => by
    have hne' : e.on ≠ m := fun e' => by rw [e'] at ho'; have := hgm o' d' ho' hd'; simp [this] at hs
    rw [hdep e he hb hne' o' d' ho' hd', hVs ox _ o' d' ho' hd' hne']) hrest (hoL ox)
   obtain ⟨f, args, hrun, hc⟩ := hcall _ w o ho (hHL ox) hI;refine ⟨f, args, by rw [hev]; exact hrun, hc.mono fun e w' ⟨x, he, hp, hb⟩ => ⟨x, ?_, hp, hb⟩⟩;rw [he];show _ = Ending.returned (if i = m then undef else slotV ops (look (L ++ D x)) [] i)
   rw [if_neg hmn]
  ·subst hi;by_cases hnq : i = q
   ·exfalso;have h := ht;unfold tieBQ at h;simp only [κb, κe] at h;have h2 := h.1.1.1.1.2;rw [← hnq, ho] at h2;simp only [κb, κe] at h2;exact h2.1.1.1.1.2 rfl
   have hev := ev_of (T := look (L ++ ox.elim [] D)) (N := []) (fun d => d == gm) hrd (hsk.resolve_left hnq) (fun e he hb o' d' ho' hd' hs _ => by
    have hne' : e.on ≠ i := fun e' => by rw [e'] at ho'; have := hgm o' d' ho' hd'; simp [this] at hs
    rw [hdep e he hb hne' o' d' ho' hd', hVs ox _ o' d' ho' hd' hne']) hrest (hoL ox)
   rw [hev];exact hall _ w o ho
  ·subst hi;intro x g hox h1 h2 hbx htb hgg;subst hox;have hmlt : m < ops.size := by
    have hql := (κi ho).1;rw [Bool.or_eq_true, κe, κe] at hmq;omega
   have hgt : a.tmps.getD gm undef = .pointer (some ⟨g, 0, none⟩) := by
    have hmo := Array.getElem?_eq_getElem hmlt;rw [hmo] at hmd;exact hgg _ gm hmo (eq_of_beq hmd)
   have hev := ev_of (T := fun d => if d = gm then Value.pointer (some ⟨g, 0, none⟩) else look (L ++ D x) d) (N := []) (fun _ => false) hrd (by rw [Array.all_eq_true]; intro k hk; cases o.op.operands[k] <;> rfl) (fun e he hb o' d' ho' hd' _ _ => by
    by_cases hdg : d' = gm
    ·rw [if_pos hdg, hdg]; exact hgt
    ·have hne' : e.on ≠ m := fun e' => by rw [e'] at ho'; exact hdg (hgm o' d' ho' hd')
     rw [if_neg hdg, hdep e he hb hne' o' d' ho' hd', hVs (some x) _ o' d' ho' hd' hne']; rfl) hrest (fun d hd => by
    have h1 := List.all_eq_true.1 hlo d hd;rw [κb] at h1;rw [if_neg (by simpa using h1.2)];exact hoL (some x) d hd)
   obtain ⟨k1, k2, k3⟩ := hstore (κi ho).1 _ x g w o ho (hg_ x g L (hnk x).1 (hHL (some x))) (hg_ x g (D x) (hnk x).2 (hHD x)) (if_pos rfl) (hpo x rfl) hI h1 h2 hbx htb;exact ⟨by rw [hev]; exact k1, k2, k3⟩
  ·intro him hiq;have hev := ev_of (T := look (L ++ ox.elim [] D)) (N := []) (fun d => d == gm) hrd (hsk.resolve_left hiq) (fun e he hb o' d' ho' hd' hs _ => by
    have hne' : e.on ≠ m := fun e' => by rw [e'] at ho'; have := hgm o' d' ho' hd'; simp [this] at hs
    rw [hdep e he hb hne' o' d' ho' hd', hVs ox _ o' d' ho' hd' hne']) hrest (hoL ox)
   have hR := (hread (look (L ++ ox.elim [] D)) w (hHL ox) hI).at (i := i) (by simpa using ho);rw [Nat.zero_add] at hR;replace hR := hR hi him hiq;have hRT : ReadT P (look (L ++ ox.elim [] D)) [] w o := by
    unfold ReadX at hR;by_cases hdp : depO dk o = true
    ·rw [if_pos hdp] at hR;obtain ⟨x, rfl⟩ := hx (by show (match ops[i]? with | some o => depO dk o | none => false) = true; rw [ho]; exact hdp) hi;exact hR x (hHD x) (hpo x rfl)
    ·rw [if_neg hdp] at hR;exact hR
   obtain ⟨d, hd, hrun⟩ := hRT;rw [hev, hVs ox i o d ho hd him];exact hrun
 ·intro x g w hb hP hG;have := hdone x g w hb hP hG;have e := fH (look ((gm, Value.pointer (some ⟨g, 0, none⟩)) :: (L ++ D x))) (fun j => if j = T.m then Value.pointer (some ⟨g, 0, none⟩) else T.V (some x) j) ops.toList 0 a0 (fun j o hj d hd => by
   rw [Nat.zero_add];have ho : ops[j]? = some o := by simpa using hj
   by_cases hjm : j = m
   ·subst hjm;rw [hgm o d ho hd];show (if j = j then _ else _) = (if gm = gm then _ else _)
    rw [if_pos rfl, if_pos rfl]
   ·have hjl := (κi ho).1;have hu := List.all_eq_true.1 huq j (List.mem_range.2 hjl);rw [ho] at hu;have hdg : d ≠ gm := fun e => by
     simp [hjm, hd, e] at hu
    show (if j = m then _ else T.V (some x) j) = (if gm = d then _ else _)
    rw [if_neg hjm, if_neg (Ne.symm hdg), hVs (some x) j o d ho hd hjm];rfl)
  rw [e];exact this
end
theorem jH (b : Nat) (s : ByteArray) (i nx er : Int) (w : World) (hB : Box w b [.string s, .int .i64 i, .int .i64 0]) :
  Calls Tryz.prog 100 #[.pointer (some ⟨b, 0, none⟩), .int .i64 nx, .int .i64 er] w fun e w' => e = .returned (.tuple #[]) ∧ Box w' b [.string s, .int .i64 (mvI er nx i), .int .i64 er] ∧ w.grownBy w' (some b) := by
 have HX := η hB;obtain ⟨q0, s0, q1, s1, q2, s2⟩ := sqX3 hB;clear hB;by_cases h : er = 0
 ·subst h;have HF := η ((HX.out.set1 2 (by simp) (.int .i64 0)).set1 1 (by simp) (.int .i64 nx));go_enter Tryz.func100, Tryz.ntmps100;go_wp2_with fail;exact bodyPost_end (v := .tuple #[]) (by simp [results, Tryz.results100, go_sem]) rfl ⟨rfl, HF.out, qD (p := ⟨b, 1, none⟩) (qD (p := ⟨b, 2, none⟩) (World.grownBy.refl _ _) (.inl rfl) _) (.inl rfl) _⟩
 ·have e0 : (er == 0) = false := βf h;have HM : Hid (mvI er nx i = i) := if_neg h;have HF := η (HX.out.set1 2 (by simp) (.int .i64 er));clear h;go_enter Tryz.func100, Tryz.ntmps100;go_wp2_with fail;exact bodyPost_end (v := .tuple #[]) (by simp [results, Tryz.results100, go_sem]) rfl ⟨rfl, by rw [HM.out]; exact HF.out, qD (p := ⟨b, 2, none⟩) (World.grownBy.refl _ _) (.inl rfl) _⟩
theorem qQ (b : Nat) (s : Bytes) (k : Int) (rd : Rd) (w : World) (hs : SlOk s) (hl : s.length ≤ 1000000) (hk : k ≠ 4) (hR : RdR w b s rd) :
  Calls Tryz.prog 56 #[.pointer (some ⟨b, 0, none⟩), .int .u8 k] w (StepR b s (rTok s k rd) w) := by
 have hR0 := hR;obtain ⟨i, er, hB, h0, h1, h2, h3⟩ := hR.er;have HB := η hB;obtain ⟨q0, s0, q1, s1, q2, s2⟩ := sqX3 hB;by_cases he : rd.e = 0
 ·obtain rfl := h0.2 he;obtain ⟨rfl, hi1, hi2⟩ := h3 he;have E : Hid (rTok s k rd = rMove rd (expT s rd.i k).1 (expT s rd.i k).2.2) := if_neg (by rw [he]; simp);have K1 := η fun W => xN s rd.i k W hs ⟨hi1, hi2⟩ hl
  have hlt : b < w := hB.lt (by simp);clear hB hR hR0 h0 h1 h2 h3 he;go_enter Tryz.func56, Tryz.ntmps56;go_wp2_with fail;refine zT (X := TkX) (w0 := w) 9 14 15 4 [(0, .pointer (some ⟨b, 0, none⟩)), (1, .int .u8 k), (13, .pointer (some ⟨b, 0, none⟩)), (14, .pointer (some ⟨b, 0, none⟩)), (15, .pointer (some ⟨b, 0, none⟩)), (16, .string (bstr s)), (17, .pointer (some ⟨b, 0, none⟩)), (18, .pointer (some ⟨b, 0, none⟩)), (19, .pointer (some ⟨b, 1, none⟩)), (20, .int .i64 rd.i), (21, .int .u8 k)] [22, 12, 23, 24, 25, 5, 6] (fun x => [(22, .tuple #[.agg #[.int .u8 x.k, .string x.t, .bool x.ng, .slice x.A x.l x.c, .bool x.ng', .slice x.A' x.l' x.c'], .int .i64 x.nx, .int .i64 x.er]), (12, .tuple #[.agg #[.int .u8 x.k, .string x.t, .bool x.ng, .slice x.A x.l x.c, .bool x.ng', .slice x.A' x.l' x.c'], .int .i64 x.nx, .int .i64 x.er]), (23, .agg #[.int .u8 x.k, .string x.t, .bool x.ng, .slice x.A x.l x.c, .bool x.ng', .slice x.A' x.l' x.c']), (24, .int .i64 x.nx), (25, .int .i64 x.er), (5, .int .i64 x.nx), (6, .int .i64 x.er)]) [0, 1] (fun x _ => MvP ((expT s rd.i k).1, (expT s rd.i k).2.2) x.nx x.er) [.int .u8 0, .string ⟨#[]⟩, .bool false, .slice none 0 0, .bool false, .slice none 0 0] 87 (fun x => [.int .u8 x.k, .string x.t, .bool x.ng, .slice x.A x.l x.c, .bool x.ng', (Value.slice x.A' x.l' x.c')]) (fun _ _ _ _ h => h) ?_ ?_ ?_ ?_
  ·intro T W hT hI;simp only [zA, and_true] at hT;have c0 := (hI.cell (p := ⟨b, 0, none⟩) hlt).trans q0;have c1 := (hI.cell (p := ⟨b, 1, none⟩) hlt).trans q1
   repeat' first | exact AllI.nil | apply AllI.cons
   all_goals intro hn hm hq
   all_goals first | exact absurd rfl hn | exact absurd rfl hm | exact absurd rfl hq | (refine opN (rdT ?_); simp [go_sem, EvT, hT, c0, c1, valT]; done) | (refine opX fun x hD _ => rdT ?_; simp only [zA, and_true] at hD; simp [go_sem, EvT, hT, c0, c1, hD, valT])
  ·intro T W o ho hT hI;cases ho;simp only [zA, and_true] at hT;exact ⟨121, #[.string (bstr s), .int .i64 rd.i, .int .u8 k], by simp [go_sem, EvT, hT], (K1.out W).mono fun e w' ⟨hb, k', t, ng, A, l, c, ng', A', l', c', nx, er, he, hP, hK⟩ => ⟨⟨k', t, ng, A, l, c, ng', A', l', c', nx, er⟩, he, hP.mv hK hk, hb⟩⟩
  ·intro _ T x gg W o ho hT hD hgm hP hI h1 h2 hbox htb;cases ho;simp only [zA, and_true] at hT hD;obtain ⟨b0, c0, b1, c1, b2, c2, b3, c3, b4, c4, b5, c5⟩ := sqX6 hbox;refine ⟨?_, hP, rfl⟩;clear hP hI hbox htb;simp [go_sem, EvT, hT, hD, hgm, b0, c0, b1, c1, b2, c2, b3, c3, b4, c4, b5, c5]
   try rfl
  intro x g wx hb hP hG;simp (decide := true) only [putT, look, κw, List.nil_append, Act.put, σi, σo, σs, Nat.reduceAdd, if_true, if_false];replace hP : (fun x _ => MvP ((expT s rd.i k).1, (expT s rd.i k).2.2) x.nx x.er) x wx := hP
  (try dsimp only at hP)
  obtain ⟨hg1, hg2, hg3⟩ : w ≤ g ∧ g < wx ∧ Box wx g [.int .u8 x.k, .string x.t, .bool x.ng, .slice x.A x.l x.c, .bool x.ng', (Value.slice x.A' x.l' x.c')] := ⟨(hG (by decide)).1, (hG (by decide)).2.1, (hG (by decide)).2.2 (by decide)⟩;clear hG;have HBX := η (HB.out.up hb hlt);have HW := η (zJ (b := b) hb);have HP := η hP;have HL := η (fun h => yI s rd.i k h);clear K1 HB hb hg1 hg2 hg3 hP q0 q1 q2 s0 s1 s2;obtain ⟨xk, xt, xng, xA, xl, xc, xng', xA', xl', xc', nx, er⟩ := x;go_wp2_with fail;refine (jH b (bstr s) rd.i nx er _ HBX.out).mono ?_;rintro e w2 ⟨rfl, hB2, hg2⟩;go_wp2_with fail;exact bodyPost_end (v := .tuple #[]) (by simp [results, Tryz.results56, go_sem]) rfl ⟨rfl, by rw [E.out]; exact RdR.move hB2 HP.out HL.out hl, zB HW.out hg2⟩
 ·have E : Hid (rTok s k rd = rd) := if_pos he;have e0 : (er == 0) = false := βf fun h => he (h0.1 h)
  have e1 : (er != 0) = true := βt fun h => he (h0.1 h)
  have HR := η hR0;clear hB hR hR0 h0 h1 h2 h3 he;go_enter Tryz.func56, Tryz.ntmps56;go_wp2_with fail;exact bodyPost_end (v := .tuple #[]) (by simp [results, Tryz.results56, go_sem]) rfl ⟨rfl, by rw [E.out]; exact HR.out, World.grownBy.refl _ _⟩
theorem yU (b : Nat) (s : Bytes)  (rd : Rd) (w : World) (hs : SlOk s) (hl : s.length ≤ 1000000)  (hR : RdR w b s rd) :
  Calls Tryz.prog 114 #[.pointer (some ⟨b, 0, none⟩)] w (IntR b s (rInt s rd) w) := by
 have hR0 := hR;obtain ⟨i, er, hB, h0, h1, h2, h3⟩ := hR.er;have HB := η hB;obtain ⟨q0, s0, q1, s1, q2, s2⟩ := sqX3 hB;by_cases he : rd.e = 0
 ·obtain rfl := h0.2 he;obtain ⟨rfl, hi1, hi2⟩ := h3 he;have E : Hid (rInt s rd = ((expI s rd.i).2.1, rMove rd (expI s rd.i).1 (expI s rd.i).2.2)) := if_neg (by rw [he]; simp);have K1 := η fun W => xX s rd.i W hs ⟨hi1, hi2⟩ hl
  have hlt : b < w := hB.lt (by simp);clear hB hR hR0 h0 h1 h2 h3 he;go_enter Tryz.func114, Tryz.ntmps114;go_wp2_with fail;refine zT (X := Int × Int × Int) (w0 := w) 8 1000 1000 9999 [(0, .pointer (some ⟨b, 0, none⟩)), (12, .pointer (some ⟨b, 0, none⟩)), (13, .pointer (some ⟨b, 0, none⟩)), (14, .pointer (some ⟨b, 0, none⟩)), (15, .string (bstr s)), (16, .pointer (some ⟨b, 0, none⟩)), (17, .pointer (some ⟨b, 0, none⟩)), (18, .pointer (some ⟨b, 1, none⟩)), (19, .int .i64 rd.i)] [20, 11, 21, 22, 23, 3, 4, 5] (fun x => [(20, .tuple #[.int .i64 x.1, .int .i64 x.2.1, .int .i64 x.2.2]), (11, .tuple #[.int .i64 x.1, .int .i64 x.2.1, .int .i64 x.2.2]), (21, .int .i64 x.1), (22, .int .i64 x.2.1), (23, .int .i64 x.2.2), (3, .int .i64 x.1), (4, .int .i64 x.2.1), (5, .int .i64 x.2.2)]) [0] (fun x _ => IntP (expI s rd.i) x.1 x.2.1 x.2.2) [] 0 (fun x => []) (fun _ _ _ _ h => h) ?_ ?_ noSt ?_
  ·intro T W hT hI;simp only [zA, and_true] at hT;have c0 := (hI.cell (p := ⟨b, 0, none⟩) hlt).trans q0;have c1 := (hI.cell (p := ⟨b, 1, none⟩) hlt).trans q1
   repeat' first | exact AllI.nil | apply AllI.cons
   all_goals intro hn hm hq
   all_goals first | exact absurd rfl hn | exact absurd rfl hm | exact absurd rfl hq | (refine opN (rdT ?_); simp [go_sem, EvT, hT, c0, c1, valT]; done) | (refine opX fun x hD _ => rdT ?_; simp only [zA, and_true] at hD; simp [go_sem, EvT, hT, c0, c1, hD, valT])
  ·intro T W o ho hT hI;cases ho;simp only [zA, and_true] at hT;exact ⟨166, #[.string (bstr s), .int .i64 rd.i], by simp [go_sem, EvT, hT], (K1.out W).mono fun e w' ⟨hb, n, nx, er, he, hP⟩ => ⟨(n, nx, er), he, hP, hb⟩⟩
  intro x g wx hb hP hG;simp (decide := true) only [putT, look, κw, List.nil_append, Act.put, σi, σo, σs, Nat.reduceAdd, if_true, if_false];replace hP : (fun x _ => IntP (expI s rd.i) x.1 x.2.1 x.2.2) x wx := hP
  (try dsimp only at hP)
  clear hG;have HBX := η (HB.out.up hb hlt);have HW := η (zJ (b := b) hb);have HP := η hP;have HL := η (fun h => mO s rd.i h);clear K1 HB hb hP q0 q1 q2 s0 s1 s2;obtain ⟨n, nx, er⟩ := x;go_wp2_with fail;refine (jH b (bstr s) rd.i nx er _ HBX.out).mono ?_;rintro e w2 ⟨rfl, hB2, hg2⟩;go_wp2_with fail;refine κr (v := .int .i64 n) (by simp [results, Tryz.results114, go_sem]) rfl ⟨by rw [E.out]; exact zC HP.out.1, by rw [E.out]; exact RdR.move (r := ((expI s rd.i).1, (expI s rd.i).2.2)) hB2 HP.out.2 HL.out hl, zB HW.out hg2⟩
 ·have E : Hid (rInt s rd = (0, rd)) := if_pos he;have e0 : (er == 0) = false := βf fun h => he (h0.1 h)
  have e1 : (er != 0) = true := βt fun h => he (h0.1 h)
  have HR := η hR0;clear hB hR hR0 h0 h1 h2 h3 he;go_enter Tryz.func114, Tryz.ntmps114;go_wp2_with fail;exact κr (v := .int .i64 0) (by simp [results, Tryz.results114, go_sem]) rfl ⟨by rw [E.out], by rw [E.out]; exact HR.out, World.grownBy.refl _ _⟩
theorem jQ (b : Nat) (s : Bytes) (y : Bytes) (rd : Rd) (w : World) (hs : SlOk s) (hl : s.length ≤ 1000000) (hR : RdR w b s rd) :
  Calls Tryz.prog 45 #[.pointer (some ⟨b, 0, none⟩), .string (bstr y)] w (StepR b s (rOpen s y rd) w) := by
 have K1 := η (qQ b s 1 rd w hs hl (by decide) hR);unfold rOpen;generalize rTok s 1 rd = rd1 at *;clear hR;go_enter Tryz.func45, Tryz.ntmps45;go_wp2_with fail;refine K1.out.mono ?_;rintro e w1 ⟨rfl, hR1, hg1⟩;have hR0 := hR1;obtain ⟨i, er, hB, h0, h1, h2, h3⟩ := hR1.er;have HB := η hB;obtain ⟨q0, s0, q1, s1, q2, s2⟩ := sqX3 hB;have HW1 := η hg1;clear hg1 K1;by_cases he : rd1.e = 0
 ·obtain rfl := h0.2 he;obtain ⟨rfl, hi1, hi2⟩ := h3 he;have E : Hid (rWord s y rd1 = rMove rd1 (expW s rd1.i y).1 (expW s rd1.i y).2) := if_neg (by rw [he]; simp);have K2 := η fun W => xJ s rd1.i y W hs ⟨hi1, hi2⟩ hl
  have K3 := η fun nx er W h => jH b (bstr s) rd1.i nx er W h
  have HL := η (fun h => mM s rd1.i y h);have hlt : b < w1 := hB.lt (by simp);clear hB hR1 hR0 h0 h1 h2 h3 he;go_wp2_with fail;refine zL (X := Int × Int) (w0 := w1) [10, 13] (fun jq => [0, 0, 0, 0, 0, 0, 0, 0, 0, 0, 1, 1, 1, 2].getD jq 0) (fun jq => [1, 0, 0, 0, 0, 0, 0, 0, 0, 0, 0, 1, 1, 1].getD jq 0) (fun x => [(0, .pointer (some ⟨b, 0, none⟩)), (1, .string (bstr y)), (11, .pointer (some ⟨b, 0, none⟩)), (12, .pointer (some ⟨b, 0, none⟩)), (13, .pointer (some ⟨b, 0, none⟩)), (14, .pointer (some ⟨b, 0, none⟩)), (15, .string (bstr s)), (16, .pointer (some ⟨b, 0, none⟩)), (17, .pointer (some ⟨b, 0, none⟩)), (18, .pointer (some ⟨b, 1, none⟩)), (19, .int .i64 rd1.i), (20, .string (bstr y)), (21, .tuple #[.int .i64 x.1, .int .i64 x.2]), (22, .int .i64 x.1), (23, .int .i64 x.2), (24, .tuple #[])]) (fun _ => []) [0, 1] (fun t x W => match t with | 0 => Below w1 w1 W | 1 => Below w1 w1 W ∧ MvP (expW s rd1.i y) x.1 x.2 | _ => RdR W b s (rWord s y rd1) ∧ w1.grownBy W (some b)) (0, 0) (Below.refl _ _).drew ?_ ?_ ?_
  ·intro T x t W hT hI htl;simp only [zA, and_true] at hT;rcases t with _ | _ | _ | t
   ·skip
    replace hI : Below w1 w1 W := hI;have c0 := (hI.cell (p := ⟨b, 0, none⟩) hlt).trans q0;have c1 := (hI.cell (p := ⟨b, 1, none⟩) hlt).trans q1
    repeat' first | exact AllI.nil | apply AllI.cons
    all_goals intro hn hl hu
    all_goals first | exact absurd hn (by decide) | exact absurd hl (by decide) | exact absurd hu (by decide) | (refine rdT ?_; simp [go_sem, EvT, hT, c0, c1, valT])
   ·skip
    repeat' first | exact AllI.nil | apply AllI.cons
    all_goals intro hn hl hu
    all_goals first | exact absurd hn (by decide) | exact absurd hl (by decide) | exact absurd hu (by decide) | (refine rdT ?_; simp [go_sem, EvT, hT, valT])
   ·exact noI
   ·exact absurd htl (by simp)
  ·intro T k x W o hk ho hT hI;simp only [zA, and_true] at hT;rcases k with _ | _ | k
   ·cases ho;replace hI : Below w1 w1 W := hI;exact chT_c 101 #[.string (bstr s), .int .i64 rd1.i, .string (bstr y)] (by simp [go_sem, EvT, hT]) ((K2.out W).mono fun e w' ⟨hb, nx, er, he, hP⟩ => ⟨_, he, (nx, er), rfl, hI.trans (hb.mono hI.size), hP⟩)
   ·cases ho;replace hI : Below w1 w1 W ∧ MvP (expW s rd1.i y) x.1 x.2 := hI;exact chT_k 100 #[.pointer (some ⟨b, 0, none⟩), .int .i64 x.1, .int .i64 x.2] (by simp [go_sem, EvT, hT]) ((K3.out x.1 x.2 W (HB.out.up hI.1 hlt)).mono fun e w' ⟨he, hB2, hg2⟩ => ⟨_, he, rfl, by rw [E.out]; exact RdR.move hB2 hI.2 HL.out hl, zB (zJ hI.1) hg2⟩)
   ·exact absurd hk (by simp)
  intro x wx hI;simp (decide := true) only [putT, valT, look, Act.put, σi, σo, σs, Nat.reduceAdd, if_true, if_false];replace hI : (fun t x W => match t with | 0 => Below w1 w1 W | 1 => Below w1 w1 W ∧ MvP (expW s rd1.i y) x.1 x.2 | _ => RdR W b s (rWord s y rd1) ∧ w1.grownBy W (some b)) 2 x wx := hI
  (try dsimp only at hI)
  obtain ⟨hR2, hg2⟩ := hI;go_wp2_with fail;exact bodyPost_end (v := .tuple #[]) (by simp [results, Tryz.results45, go_sem]) rfl ⟨rfl, hR2, zB HW1.out hg2⟩
 ·have E : Hid (rWord s y rd1 = rd1) := if_pos he;have e0 : (er == 0) = false := βf fun h => he (h0.1 h)
  have HR := η hR0;clear hB hR1 hR0 h0 h1 h2 h3 he;go_wp2_with fail;exact bodyPost_end (v := .tuple #[]) (by simp [results, Tryz.results45, go_sem]) rfl ⟨rfl, by rw [E.out]; exact HR.out, HW1.out⟩
theorem vN (b : Nat) (s : ByteArray) (i nx er : Int) (w : World) (hB : Box w b [.string s, .int .i64 i, .int .i64 0]) :
  Calls Tryz.prog 167 #[.pointer (some ⟨b, 0, none⟩), .int .i64 nx, .int .i64 er] w fun e w' => e = .returned (.tuple #[]) ∧ Box w' b [.string s, .int .i64 (mvI er nx i), .int .i64 er] ∧ w.grownBy w' (some b) := by
 have HX := η hB;obtain ⟨q0, s0, q1, s1, q2, s2⟩ := sqX3 hB;clear hB;by_cases h : er = 0
 ·subst h;have HF := η (HX.out.set1 1 (by simp) (.int .i64 nx));go_enter Tryz.func167, Tryz.ntmps167;go_wp2_with fail;exact bodyPost_end (v := .tuple #[]) (by simp [results, Tryz.results167, go_sem]) rfl ⟨rfl, HF.out, qD (p := ⟨b, 1, none⟩) (World.grownBy.refl _ _) (.inl rfl) _⟩
 ·have e0 : (er == 0) = false := βf h;have e1 : (er != 0) = true := βt h;have HM : Hid (mvI er nx i = i) := if_neg h;have HF := η (HX.out.set1 2 (by simp) (.int .i64 er));clear h;go_enter Tryz.func167, Tryz.ntmps167;go_wp2_with fail;exact κr (v := .tuple #[]) (by simp [results, Tryz.results167, go_sem]) rfl ⟨rfl, by rw [HM.out]; exact HF.out, qD (p := ⟨b, 2, none⟩) (World.grownBy.refl _ _) (.inl rfl) _⟩
theorem kG (b : Nat) (s : Bytes) (k : Int) (rd : Rd) (w : World) (hs : SlOk s) (hl : s.length ≤ 1000000) (hk : k ≠ 4) (hR : RdR w b s rd) :
  Calls Tryz.prog 108 #[.pointer (some ⟨b, 0, none⟩), .int .u8 k] w (StepR b s (rTok s k rd) w) := by
 have hR0 := hR;obtain ⟨i, er, hB, h0, h1, h2, h3⟩ := hR.er;have HB := η hB;obtain ⟨q0, s0, q1, s1, q2, s2⟩ := sqX3 hB;by_cases he : rd.e = 0
 ·obtain rfl := h0.2 he;obtain ⟨rfl, hi1, hi2⟩ := h3 he;have E : Hid (rTok s k rd = rMove rd (expT s rd.i k).1 (expT s rd.i k).2.2) := if_neg (by rw [he]; simp);have K1 := η fun W => xN s rd.i k W hs ⟨hi1, hi2⟩ hl
  have hlt : b < w := hB.lt (by simp);clear hB hR hR0 h0 h1 h2 h3 he;go_enter Tryz.func108, Tryz.ntmps108;go_wp2_with fail;refine zT (X := TkX) (w0 := w) 9 14 15 4 [(0, .pointer (some ⟨b, 0, none⟩)), (1, .int .u8 k), (13, .pointer (some ⟨b, 0, none⟩)), (14, .pointer (some ⟨b, 0, none⟩)), (15, .pointer (some ⟨b, 0, none⟩)), (16, .string (bstr s)), (17, .pointer (some ⟨b, 0, none⟩)), (18, .pointer (some ⟨b, 0, none⟩)), (19, .pointer (some ⟨b, 1, none⟩)), (20, .int .i64 rd.i), (21, .int .u8 k)] [22, 12, 23, 24, 25, 5, 6] (fun x => [(22, .tuple #[.agg #[.int .u8 x.k, .string x.t, .bool x.ng, .slice x.A x.l x.c, .bool x.ng', .slice x.A' x.l' x.c'], .int .i64 x.nx, .int .i64 x.er]), (12, .tuple #[.agg #[.int .u8 x.k, .string x.t, .bool x.ng, .slice x.A x.l x.c, .bool x.ng', .slice x.A' x.l' x.c'], .int .i64 x.nx, .int .i64 x.er]), (23, .agg #[.int .u8 x.k, .string x.t, .bool x.ng, .slice x.A x.l x.c, .bool x.ng', .slice x.A' x.l' x.c']), (24, .int .i64 x.nx), (25, .int .i64 x.er), (5, .int .i64 x.nx), (6, .int .i64 x.er)]) [0, 1] (fun x _ => MvP ((expT s rd.i k).1, (expT s rd.i k).2.2) x.nx x.er) [.int .u8 0, .string ⟨#[]⟩, .bool false, .slice none 0 0, .bool false, .slice none 0 0] 87 (fun x => [.int .u8 x.k, .string x.t, .bool x.ng, .slice x.A x.l x.c, .bool x.ng', (Value.slice x.A' x.l' x.c')]) (fun _ _ _ _ h => h) ?_ ?_ ?_ ?_
  ·intro T W hT hI;simp only [zA, and_true] at hT;have c0 := (hI.cell (p := ⟨b, 0, none⟩) hlt).trans q0;have c1 := (hI.cell (p := ⟨b, 1, none⟩) hlt).trans q1
   repeat' first | exact AllI.nil | apply AllI.cons
   all_goals intro hn hm hq
   all_goals first | exact absurd rfl hn | exact absurd rfl hm | exact absurd rfl hq | (refine opN (rdT ?_); simp [go_sem, EvT, hT, c0, c1, valT]; done) | (refine opX fun x hD _ => rdT ?_; simp only [zA, and_true] at hD; simp [go_sem, EvT, hT, c0, c1, hD, valT])
  ·intro T W o ho hT hI;cases ho;simp only [zA, and_true] at hT;exact ⟨121, #[.string (bstr s), .int .i64 rd.i, .int .u8 k], by simp [go_sem, EvT, hT], (K1.out W).mono fun e w' ⟨hb, k', t, ng, A, l, c, ng', A', l', c', nx, er, he, hP, hK⟩ => ⟨⟨k', t, ng, A, l, c, ng', A', l', c', nx, er⟩, he, hP.mv hK hk, hb⟩⟩
  ·intro _ T x gg W o ho hT hD hgm hP hI h1 h2 hbox htb;cases ho;simp only [zA, and_true] at hT hD;obtain ⟨b0, c0, b1, c1, b2, c2, b3, c3, b4, c4, b5, c5⟩ := sqX6 hbox;refine ⟨?_, hP, rfl⟩;clear hP hI hbox htb;simp [go_sem, EvT, hT, hD, hgm, b0, c0, b1, c1, b2, c2, b3, c3, b4, c4, b5, c5]
   try rfl
  intro x g wx hb hP hG;simp (decide := true) only [putT, look, κw, List.nil_append, Act.put, σi, σo, σs, Nat.reduceAdd, if_true, if_false];replace hP : (fun x _ => MvP ((expT s rd.i k).1, (expT s rd.i k).2.2) x.nx x.er) x wx := hP
  (try dsimp only at hP)
  obtain ⟨hg1, hg2, hg3⟩ : w ≤ g ∧ g < wx ∧ Box wx g [.int .u8 x.k, .string x.t, .bool x.ng, .slice x.A x.l x.c, .bool x.ng', (Value.slice x.A' x.l' x.c')] := ⟨(hG (by decide)).1, (hG (by decide)).2.1, (hG (by decide)).2.2 (by decide)⟩;clear hG;have HBX := η (HB.out.up hb hlt);have HW := η (zJ (b := b) hb);have HP := η hP;have HL := η (fun h => yI s rd.i k h);clear K1 HB hb hg1 hg2 hg3 hP q0 q1 q2 s0 s1 s2;obtain ⟨xk, xt, xng, xA, xl, xc, xng', xA', xl', xc', nx, er⟩ := x;go_wp2_with fail;refine (vN b (bstr s) rd.i nx er _ HBX.out).mono ?_;rintro e w2 ⟨rfl, hB2, hg2⟩;go_wp2_with fail;exact bodyPost_end (v := .tuple #[]) (by simp [results, Tryz.results108, go_sem]) rfl ⟨rfl, by rw [E.out]; exact RdR.move hB2 HP.out HL.out hl, zB HW.out hg2⟩
 ·have E : Hid (rTok s k rd = rd) := if_pos he;have e0 : (er == 0) = false := βf fun h => he (h0.1 h)
  have e1 : (er != 0) = true := βt fun h => he (h0.1 h)
  have HR := η hR0;clear hB hR hR0 h0 h1 h2 h3 he;go_enter Tryz.func108, Tryz.ntmps108;go_wp2_with fail;exact κr (v := .tuple #[]) (by simp [results, Tryz.results108, go_sem]) rfl ⟨rfl, by rw [E.out]; exact HR.out, World.grownBy.refl _ _⟩
theorem pN (b : Nat) (s : Bytes) (y : Bytes) (rd : Rd) (w : World) (hs : SlOk s) (hl : s.length ≤ 1000000)  (hR : RdR w b s rd) :
  Calls Tryz.prog 109 #[.pointer (some ⟨b, 0, none⟩), .string (bstr y)] w (StepR b s (rWord s y rd) w) := by
 have hR0 := hR;obtain ⟨i, er, hB, h0, h1, h2, h3⟩ := hR.er;have HB := η hB;obtain ⟨q0, s0, q1, s1, q2, s2⟩ := sqX3 hB;by_cases he : rd.e = 0
 ·obtain rfl := h0.2 he;obtain ⟨rfl, hi1, hi2⟩ := h3 he;have E : Hid (rWord s y rd = rMove rd (expW s rd.i y).1 (expW s rd.i y).2) := if_neg (by rw [he]; simp);have K1 := η fun W => xJ s rd.i y W hs ⟨hi1, hi2⟩ hl
  have hlt : b < w := hB.lt (by simp);clear hB hR hR0 h0 h1 h2 h3 he;go_enter Tryz.func109, Tryz.ntmps109;go_wp2_with fail;refine zT (X := Int × Int) (w0 := w) 9 1000 1000 9999 [(0, .pointer (some ⟨b, 0, none⟩)), (1, .string (bstr y)), (12, .pointer (some ⟨b, 0, none⟩)), (13, .pointer (some ⟨b, 0, none⟩)), (14, .pointer (some ⟨b, 0, none⟩)), (15, .string (bstr s)), (16, .pointer (some ⟨b, 0, none⟩)), (17, .pointer (some ⟨b, 0, none⟩)), (18, .pointer (some ⟨b, 1, none⟩)), (19, .int .i64 rd.i), (20, .string (bstr y))] [21, 11, 22, 23, 4, 5] (fun x => [(21, .tuple #[.int .i64 x.1, .int .i64 x.2]), (11, .tuple #[.int .i64 x.1, .int .i64 x.2]), (22, .int .i64 x.1), (23, .int .i64 x.2), (4, .int .i64 x.1), (5, .int .i64 x.2)]) [0, 1] (fun x _ => MvP (expW s rd.i y) x.1 x.2) [] 0 (fun x => []) (fun _ _ _ _ h => h) ?_ ?_ noSt ?_
  ·intro T W hT hI;simp only [zA, and_true] at hT;have c0 := (hI.cell (p := ⟨b, 0, none⟩) hlt).trans q0;have c1 := (hI.cell (p := ⟨b, 1, none⟩) hlt).trans q1
   repeat' first | exact AllI.nil | apply AllI.cons
   all_goals intro hn hm hq
   all_goals first | exact absurd rfl hn | exact absurd rfl hm | exact absurd rfl hq | (refine opN (rdT ?_); simp [go_sem, EvT, hT, c0, c1, valT]; done) | (refine opX fun x hD _ => rdT ?_; simp only [zA, and_true] at hD; simp [go_sem, EvT, hT, c0, c1, hD, valT])
  ·intro T W o ho hT hI;cases ho;simp only [zA, and_true] at hT;exact ⟨101, #[.string (bstr s), .int .i64 rd.i, .string (bstr y)], by simp [go_sem, EvT, hT], (K1.out W).mono fun e w' ⟨hb, nx, er, he, hP⟩ => ⟨(nx, er), he, hP, hb⟩⟩
  intro x g wx hb hP hG;simp (decide := true) only [putT, look, κw, List.nil_append, Act.put, σi, σo, σs, Nat.reduceAdd, if_true, if_false];replace hP : (fun x _ => MvP (expW s rd.i y) x.1 x.2) x wx := hP
  (try dsimp only at hP)
  clear hG;have HBX := η (HB.out.up hb hlt);have HW := η (zJ (b := b) hb);have HP := η hP;have HL := η (fun h => mM s rd.i y h);clear K1 HB hb hP q0 q1 q2 s0 s1 s2;obtain ⟨nx, er⟩ := x;go_wp2_with fail;refine (vN b (bstr s) rd.i nx er _ HBX.out).mono ?_;rintro e w2 ⟨rfl, hB2, hg2⟩;go_wp2_with fail;exact bodyPost_end (v := .tuple #[]) (by simp [results, Tryz.results109, go_sem]) rfl ⟨rfl, by rw [E.out]; exact RdR.move hB2 HP.out HL.out hl, zB HW.out hg2⟩
 ·have E : Hid (rWord s y rd = rd) := if_pos he;have e0 : (er == 0) = false := βf fun h => he (h0.1 h)
  have e1 : (er != 0) = true := βt fun h => he (h0.1 h)
  have HR := η hR0;clear hB hR hR0 h0 h1 h2 h3 he;go_enter Tryz.func109, Tryz.ntmps109;go_wp2_with fail;exact κr (v := .tuple #[]) (by simp [results, Tryz.results109, go_sem]) rfl ⟨rfl, by rw [E.out]; exact HR.out, World.grownBy.refl _ _⟩
theorem vM (b : Nat) (s : Bytes)  (rd : Rd) (w : World) (hs : SlOk s) (hl : s.length ≤ 1000000)  (hR : RdR w b s rd) :
  Calls Tryz.prog 110 #[.pointer (some ⟨b, 0, none⟩)] w (IntR b s (rInt s rd) w) := by
 have hR0 := hR;obtain ⟨i, er, hB, h0, h1, h2, h3⟩ := hR.er;have HB := η hB;obtain ⟨q0, s0, q1, s1, q2, s2⟩ := sqX3 hB;by_cases he : rd.e = 0
 ·obtain rfl := h0.2 he;obtain ⟨rfl, hi1, hi2⟩ := h3 he;have E : Hid (rInt s rd = ((expI s rd.i).2.1, rMove rd (expI s rd.i).1 (expI s rd.i).2.2)) := if_neg (by rw [he]; simp);have K1 := η fun W => xX s rd.i W hs ⟨hi1, hi2⟩ hl
  have hlt : b < w := hB.lt (by simp);clear hB hR hR0 h0 h1 h2 h3 he;go_enter Tryz.func110, Tryz.ntmps110;go_wp2_with fail;refine zT (X := Int × Int × Int) (w0 := w) 8 1000 1000 9999 [(0, .pointer (some ⟨b, 0, none⟩)), (12, .pointer (some ⟨b, 0, none⟩)), (13, .pointer (some ⟨b, 0, none⟩)), (14, .pointer (some ⟨b, 0, none⟩)), (15, .string (bstr s)), (16, .pointer (some ⟨b, 0, none⟩)), (17, .pointer (some ⟨b, 0, none⟩)), (18, .pointer (some ⟨b, 1, none⟩)), (19, .int .i64 rd.i)] [20, 11, 21, 22, 23, 3, 4, 5] (fun x => [(20, .tuple #[.int .i64 x.1, .int .i64 x.2.1, .int .i64 x.2.2]), (11, .tuple #[.int .i64 x.1, .int .i64 x.2.1, .int .i64 x.2.2]), (21, .int .i64 x.1), (22, .int .i64 x.2.1), (23, .int .i64 x.2.2), (3, .int .i64 x.1), (4, .int .i64 x.2.1), (5, .int .i64 x.2.2)]) [0] (fun x _ => IntP (expI s rd.i) x.1 x.2.1 x.2.2) [] 0 (fun x => []) (fun _ _ _ _ h => h) ?_ ?_ noSt ?_
  ·intro T W hT hI;simp only [zA, and_true] at hT;have c0 := (hI.cell (p := ⟨b, 0, none⟩) hlt).trans q0;have c1 := (hI.cell (p := ⟨b, 1, none⟩) hlt).trans q1
   repeat' first | exact AllI.nil | apply AllI.cons
   all_goals intro hn hm hq
   all_goals first | exact absurd rfl hn | exact absurd rfl hm | exact absurd rfl hq | (refine opN (rdT ?_); simp [go_sem, EvT, hT, c0, c1, valT]; done) | (refine opX fun x hD _ => rdT ?_; simp only [zA, and_true] at hD; simp [go_sem, EvT, hT, c0, c1, hD, valT])
  ·intro T W o ho hT hI;cases ho;simp only [zA, and_true] at hT;exact ⟨166, #[.string (bstr s), .int .i64 rd.i], by simp [go_sem, EvT, hT], (K1.out W).mono fun e w' ⟨hb, n, nx, er, he, hP⟩ => ⟨(n, nx, er), he, hP, hb⟩⟩
  intro x g wx hb hP hG;simp (decide := true) only [putT, look, κw, List.nil_append, Act.put, σi, σo, σs, Nat.reduceAdd, if_true, if_false];replace hP : (fun x _ => IntP (expI s rd.i) x.1 x.2.1 x.2.2) x wx := hP
  (try dsimp only at hP)
  clear hG;have HBX := η (HB.out.up hb hlt);have HW := η (zJ (b := b) hb);have HP := η hP;have HL := η (fun h => mO s rd.i h);clear K1 HB hb hP q0 q1 q2 s0 s1 s2;obtain ⟨n, nx, er⟩ := x;go_wp2_with fail;refine (vN b (bstr s) rd.i nx er _ HBX.out).mono ?_;rintro e w2 ⟨rfl, hB2, hg2⟩;go_wp2_with fail;refine κr (v := .int .i64 n) (by simp [results, Tryz.results110, go_sem]) rfl ⟨by rw [E.out]; exact zC HP.out.1, by rw [E.out]; exact RdR.move (r := ((expI s rd.i).1, (expI s rd.i).2.2)) hB2 HP.out.2 HL.out hl, zB HW.out hg2⟩
 ·have E : Hid (rInt s rd = (0, rd)) := if_pos he;have e0 : (er == 0) = false := βf fun h => he (h0.1 h)
  have e1 : (er != 0) = true := βt fun h => he (h0.1 h)
  have HR := η hR0;clear hB hR hR0 h0 h1 h2 h3 he;go_enter Tryz.func110, Tryz.ntmps110;go_wp2_with fail;exact κr (v := .int .i64 0) (by simp [results, Tryz.results110, go_sem]) rfl ⟨by rw [E.out], by rw [E.out]; exact HR.out, World.grownBy.refl _ _⟩
end Go.Proofs.YtkfhpefmmhljmaaGreatDoor
