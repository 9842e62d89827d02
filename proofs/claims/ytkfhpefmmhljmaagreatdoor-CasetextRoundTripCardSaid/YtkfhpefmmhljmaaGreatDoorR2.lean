/- Texts in one: Als, Open, AnyX. -/
import Derived.Lib.SmallJoins
import Derived.Test.YtkfhpefmmhljmaaGreatDoorR1
import Derived.Test.YtkfhpefmmhljmaaGreatDoorRows
set_option linter.unusedVariables false
set_option linter.unusedSimpArgs false
set_option maxHeartbeats 16000000
namespace Go.Proofs.YtkfhpefmmhljmaaGreatDoor
open Go.RowKit
theorem η {p : Prop} (h : p) : Hid p := Lib.hid h
theorem νl {a b c : Nat} (h : a < b) (k : b ≤ c) : a < c := Nat.lt_of_lt_of_le h k
theorem νr (n : Nat) : n ≤ n := Nat.le_refl n
theorem βf {α : Type} [BEq α] [LawfulBEq α] {a b : α} (h : a ≠ b) : (a == b) = false := beq_eq_false_iff_ne.2 h
theorem βt {α : Type} [BEq α] [LawfulBEq α] {a b : α} (h : a ≠ b) : (a != b) = true := bne_iff_ne.2 h
theorem σi {α : Type} (l : List α) (i : Nat) (a : α) : l.toArray.setIfInBounds i a = (l.set i a).toArray := List.setIfInBounds_toArray ..
theorem σo {α : Type} {x : α} {l : List α} {a : α} : (x :: l).set 0 a = a :: l := List.set_cons_zero
theorem σs {α : Type} {x : α} {l : List α} {n : Nat} {a : α} : (x :: l).set (n + 1) a = x :: l.set n a := List.set_cons_succ
theorem βA {w : World} (o : Obj) : Below w w (w.alloc o) := (Below.refl _ _).alloc (Nat.le_refl _) o
theorem βT {a w w' : World} (h : Hid (Below a a w)) (k : Below w w w') : Hid (Below a a w') := Lib.hid (h.out.trans (k.mono h.out.size))
theorem κa {α : Type} {u v : List α} : (u ++ v).length = u.length + v.length := List.length_append
theorem κf {p : Prop} [Decidable p] (h : ¬p) : decide p = false := decide_eq_false h
theorem κt {p : Prop} [Decidable p] (h : p) : decide p = true := decide_eq_true h
theorem κc {α : Type} {a : α} {u : List α} : (a :: u).length = u.length + 1 := List.length_cons
theorem κb (a b : Bool) : ((a && b) = true) = (a = true ∧ b = true) := Bool.and_eq_true a b
theorem κr {P : Program} {fn : Func} {R : Ending → World → Prop} {a : Act} {w : World} {v : Value} (h : Sem.run P (results fn a.tmps) w = Result.ok v w) (k : a.defers = []) (l : R (Ending.returned v) w) : bodyPost P fn R Exit.ret a w := bodyPost_ret h k l
theorem κe {p : Prop} [Decidable p] : (decide p = true) = p := decide_eq_true_eq
theorem κd {α : Type} {l : List α} {i : Nat} {a : α} : l.getD i a = l[i]?.getD a := List.getD_eq_getElem?_getD
theorem κn {α : Type} : ([] : List α).length = 0 := List.length_nil
theorem κo (w : World) (a b : Addr) (v : Value) (h : a ≠ b) : (w.setCell a v).cell? b = w.cell? b := World.cell?_setCell_other w a b v h
theorem κu (n : Int) (h : 0 ≤ n ∧ n ≤ 18446744073709551615) : IntKind.u64.wrap n = n := IntWalk.u64_in n h
theorem κl {n m : Nat} (h : n < m) : n ≤ m := Nat.le_of_lt h
theorem κk {α : Type} {i : Nat} {l : List α} : (List.take i l).length = min i l.length := List.length_take
theorem κx {Q : Exit → Act → World → Prop} {a : Act} {w : World} : Exit.noGoto Q Exit.ret a w = Q Exit.ret a w := Exit.noGoto_ret
theorem κg {α : Type} {l : List α} {i : Nat} (h : i < l.length) : l[i]? = some l[i] := List.getElem?_eq_getElem h
theorem κs {α : Type} {i : Nat} {l : List α} (h : i < l.length) : List.take (i + 1) l = List.take i l ++ [l[i]] := List.take_succ_eq_append_getElem h
theorem κz (n : Nat) : n + 0 = n := Nat.add_zero n
theorem κy {α : Type} {i : Nat} {l : List α} (h : l.length ≤ i) : List.take i l = l := List.take_of_length_le h
theorem κq {α : Type} (u v z : List α) : u ++ v ++ z = u ++ (v ++ z) := List.append_assoc u v z
theorem κp {α : Type} (u : List α) : u ++ [] = u := List.append_nil u
theorem κw {α : Type} {a : α} {u v : List α} : a :: u ++ v = a :: (u ++ v) := List.cons_append
theorem κi {α : Type} {xs : Array α} {i : Nat} {b : α} (h : xs[i]? = some b) : ∃ h : i < xs.size, xs[i] = b := Array.getElem?_eq_some_iff.1 h
end Go.Proofs.YtkfhpefmmhljmaaGreatDoor
namespace Go.Proofs.YtkfhpefmmhljmaaGreatDoor
open Go.ChangeShapes Go.WideShapes Go.ChangeAt Go.RowKit Go.Deep Go.Joins
theorem Tryz.own : ownKnob Tryz.prog.godebug = none := by kernel_rfl
theorem Tryz.laidOut : laidOutB Tryz.prog = true := by kernel_rfl
section
variable {H : Type} {enc : TypeId × Value → H} {P : Program}
theorem yE {W W' : World} {sp : Nat → Bool} (hl : laidOutB P = true) : ∀ {ts : List TypeId} {vs : List Value} {ds : List (DataW H)} {ps : List MemPlace}, (∀ t ∈ ts, P.readableRec t = true ∧ t < P.types.size) →
  DataW.TrodAll enc P W 0 (fun _ => true) true ts vs ds ps → (∀ p ∈ ps, W.sameAt W' p) → (∀ p ∈ ps, sp p.block = true) → DataW.TrodAll enc P W' 0 sp true ts vs ds ps
 | [], vs, ds, ps, _, h, _, _ => by
  obtain ⟨rfl, rfl, rfl⟩ := trodAll_nil h;exact rfl
 | t :: ts, vs, ds, ps, hts, h, h1, h2 => by
  obtain ⟨v, vs', d, ds', p, q, rfl, rfl, rfl, hv, hr⟩ := trodAll_cons h;exact trodAll_cons_mk (WideElems.Trod_stays hl (hts t (by simp)).1 (hts t (by simp)).2 hv (fun x hx => h1 x (by simp [hx])) (fun x hx => h2 x (by simp [hx])))
   (yE hl (fun x hx => hts x (by simp [hx])) hr (fun x hx => h1 x (by simp [hx])) (fun x hx => h2 x (by simp [hx])))
theorem lZ {f : Func} {s : ChangeSpec} {tb : TypeId} {W W' : World} {args : Array Value} {ds gs : List (DataW H)} {before : List MemPlace}
  (hlo : laidOutB P = true) (hts : ∀ t ∈ f.params.toList, P.readableRec t = true ∧ t < P.types.size) (hrt : f.resultTypes = #[tb]) (htb : P.underlying tb = some .bool) (hsv : s.vars = [])
  (hW : DataW.Whole enc P f.params.toList s.vars false W args.toList ds gs before)
  (hres : (s.fn H (ds ++ gs)).results = [.lit (.bool true)]) (harg : (s.fn H (ds ++ gs)).args = ds) (hvr : (s.fn H (ds ++ gs)).vars = []) (hb : Below W.heap.size W W') :
  s.post enc P f false true false false W args (.bool true) W' := by
 have hlt : ∀ p ∈ before, p.block < W.heap.size := fun p hp => hW.lt p hp
 have hW' := hW;obtain ⟨p, q, hA, hV, rfl, hz, hn⟩ := hW';rw [hsv] at hV;obtain ⟨rfl, rfl⟩ := trodVars_none hV;rw [κp] at hlt;have hstay : ∀ sp : Nat → Bool, (∀ x ∈ p, sp x.block = true) → DataW.TrodAll enc P W' 0 sp true f.params.toList args.toList ds p := fun sp hsp =>
  yE hlo hts hA (fun x hx => hb.same (hlt x hx)) hsp
 have hold : ∀ x ∈ p, (fun b => decide (b < W.heap.size)) x.block = true := fun x hx => by simpa using hlt x hx
 have hr : ∀ (b : Nat) (sp : Nat → Bool) (hd : Bool), DataW.TrodAll enc P W' b sp hd f.resultTypes.toList ((Value.bool true).resultList f.resultTypes.size) (s.fn H (ds ++ [])).results [] := by
  intro b sp hd;rw [hres, hrt];exact trodAll_cons_mk (shut_bool htb _) trodAll_mk0
 refine ⟨ds, [], p ++ [], [], p, [], hW, hr _ _ _, ?_, ?_, World.keptBut_mono (fun x hx => ⟨hx, .inr ?_⟩) (hb.frame (· ∈ p ++ [])), fun h => by cases h⟩
 ·rw [harg]; exact hstay _ hold
 ·rw [hsv, hvr]; exact rfl
 ·simpa using hx
end
section
variable {H : Type} {enc : TypeId × Value → H} {P : Program} {w : World} {base : Nat} {spare : Nat → Bool} {held : Bool}
theorem uC {t e : TypeId} {fs : Array Field} {fuel : Nat} {cs : List Value} {x : DataW H × List MemPlace} (ht : P.underlying t = some (.slice e)) (he : P.underlying e = some (.struct fs))
  (hone : oneCellFields P fs = true) (hC : P.cellsOf e = fs.size) (h : DataW.trod enc P w base spare held fuel t cs = some x) :
  (cs = [.slice none 0 0]) ∨
  ∃ (a : Addr) (len cap : Nat), cs = [.slice (some a) len cap] ∧ len ≤ cap ∧
   ∀ i, i < len → ∃ (n : Nat), ∀ (j : Nat) (f : Field), fs[j]? = some f → ∃ (v : Value) (y : DataW H × List MemPlace), w.cell? (a.add (i * fs.size + j)) = some v ∧ DataW.trod enc P w base spare held n f.type [v] = some y := by
 rcases open_slice ht h with h0 | ⟨a, len, cap, m, n, D, Pl, hcs, hb, hl, hm, hmm, hx, hi⟩
 ·exact .inl h0.1
 ·refine .inr ⟨a, len, cap, hcs, hl, fun i him => ?_⟩;obtain ⟨cs', hc, ht'⟩ := hi i (by rw [hmm]; split <;> omega);rw [hC] at hc;obtain ⟨ys, n', hn', hy, hlen, hyl, hf⟩ := DataW.trod_struct he ht';obtain ⟨_, hcl, hat⟩ := World.cells?_some hc;refine ⟨n', fun j f hj => ?_⟩;obtain ⟨ho, hk⟩ := hone_of hone j f hj;have hjl : j < fs.size := (κi hj).1;have hcell := hat j hjl;have hv : cs'[j]? = some (cs'[j]'(by omega)) := κg (by omega);have h1 := hf j f hj;rw [ho, hk] at h1;have hone' : (cs'.drop j).take 1 = [cs'[j]'(by omega)] := by
   rw [List.drop_eq_getElem_cons (by omega)];rfl
  rw [hone'] at h1;have hys : ys[j]? = some (ys[j]'(by omega)) := κg (by omega);exact ⟨_, _, by rw [← Go.Deep.add_add, hcell, hv], h1.trans hys⟩
end
end Go.Proofs.YtkfhpefmmhljmaaGreatDoor
namespace Go.Proofs.YtkfhpefmmhljmaaGreatDoor
open Go.RowKit
section
variable {P : Program} {ops : Array Oper} {Q : Exit → Act → World → Prop} {F : (Nat → Prop) → Nat → Value → World → Prop} {I : (Nat → Prop) → World → Prop} {a0 : Act}
def kQ (ops : Array Oper) (done : Nat → Prop) : Prop := ∀ (j : Nat) (o : Oper), ops[j]? = some o → done j → ∀ e ∈ o.after, Region.binds .any e = true → done e.on
def more (done : Nat → Prop) (i : Nat) : Nat → Prop := fun j => j = i ∨ done j
structure XInv (ops : Array Oper) (F : (Nat → Prop) → Nat → Value → World → Prop) (I : (Nat → Prop) → World → Prop) (a0 : Act) (listed : Array Bool) (done : Nat → Prop) (a : Act) (w : World) : Prop where
 size : listed.size = ops.size
 listed : ∀ j, j < ops.size → (done j ↔ listed.getD j false = true)
 closed : kQ ops done
 defers : a.defers = a0.defers
 tmps : a.tmps.size = a0.tmps.size
 world : I done w
 did : ∀ (j : Nat) (o : Oper), ops[j]? = some o → done j → Did (F done) a w j o
 rest : ∀ d : Tmp, Apart ops d → a.tmps.getD d undef = a0.tmps.getD d undef
theorem aO {listed : Array Bool} {done : Nat → Prop} {a : Act} {w w' : World} {i : Nat} {o : Oper} {v : Value} (h : XInv ops F I a0 listed done a w) (ho : ops[i]? = some o) (hni : ¬ done i) (hdep : ∀ e ∈ o.after, Region.binds .any e = true → done e.on)
  (hds : ∀ d, o.dst = some d → d < a0.tmps.size) (hdj : ∀ (i j : Nat) (o o' : Oper) (d : Tmp), ops[i]? = some o → ops[j]? = some o' → o.dst = some d → o'.dst = some d → i = j)
  (hI : I (more done i) w') (hF : F (more done i) i v w') (hkeep : ∀ (j : Nat) (u : Value), done j → (∀ (o' : Oper) (d : Tmp), ops[j]? = some o' → o'.dst = some d → u = a.tmps.getD d undef) → F done j u w → F (more done i) j u w') : XInv ops F I a0 (listed.setIfInBounds i true) (more done i) (a.put o.dst v) w' := by
 have hlt : i < ops.size := (κi ho).1;have hlist : ∀ j, j < ops.size → (more done i j ↔ (listed.setIfInBounds i true).getD j false = true) := fun j hj => by
  rw [dG _ _ _ (by rw [h.size]; exact hlt), ← h.listed j hj];exact ⟨fun e => e.imp (fun e => e.symm) id, fun e => e.imp (fun e => e.symm) id⟩
 have hcl : kQ ops (more done i) := fun j o' hj hd e he hb => by
  rcases hd with rfl | hd
  ·rw [ho] at hj;injection hj with hj
   subst hj;exact .inr (hdep e he hb)
  ·exact .inr (h.closed j o' hj hd e he hb)
 cases hd : o.dst with
 | none =>
  refine ⟨by simp [h.size], hlist, hcl, by rw [vE]; exact h.defers, by rw [qV]; exact h.tmps, hI, fun j o' hj hl => ?_, fun d' hap => h.rest d' hap⟩;rcases hl with rfl | hl
  ·rw [ho] at hj;injection hj with hj
   subst hj;exact ⟨fun d hd' => (by rw [hd] at hd'; cases hd'), fun _ => ⟨v, hF⟩⟩
  ·obtain ⟨h1, h2⟩ := h.did j o' hj hl;exact ⟨fun d hd' => hkeep j _ hl (fun o'' d'' ho'' hd'' => by rw [hj] at ho''; injection ho'' with ho''; subst ho''; rw [hd'] at hd''; injection hd'' with hd''; subst hd''; rfl) (h1 d hd'), fun hn => (h2 hn).imp fun v hv => hkeep j v hl (fun o'' d'' ho'' hd'' => by rw [hj] at ho''; injection ho'' with ho''; subst ho''; rw [hn] at hd''; cases hd'') hv⟩
 | some d =>
  have hdl := hds d hd;refine ⟨by simp [h.size], hlist, hcl, by rw [vE]; exact h.defers, by rw [qV]; exact h.tmps, hI, fun j o' hj hl => ?_, fun d' hap => ?_⟩
  ·rcases hl with rfl | hl
   ·rw [ho] at hj;injection hj with hj
    subst hj;refine ⟨fun d' hd' => ?_, fun hn => ⟨v, hF⟩⟩;rw [hd] at hd';injection hd' with hd'
    subst hd';rw [jC _ _ _ _ (by rw [h.tmps]; exact hdl), if_pos rfl];exact hF
   ·have hij : i ≠ j := fun e => hni (e ▸ hl)
    obtain ⟨h1, h2⟩ := h.did j o' hj hl;refine ⟨fun d' hd' => ?_, fun hn => (h2 hn).imp fun v hv => hkeep j v hl (fun o'' d'' ho'' hd'' => by rw [hj] at ho''; injection ho'' with ho''; subst ho''; rw [hn] at hd''; cases hd'') hv⟩;rw [jC _ _ _ _ (by rw [h.tmps]; exact hdl), if_neg (fun e => hij (hdj i j o o' d ho hj hd (by rw [hd', e])))];exact hkeep j _ hl (fun o'' d'' ho'' hd'' => by rw [hj] at ho''; injection ho'' with ho''; subst ho''; rw [hd'] at hd''; injection hd'' with hd''; subst hd''; rfl) (h1 d' hd')
  ·rw [jC _ _ _ _ (by rw [h.tmps]; exact hdl), if_neg (fun e => hap i o ho (by rw [hd, e]))];exact h.rest d' hap
theorem eJ (hds : ∀ (j : Nat) (o : Oper), ops[j]? = some o → ∀ d, o.dst = some d → d < a0.tmps.size) (hdj : ∀ (i j : Nat) (o o' : Oper) (d : Tmp), ops[i]? = some o → ops[j]? = some o' → o.dst = some d → o'.dst = some d → i = j)
  (hdone : ∀ (done : Nat → Prop) (vs : Nat → Value) w, (∀ j, j < ops.size → done j) → I done w → (∀ j, j < ops.size → F done j (vs j) w) → Q .normal (qH ops.toList vs 0 a0) w) (listed : Array Bool) (done : Nat → Prop) (a : Act) (w : World) (h : XInv ops F I a0 listed done a w) (hall : ∀ j, j < ops.size → done j) : Q .normal a w := by
 refine pU (F := F done) (I := I done) hds hdj (fun vs w hI hF => hdone done vs w hall hI hF) a w ⟨by simp, h.defers, h.tmps, h.world, fun j o hj _ => h.did j o hj (hall j (κi hj).1), h.rest⟩
end
end Go.Proofs.YtkfhpefmmhljmaaGreatDoor
