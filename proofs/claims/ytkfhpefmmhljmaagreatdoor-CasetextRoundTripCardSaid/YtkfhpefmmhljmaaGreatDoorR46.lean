/- Texts in one: LxR, LxS. -/
import Derived.Test.YtkfhpefmmhljmaaGreatDoorR45
set_option linter.unusedVariables false
set_option linter.unusedSimpArgs false
set_option maxHeartbeats 16000000
namespace Go.Proofs.YtkfhpefmmhljmaaGreatDoor
def isRn : Tk → Bool
 | .wd _ => true
 | .nm _ => true
 | _ => false
inductive Spl : Bool → List Tk → Bytes → Prop
 | nil (p : Bool) (w : Bytes) : w.all isSep = true → Spl p [] w
 | cons (p : Bool) (w : Bytes) (t : Tk) (l : List Tk) (x : Bytes) : w.all isSep = true → (p = true → isRn t = true → w ≠ []) → TkSm t → Spl (isRn t) l x → Spl p (t :: l) (w ++ (tkStr t ++ x))
def lastp : Bool → List Tk → Bool
 | p, [] => p
 | _, t :: l => lastp (isRn t) l
theorem Spl.prep {p : Bool} {l : List Tk} {x w : Bytes} (hw : w.all isSep = true) (h : Spl p l x) : Spl p l (w ++ x) := by
 cases h with
 | nil _ v hv => exact Spl.nil _ _ (by rw [List.all_append, hw, hv]; rfl)
 | cons _ v t l x hv h1 h2 h3 =>
  rw [← κq];exact Spl.cons _ _ _ _ _ (by rw [List.all_append, hw, hv]; rfl) (fun hp ht he => h1 hp ht (List.append_eq_nil_iff.1 he).2) h2 h3
theorem Spl.app {p : Bool} {a b : List Tk} {x y : Bytes} (h : Spl p a x) : Spl (lastp p a) b y → Spl p (a ++ b) (x ++ y) := by
 induction h with
 | nil q w hw => intro k; exact k.prep hw
 | cons q w t l x hw h1 h2 h3 ih =>
  intro k;rw [κq, κq, κw];exact Spl.cons _ _ _ _ _ hw h1 h2 (ih k)
theorem Spl.sp {l : List Tk} {x : Bytes} (h : Spl false l x) (p : Bool) : Spl p l (32 :: x) := by
 cases h with
 | nil _ v hv => exact Spl.nil _ _ (by rw [List.all_cons, hv]; rfl)
 | cons _ v t l x hv h1 h2 h3 => exact Spl.cons p (32 :: v) t l x (by rw [List.all_cons, hv]; rfl) (fun _ _ => by simp) h2 h3
theorem zCk : ∀ (l : List Tk) (o : Option Tk), (∀ t ∈ l, TkSm t) → Spl (o.any isRn) l (fmtGo o l) := by
 intro l
 induction l with
 | nil => intro o _; cases o <;> exact Spl.nil _ _ rfl
 | cons t l ih =>
  intro o h;have h1 := ih (some t) (fun x hx => h x (by simp [hx]));have h2 := h t (by simp);cases o with
  | none => exact Spl.cons _ [] t l _ rfl (fun hp => by cases hp) h2 h1
  | some q =>
   rw [fmtGo, κq];refine Spl.cons _ _ t l _ ?_ (fun hp ht => ?_) h2 h1
   ·unfold sepB; split <;> rfl
   ·unfold sepB;cases q <;> cases t <;> first | (exfalso; revert hp; decide) | (exfalso; revert ht; decide) | simp [isOp, isCl] | (simp [isRn] at hp ht)
theorem gQ {l : List Tk} (h : ∀ t ∈ l, TkSm t) : Spl false l (fmtT l) := zCk l none h
def SplA (l : List Tk) (x : Bytes) : Prop := ∀ p, Spl p l x
theorem SplA.app {a b : List Tk} {x y : Bytes} (h : SplA a x) (k : SplA b y) : SplA (a ++ b) (x ++ y) := fun p => (h p).app (k _)
theorem Spl.spA {l : List Tk} {x : Bytes} (h : Spl false l x) : SplA l (32 :: x) := h.sp
theorem aY : SplA [.cl] [41] := fun p => Spl.cons p [] .cl [] [] rfl (fun _ h => by cases h) trivial (Spl.nil _ _ rfl)
theorem dQ {y : Bytes} (hy : TkSm (.wd y)) : SplA [.op, .wd y] (40 :: y) := fun p =>
 Spl.cons p [] .op [.wd y] y rfl (fun _ h => by cases h) trivial (by have := Spl.cons false [] (.wd y) [] [] rfl (fun h => by cases h) hy (Spl.nil _ _ rfl); rwa [List.nil_append, κp] at this)
theorem aX {n : Int} (hn : small n) : SplA [.nm n] (32 :: Lib.itoa n) := Spl.spA (by have := Spl.cons false [] (.nm n) [] [] rfl (fun h => by cases h) hn (Spl.nil _ _ rfl); rwa [List.nil_append, κp] at this)
theorem iR {α : Type} {T : α → List Tk} {f : α → Bytes} : ∀ (l : List α), (∀ x ∈ l, Spl false (T x) (f x)) → SplA (l.flatMap T) ((l.map f).flatMap (fun t => 32 :: t)) := by
 intro l
 induction l with
 | nil => intro _ p; exact Spl.nil _ _ rfl
 | cons x l ih =>
  intro h;rw [List.flatMap_cons, List.map_cons, List.flatMap_cons];exact (h x (by simp)).spA.app (ih (fun y hy => h y (by simp [hy])))
theorem kH {α : Type} {T : α → List Tk} {f : α → Bytes} {y : Bytes} (hy : TkSm (.wd y)) {l : List α} (h : ∀ x ∈ l, Spl false (T x) (f x)) : SplA (listT y T l) (listS y (l.map f)) := by
 have := ((dQ hy).app (iR l h)).app aY;unfold listS joinS listT;simpa using this
theorem rB {r : Rt} (h : small r.1 ∧ small r.2.1 ∧ small r.2.2) : SplA (dB r) (qQ r) := by
 have := ((((dQ (y := [114, 105, 103, 104, 116]) ⟨by decide, by decide⟩).app (aX h.1)).app (aX h.2.1)).app (aX h.2.2)).app aY;unfold qQ dB;simpa using this
theorem iQ {n : Int} {h : Hr} (hn : n ≤ 6) (ok : HrOk n h) : SplA (hourT h) (hourS h) := by
 have hb : ∀ b ∈ h.bids, Spl false (bidT b) (fmtT (bidT b)) := fun b hb => gQ (uJ (jQ hn (ok.a b hb)).2.1 (jQ hn (ok.a b hb)).2.2.2)
 have hr : ∀ b ∈ h.real, Spl false (bidT b) (fmtT (bidT b)) := fun b hb => gQ (uJ (jQ hn (ok.b b hb)).2.1 (jQ hn (ok.b b hb)).2.2.2)
 have := ((((dQ (y := [104, 111, 117, 114]) ⟨by decide, by decide⟩).app (aX ok.e)).app (Spl.spA (kH (y := [98, 105, 100, 115]) ⟨by decide, by decide⟩ hb false))).app (Spl.spA (kH (y := [114, 101, 97, 108]) ⟨by decide, by decide⟩ hr false))).app aY;unfold hourS hourT;simpa [κq] using this
theorem aZ {x : Cs} (hx : dayE x = 0) : SplA (caseT x) (caseS x) := by
 have ok := fL hx;obtain ⟨hb1, hn6, _, hq⟩ := jN ok.net;have hN : Spl false (netT x.net) (fmtT (netT x.net)) := gQ (pE (by unfold small; omega) hq);have hU : ∀ u ∈ x.units, Spl false (unitT u) (fmtT (unitT u)) := fun u hu => gQ (gA (xD hn6 (ok.us u hu)).2.1 (xD hn6 (ok.us u hu)).2.2.2)
 have hH : ∀ y ∈ x.hours, Spl false (hourT y) (hourS y) := fun y hy => iQ hn6 (ok.hs y hy) false
 have hO : ∀ y ∈ x.outs, Spl false (outT y) (fmtT (outT y)) := fun y hy => gQ (uB (OgOk.small (ok.os y hy)))
 have hR : ∀ y ∈ x.rights, Spl false (dB y) (qQ y) := fun y hy => rB (ok.rs y hy) false
 have := ((((((dQ (y := [99, 97, 115, 101]) ⟨by decide, by decide⟩).app hN.spA).app (Spl.spA (kH (y := [117, 110, 105, 116, 115]) ⟨by decide, by decide⟩ hU false))).app (Spl.spA (kH (y := [104, 111, 117, 114, 115]) ⟨by decide, by decide⟩ hH false))).app (Spl.spA (kH (y := [111, 117, 116, 97, 103, 101, 115]) ⟨by decide, by decide⟩ hO false))).app (Spl.spA (kH (y := [114, 105, 103, 104, 116, 115]) ⟨by decide, by decide⟩ hR false))).app aY;unfold caseS joinS caseT;simpa [κq] using this
theorem zBl {r : Bytes} (h : r.all isLow = true) : r.all isRun = true := by
 rw [List.all_eq_true] at h ⊢;intro c hc;unfold isRun;rw [h c hc];rfl
theorem zBd {r : Bytes} (h : r.all isNum = true) : r.all isRun = true := by
 rw [List.all_eq_true] at h ⊢;intro c hc;unfold isRun;rw [h c hc, Bool.or_true]
theorem bJ (n : Int) : (Lib.itoa n).all isNum = true := by
 have hd : ∀ m, (Lib.decDigits m).all isNum = true := fun m => by
  have := fK m;rw [List.all_eq_true] at this ⊢;intro c hc;unfold isNum;rw [this c hc];rfl
 unfold Lib.itoa;split
 ·first | (rw [List.all_cons, hd]; rfl) | (rw [List.all_append, hd]; rfl)
 ·exact hd _
theorem eS {t : Tk} (h : TkSm t) (hr : isRn t = true) : (tkStr t).all isRun = true := by
 cases t with
 | op => cases hr
 | cl => cases hr
 | wd y =>
  have h1 : allB isLow y = true := h.1;unfold allB at h1;rw [κb] at h1;exact zBl h1.2
 | nm n => exact zBd (bJ n)
theorem wQ {p : UInt8 → Bool} {r y : Bytes} (hr : r.all p = true) (hy : ∀ c, y.head? = some c → p c = false) : (r ++ y).takeWhile p = r := by
 rw [List.takeWhile_append_of_pos (by rw [List.all_eq_true] at hr; exact hr)];cases y with
 | nil => simp
 | cons c y => rw [List.takeWhile_cons, hy c rfl]; simp
theorem gI {p : UInt8 → Bool} {a r y : Bytes} (hr : r.all p = true) (hy : ∀ c, y.head? = some c → p c = false) : endF p (a ++ (r ++ y)) a.length = a.length + r.length := by
 unfold endF;rw [List.drop_left, wQ hr hy]
theorem mG {a r y : Bytes} (hr : r.all isRun = true) (hy : ∀ c, y.head? = some c → isRun c = false) : runAt (a ++ (r ++ y)) a.length = r := by
 unfold runAt;rw [gI hr hy, List.drop_left, Nat.add_sub_cancel_left, List.take_left]
theorem mC {c : UInt8} (h : isSep c = true) : c = 32 ∨ c = 10 := by
 unfold isSep at h;rw [Bool.or_eq_true, beq_iff_eq, beq_iff_eq] at h;exact h
theorem nI {c : UInt8} (h : isRun c = true) : isSep c = false ∧ c ≠ 40 ∧ c ≠ 41 := by
 refine ⟨?_, ?_, ?_⟩
 ·cases hs : isSep c with
  | false => rfl
  | true => rcases mC hs with rfl | rfl <;> exact absurd h (by decide)
 ·rintro rfl; exact absurd h (by decide)
 ·rintro rfl; exact absurd h (by decide)
theorem rH {c : UInt8} (h : isSep c = true) : isRun c = false := by rcases mC h with rfl | rfl <;> decide
theorem Spl.head {l : List Tk} {x : Bytes} (h : Spl true l x) : ∀ c, x.head? = some c → isRun c = false := by
 cases h with
 | nil _ _ hw =>
  intro c hc;cases x with
  | nil => cases hc
  | cons d w =>
   rw [List.all_cons, κb] at hw;simp at hc; subst hc;exact rH hw.1
 | cons _ w t l x hw h1 h2 h3 =>
  intro c hc;cases w with
  | cons d w =>
   rw [List.all_cons, κb] at hw;simp at hc; subst hc;exact rH hw.1
  | nil =>
   cases t with
   | op => simp [tkStr] at hc; subst hc; decide
   | cl => simp [tkStr] at hc; subst hc; decide
   | wd y => exact absurd rfl (h1 rfl rfl)
   | nm n => exact absurd rfl (h1 rfl rfl)
theorem tk_ne {t : Tk} (h : TkSm t) : tkStr t ≠ [] := by
 cases t with
 | op => simp [tkStr]
 | cl => simp [tkStr]
 | wd y =>
  have h1 : allB isLow y = true := h.1;intro e;have e' : y = [] := e;subst e';cases h1
 | nm n =>
  show Lib.itoa n ≠ []
  unfold Lib.itoa;have hd : ∀ m, Lib.decDigits m ≠ [] := fun m e => by
   have := fJ m;rw [e] at this;cases this
  split
  ·simp
  ·exact hd _
theorem zAe {t : Tk} (h : TkSm t) : ∀ c, (tkStr t).head? = some c → isSep c = false := by
 intro c hc;cases hr : isRn t with
 | true =>
  have h1 := eS h hr;rw [List.all_eq_true] at h1;cases hs : tkStr t with
  | nil => rw [hs] at hc; cases hc
  | cons d y =>
   rw [hs] at hc;simp at hc; subst hc;exact (nI (h1 d (by rw [hs]; simp))).1
 | false =>
  cases t with
  | op => simp [tkStr] at hc; subst hc; decide
  | cl => simp [tkStr] at hc; subst hc; decide
  | wd y => cases hr
  | nm n => cases hr
theorem yU {n : Nat} (h : n < 2147483649) : (Lib.decDigits n).length ≤ 10 := aI n 10 (by decide) (by omega)
theorem tO (n : Nat) : (Lib.decDigits n).head? ≠ some 45 := by
 intro h;have h1 := fK n;rw [List.all_eq_true] at h1;cases hd : Lib.decDigits n with
 | nil => rw [hd] at h; cases h
 | cons d y =>
  rw [hd] at h;simp at h; subst h;exact absurd (h1 45 (by rw [hd]; simp)) (by decide)
theorem zAv {n : Int} (h : small n) : pz (Lib.itoa n) = (0, n) := by
 unfold small at h;unfold Lib.itoa;by_cases h0 : n < 0
 ·rw [if_pos h0];have e1 : isNeg (45 :: Lib.decDigits n.natAbs) = true := rfl;have e2 : magn (45 :: Lib.decDigits n.natAbs) = Lib.decDigits n.natAbs := by unfold magn; rw [e1]; rfl
  unfold pz;rw [e1, e2, if_neg (by have := yU (n := n.natAbs) (by omega); omega), fJ, pQ];have h48 : (Lib.decDigits n.natAbs == [48]) = false := by
   cases hb : (Lib.decDigits n.natAbs == [48]) with
   | false => rfl
   | true =>
    have := eq_of_beq hb;have h2 := pQ n.natAbs;rw [this] at h2;have h3 : dval [48] = 0 := by decide
    omega
  rw [h48, if_neg (by decide), if_pos rfl];have : -(n.natAbs : Int) = n := by omega
  rw [this]
 ·rw [if_neg h0];have e1 : isNeg (Lib.decDigits n.toNat) = false := by
   unfold isNeg;cases hb : ((Lib.decDigits n.toNat).head? == some 45) with
   | false => rfl
   | true => exact absurd (eq_of_beq hb) (tO _)
  have e2 : magn (Lib.decDigits n.toNat) = Lib.decDigits n.toNat := by unfold magn; rw [e1]; rfl
  unfold pz;rw [e1, e2, if_neg (by have := yU (n := n.toNat) (by omega); omega), fJ, pQ, if_neg (by simp), if_neg (by decide)];have : (n.toNat : Int) = n := by omega
  rw [this]
theorem mZ (n : Nat) : (Lib.decDigits n).any (· == 47) = false := by
 have h1 := fK n;rw [List.all_eq_true] at h1;rw [List.any_eq_false];intro c hc he;have : c = 47 := eq_of_beq he;subst this;exact absurd (h1 47 hc) (by decide)
theorem dH (n : Int) : (Lib.itoa n).any (· == 47) = false := by
 unfold Lib.itoa;split
 ·rw [List.any_cons, mZ]; rfl
 ·exact mZ _
theorem oD (n : Int) : allB isLow (Lib.itoa n) = false := by
 have hd : ∀ m, allB isLow (Lib.decDigits m) = false := fun m => by
  cases hb : allB isLow (Lib.decDigits m) with
  | false => rfl
  | true =>
   unfold allB at hb;rw [κb] at hb;have h2 := List.all_eq_true.1 hb.2;have h1 := List.all_eq_true.1 (fK m);cases hdd : Lib.decDigits m with
   | nil => rw [hdd] at hb; cases hb.1
   | cons d y =>
    have k1 := h1 d (by rw [hdd]; simp);have k2 := h2 d (by rw [hdd]; simp);unfold isDig at k1;unfold isLow at k2;simp only [κb, κe] at k1 k2;omega
 unfold Lib.itoa;split
 ·rfl
 ·exact hd _
theorem tG {α : Type} {l : List α} (h : l ≠ []) : ∃ c y, l = c :: y := by
 cases l with
 | nil => exact absurd rfl h
 | cons c y => exact ⟨c, y, rfl⟩
theorem lQ {a w x : Bytes} {t : Tk} {l : List Tk} (hl : (a ++ (w ++ (tkStr t ++ x))).length ≤ 65536) (hw : w.all isSep = true) (ht : TkSm t) (hx : Spl (isRn t) l x) :
  nextT (a ++ (w ++ (tkStr t ++ x))) a.length = (0, t, ((a.length + w.length + (tkStr t).length : Nat) : Int)) := by
 have hq : endF isSep (a ++ (w ++ (tkStr t ++ x))) a.length = a.length + w.length := gI hw (fun c hc => by
  obtain ⟨d, y, hd⟩ := tG (tk_ne ht);rw [hd] at hc;simp at hc; subst hc;exact zAe ht d (by rw [hd]; rfl))
 have hs : a ++ (w ++ (tkStr t ++ x)) = (a ++ w) ++ (tkStr t ++ x) := by rw [κq]
 have hn : a.length + w.length = (a ++ w).length := by rw [κa]
 obtain ⟨d, y, hd⟩ := tG (tk_ne ht);have hg : (a ++ (w ++ (tkStr t ++ x))).getD (a.length + w.length) 0 = d := by
  rw [hs, hn, hd, κd, List.getElem?_append_right (νr _), Nat.sub_self];rfl
 have hlt : a.length + w.length < (a ++ (w ++ (tkStr t ++ x))).length := by
  simp only [κa, hd, κc];omega
 unfold nextT;rw [if_neg (by omega), if_neg (by omega), Int.toNat_natCast, hq, if_neg (by omega), hg];cases t with
 | op =>
  have : d = 40 := by simp [tkStr] at hd; exact hd.1.symm
  subst this;rw [if_pos rfl];simp [tkStr]
 | cl =>
  have : d = 41 := by simp [tkStr] at hd; exact hd.1.symm
  subst this;rw [if_neg (by decide), if_pos rfl];simp [tkStr]
 | wd z =>
  have hrun := eS ht rfl;have hdr := nI (List.all_eq_true.1 hrun d (by rw [hd]; simp));have e1 : runAt (a ++ (w ++ (tkStr (.wd z) ++ x))) (a.length + w.length) = z := by rw [hs, hn]; exact mG hrun hx.head
  have e2 : endF isRun (a ++ (w ++ (tkStr (.wd z) ++ x))) (a.length + w.length) = a.length + w.length + z.length := by rw [hs, hn]; exact gI hrun hx.head
  rw [if_neg hdr.2.1, if_neg hdr.2.2, e1, e2, if_pos ht.1];rfl
 | nm n =>
  have hrun := eS ht rfl;have hdr := nI (List.all_eq_true.1 hrun d (by rw [hd]; simp));have e1 : runAt (a ++ (w ++ (tkStr (.nm n) ++ x))) (a.length + w.length) = Lib.itoa n := by rw [hs, hn]; exact mG hrun hx.head
  have e2 : endF isRun (a ++ (w ++ (tkStr (.nm n) ++ x))) (a.length + w.length) = a.length + w.length + (Lib.itoa n).length := by rw [hs, hn]; exact gI hrun hx.head
  have e3 : allB isNum (Lib.itoa n) = true := by
   unfold allB;rw [bJ n];have h5 : Lib.itoa n = d :: y := hd;rw [h5];rfl
  rw [if_neg hdr.2.1, if_neg hdr.2.2, e1, e2, oD n, e3, dH n, zAv ht];rw [if_neg (by decide), if_neg (by decide), if_neg (by decide), if_neg (by simp)];rfl
theorem iP {p : Bool} {l : List Tk} {x : Bytes} (h : Spl p l x) : ∀ a : Bytes, (a ++ x).length ≤ 65536 → ∃ j : Nat, Toks (a ++ x) a.length l j ∧ j ≤ (a ++ x).length ∧ ((a ++ x).drop j).all isSep = true := by
 induction h with
 | nil q w hw =>
  intro a _;exact ⟨a.length, rfl, by simp, by rw [List.drop_left]; exact hw⟩
 | cons q w t l x hw h1 h2 h3 ih =>
  intro a hl;have hs : a ++ (w ++ (tkStr t ++ x)) = (a ++ (w ++ tkStr t)) ++ x := by simp [κq]
  have hn := lQ hl hw h2 h3;obtain ⟨j, k1, k2, k3⟩ := ih (a ++ (w ++ tkStr t)) (by rw [← hs]; exact hl);rw [← hs] at k1 k2 k3;refine ⟨j, ⟨_, hn, ?_⟩, k2, k3⟩;rw [show a.length + w.length + (tkStr t).length = (a ++ (w ++ tkStr t)).length by simp only [κa]; omega];exact k1
theorem lR {s : Bytes} {j : Nat} (hl : s.length ≤ 65536) (hj : j ≤ s.length) (h : (s.drop j).all isSep = true) : (nextT s j).1 = 8 := by
 unfold nextT;have e : endF isSep s j = s.length := by
  unfold endF;have := wQ (y := []) h (fun c hc => by cases hc);rw [κp] at this;rw [this, List.length_drop];omega
 rw [if_neg (by omega), if_neg (by omega), Int.toNat_natCast, e, if_pos rfl]
theorem sB {x : Cs} {s : Bytes} (hx : dayE x = 0) (h : Spl false (caseT x) s) (hl : s.length ≤ 65536) : jX s = (0, x) := by
 obtain ⟨j, h1, h2, h3⟩ := iP h [] (by simpa using hl);replace h1 : Toks s 0 (caseT x) j := h1;have e := wJ hx h1;unfold jX;rw [e];show (if (0 : Int) ≠ 0 then ((0 : Int), cs0) else if (nextT s j).1 ≠ 8 then (6, cs0) else (0, x)) = _
 rw [if_neg (by decide), lR hl h2 h3, if_neg (by decide)]
end Go.Proofs.YtkfhpefmmhljmaaGreatDoor
