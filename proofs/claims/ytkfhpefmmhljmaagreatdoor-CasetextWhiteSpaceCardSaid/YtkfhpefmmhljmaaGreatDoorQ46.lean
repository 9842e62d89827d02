/- Texts in one: LxR, LxS. -/
import Derived.Test.YtkfhpefmmhljmaaGreatDoorQ45
set_option linter.unusedVariables false
set_option linter.unusedSimpArgs false
/- LxR -/
namespace Go.Proofs.YtkfhpefmmhljmaaGreatDoor
set_option linter.unusedSimpArgs false
def isRn : Tk → Bool
 | .wd _ => true
 | .nm _ => true
 | _ => false
inductive Spl : Bool → List Tk → Bytes → Prop
 | nil (p : Bool) (w : Bytes) : w.all isSep = true → Spl p [] w
 | cons (p : Bool) (w : Bytes) (t : Tk) (l : List Tk) (x : Bytes) : w.all isSep = true → (p = true → isRn t = true → w ≠ []) → TkSm t → Spl (isRn t) l x → Spl p (t :: l) (w ++ (tkStr t ++ x))
def lastp : Bool → List Tk → Bool
 | p, [] => p
 | _, t :: l => lastp (isRn t) l
theorem Spl.prep {p : Bool} {l : List Tk} {x w : Bytes} (hw : w.all isSep = true) (h : Spl p l x) : Spl p l (w ++ x) := by
 cases h with
 | nil _ v hv => exact Spl.nil _ _ (by rw [List.all_append, hw, hv]; rfl)
 | cons _ v t l x hv h1 h2 h3 =>
  rw [← List.append_assoc];exact Spl.cons _ _ _ _ _ (by rw [List.all_append, hw, hv]; rfl) (fun hp ht he => h1 hp ht (List.append_eq_nil_iff.1 he).2) h2 h3
theorem Spl.app {p : Bool} {a b : List Tk} {x y : Bytes} (h : Spl p a x) : Spl (lastp p a) b y → Spl p (a ++ b) (x ++ y) := by
 induction h with
 | nil q w hw => intro k; exact k.prep hw
 | cons q w t l x hw h1 h2 h3 ih =>
  intro k;rw [List.append_assoc, List.append_assoc, List.cons_append];exact Spl.cons _ _ _ _ _ hw h1 h2 (ih k)
theorem Spl.sp {l : List Tk} {x : Bytes} (h : Spl false l x) (p : Bool) : Spl p l (32 :: x) := by
 cases h with
 | nil _ v hv => exact Spl.nil _ _ (by rw [List.all_cons, hv]; rfl)
 | cons _ v t l x hv h1 h2 h3 => exact Spl.cons p (32 :: v) t l x (by rw [List.all_cons, hv]; rfl) (fun _ _ => by simp) h2 h3
theorem spl_go : ∀ (l : List Tk) (o : Option Tk), (∀ t ∈ l, TkSm t) → Spl (o.any isRn) l (fmtGo o l) := by
 intro l
 induction l with
 | nil => intro o _; cases o <;> exact Spl.nil _ _ rfl
 | cons t l ih =>
  intro o h;have h1 := ih (some t) (fun x hx => h x (by simp [hx]));have h2 := h t (by simp);cases o with
  | none => exact Spl.cons _ [] t l _ rfl (fun hp => by cases hp) h2 h1
  | some q =>
   rw [fmtGo, List.append_assoc];refine Spl.cons _ _ t l _ ?_ (fun hp ht => ?_) h2 h1
   ·unfold sepB; split <;> rfl
   ·unfold sepB;cases q <;> cases t <;> first | (exfalso; revert hp; decide) | (exfalso; revert ht; decide) | simp [isOp, isCl] | (simp [isRn] at hp ht)
theorem spl_fmt {l : List Tk} (h : ∀ t ∈ l, TkSm t) : Spl false l (fmtT l) := spl_go l none h
def SplA (l : List Tk) (x : Bytes) : Prop := ∀ p, Spl p l x
theorem SplA.app {a b : List Tk} {x y : Bytes} (h : SplA a x) (k : SplA b y) : SplA (a ++ b) (x ++ y) := fun p => (h p).app (k _)
theorem Spl.spA {l : List Tk} {x : Bytes} (h : Spl false l x) : SplA l (32 :: x) := h.sp
theorem spl_cl : SplA [.cl] [41] := fun p => Spl.cons p [] .cl [] [] rfl (fun _ h => by cases h) trivial (Spl.nil _ _ rfl)
theorem spl_opw {y : Bytes} (hy : TkSm (.wd y)) : SplA [.op, .wd y] (40 :: y) := fun p =>
 Spl.cons p [] .op [.wd y] y rfl (fun _ h => by cases h) trivial (by have := Spl.cons false [] (.wd y) [] [] rfl (fun h => by cases h) hy (Spl.nil _ _ rfl); rwa [List.nil_append, List.append_nil] at this)
theorem spl_nm {n : Int} (hn : small n) : SplA [.nm n] (32 :: Lib.itoa n) := Spl.spA (by have := Spl.cons false [] (.nm n) [] [] rfl (fun h => by cases h) hn (Spl.nil _ _ rfl); rwa [List.nil_append, List.append_nil] at this)
theorem spl_flat {α : Type} {T : α → List Tk} {f : α → Bytes} : ∀ (l : List α), (∀ x ∈ l, Spl false (T x) (f x)) → SplA (l.flatMap T) ((l.map f).flatMap (fun t => 32 :: t)) := by
 intro l
 induction l with
 | nil => intro _ p; exact Spl.nil _ _ rfl
 | cons x l ih =>
  intro h;rw [List.flatMap_cons, List.map_cons, List.flatMap_cons];exact (h x (by simp)).spA.app (ih (fun y hy => h y (by simp [hy])))
theorem spl_list {α : Type} {T : α → List Tk} {f : α → Bytes} {y : Bytes} (hy : TkSm (.wd y)) {l : List α} (h : ∀ x ∈ l, Spl false (T x) (f x)) : SplA (listT y T l) (listS y (l.map f)) := by
 have := ((spl_opw hy).app (spl_flat l h)).app spl_cl;unfold listS joinS listT;simpa using this
theorem spl_right {r : Rt} (h : small r.1 ∧ small r.2.1 ∧ small r.2.2) : SplA (rightT r) (rightS r) := by
 have := ((((spl_opw (y := [114, 105, 103, 104, 116]) ⟨by decide, by decide⟩).app (spl_nm h.1)).app (spl_nm h.2.1)).app (spl_nm h.2.2)).app spl_cl;unfold rightS rightT;simpa using this
theorem spl_hour {n : Int} {h : Hr} (hn : n ≤ 6) (ok : HrOk n h) : SplA (hourT h) (hourS h) := by
 have hb : ∀ b ∈ h.bids, Spl false (bidT b) (fmtT (bidT b)) := fun b hb => spl_fmt (bidT_sm (bidE_sm hn (ok.a b hb)).2.1 (bidE_sm hn (ok.a b hb)).2.2.2)
 have hr : ∀ b ∈ h.real, Spl false (bidT b) (fmtT (bidT b)) := fun b hb => spl_fmt (bidT_sm (bidE_sm hn (ok.b b hb)).2.1 (bidE_sm hn (ok.b b hb)).2.2.2)
 have := ((((spl_opw (y := [104, 111, 117, 114]) ⟨by decide, by decide⟩).app (spl_nm ok.e)).app (Spl.spA (spl_list (y := [98, 105, 100, 115]) ⟨by decide, by decide⟩ hb false))).app (Spl.spA (spl_list (y := [114, 101, 97, 108]) ⟨by decide, by decide⟩ hr false))).app spl_cl;unfold hourS hourT;simpa [List.append_assoc] using this
theorem spl_case {x : Cs} (hx : dayE x = 0) : SplA (caseT x) (caseS x) := by
 have ok := dayE_ok hx;obtain ⟨hb1, hn6, _, hq⟩ := checkE_sm ok.net;have hN : Spl false (netT x.net) (fmtT (netT x.net)) := spl_fmt (netT_sm (by unfold small; omega) hq);have hU : ∀ u ∈ x.units, Spl false (unitT u) (fmtT (unitT u)) := fun u hu => spl_fmt (unitT_sm (unitE_sm hn6 (ok.us u hu)).2.1 (unitE_sm hn6 (ok.us u hu)).2.2.2)
 have hH : ∀ y ∈ x.hours, Spl false (hourT y) (hourS y) := fun y hy => spl_hour hn6 (ok.hs y hy) false
 have hO : ∀ y ∈ x.outs, Spl false (outT y) (fmtT (outT y)) := fun y hy => spl_fmt (outT_sm (OgOk.small (ok.os y hy)))
 have hR : ∀ y ∈ x.rights, Spl false (rightT y) (rightS y) := fun y hy => spl_right (ok.rs y hy) false
 have := ((((((spl_opw (y := [99, 97, 115, 101]) ⟨by decide, by decide⟩).app hN.spA).app (Spl.spA (spl_list (y := [117, 110, 105, 116, 115]) ⟨by decide, by decide⟩ hU false))).app (Spl.spA (spl_list (y := [104, 111, 117, 114, 115]) ⟨by decide, by decide⟩ hH false))).app (Spl.spA (spl_list (y := [111, 117, 116, 97, 103, 101, 115]) ⟨by decide, by decide⟩ hO false))).app (Spl.spA (spl_list (y := [114, 105, 103, 104, 116, 115]) ⟨by decide, by decide⟩ hR false))).app spl_cl;unfold caseS joinS caseT;simpa [List.append_assoc] using this
structure Wid (g : UInt8 → Bytes) : Prop where
 sep : ∀ c, isSep c = true → (g c).all isSep = true ∧ g c ≠ []
 op : ∃ u, g 40 = 40 :: u ∧ u.all isSep = true
 cl : g 41 = [41]
 run : ∀ c, isRun c = true → g c = [c]
theorem wid_sep {g : UInt8 → Bytes} (hg : Wid g) : ∀ {w : Bytes}, w.all isSep = true → (w.flatMap g).all isSep = true ∧ (w ≠ [] → w.flatMap g ≠ []) := by
 intro w
 induction w with
 | nil => intro _; exact ⟨rfl, fun h => absurd rfl h⟩
 | cons c w ih =>
  intro h;rw [List.all_cons, Bool.and_eq_true] at h;have h1 := hg.sep c h.1;rw [List.flatMap_cons];refine ⟨by rw [List.all_append, h1.1, (ih h.2).1]; rfl, fun _ he => h1.2 (List.append_eq_nil_iff.1 he).1⟩
theorem wid_run {g : UInt8 → Bytes} (hg : Wid g) : ∀ {r : Bytes}, r.all isRun = true → r.flatMap g = r := by
 intro r
 induction r with
 | nil => intro _; rfl
 | cons c r ih =>
  intro h;rw [List.all_cons, Bool.and_eq_true] at h;rw [List.flatMap_cons, hg.run c h.1, ih h.2];rfl
theorem low_run {r : Bytes} (h : r.all isLow = true) : r.all isRun = true := by
 rw [List.all_eq_true] at h ⊢;intro c hc;unfold isRun;rw [h c hc];rfl
theorem num_run {r : Bytes} (h : r.all isNum = true) : r.all isRun = true := by
 rw [List.all_eq_true] at h ⊢;intro c hc;unfold isRun;rw [h c hc, Bool.or_true]
theorem itoa_num (n : Int) : (Lib.itoa n).all isNum = true := by
 have hd : ∀ m, (Lib.decDigits m).all isNum = true := fun m => by
  have := dec_all m;rw [List.all_eq_true] at this ⊢;intro c hc;unfold isNum;rw [this c hc];rfl
 unfold Lib.itoa;split
 ·first | (rw [List.all_cons, hd]; rfl) | (rw [List.all_append, hd]; rfl)
 ·exact hd _
theorem tk_run {t : Tk} (h : TkSm t) (hr : isRn t = true) : (tkStr t).all isRun = true := by
 cases t with
 | op => cases hr
 | cl => cases hr
 | wd y =>
  have h1 : allB isLow y = true := h.1;unfold allB at h1;rw [Bool.and_eq_true] at h1;exact low_run h1.2
 | nm n => exact num_run (itoa_num n)
theorem Spl.wide {g : UInt8 → Bytes} (hg : Wid g) {p : Bool} {l : List Tk} {x : Bytes} (h : Spl p l x) : Spl p l (x.flatMap g) := by
 induction h with
 | nil q w hw => exact Spl.nil _ _ (wid_sep hg hw).1
 | cons q w t l x hw h1 h2 h3 ih =>
  rw [List.flatMap_append, List.flatMap_append];have k1 := (wid_sep hg hw).1;have k2 : q = true → isRn t = true → w.flatMap g ≠ [] := fun hp ht => (wid_sep hg hw).2 (h1 hp ht)
  cases t with
  | op =>
   obtain ⟨u, hu, hs⟩ := hg.op;have e : (tkStr .op).flatMap g = 40 :: u := by show [40].flatMap g = _; rw [List.flatMap_cons, hu]; simp
   rw [e];exact Spl.cons q _ .op l (u ++ x.flatMap g) k1 k2 h2 (ih.prep hs)
  | cl =>
   have e : (tkStr .cl).flatMap g = [41] := by show [41].flatMap g = _; rw [List.flatMap_cons, hg.cl]; simp
   rw [e];exact Spl.cons q _ .cl l _ k1 k2 h2 ih
  | wd y =>
   rw [wid_run hg (tk_run h2 rfl)];exact Spl.cons q _ (.wd y) l _ k1 k2 h2 ih
  | nm n =>
   rw [wid_run hg (tk_run h2 rfl)];exact Spl.cons q _ (.nm n) l _ k1 k2 h2 ih
end Go.Proofs.YtkfhpefmmhljmaaGreatDoor
/- LxS -/
namespace Go.Proofs.YtkfhpefmmhljmaaGreatDoor
set_option linter.unusedSimpArgs false
theorem tw_app {p : UInt8 → Bool} {r y : Bytes} (hr : r.all p = true) (hy : ∀ c, y.head? = some c → p c = false) : (r ++ y).takeWhile p = r := by
 rw [List.takeWhile_append_of_pos (by rw [List.all_eq_true] at hr; exact hr)];cases y with
 | nil => simp
 | cons c y => rw [List.takeWhile_cons, hy c rfl]; simp
theorem endF_app {p : UInt8 → Bool} {a r y : Bytes} (hr : r.all p = true) (hy : ∀ c, y.head? = some c → p c = false) : endF p (a ++ (r ++ y)) a.length = a.length + r.length := by
 unfold endF;rw [List.drop_left, tw_app hr hy]
theorem runAt_app {a r y : Bytes} (hr : r.all isRun = true) (hy : ∀ c, y.head? = some c → isRun c = false) : runAt (a ++ (r ++ y)) a.length = r := by
 unfold runAt;rw [endF_app hr hy, List.drop_left, Nat.add_sub_cancel_left, List.take_left]
theorem sep_cases {c : UInt8} (h : isSep c = true) : c = 32 ∨ c = 10 := by
 unfold isSep at h;rw [Bool.or_eq_true, beq_iff_eq, beq_iff_eq] at h;exact h
theorem run_sep {c : UInt8} (h : isRun c = true) : isSep c = false ∧ c ≠ 40 ∧ c ≠ 41 := by
 refine ⟨?_, ?_, ?_⟩
 ·cases hs : isSep c with
  | false => rfl
  | true => rcases sep_cases hs with rfl | rfl <;> exact absurd h (by decide)
 ·rintro rfl; exact absurd h (by decide)
 ·rintro rfl; exact absurd h (by decide)
theorem sep_run {c : UInt8} (h : isSep c = true) : isRun c = false := by rcases sep_cases h with rfl | rfl <;> decide
theorem Spl.head {l : List Tk} {x : Bytes} (h : Spl true l x) : ∀ c, x.head? = some c → isRun c = false := by
 cases h with
 | nil _ _ hw =>
  intro c hc;cases x with
  | nil => cases hc
  | cons d w =>
   rw [List.all_cons, Bool.and_eq_true] at hw;simp at hc; subst hc;exact sep_run hw.1
 | cons _ w t l x hw h1 h2 h3 =>
  intro c hc;cases w with
  | cons d w =>
   rw [List.all_cons, Bool.and_eq_true] at hw;simp at hc; subst hc;exact sep_run hw.1
  | nil =>
   cases t with
   | op => simp [tkStr] at hc; subst hc; decide
   | cl => simp [tkStr] at hc; subst hc; decide
   | wd y => exact absurd rfl (h1 rfl rfl)
   | nm n => exact absurd rfl (h1 rfl rfl)
theorem tk_ne {t : Tk} (h : TkSm t) : tkStr t ≠ [] := by
 cases t with
 | op => simp [tkStr]
 | cl => simp [tkStr]
 | wd y =>
  have h1 : allB isLow y = true := h.1;intro e;have e' : y = [] := e;subst e';cases h1
 | nm n =>
  show Lib.itoa n ≠ []
  unfold Lib.itoa;have hd : ∀ m, Lib.decDigits m ≠ [] := fun m e => by
   have := dec_isDec m;rw [e] at this;cases this
  split
  ·simp
  ·exact hd _
theorem tk_head {t : Tk} (h : TkSm t) : ∀ c, (tkStr t).head? = some c → isSep c = false := by
 intro c hc;cases hr : isRn t with
 | true =>
  have h1 := tk_run h hr;rw [List.all_eq_true] at h1;cases hs : tkStr t with
  | nil => rw [hs] at hc; cases hc
  | cons d y =>
   rw [hs] at hc;simp at hc; subst hc;exact (run_sep (h1 d (by rw [hs]; simp))).1
 | false =>
  cases t with
  | op => simp [tkStr] at hc; subst hc; decide
  | cl => simp [tkStr] at hc; subst hc; decide
  | wd y => cases hr
  | nm n => cases hr
theorem dec_len_small {n : Nat} (h : n < 2147483649) : (Lib.decDigits n).length ≤ 10 := dec_len n 10 (by decide) (by omega)
theorem dec_minus (n : Nat) : (Lib.decDigits n).head? ≠ some 45 := by
 intro h;have h1 := dec_all n;rw [List.all_eq_true] at h1;cases hd : Lib.decDigits n with
 | nil => rw [hd] at h; cases h
 | cons d y =>
  rw [hd] at h;simp at h; subst h;exact absurd (h1 45 (by rw [hd]; simp)) (by decide)
theorem pz_itoa {n : Int} (h : small n) : pz (Lib.itoa n) = (0, n) := by
 unfold small at h;unfold Lib.itoa;by_cases h0 : n < 0
 ·rw [if_pos h0];have e1 : isNeg (45 :: Lib.decDigits n.natAbs) = true := rfl;have e2 : magn (45 :: Lib.decDigits n.natAbs) = Lib.decDigits n.natAbs := by unfold magn; rw [e1]; rfl
  unfold pz;rw [e1, e2, if_neg (by have := dec_len_small (n := n.natAbs) (by omega); omega), dec_isDec, dval_dec];have h48 : (Lib.decDigits n.natAbs == [48]) = false := by
   cases hb : (Lib.decDigits n.natAbs == [48]) with
   | false => rfl
   | true =>
    have := eq_of_beq hb;have h2 := dval_dec n.natAbs;rw [this] at h2;have h3 : dval [48] = 0 := by decide
    omega
  rw [h48, if_neg (by decide), if_pos rfl];have : -(n.natAbs : Int) = n := by omega
  rw [this]
 ·rw [if_neg h0];have e1 : isNeg (Lib.decDigits n.toNat) = false := by
   unfold isNeg;cases hb : ((Lib.decDigits n.toNat).head? == some 45) with
   | false => rfl
   | true => exact absurd (eq_of_beq hb) (dec_minus _)
  have e2 : magn (Lib.decDigits n.toNat) = Lib.decDigits n.toNat := by unfold magn; rw [e1]; rfl
  unfold pz;rw [e1, e2, if_neg (by have := dec_len_small (n := n.toNat) (by omega); omega), dec_isDec, dval_dec, if_neg (by simp), if_neg (by decide)];have : (n.toNat : Int) = n := by omega
  rw [this]
theorem dec_slash (n : Nat) : (Lib.decDigits n).any (· == 47) = false := by
 have h1 := dec_all n;rw [List.all_eq_true] at h1;rw [List.any_eq_false];intro c hc he;have : c = 47 := eq_of_beq he;subst this;exact absurd (h1 47 hc) (by decide)
theorem itoa_slash (n : Int) : (Lib.itoa n).any (· == 47) = false := by
 unfold Lib.itoa;split
 ·rw [List.any_cons, dec_slash]; rfl
 ·exact dec_slash _
theorem itoa_low (n : Int) : allB isLow (Lib.itoa n) = false := by
 have hd : ∀ m, allB isLow (Lib.decDigits m) = false := fun m => by
  cases hb : allB isLow (Lib.decDigits m) with
  | false => rfl
  | true =>
   unfold allB at hb;rw [Bool.and_eq_true] at hb;have h2 := List.all_eq_true.1 hb.2;have h1 := List.all_eq_true.1 (dec_all m);cases hdd : Lib.decDigits m with
   | nil => rw [hdd] at hb; cases hb.1
   | cons d y =>
    have k1 := h1 d (by rw [hdd]; simp);have k2 := h2 d (by rw [hdd]; simp);unfold isDig at k1;unfold isLow at k2;simp only [Bool.and_eq_true, decide_eq_true_eq] at k1 k2;omega
 unfold Lib.itoa;split
 ·rfl
 ·exact hd _
theorem head_ne {α : Type} {l : List α} (h : l ≠ []) : ∃ c y, l = c :: y := by
 cases l with
 | nil => exact absurd rfl h
 | cons c y => exact ⟨c, y, rfl⟩
theorem next_spl {a w x : Bytes} {t : Tk} {l : List Tk} (hl : (a ++ (w ++ (tkStr t ++ x))).length ≤ 65536) (hw : w.all isSep = true) (ht : TkSm t) (hx : Spl (isRn t) l x) :
  nextT (a ++ (w ++ (tkStr t ++ x))) a.length = (0, t, ((a.length + w.length + (tkStr t).length : Nat) : Int)) := by
 have hq : endF isSep (a ++ (w ++ (tkStr t ++ x))) a.length = a.length + w.length := endF_app hw (fun c hc => by
  obtain ⟨d, y, hd⟩ := head_ne (tk_ne ht);rw [hd] at hc;simp at hc; subst hc;exact tk_head ht d (by rw [hd]; rfl))
 have hs : a ++ (w ++ (tkStr t ++ x)) = (a ++ w) ++ (tkStr t ++ x) := by rw [List.append_assoc]
 have hn : a.length + w.length = (a ++ w).length := by rw [List.length_append]
 obtain ⟨d, y, hd⟩ := head_ne (tk_ne ht);have hg : (a ++ (w ++ (tkStr t ++ x))).getD (a.length + w.length) 0 = d := by
  rw [hs, hn, hd, List.getD_eq_getElem?_getD, List.getElem?_append_right (Nat.le_refl _), Nat.sub_self];rfl
 have hlt : a.length + w.length < (a ++ (w ++ (tkStr t ++ x))).length := by
  simp only [List.length_append, hd, List.length_cons];omega
 unfold nextT;rw [if_neg (by omega), if_neg (by omega), Int.toNat_natCast, hq, if_neg (by omega), hg];cases t with
 | op =>
  have : d = 40 := by simp [tkStr] at hd; exact hd.1.symm
  subst this;rw [if_pos rfl];simp [tkStr]
 | cl =>
  have : d = 41 := by simp [tkStr] at hd; exact hd.1.symm
  subst this;rw [if_neg (by decide), if_pos rfl];simp [tkStr]
 | wd z =>
  have hrun := tk_run ht rfl;have hdr := run_sep (List.all_eq_true.1 hrun d (by rw [hd]; simp));have e1 : runAt (a ++ (w ++ (tkStr (.wd z) ++ x))) (a.length + w.length) = z := by rw [hs, hn]; exact runAt_app hrun hx.head
  have e2 : endF isRun (a ++ (w ++ (tkStr (.wd z) ++ x))) (a.length + w.length) = a.length + w.length + z.length := by rw [hs, hn]; exact endF_app hrun hx.head
  rw [if_neg hdr.2.1, if_neg hdr.2.2, e1, e2, if_pos ht.1];rfl
 | nm n =>
  have hrun := tk_run ht rfl;have hdr := run_sep (List.all_eq_true.1 hrun d (by rw [hd]; simp));have e1 : runAt (a ++ (w ++ (tkStr (.nm n) ++ x))) (a.length + w.length) = Lib.itoa n := by rw [hs, hn]; exact runAt_app hrun hx.head
  have e2 : endF isRun (a ++ (w ++ (tkStr (.nm n) ++ x))) (a.length + w.length) = a.length + w.length + (Lib.itoa n).length := by rw [hs, hn]; exact endF_app hrun hx.head
  have e3 : allB isNum (Lib.itoa n) = true := by
   unfold allB;rw [itoa_num n];have h5 : Lib.itoa n = d :: y := hd;rw [h5];rfl
  rw [if_neg hdr.2.1, if_neg hdr.2.2, e1, e2, itoa_low n, e3, itoa_slash n, pz_itoa ht];rw [if_neg (by decide), if_neg (by decide), if_neg (by decide), if_neg (by simp)];rfl
theorem spl_toks {p : Bool} {l : List Tk} {x : Bytes} (h : Spl p l x) : ∀ a : Bytes, (a ++ x).length ≤ 65536 → ∃ j : Nat, Toks (a ++ x) a.length l j ∧ j ≤ (a ++ x).length ∧ ((a ++ x).drop j).all isSep = true := by
 induction h with
 | nil q w hw =>
  intro a _;exact ⟨a.length, rfl, by simp, by rw [List.drop_left]; exact hw⟩
 | cons q w t l x hw h1 h2 h3 ih =>
  intro a hl;have hs : a ++ (w ++ (tkStr t ++ x)) = (a ++ (w ++ tkStr t)) ++ x := by simp [List.append_assoc]
  have hn := next_spl hl hw h2 h3;obtain ⟨j, k1, k2, k3⟩ := ih (a ++ (w ++ tkStr t)) (by rw [← hs]; exact hl);rw [← hs] at k1 k2 k3;refine ⟨j, ⟨_, hn, ?_⟩, k2, k3⟩;rw [show a.length + w.length + (tkStr t).length = (a ++ (w ++ tkStr t)).length by simp only [List.length_append]; omega];exact k1
theorem next_end {s : Bytes} {j : Nat} (hl : s.length ≤ 65536) (hj : j ≤ s.length) (h : (s.drop j).all isSep = true) : (nextT s j).1 = 8 := by
 unfold nextT;have e : endF isSep s j = s.length := by
  unfold endF;have := tw_app (y := []) h (fun c hc => by cases hc);rw [List.append_nil] at this;rw [this, List.length_drop];omega
 rw [if_neg (by omega), if_neg (by omega), Int.toNat_natCast, e, if_pos rfl]
theorem parse_spl {x : Cs} {s : Bytes} (hx : dayE x = 0) (h : Spl false (caseT x) s) (hl : s.length ≤ 65536) : parseP s = (0, x) := by
 obtain ⟨j, h1, h2, h3⟩ := spl_toks h [] (by simpa using hl);replace h1 : Toks s 0 (caseT x) j := h1;have e := case_fwd hx h1;unfold parseP;rw [e];show (if (0 : Int) ≠ 0 then ((0 : Int), cs0) else if (nextT s j).1 ≠ 8 then (6, cs0) else (0, x)) = _
 rw [if_neg (by decide), next_end hl h2 h3, if_neg (by decide)]
end Go.Proofs.YtkfhpefmmhljmaaGreatDoor
