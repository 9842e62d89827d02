/- The text LxR. -/
import Derived.Test.YtkfhpefmmhljmaaGreatDoorQ46
set_option linter.unusedVariables false
set_option linter.unusedSimpArgs false
/- LxR -/
namespace Go.Proofs.YtkfhpefmmhljmaaGreatDoor
set_option linter.unusedSimpArgs false
def isRn : Tk → Bool
 | .wd _ => true
 | .nm _ => true
 | _ => false
inductive Spl : Bool → List Tk → Bytes → Prop
 | nil (p : Bool) (w : Bytes) : w.all isSep = true → Spl p [] w
 | cons (p : Bool) (w : Bytes) (t : Tk) (l : List Tk) (x : Bytes) : w.all isSep = true → (p = true → isRn t = true → w ≠ []) → TkSm t → Spl (isRn t) l x → Spl p (t :: l) (w ++ (tkStr t ++ x))
def lastp : Bool → List Tk → Bool
 | p, [] => p
 | _, t :: l => lastp (isRn t) l
theorem Spl.prep {p : Bool} {l : List Tk} {x w : Bytes} (hw : w.all isSep = true) (h : Spl p l x) : Spl p l (w ++ x) := by
 cases h with
 | nil _ v hv => exact Spl.nil _ _ (by rw [List.all_append, hw, hv]; rfl)
 | cons _ v t l x hv h1 h2 h3 =>
  rw [← List.append_assoc];exact Spl.cons _ _ _ _ _ (by rw [List.all_append, hw, hv]; rfl) (fun hp ht he => h1 hp ht (List.append_eq_nil_iff.1 he).2) h2 h3
theorem Spl.app {p : Bool} {a b : List Tk} {x y : Bytes} (h : Spl p a x) : Spl (lastp p a) b y → Spl p (a ++ b) (x ++ y) := by
 induction h with
 | nil q w hw => intro k; exact k.prep hw
 | cons q w t l x hw h1 h2 h3 ih =>
  intro k;rw [List.append_assoc, List.append_assoc, List.cons_append];exact Spl.cons _ _ _ _ _ hw h1 h2 (ih k)
theorem Spl.sp {l : List Tk} {x : Bytes} (h : Spl false l x) (p : Bool) : Spl p l (32 :: x) := by
 cases h with
 | nil _ v hv => exact Spl.nil _ _ (by rw [List.all_cons, hv]; rfl)
 | cons _ v t l x hv h1 h2 h3 => exact Spl.cons p (32 :: v) t l x (by rw [List.all_cons, hv]; rfl) (fun _ _ => by simp) h2 h3
theorem spl_go : ∀ (l : List Tk) (o : Option Tk), (∀ t ∈ l, TkSm t) → Spl (o.any isRn) l (fmtGo o l) := by
 intro l
 induction l with
 | nil => intro o _; cases o <;> exact Spl.nil _ _ rfl
 | cons t l ih =>
  intro o h;have h1 := ih (some t) (fun x hx => h x (by simp [hx]));have h2 := h t (by simp);cases o with
  | none => exact Spl.cons _ [] t l _ rfl (fun hp => by cases hp) h2 h1
  | some q =>
   rw [fmtGo, List.append_assoc];refine Spl.cons _ _ t l _ ?_ (fun hp ht => ?_) h2 h1
   ·unfold sepB; split <;> rfl
   ·unfold sepB;cases q <;> cases t <;> first | (exfalso; revert hp; decide) | (exfalso; revert ht; decide) | simp [isOp, isCl] | (simp [isRn] at hp ht)
theorem spl_fmt {l : List Tk} (h : ∀ t ∈ l, TkSm t) : Spl false l (fmtT l) := spl_go l none h
def SplA (l : List Tk) (x : Bytes) : Prop := ∀ p, Spl p l x
theorem SplA.app {a b : List Tk} {x y : Bytes} (h : SplA a x) (k : SplA b y) : SplA (a ++ b) (x ++ y) := fun p => (h p).app (k _)
theorem Spl.spA {l : List Tk} {x : Bytes} (h : Spl false l x) : SplA l (32 :: x) := h.sp
theorem spl_cl : SplA [.cl] [41] := fun p => Spl.cons p [] .cl [] [] rfl (fun _ h => by cases h) trivial (Spl.nil _ _ rfl)
theorem spl_opw {y : Bytes} (hy : TkSm (.wd y)) : SplA [.op, .wd y] (40 :: y) := fun p =>
 Spl.cons p [] .op [.wd y] y rfl (fun _ h => by cases h) trivial (by have := Spl.cons false [] (.wd y) [] [] rfl (fun h => by cases h) hy (Spl.nil _ _ rfl); rwa [List.nil_append, List.append_nil] at this)
theorem spl_nm {n : Int} (hn : small n) : SplA [.nm n] (32 :: Lib.itoa n) := Spl.spA (by have := Spl.cons false [] (.nm n) [] [] rfl (fun h => by cases h) hn (Spl.nil _ _ rfl); rwa [List.nil_append, List.append_nil] at this)
theorem spl_flat {α : Type} {T : α → List Tk} {f : α → Bytes} : ∀ (l : List α), (∀ x ∈ l, Spl false (T x) (f x)) → SplA (l.flatMap T) ((l.map f).flatMap (fun t => 32 :: t)) := by
 intro l
 induction l with
 | nil => intro _ p; exact Spl.nil _ _ rfl
 | cons x l ih =>
  intro h;rw [List.flatMap_cons, List.map_cons, List.flatMap_cons];exact (h x (by simp)).spA.app (ih (fun y hy => h y (by simp [hy])))
theorem spl_list {α : Type} {T : α → List Tk} {f : α → Bytes} {y : Bytes} (hy : TkSm (.wd y)) {l : List α} (h : ∀ x ∈ l, Spl false (T x) (f x)) : SplA (listT y T l) (listS y (l.map f)) := by
 have := ((spl_opw hy).app (spl_flat l h)).app spl_cl;unfold listS joinS listT;simpa using this
theorem spl_right {r : Rt} (h : small r.1 ∧ small r.2.1 ∧ small r.2.2) : SplA (rightT r) (rightS r) := by
 have := ((((spl_opw (y := [114, 105, 103, 104, 116]) ⟨by decide, by decide⟩).app (spl_nm h.1)).app (spl_nm h.2.1)).app (spl_nm h.2.2)).app spl_cl;unfold rightS rightT;simpa using this
theorem spl_hour {n : Int} {h : Hr} (hn : n ≤ 6) (ok : HrOk n h) : SplA (hourT h) (hourS h) := by
 have hb : ∀ b ∈ h.bids, Spl false (bidT b) (fmtT (bidT b)) := fun b hb => spl_fmt (bidT_sm (bidE_sm hn (ok.a b hb)).2.1 (bidE_sm hn (ok.a b hb)).2.2.2)
 have hr : ∀ b ∈ h.real, Spl false (bidT b) (fmtT (bidT b)) := fun b hb => spl_fmt (bidT_sm (bidE_sm hn (ok.b b hb)).2.1 (bidE_sm hn (ok.b b hb)).2.2.2)
 have := ((((spl_opw (y := [104, 111, 117, 114]) ⟨by decide, by decide⟩).app (spl_nm ok.e)).app (Spl.spA (spl_list (y := [98, 105, 100, 115]) ⟨by decide, by decide⟩ hb false))).app (Spl.spA (spl_list (y := [114, 101, 97, 108]) ⟨by decide, by decide⟩ hr false))).app spl_cl;unfold hourS hourT;simpa [List.append_assoc] using this
theorem spl_case {x : Cs} (hx : dayE x = 0) : SplA (caseT x) (caseS x) := by
 have ok := dayE_ok hx;obtain ⟨hb1, hn6, _, hq⟩ := checkE_sm ok.net;have hN : Spl false (netT x.net) (fmtT (netT x.net)) := spl_fmt (netT_sm (by unfold small; omega) hq);have hU : ∀ u ∈ x.units, Spl false (unitT u) (fmtT (unitT u)) := fun u hu => spl_fmt (unitT_sm (unitE_sm hn6 (ok.us u hu)).2.1 (unitE_sm hn6 (ok.us u hu)).2.2.2)
 have hH : ∀ y ∈ x.hours, Spl false (hourT y) (hourS y) := fun y hy => spl_hour hn6 (ok.hs y hy) false
 have hO : ∀ y ∈ x.outs, Spl false (outT y) (fmtT (outT y)) := fun y hy => spl_fmt (outT_sm (OgOk.small (ok.os y hy)))
 have hR : ∀ y ∈ x.rights, Spl false (rightT y) (rightS y) := fun y hy => spl_right (ok.rs y hy) false
 have := ((((((spl_opw (y := [99, 97, 115, 101]) ⟨by decide, by decide⟩).app hN.spA).app (Spl.spA (spl_list (y := [117, 110, 105, 116, 115]) ⟨by decide, by decide⟩ hU false))).app (Spl.spA (spl_list (y := [104, 111, 117, 114, 115]) ⟨by decide, by decide⟩ hH false))).app (Spl.spA (spl_list (y := [111, 117, 116, 97, 103, 101, 115]) ⟨by decide, by decide⟩ hO false))).app (Spl.spA (spl_list (y := [114, 105, 103, 104, 116, 115]) ⟨by decide, by decide⟩ hR false))).app spl_cl;unfold caseS joinS caseT;simpa [List.append_assoc] using this
theorem low_run {r : Bytes} (h : r.all isLow = true) : r.all isRun = true := by
 rw [List.all_eq_true] at h ⊢;intro c hc;unfold isRun;rw [h c hc];rfl
theorem num_run {r : Bytes} (h : r.all isNum = true) : r.all isRun = true := by
 rw [List.all_eq_true] at h ⊢;intro c hc;unfold isRun;rw [h c hc, Bool.or_true]
theorem itoa_num (n : Int) : (Lib.itoa n).all isNum = true := by
 have hd : ∀ m, (Lib.decDigits m).all isNum = true := fun m => by
  have := dec_all m;rw [List.all_eq_true] at this ⊢;intro c hc;unfold isNum;rw [this c hc];rfl
 unfold Lib.itoa;split
 ·first | (rw [List.all_cons, hd]; rfl) | (rw [List.all_append, hd]; rfl)
 ·exact hd _
theorem tk_run {t : Tk} (h : TkSm t) (hr : isRn t = true) : (tkStr t).all isRun = true := by
 cases t with
 | op => cases hr
 | cl => cases hr
 | wd y =>
  have h1 : allB isLow y = true := h.1;unfold allB at h1;rw [Bool.and_eq_true] at h1;exact low_run h1.2
 | nm n => exact num_run (itoa_num n)
end Go.Proofs.YtkfhpefmmhljmaaGreatDoor
