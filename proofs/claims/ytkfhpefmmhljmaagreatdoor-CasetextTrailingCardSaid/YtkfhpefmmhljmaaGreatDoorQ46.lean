/- Texts in one: LxR, LxS. -/
import Derived.Test.YtkfhpefmmhljmaaGreatDoorQ45
set_option linter.unusedVariables false
set_option linter.unusedSimpArgs false
set_option maxHeartbeats 16000000
/- LxR -/
namespace Go.Proofs.YtkfhpefmmhljmaaGreatDoor
def isRn : Tk → Bool
 | .wd _ => true
 | .nm _ => true
 | _ => false
inductive Spl : Bool → List Tk → Bytes → Prop
 | nil (p : Bool) (w : Bytes) : w.all isSep = true → Spl p [] w
 | cons (p : Bool) (w : Bytes) (t : Tk) (l : List Tk) (x : Bytes) : w.all isSep = true → (p = true → isRn t = true → w ≠ []) → TkSm t → Spl (isRn t) l x → Spl p (t :: l) (w ++ (tkStr t ++ x))
def lastp : Bool → List Tk → Bool
 | p, [] => p
 | _, t :: l => lastp (isRn t) l
theorem Spl.prep {p : Bool} {l : List Tk} {x w : Bytes} (hw : w.all isSep = true) (h : Spl p l x) : Spl p l (w ++ x) := by
 cases h with
 | nil _ v hv => exact Spl.nil _ _ (by rw [List.all_append, hw, hv]; rfl)
 | cons _ v t l x hv h1 h2 h3 =>
  rw [← List.append_assoc];exact Spl.cons _ _ _ _ _ (by rw [List.all_append, hw, hv]; rfl) (fun hp ht he => h1 hp ht (List.append_eq_nil_iff.1 he).2) h2 h3
theorem Spl.app {p : Bool} {a b : List Tk} {x y : Bytes} (h : Spl p a x) : Spl (lastp p a) b y → Spl p (a ++ b) (x ++ y) := by
 induction h with
 | nil q w hw => intro k; exact k.prep hw
 | cons q w t l x hw h1 h2 h3 ih =>
  intro k;rw [List.append_assoc, List.append_assoc, List.cons_append];exact Spl.cons _ _ _ _ _ hw h1 h2 (ih k)
theorem Spl.sp {l : List Tk} {x : Bytes} (h : Spl false l x) (p : Bool) : Spl p l (32 :: x) := by
 cases h with
 | nil _ v hv => exact Spl.nil _ _ (by rw [List.all_cons, hv]; rfl)
 | cons _ v t l x hv h1 h2 h3 => exact Spl.cons p (32 :: v) t l x (by rw [List.all_cons, hv]; rfl) (fun _ _ => by simp) h2 h3
def SplA (l : List Tk) (x : Bytes) : Prop := ∀ p, Spl p l x
theorem SplA.app {a b : List Tk} {x y : Bytes} (h : SplA a x) (k : SplA b y) : SplA (a ++ b) (x ++ y) := fun p => (h p).app (k _)
end Go.Proofs.YtkfhpefmmhljmaaGreatDoor
