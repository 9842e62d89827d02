/- Texts in one: LxR, LxS. -/
import Derived.Test.YtkfhpefmmhljmaaGreatDoorE45
set_option linter.unusedVariables false
set_option linter.unusedSimpArgs false
set_option maxHeartbeats 16000000
namespace Go.Proofs.YtkfhpefmmhljmaaGreatDoor
def isRn : Tk → Bool
 | .wd _ => true
 | .nm _ => true
 | _ => false
inductive Spl : Bool → List Tk → Bytes → Prop
 | nil (p : Bool) (w : Bytes) : w.all isSep = true → Spl p [] w
 | cons (p : Bool) (w : Bytes) (t : Tk) (l : List Tk) (x : Bytes) : w.all isSep = true → (p = true → isRn t = true → w ≠ []) → TkSm t → Spl (isRn t) l x → Spl p (t :: l) (w ++ (tkStr t ++ x))
theorem Spl.sp {l : List Tk} {x : Bytes} (h : Spl false l x) (p : Bool) : Spl p l (32 :: x) := by
 cases h with
 | nil _ v hv => exact Spl.nil _ _ (by rw [List.all_cons, hv]; rfl)
 | cons _ v t l x hv h1 h2 h3 => exact Spl.cons p (32 :: v) t l x (by rw [List.all_cons, hv]; rfl) (fun _ _ => by simp) h2 h3
end Go.Proofs.YtkfhpefmmhljmaaGreatDoor
