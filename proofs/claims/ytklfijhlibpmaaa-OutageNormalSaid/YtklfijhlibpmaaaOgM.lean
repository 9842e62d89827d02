/- Parts of a list of outages. -/
import Derived.Test.YtklfijhlibpmaaaOgL
namespace Go.Proofs.Ytklfijhlibpmaaa
open Go.RowKit
set_option linter.unusedVariables false

/-- The address of the part from lo on. -/
def subA (A : Option Addr) (c lo : Nat) : Option Addr := if c = lo then A else A.map (·.add (lo * 4))
theorem und_og : Try.prog.underlying 22 = some (.slice (Try.prog.elem 22)) := by kernel_rfl
theorem elem_og : Try.prog.elem 22 = 27 := by kernel_rfl
theorem slice_lh (A : Option Addr) (len c lo hi : Nat) (h1 : lo ≤ hi) (h2 : hi ≤ c) (w : World) : (Instr.sliceAt 22 (.slice A len c) (some (.int .i64 (lo : Int))) (some (.int .i64 (hi : Int))) none).run Try.prog w = .ok (.slice (subA A c lo) (hi - lo) (c - lo)) w := by
  rw [run_sliceAt_slice w _ _ _ _ _ und_og, run_slice_lh w _ A len c und_og .i64 .i64 _ _ (by omega) (by omega) (by omega), elem_og, Try.sizeOf27]
  simp [Result.andThen, sliced, subA]
theorem slice_h (A : Option Addr) (len c hi : Nat) (h2 : hi ≤ c) (w : World) : (Instr.sliceAt 22 (.slice A len c) none (some (.int .i64 (hi : Int))) none).run Try.prog w = .ok (.slice (subA A c 0) hi c) w := by
  rw [run_sliceAt_slice w _ _ _ _ _ und_og, run_slice_h w _ A len c und_og .i64 _ (by omega) (by omega), elem_og, Try.sizeOf27]
  simp [Result.andThen, sliced, subA]
theorem slice_l (A : Option Addr) (len c lo : Nat) (h1 : lo ≤ len) (h2 : len ≤ c) (w : World) : (Instr.sliceAt 22 (.slice A len c) (some (.int .i64 (lo : Int))) none none).run Try.prog w = .ok (.slice (subA A c lo) (len - lo) (c - lo)) w := by
  rw [run_sliceAt_slice w _ _ _ _ _ und_og, run_slice_l w _ A len c und_og .i64 _ (by omega) (by omega), elem_og, Try.sizeOf27]
  simp [Result.andThen, sliced, subA]
theorem OgsR.drop {w : World} {B : Nat} {A : Option Addr} {l : List Og} {c : Nat} (h : OgsR w B A l) (lo : Nat) (hc : l.length ≤ c) : OgsR w B (subA A c lo) (l.drop lo) := fun hn => by
  have hl : lo < l.length := by simp at hn; omega
  obtain ⟨b, off, rfl, hb, hcc⟩ := h (by omega)
  have ha : (⟨b, off, none⟩ : Addr).add (lo * 4) = ⟨b, off + lo * 4, none⟩ := by unfold Addr.add; split <;> simp_all
  refine ⟨b, off + lo * 4, by simp [subA, show c ≠ lo by omega, ha], hb, fun i hi => ?_⟩
  have hi' : lo + i < l.length := by simp at hi; omega
  have e : (l.drop lo).getD i (0, 0, 0, 0) = l.getD (lo + i) (0, 0, 0, 0) := by rw [List.getD_eq_getElem?_getD, List.getD_eq_getElem?_getD, List.getElem?_drop]
  rw [e, show off + lo * 4 + i * 4 = off + (lo + i) * 4 by omega]
  exact hcc (lo + i) hi'
theorem OgsR.part {w : World} {B : Nat} {A : Option Addr} {l : List Og} {c : Nat} (h : OgsR w B A l) (lo n : Nat) (hc : l.length ≤ c) : OgsR w B (subA A c lo) ((l.drop lo).take n) := (h.drop lo hc).take n
theorem OgBs.part {l : List Og} (h : OgBs l) (lo n : Nat) : OgBs ((l.drop lo).take n) := fun o ho => h o (List.mem_of_mem_drop (List.mem_of_mem_take ho))
end Go.Proofs.Ytklfijhlibpmaaa
