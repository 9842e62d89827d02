/- A function without arguments gives true: its run, piece by piece. -/
import Derived.Test.YtklanoppbbaolaaGreatAwE0
import Derived.Test.YtklanoppbbaolaaGreatAwE1
import Derived.Test.YtklanoppbbaolaaGreatAwE2
import Derived.Test.YtklanoppbbaolaaGreatAwE3
import Derived.Test.YtklanoppbbaolaaGreatAwE4
import Derived.Test.YtklanoppbbaolaaGreatAwE5
import Derived.Test.YtklanoppbbaolaaGreatAwE6
import Derived.Test.YtklanoppbbaolaaGreatAwE7
import Derived.Test.YtklanoppbbaolaaGreatAwE8
import Derived.Test.YtklanoppbbaolaaGreatAwE9
import Derived.Test.YtklanoppbbaolaaGreatAwE10
import Derived.Test.YtklanoppbbaolaaGreatAwE11
namespace Go.Proofs.YtklanoppbbaolaaGreat
open Go Go.RowKit
set_option maxRecDepth 100000
theorem awe_enter : aEnter Tryz.prog 3 [] = some (lit Tryz.prog awe0).st.fr := by kernel_rfl
theorem awe_start : (⟨(lit Tryz.prog awe0).st.fr, [], ⟨.lf, 0, 0⟩⟩ : MSt) = (lit Tryz.prog awe0).st := by kernel_rfl
theorem awe_true (w : World) : Calls Tryz.prog 3 #[] w (fun e w' => e = .returned (.bool true) ∧ Below w.heap.size w w') :=
  calls_true primS_ok prog_mixed awe_enter 11962 (a := lit Tryz.prog awe46) (fun m c0 h => by
    rw [awe_start] at h
    have h := seg_out primS_ok prog_mixed awe0_seg h
    have h := seg_out primS_ok prog_mixed awe1_seg h
    have h := seg_out primS_ok prog_mixed awe2_seg h
    have h := seg_out primS_ok prog_mixed awe3_seg h
    have h := seg_out primS_ok prog_mixed awe4_seg h
    have h := seg_out primS_ok prog_mixed awe5_seg h
    have h := seg_out primS_ok prog_mixed awe6_seg h
    have h := seg_out primS_ok prog_mixed awe7_seg h
    have h := seg_out primS_ok prog_mixed awe8_seg h
    have h := seg_out primS_ok prog_mixed awe9_seg h
    have h := seg_out primS_ok prog_mixed awe10_seg h
    have h := seg_out primS_ok prog_mixed awe11_seg h
    have h := seg_out primS_ok prog_mixed awe12_seg h
    have h := seg_out primS_ok prog_mixed awe13_seg h
    have h := seg_out primS_ok prog_mixed awe14_seg h
    have h := seg_out primS_ok prog_mixed awe15_seg h
    have h := seg_out primS_ok prog_mixed awe16_seg h
    have h := seg_out primS_ok prog_mixed awe17_seg h
    have h := seg_out primS_ok prog_mixed awe18_seg h
    have h := seg_out primS_ok prog_mixed awe19_seg h
    have h := seg_out primS_ok prog_mixed awe20_seg h
    have h := seg_out primS_ok prog_mixed awe21_seg h
    have h := seg_out primS_ok prog_mixed awe22_seg h
    have h := seg_out primS_ok prog_mixed awe23_seg h
    have h := seg_out primS_ok prog_mixed awe24_seg h
    have h := seg_out primS_ok prog_mixed awe25_seg h
    have h := seg_out primS_ok prog_mixed awe26_seg h
    have h := seg_out primS_ok prog_mixed awe27_seg h
    have h := seg_out primS_ok prog_mixed awe28_seg h
    have h := seg_out primS_ok prog_mixed awe29_seg h
    have h := seg_out primS_ok prog_mixed awe30_seg h
    have h := seg_out primS_ok prog_mixed awe31_seg h
    have h := seg_out primS_ok prog_mixed awe32_seg h
    have h := seg_out primS_ok prog_mixed awe33_seg h
    have h := seg_out primS_ok prog_mixed awe34_seg h
    have h := seg_out primS_ok prog_mixed awe35_seg h
    have h := seg_out primS_ok prog_mixed awe36_seg h
    have h := seg_out primS_ok prog_mixed awe37_seg h
    have h := seg_out primS_ok prog_mixed awe38_seg h
    have h := seg_out primS_ok prog_mixed awe39_seg h
    have h := seg_out primS_ok prog_mixed awe40_seg h
    have h := seg_out primS_ok prog_mixed awe41_seg h
    have h := seg_out primS_ok prog_mixed awe42_seg h
    have h := seg_out primS_ok prog_mixed awe43_seg h
    have h := seg_out primS_ok prog_mixed awe44_seg h
    have h := seg_out primS_ok prog_mixed awe45_seg h
    exact h) awe46_end
end Go.Proofs.YtklanoppbbaolaaGreat
