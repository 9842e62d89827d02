/- The text AwRZ. -/
import Derived.Test.YtklanoppbbaolaaGreatMg43
import Derived.Test.YtklanoppbbaolaaGreatMg44
import Derived.Test.YtklanoppbbaolaaGreatMg45
import Derived.Test.YtklanoppbbaolaaGreatMg46
import Derived.Test.YtklanoppbbaolaaGreatMg47
import Derived.Test.YtklanoppbbaolaaGreatMg48
/- A function without arguments gives true: its run, piece by piece. -/
namespace Go.Proofs.YtklanoppbbaolaaGreat
open Go Go.RowKit
set_option maxRecDepth 100000
theorem awr_enter : aEnter Tryz.prog 5 [] = some (lit Tryz.prog awr0).st.fr := by kernel_rfl
theorem awr_start : (⟨(lit Tryz.prog awr0).st.fr, [], ⟨.lf, 0, 0⟩⟩ : MSt) = (lit Tryz.prog awr0).st := by kernel_rfl
theorem awr_true (w : World) : Calls Tryz.prog 5 #[] w (fun e w' => e = .returned (.bool true) ∧ Below w.heap.size w w') :=
  calls_true primS_ok prog_mixed awr_enter 4185 (a := lit Tryz.prog awr23) (fun m c0 h => by
    rw [awr_start] at h
    have h := seg_out primS_ok prog_mixed awr0_seg h
    have h := seg_out primS_ok prog_mixed awr1_seg h
    have h := seg_out primS_ok prog_mixed awr2_seg h
    have h := seg_out primS_ok prog_mixed awr3_seg h
    have h := seg_out primS_ok prog_mixed awr4_seg h
    have h := seg_out primS_ok prog_mixed awr5_seg h
    have h := seg_out primS_ok prog_mixed awr6_seg h
    have h := seg_out primS_ok prog_mixed awr7_seg h
    have h := seg_out primS_ok prog_mixed awr8_seg h
    have h := seg_out primS_ok prog_mixed awr9_seg h
    have h := seg_out primS_ok prog_mixed awr10_seg h
    have h := seg_out primS_ok prog_mixed awr11_seg h
    have h := seg_out primS_ok prog_mixed awr12_seg h
    have h := seg_out primS_ok prog_mixed awr13_seg h
    have h := seg_out primS_ok prog_mixed awr14_seg h
    have h := seg_out primS_ok prog_mixed awr15_seg h
    have h := seg_out primS_ok prog_mixed awr16_seg h
    have h := seg_out primS_ok prog_mixed awr17_seg h
    have h := seg_out primS_ok prog_mixed awr18_seg h
    have h := seg_out primS_ok prog_mixed awr19_seg h
    have h := seg_out primS_ok prog_mixed awr20_seg h
    have h := seg_out primS_ok prog_mixed awr21_seg h
    have h := seg_out primS_ok prog_mixed awr22_seg h
    exact h) awr23_end
end Go.Proofs.YtklanoppbbaolaaGreat
