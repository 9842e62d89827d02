/- The text AwR0. -/
import Derived.Test.YtklanoppbbaolaaGreatMg41
import Derived.Test.YtklanoppbbaolaaGreatMg42
/- A closed run of one function, cut in pieces: some of them. -/
namespace Go.Proofs.YtklanoppbbaolaaGreat
open Go
set_option maxRecDepth 100000
theorem awr0_seg : Seg Tryz.prog (primS 119 67 401) 20000 (lit Tryz.prog awr0) (lit Tryz.prog awr1) := ⟨by kernel_rfl, by kernel_rfl⟩
theorem awr1_seg : Seg Tryz.prog (primS 119 67 401) 20000 (lit Tryz.prog awr1) (lit Tryz.prog awr2) := ⟨by kernel_rfl, by kernel_rfl⟩
theorem awr2_seg : Seg Tryz.prog (primS 119 67 401) 20000 (lit Tryz.prog awr2) (lit Tryz.prog awr3) := ⟨by kernel_rfl, by kernel_rfl⟩
theorem awr3_seg : Seg Tryz.prog (primS 119 67 401) 20000 (lit Tryz.prog awr3) (lit Tryz.prog awr4) := ⟨by kernel_rfl, by kernel_rfl⟩
end Go.Proofs.YtklanoppbbaolaaGreat
