/- The text AwR3. -/
import Derived.Test.YtklanoppbbaolaaGreatMg41
import Derived.Test.YtklanoppbbaolaaGreatMg42
/- A closed run of one function, cut in pieces: some of them. -/
namespace Go.Proofs.YtklanoppbbaolaaGreat
open Go
set_option maxRecDepth 100000
theorem awr12_seg : Seg Tryz.prog (primS 119 67 401) 20000 (lit Tryz.prog awr12) (lit Tryz.prog awr13) := ⟨by kernel_rfl, by kernel_rfl⟩
theorem awr13_seg : Seg Tryz.prog (primS 119 67 401) 20000 (lit Tryz.prog awr13) (lit Tryz.prog awr14) := ⟨by kernel_rfl, by kernel_rfl⟩
theorem awr14_seg : Seg Tryz.prog (primS 119 67 401) 20000 (lit Tryz.prog awr14) (lit Tryz.prog awr15) := ⟨by kernel_rfl, by kernel_rfl⟩
theorem awr15_seg : Seg Tryz.prog (primS 119 67 401) 20000 (lit Tryz.prog awr15) (lit Tryz.prog awr16) := ⟨by kernel_rfl, by kernel_rfl⟩
end Go.Proofs.YtklanoppbbaolaaGreat
