/- The text AwR2. -/
import Derived.Test.YtklanoppbbaolaaGreatMg41
import Derived.Test.YtklanoppbbaolaaGreatMg42
/- A closed run of one function, cut in pieces: some of them. -/
namespace Go.Proofs.YtklanoppbbaolaaGreat
open Go
set_option maxRecDepth 100000
theorem awr8_seg : Seg Tryz.prog (primS 119 67 401) 20000 (lit Tryz.prog awr8) (lit Tryz.prog awr9) := ⟨by kernel_rfl, by kernel_rfl⟩
theorem awr9_seg : Seg Tryz.prog (primS 119 67 401) 20000 (lit Tryz.prog awr9) (lit Tryz.prog awr10) := ⟨by kernel_rfl, by kernel_rfl⟩
theorem awr10_seg : Seg Tryz.prog (primS 119 67 401) 20000 (lit Tryz.prog awr10) (lit Tryz.prog awr11) := ⟨by kernel_rfl, by kernel_rfl⟩
theorem awr11_seg : Seg Tryz.prog (primS 119 67 401) 20000 (lit Tryz.prog awr11) (lit Tryz.prog awr12) := ⟨by kernel_rfl, by kernel_rfl⟩
end Go.Proofs.YtklanoppbbaolaaGreat
