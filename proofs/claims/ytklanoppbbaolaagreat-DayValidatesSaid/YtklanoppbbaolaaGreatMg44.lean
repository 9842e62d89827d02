/- The text AwR1. -/
import Derived.Test.YtklanoppbbaolaaGreatMg41
import Derived.Test.YtklanoppbbaolaaGreatMg42
/- A closed run of one function, cut in pieces: some of them. -/
namespace Go.Proofs.YtklanoppbbaolaaGreat
open Go
set_option maxRecDepth 100000
theorem awr4_seg : Seg Tryz.prog (primS 119 67 401) 20000 (lit Tryz.prog awr4) (lit Tryz.prog awr5) := ⟨by kernel_rfl, by kernel_rfl⟩
theorem awr5_seg : Seg Tryz.prog (primS 119 67 401) 20000 (lit Tryz.prog awr5) (lit Tryz.prog awr6) := ⟨by kernel_rfl, by kernel_rfl⟩
theorem awr6_seg : Seg Tryz.prog (primS 119 67 401) 20000 (lit Tryz.prog awr6) (lit Tryz.prog awr7) := ⟨by kernel_rfl, by kernel_rfl⟩
theorem awr7_seg : Seg Tryz.prog (primS 119 67 401) 20000 (lit Tryz.prog awr7) (lit Tryz.prog awr8) := ⟨by kernel_rfl, by kernel_rfl⟩
end Go.Proofs.YtklanoppbbaolaaGreat
