/- A closed run of one function, cut in pieces: some of them. -/
import Derived.Test.YtklanoppbbaolaaGreatEw20
import Derived.Test.YtklanoppbbaolaaGreatAwES1
namespace Go.Proofs.YtklanoppbbaolaaGreat
open Go
set_option maxRecDepth 100000
theorem awe32_seg : Seg Tryz.prog (primS 119 67 401) 20000 (lit Tryz.prog awe32) (lit Tryz.prog awe33) := ⟨by kernel_rfl, by kernel_rfl⟩
theorem awe33_seg : Seg Tryz.prog (primS 119 67 401) 21218 (lit Tryz.prog awe33) (lit Tryz.prog awe34) := ⟨by kernel_rfl, by kernel_rfl⟩
theorem awe34_seg : Seg Tryz.prog (primS 119 67 401) 20000 (lit Tryz.prog awe34) (lit Tryz.prog awe35) := ⟨by kernel_rfl, by kernel_rfl⟩
theorem awe35_seg : Seg Tryz.prog (primS 119 67 401) 20000 (lit Tryz.prog awe35) (lit Tryz.prog awe36) := ⟨by kernel_rfl, by kernel_rfl⟩
end Go.Proofs.YtklanoppbbaolaaGreat
