/- A closed run of one function, cut in pieces: some of them. -/
import Derived.Test.YtklanoppbbaolaaGreatEw20
import Derived.Test.YtklanoppbbaolaaGreatAwES0
import Derived.Test.YtklanoppbbaolaaGreatAwES1
namespace Go.Proofs.YtklanoppbbaolaaGreat
open Go
set_option maxRecDepth 100000
theorem awe28_seg : Seg Tryz.prog (primS 119 67 401) 20000 (lit Tryz.prog awe28) (lit Tryz.prog awe29) := ⟨by kernel_rfl, by kernel_rfl⟩
theorem awe29_seg : Seg Tryz.prog (primS 119 67 401) 20000 (lit Tryz.prog awe29) (lit Tryz.prog awe30) := ⟨by kernel_rfl, by kernel_rfl⟩
theorem awe30_seg : Seg Tryz.prog (primS 119 67 401) 20117 (lit Tryz.prog awe30) (lit Tryz.prog awe31) := ⟨by kernel_rfl, by kernel_rfl⟩
theorem awe31_seg : Seg Tryz.prog (primS 119 67 401) 20000 (lit Tryz.prog awe31) (lit Tryz.prog awe32) := ⟨by kernel_rfl, by kernel_rfl⟩
end Go.Proofs.YtklanoppbbaolaaGreat
