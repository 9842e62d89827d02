/- A closed run of one function, cut in pieces: some of them. -/
import Derived.Test.YtklanoppbbaolaaGreatEw20
import Derived.Test.YtklanoppbbaolaaGreatAwES0
namespace Go.Proofs.YtklanoppbbaolaaGreat
open Go
set_option maxRecDepth 100000
theorem awe12_seg : Seg Tryz.prog (primS 119 67 401) 20000 (lit Tryz.prog awe12) (lit Tryz.prog awe13) := ⟨by kernel_rfl, by kernel_rfl⟩
theorem awe13_seg : Seg Tryz.prog (primS 119 67 401) 20000 (lit Tryz.prog awe13) (lit Tryz.prog awe14) := ⟨by kernel_rfl, by kernel_rfl⟩
theorem awe14_seg : Seg Tryz.prog (primS 119 67 401) 20000 (lit Tryz.prog awe14) (lit Tryz.prog awe15) := ⟨by kernel_rfl, by kernel_rfl⟩
theorem awe15_seg : Seg Tryz.prog (primS 119 67 401) 20000 (lit Tryz.prog awe15) (lit Tryz.prog awe16) := ⟨by kernel_rfl, by kernel_rfl⟩
end Go.Proofs.YtklanoppbbaolaaGreat
