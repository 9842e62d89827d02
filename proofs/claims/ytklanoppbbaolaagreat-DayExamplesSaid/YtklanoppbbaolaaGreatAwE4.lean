/- A closed run of one function, cut in pieces: some of them. -/
import Derived.Test.YtklanoppbbaolaaGreatEw20
import Derived.Test.YtklanoppbbaolaaGreatAwES0
namespace Go.Proofs.YtklanoppbbaolaaGreat
open Go
set_option maxRecDepth 100000
theorem awe16_seg : Seg Tryz.prog (primS 119 67 401) 20000 (lit Tryz.prog awe16) (lit Tryz.prog awe17) := ⟨by kernel_rfl, by kernel_rfl⟩
theorem awe17_seg : Seg Tryz.prog (primS 119 67 401) 20000 (lit Tryz.prog awe17) (lit Tryz.prog awe18) := ⟨by kernel_rfl, by kernel_rfl⟩
theorem awe18_seg : Seg Tryz.prog (primS 119 67 401) 20000 (lit Tryz.prog awe18) (lit Tryz.prog awe19) := ⟨by kernel_rfl, by kernel_rfl⟩
theorem awe19_seg : Seg Tryz.prog (primS 119 67 401) 20000 (lit Tryz.prog awe19) (lit Tryz.prog awe20) := ⟨by kernel_rfl, by kernel_rfl⟩
end Go.Proofs.YtklanoppbbaolaaGreat
