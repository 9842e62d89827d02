/- A closed run of one function, cut in pieces: some of them. -/
import Derived.Test.YtklanoppbbaolaaGreatEw20
import Derived.Test.YtklanoppbbaolaaGreatAwES0
namespace Go.Proofs.YtklanoppbbaolaaGreat
open Go
set_option maxRecDepth 100000
theorem awe0_seg : Seg Tryz.prog (primS 119 67 401) 20000 (lit Tryz.prog awe0) (lit Tryz.prog awe1) := ⟨by kernel_rfl, by kernel_rfl⟩
theorem awe1_seg : Seg Tryz.prog (primS 119 67 401) 20000 (lit Tryz.prog awe1) (lit Tryz.prog awe2) := ⟨by kernel_rfl, by kernel_rfl⟩
theorem awe2_seg : Seg Tryz.prog (primS 119 67 401) 20000 (lit Tryz.prog awe2) (lit Tryz.prog awe3) := ⟨by kernel_rfl, by kernel_rfl⟩
theorem awe3_seg : Seg Tryz.prog (primS 119 67 401) 20000 (lit Tryz.prog awe3) (lit Tryz.prog awe4) := ⟨by kernel_rfl, by kernel_rfl⟩
end Go.Proofs.YtklanoppbbaolaaGreat
