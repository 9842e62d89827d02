/- A closed run of one function, cut in pieces: some of them. -/
import Derived.Test.YtklanoppbbaolaaGreatEw20
import Derived.Test.YtklanoppbbaolaaGreatAwES0
namespace Go.Proofs.YtklanoppbbaolaaGreat
open Go
set_option maxRecDepth 100000
theorem awe8_seg : Seg Tryz.prog (primS 119 67 401) 20000 (lit Tryz.prog awe8) (lit Tryz.prog awe9) := ⟨by kernel_rfl, by kernel_rfl⟩
theorem awe9_seg : Seg Tryz.prog (primS 119 67 401) 20000 (lit Tryz.prog awe9) (lit Tryz.prog awe10) := ⟨by kernel_rfl, by kernel_rfl⟩
theorem awe10_seg : Seg Tryz.prog (primS 119 67 401) 20000 (lit Tryz.prog awe10) (lit Tryz.prog awe11) := ⟨by kernel_rfl, by kernel_rfl⟩
theorem awe11_seg : Seg Tryz.prog (primS 119 67 401) 20000 (lit Tryz.prog awe11) (lit Tryz.prog awe12) := ⟨by kernel_rfl, by kernel_rfl⟩
end Go.Proofs.YtklanoppbbaolaaGreat
