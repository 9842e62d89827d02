/- A closed run of one function, cut in pieces: some of them. -/
import Derived.Test.YtklanoppbbaolaaGreatEw20
import Derived.Test.YtklanoppbbaolaaGreatAwES0
namespace Go.Proofs.YtklanoppbbaolaaGreat
open Go
set_option maxRecDepth 100000
theorem awe4_seg : Seg Tryz.prog (primS 119 67 401) 20000 (lit Tryz.prog awe4) (lit Tryz.prog awe5) := ⟨by kernel_rfl, by kernel_rfl⟩
theorem awe5_seg : Seg Tryz.prog (primS 119 67 401) 20000 (lit Tryz.prog awe5) (lit Tryz.prog awe6) := ⟨by kernel_rfl, by kernel_rfl⟩
theorem awe6_seg : Seg Tryz.prog (primS 119 67 401) 20000 (lit Tryz.prog awe6) (lit Tryz.prog awe7) := ⟨by kernel_rfl, by kernel_rfl⟩
theorem awe7_seg : Seg Tryz.prog (primS 119 67 401) 20000 (lit Tryz.prog awe7) (lit Tryz.prog awe8) := ⟨by kernel_rfl, by kernel_rfl⟩
end Go.Proofs.YtklanoppbbaolaaGreat
