/- A closed run of one function, cut in pieces: some of them. -/
import Derived.Test.YtklanoppbbaolaaGreatEw20
import Derived.Test.YtklanoppbbaolaaGreatAwES1
namespace Go.Proofs.YtklanoppbbaolaaGreat
open Go
set_option maxRecDepth 100000
theorem awe40_seg : Seg Tryz.prog (primS 119 67 401) 20000 (lit Tryz.prog awe40) (lit Tryz.prog awe41) := ⟨by kernel_rfl, by kernel_rfl⟩
theorem awe41_seg : Seg Tryz.prog (primS 119 67 401) 20000 (lit Tryz.prog awe41) (lit Tryz.prog awe42) := ⟨by kernel_rfl, by kernel_rfl⟩
theorem awe42_seg : Seg Tryz.prog (primS 119 67 401) 20000 (lit Tryz.prog awe42) (lit Tryz.prog awe43) := ⟨by kernel_rfl, by kernel_rfl⟩
theorem awe43_seg : Seg Tryz.prog (primS 119 67 401) 20000 (lit Tryz.prog awe43) (lit Tryz.prog awe44) := ⟨by kernel_rfl, by kernel_rfl⟩
end Go.Proofs.YtklanoppbbaolaaGreat
