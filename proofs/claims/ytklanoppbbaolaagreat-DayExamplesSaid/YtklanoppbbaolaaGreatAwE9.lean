/- A closed run of one function, cut in pieces: some of them. -/
import Derived.Test.YtklanoppbbaolaaGreatEw20
import Derived.Test.YtklanoppbbaolaaGreatAwES1
namespace Go.Proofs.YtklanoppbbaolaaGreat
open Go
set_option maxRecDepth 100000
theorem awe36_seg : Seg Tryz.prog (primS 119 67 401) 20000 (lit Tryz.prog awe36) (lit Tryz.prog awe37) := ⟨by kernel_rfl, by kernel_rfl⟩
theorem awe37_seg : Seg Tryz.prog (primS 119 67 401) 20000 (lit Tryz.prog awe37) (lit Tryz.prog awe38) := ⟨by kernel_rfl, by kernel_rfl⟩
theorem awe38_seg : Seg Tryz.prog (primS 119 67 401) 20000 (lit Tryz.prog awe38) (lit Tryz.prog awe39) := ⟨by kernel_rfl, by kernel_rfl⟩
theorem awe39_seg : Seg Tryz.prog (primS 119 67 401) 20000 (lit Tryz.prog awe39) (lit Tryz.prog awe40) := ⟨by kernel_rfl, by kernel_rfl⟩
end Go.Proofs.YtklanoppbbaolaaGreat
