/- A closed run of one function, cut in pieces: some of them. -/
import Derived.Test.YtklanoppbbaolaaGreatEw20
import Derived.Test.YtklanoppbbaolaaGreatAwES1
namespace Go.Proofs.YtklanoppbbaolaaGreat
open Go
set_option maxRecDepth 100000
theorem awe44_seg : Seg Tryz.prog (primS 119 67 401) 20000 (lit Tryz.prog awe44) (lit Tryz.prog awe45) := ⟨by kernel_rfl, by kernel_rfl⟩
theorem awe45_seg : Seg Tryz.prog (primS 119 67 401) 20000 (lit Tryz.prog awe45) (lit Tryz.prog awe46) := ⟨by kernel_rfl, by kernel_rfl⟩
theorem awe46_end : isTrue (aRun Tryz.prog (primS 119 67 401) 11962 (lit Tryz.prog awe46).st) = true := by kernel_rfl
end Go.Proofs.YtklanoppbbaolaaGreat
