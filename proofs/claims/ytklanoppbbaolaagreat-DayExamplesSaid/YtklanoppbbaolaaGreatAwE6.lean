/- A closed run of one function, cut in pieces: some of them. -/
import Derived.Test.YtklanoppbbaolaaGreatEw20
import Derived.Test.YtklanoppbbaolaaGreatAwES0
namespace Go.Proofs.YtklanoppbbaolaaGreat
open Go
set_option maxRecDepth 100000
theorem awe24_seg : Seg Tryz.prog (primS 119 67 401) 20000 (lit Tryz.prog awe24) (lit Tryz.prog awe25) := ⟨by kernel_rfl, by kernel_rfl⟩
theorem awe25_seg : Seg Tryz.prog (primS 119 67 401) 20000 (lit Tryz.prog awe25) (lit Tryz.prog awe26) := ⟨by kernel_rfl, by kernel_rfl⟩
theorem awe26_seg : Seg Tryz.prog (primS 119 67 401) 20000 (lit Tryz.prog awe26) (lit Tryz.prog awe27) := ⟨by kernel_rfl, by kernel_rfl⟩
theorem awe27_seg : Seg Tryz.prog (primS 119 67 401) 20000 (lit Tryz.prog awe27) (lit Tryz.prog awe28) := ⟨by kernel_rfl, by kernel_rfl⟩
end Go.Proofs.YtklanoppbbaolaaGreat
