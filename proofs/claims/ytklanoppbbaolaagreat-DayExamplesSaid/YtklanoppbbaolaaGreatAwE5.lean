/- A closed run of one function, cut in pieces: some of them. -/
import Derived.Test.YtklanoppbbaolaaGreatEw20
import Derived.Test.YtklanoppbbaolaaGreatAwES0
namespace Go.Proofs.YtklanoppbbaolaaGreat
open Go
set_option maxRecDepth 100000
theorem awe20_seg : Seg Tryz.prog (primS 119 67 401) 20288 (lit Tryz.prog awe20) (lit Tryz.prog awe21) := ⟨by kernel_rfl, by kernel_rfl⟩
theorem awe21_seg : Seg Tryz.prog (primS 119 67 401) 20000 (lit Tryz.prog awe21) (lit Tryz.prog awe22) := ⟨by kernel_rfl, by kernel_rfl⟩
theorem awe22_seg : Seg Tryz.prog (primS 119 67 401) 20207 (lit Tryz.prog awe22) (lit Tryz.prog awe23) := ⟨by kernel_rfl, by kernel_rfl⟩
theorem awe23_seg : Seg Tryz.prog (primS 119 67 401) 20000 (lit Tryz.prog awe23) (lit Tryz.prog awe24) := ⟨by kernel_rfl, by kernel_rfl⟩
end Go.Proofs.YtklanoppbbaolaaGreat
