/- The text AwR4. -/
import Derived.Test.YtklanoppbbaolaaGreatMg41
import Derived.Test.YtklanoppbbaolaaGreatMg42
/- A closed run of one function, cut in pieces: some of them. -/
namespace Go.Proofs.YtklanoppbbaolaaGreat
open Go
set_option maxRecDepth 100000
theorem awr16_seg : Seg Tryz.prog (primS 119 67 401) 20000 (lit Tryz.prog awr16) (lit Tryz.prog awr17) := ⟨by kernel_rfl, by kernel_rfl⟩
theorem awr17_seg : Seg Tryz.prog (primS 119 67 401) 20000 (lit Tryz.prog awr17) (lit Tryz.prog awr18) := ⟨by kernel_rfl, by kernel_rfl⟩
theorem awr18_seg : Seg Tryz.prog (primS 119 67 401) 20000 (lit Tryz.prog awr18) (lit Tryz.prog awr19) := ⟨by kernel_rfl, by kernel_rfl⟩
theorem awr19_seg : Seg Tryz.prog (primS 119 67 401) 20000 (lit Tryz.prog awr19) (lit Tryz.prog awr20) := ⟨by kernel_rfl, by kernel_rfl⟩
end Go.Proofs.YtklanoppbbaolaaGreat
