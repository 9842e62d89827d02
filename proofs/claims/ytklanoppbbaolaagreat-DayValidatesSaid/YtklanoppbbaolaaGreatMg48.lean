/- The text AwR5. -/
import Derived.Test.YtklanoppbbaolaaGreatMg41
import Derived.Test.YtklanoppbbaolaaGreatMg42
/- A closed run of one function, cut in pieces: some of them. -/
namespace Go.Proofs.YtklanoppbbaolaaGreat
open Go
set_option maxRecDepth 100000
theorem awr20_seg : Seg Tryz.prog (primS 119 67 401) 20280 (lit Tryz.prog awr20) (lit Tryz.prog awr21) := ⟨by kernel_rfl, by kernel_rfl⟩
theorem awr21_seg : Seg Tryz.prog (primS 119 67 401) 20000 (lit Tryz.prog awr21) (lit Tryz.prog awr22) := ⟨by kernel_rfl, by kernel_rfl⟩
theorem awr22_seg : Seg Tryz.prog (primS 119 67 401) 20207 (lit Tryz.prog awr22) (lit Tryz.prog awr23) := ⟨by kernel_rfl, by kernel_rfl⟩
theorem awr23_end : isTrue (aRun Tryz.prog (primS 119 67 401) 4185 (lit Tryz.prog awr23).st) = true := by kernel_rfl
end Go.Proofs.YtklanoppbbaolaaGreat
