/- A store of a function value. -/
import Derived.WalkKit
import Derived.Outline
namespace Go.Proofs.YtklanoppbbaolaaGreat
open Go.RowKit
set_option linter.unusedVariables false
set_option linter.unusedSimpArgs false
theorem store_func {P : Program} (w : World) (a : Addr) (f : Fn) (fs cs : Array Value) (m : Mode) : (store a (.func f fs cs) m).run P w = stored P w a (.func f fs cs) m := run_store P w a _ m rfl
end Go.Proofs.YtklanoppbbaolaaGreat
