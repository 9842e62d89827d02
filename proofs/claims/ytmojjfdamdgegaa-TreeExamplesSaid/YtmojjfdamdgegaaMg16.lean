/- The text SvcQ. -/
import Derived.Test.YtmojjfdamdgegaaMg15
/- Plain: a list of lines out of service that is in order is no error. -/
namespace Go.Proofs.Ytmojjfdamdgegaa
open Go.RowKit
set_option linter.unusedVariables false

theorem outs_make {nb : Int} {ls : List Ln} {out : List Int} (h1 : checkE nb ls = 0) (h2 : outsB ls.length out = true) : outsE nb ls out = 0 := by
  rw [outsE, if_pos h1, outsV, if_pos h2]
end Go.Proofs.Ytmojjfdamdgegaa
