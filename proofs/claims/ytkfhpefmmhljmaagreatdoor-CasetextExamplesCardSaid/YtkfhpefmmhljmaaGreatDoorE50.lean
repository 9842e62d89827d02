/- Texts in one: LxL, Dln. -/
import Derived.Test.YtkfhpefmmhljmaaGreatDoorE48
set_option linter.unusedVariables false
set_option linter.unusedSimpArgs false
set_option maxHeartbeats 16000000
namespace Go.Proofs.YtkfhpefmmhljmaaGreatDoor
end Go.Proofs.YtkfhpefmmhljmaaGreatDoor
