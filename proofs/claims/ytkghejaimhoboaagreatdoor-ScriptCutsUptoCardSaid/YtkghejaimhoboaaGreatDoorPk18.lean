/- Parts of the proof of ScriptCuts: contracts of functions that it reaches, and plain lemmas. No condition of their own. -/
import Derived.Test.YtkghejaimhoboaaGreatDoorPk17
import Derived.Test.YtkghejaimhoboaaGreatDoorPk05
import Derived.Test.YtkghejaimhoboaaGreatDoorPk06
set_option linter.unusedSimpArgs false
set_option linter.unusedVariables false
set_option maxRecDepth 100000
set_option maxHeartbeats 8000000
namespace Go.Proofs.YtkghejaimhoboaaGreatDoor
open Go.RowKit Go.Shelf

end Go.Proofs.YtkghejaimhoboaaGreatDoor
