/- Parts of the proof of ScriptCuts: contracts of functions that it reaches, and plain lemmas. No condition of their own. -/
import Derived.Test.YtkghejaimhoboaaGreatDoorPk20
import Derived.Test.YtkghejaimhoboaaGreatDoorPk13
import Derived.Test.YtkghejaimhoboaaGreatDoorPk01
import Derived.Laws.FloatArith
import Derived.WalkLawsBesides
import Derived.Test.YtkghejaimhoboaaGreatDoorPk07
import Derived.Test.YtkghejaimhoboaaGreatDoorPk11
import Derived.Test.YtkghejaimhoboaaGreatDoorPk10
import Derived.Laws.Externs
set_option linter.unusedSimpArgs false
set_option linter.unusedVariables false
set_option maxRecDepth 100000
set_option maxHeartbeats 8000000
namespace Go.Proofs.YtkghejaimhoboaaGreatDoor
open Go.RowKit Go.Shelf
section
open Ieee
end
section
def XS.sub (x : XS) (filter : List UInt8) (qos : Int) : RowV := ⟨2, x.o.client, 0, 0, filter, [], qos, false, 0⟩
def XS.inr (x : XS) (id : Int) : RowV := ⟨4, x.o.client, 0, id, [], [], 0, false, 0⟩
end
section
def WillV.may (v : WillV) : Bool := nameR v.topic && decide ((v.body.length : Int) <= 2000) && (decide (0 <= v.qos) && decide (v.qos <= 2))
end
end Go.Proofs.YtkghejaimhoboaaGreatDoor
