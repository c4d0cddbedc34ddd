/- Parts of the proof of ScriptRaws. -/
import Derived.Test.YtkghejaimhoboaaGreatDoorPr07
set_option linter.unusedSimpArgs false
set_option linter.unusedVariables false
set_option maxRecDepth 100000
set_option maxHeartbeats 8000000
namespace Go.Proofs.YtkghejaimhoboaaGreatDoor
open Go.RowKit Go.Shelf Go.Proofs.Tryz
section
attribute [local go_sem] Oper.semAt_some
def LowAt(W:Nat->Nat)(k y:Nat)(pre:List Int):Prop:=∃t,t<=64/\pre=(bitsTo (64*k+t) W).map Int.ofNat/\∀j,j<64->y.testBit j=(decide (t<=j)&&(W k).testBit j)
theorem LowAt.len{W:Nat->Nat}{k y:Nat}{pre:List Int}(h:LowAt W k y pre)(hk:k<1024):pre.length<=65536:=by obtain⟨t,ht,rfl,_⟩:=h;have:=bitsTo_len W (64*k+t);rw[List.length_map];omega
end
end Go.Proofs.YtkghejaimhoboaaGreatDoor
