/-
  No cell of these rows narrows 'for every input' (looked for: loops, veiled, ifaces, maps, wideKeys, modest, calm, conditions, laid).
  DERIVED. THE GIVEN ROWS OF THIS SEAT. 9 by the template 'for every input the law returns true; each argument reads behind the call as it read before'; 0 by the template 'total and deterministic' (their statements: YtjgflihokbmhiaaTotals.lean).
  GIVEN WITH THE SEED: the statements are not yours to turn. If you find one false, say at which input.
  Laid BY PROGRAM, IN A SANDBOX (cutbox-rows.mjs): the forced cells as the released guide's own fill.sh prints them over the translation 9f6bd2bcba7fe1c0… (all of the seat's roots in one cut). By AI agents, Wed Nov 11 2026. No macro, syntax, notation, axiom, sorry.
-/
import Derived.Test.YtjgflihokbmhiaaChecked
import GoSem.Claim
import GoSem.ClaimJoined
import GoSem.ClaimMapViews
import Derived.JoinedTies
import Derived.KernelRfl
namespace Go.Proofs.Ytjgflihokbmhiaa
/- THE CELL 'sum', in the pinned program and in every row, IS THE sha256 OF THE DUMP (.gsa) THAT YtjgflihokbmhiaaProg.lean LOADS. Nothing in Lean hashes anything: it is a label: what it is worth is what the hold of that sum in a sandbox is worth. -/
noncomputable def Try.pinned : Pinned := { name := "ytjgflihokbmhiaa", sum := "9f6bd2bcba7fe1c09ebc9101e38e81987717b45f6bd0c555219769d761f07e4f", checked := Try.checked }
namespace Rows
def none {H : Type} : Left H := { results := [], args := [] }

/-- 'pigeonrylaw15.LengthReads': WHATEVER THE INPUT: true; the input reads as it did. -/
def lengthReadsSpec : ChangeSpec := { name := "lengthReads", fn := fun _ => fun
  | [d] => { results := [.lit (.bool true)], args := [d] }
  | _ => none }
def lengthReadsRow : OpenClaim := { program := "ytjgflihokbmhiaa", sum := "9f6bd2bcba7fe1c09ebc9101e38e81987717b45f6bd0c555219769d761f07e4f", func := "pigeonry/pigeonrylaw15.LengthReads", spec := "lengthReads", unfollowed := true, recurses := true, apart := false }
def LengthReadsSaid : Prop := lengthReadsRow.holds Try.pinned (OpenSpec.ofChange lengthReadsSpec)

/-- ITS FALSE NEIGHBOUR: 'it returns false'. Refute it at one input. -/
def lengthReadsWrong : ChangeSpec := { name := "lengthReads", fn := fun _ => fun
  | [d] => { results := [.lit (.bool false)], args := [d] }
  | _ => none }
def LengthReadsWrongFalsely : Prop := lengthReadsRow.holds Try.pinned (OpenSpec.ofChange lengthReadsWrong)

/-- 'pigeonrylaw15.LengthOrder': WHATEVER THE INPUT: true; the input reads as it did. -/
def lengthOrderSpec : ChangeSpec := { name := "lengthOrder", fn := fun _ => fun
  | [d1, d2] => { results := [.lit (.bool true)], args := [d1, d2] }
  | _ => none }
def lengthOrderRow : OpenClaim := { program := "ytjgflihokbmhiaa", sum := "9f6bd2bcba7fe1c09ebc9101e38e81987717b45f6bd0c555219769d761f07e4f", func := "pigeonry/pigeonrylaw15.LengthOrder", spec := "lengthOrder", unfollowed := true, recurses := true, apart := false }
def LengthOrderSaid : Prop := lengthOrderRow.holds Try.pinned (OpenSpec.ofChange lengthOrderSpec)

/-- ITS FALSE NEIGHBOUR: 'it returns false'. Refute it at one input. -/
def lengthOrderWrong : ChangeSpec := { name := "lengthOrder", fn := fun _ => fun
  | [d1, d2] => { results := [.lit (.bool false)], args := [d1, d2] }
  | _ => none }
def LengthOrderWrongFalsely : Prop := lengthOrderRow.holds Try.pinned (OpenSpec.ofChange lengthOrderWrong)

/-- 'pigeonrylaw12.UtfCuts': WHATEVER THE INPUT: true; the input reads as it did. -/
def utfCutsSpec : ChangeSpec := { name := "utfCuts", fn := fun _ => fun
  | [d1, d2] => { results := [.lit (.bool true)], args := [d1, d2] }
  | _ => none }
def utfCutsRow : OpenClaim := { program := "ytjgflihokbmhiaa", sum := "9f6bd2bcba7fe1c09ebc9101e38e81987717b45f6bd0c555219769d761f07e4f", func := "pigeonry/pigeonrylaw12.UtfCuts", spec := "utfCuts", unfollowed := true, recurses := true, apart := false }
def UtfCutsSaid : Prop := utfCutsRow.holds Try.pinned (OpenSpec.ofChange utfCutsSpec)

/-- ITS FALSE NEIGHBOUR: 'it returns false'. Refute it at one input. -/
def utfCutsWrong : ChangeSpec := { name := "utfCuts", fn := fun _ => fun
  | [d1, d2] => { results := [.lit (.bool false)], args := [d1, d2] }
  | _ => none }
def UtfCutsWrongFalsely : Prop := utfCutsRow.holds Try.pinned (OpenSpec.ofChange utfCutsWrong)

/-- 'pigeonrylaw12.UtfParts': WHATEVER THE INPUT: true; the input reads as it did. -/
def utfPartsSpec : ChangeSpec := { name := "utfParts", fn := fun _ => fun
  | [d1, d2] => { results := [.lit (.bool true)], args := [d1, d2] }
  | _ => none }
def utfPartsRow : OpenClaim := { program := "ytjgflihokbmhiaa", sum := "9f6bd2bcba7fe1c09ebc9101e38e81987717b45f6bd0c555219769d761f07e4f", func := "pigeonry/pigeonrylaw12.UtfParts", spec := "utfParts", unfollowed := true, recurses := true, apart := false }
def UtfPartsSaid : Prop := utfPartsRow.holds Try.pinned (OpenSpec.ofChange utfPartsSpec)

/-- ITS FALSE NEIGHBOUR: 'it returns false'. Refute it at one input. -/
def utfPartsWrong : ChangeSpec := { name := "utfParts", fn := fun _ => fun
  | [d1, d2] => { results := [.lit (.bool false)], args := [d1, d2] }
  | _ => none }
def UtfPartsWrongFalsely : Prop := utfPartsRow.holds Try.pinned (OpenSpec.ofChange utfPartsWrong)

/-- 'pigeonrylaw15.LengthRaws': WHATEVER THE INPUT: true; the input reads as it did. -/
def lengthRawsSpec : ChangeSpec := { name := "lengthRaws", fn := fun _ => fun
  | [d1, d2] => { results := [.lit (.bool true)], args := [d1, d2] }
  | _ => none }
def lengthRawsRow : OpenClaim := { program := "ytjgflihokbmhiaa", sum := "9f6bd2bcba7fe1c09ebc9101e38e81987717b45f6bd0c555219769d761f07e4f", func := "pigeonry/pigeonrylaw15.LengthRaws", spec := "lengthRaws", unfollowed := true, recurses := true, apart := false }
def LengthRawsSaid : Prop := lengthRawsRow.holds Try.pinned (OpenSpec.ofChange lengthRawsSpec)

/-- ITS FALSE NEIGHBOUR: 'it returns false'. Refute it at one input. -/
def lengthRawsWrong : ChangeSpec := { name := "lengthRaws", fn := fun _ => fun
  | [d1, d2] => { results := [.lit (.bool false)], args := [d1, d2] }
  | _ => none }
def LengthRawsWrongFalsely : Prop := lengthRawsRow.holds Try.pinned (OpenSpec.ofChange lengthRawsWrong)

/-- 'pigeonrylaw15.LengthBack': WHATEVER THE INPUT: true; the input reads as it did. -/
def lengthBackSpec : ChangeSpec := { name := "lengthBack", fn := fun _ => fun
  | [d1, d2] => { results := [.lit (.bool true)], args := [d1, d2] }
  | _ => none }
def lengthBackRow : OpenClaim := { program := "ytjgflihokbmhiaa", sum := "9f6bd2bcba7fe1c09ebc9101e38e81987717b45f6bd0c555219769d761f07e4f", func := "pigeonry/pigeonrylaw15.LengthBack", spec := "lengthBack", unfollowed := true, recurses := true, apart := false }
def LengthBackSaid : Prop := lengthBackRow.holds Try.pinned (OpenSpec.ofChange lengthBackSpec)

/-- ITS FALSE NEIGHBOUR: 'it returns false'. Refute it at one input. -/
def lengthBackWrong : ChangeSpec := { name := "lengthBack", fn := fun _ => fun
  | [d1, d2] => { results := [.lit (.bool false)], args := [d1, d2] }
  | _ => none }
def LengthBackWrongFalsely : Prop := lengthBackRow.holds Try.pinned (OpenSpec.ofChange lengthBackWrong)

/-- 'pigeonrylaw12.UtfReads': WHATEVER THE INPUT: true; the input reads as it did. -/
def utfReadsSpec : ChangeSpec := { name := "utfReads", fn := fun _ => fun
  | [d] => { results := [.lit (.bool true)], args := [d] }
  | _ => none }
def utfReadsRow : OpenClaim := { program := "ytjgflihokbmhiaa", sum := "9f6bd2bcba7fe1c09ebc9101e38e81987717b45f6bd0c555219769d761f07e4f", func := "pigeonry/pigeonrylaw12.UtfReads", spec := "utfReads", unfollowed := true, recurses := true, apart := false }
def UtfReadsSaid : Prop := utfReadsRow.holds Try.pinned (OpenSpec.ofChange utfReadsSpec)

/-- ITS FALSE NEIGHBOUR: 'it returns false'. Refute it at one input. -/
def utfReadsWrong : ChangeSpec := { name := "utfReads", fn := fun _ => fun
  | [d] => { results := [.lit (.bool false)], args := [d] }
  | _ => none }
def UtfReadsWrongFalsely : Prop := utfReadsRow.holds Try.pinned (OpenSpec.ofChange utfReadsWrong)

/-- 'pigeonrylaw12.UtfRaws': WHATEVER THE INPUT: true; the input reads as it did. -/
def utfRawsSpec : ChangeSpec := { name := "utfRaws", fn := fun _ => fun
  | [d] => { results := [.lit (.bool true)], args := [d] }
  | _ => none }
def utfRawsRow : OpenClaim := { program := "ytjgflihokbmhiaa", sum := "9f6bd2bcba7fe1c09ebc9101e38e81987717b45f6bd0c555219769d761f07e4f", func := "pigeonry/pigeonrylaw12.UtfRaws", spec := "utfRaws", unfollowed := true, recurses := true, apart := false }
def UtfRawsSaid : Prop := utfRawsRow.holds Try.pinned (OpenSpec.ofChange utfRawsSpec)

/-- ITS FALSE NEIGHBOUR: 'it returns false'. Refute it at one input. -/
def utfRawsWrong : ChangeSpec := { name := "utfRaws", fn := fun _ => fun
  | [d] => { results := [.lit (.bool false)], args := [d] }
  | _ => none }
def UtfRawsWrongFalsely : Prop := utfRawsRow.holds Try.pinned (OpenSpec.ofChange utfRawsWrong)

/-- 'pigeonrylaw12.UtfOne': WHATEVER THE INPUT: true; the input reads as it did. -/
def utfOneSpec : ChangeSpec := { name := "utfOne", fn := fun _ => fun
  | [d] => { results := [.lit (.bool true)], args := [d] }
  | _ => none }
def utfOneRow : OpenClaim := { program := "ytjgflihokbmhiaa", sum := "9f6bd2bcba7fe1c09ebc9101e38e81987717b45f6bd0c555219769d761f07e4f", func := "pigeonry/pigeonrylaw12.UtfOne", spec := "utfOne", unfollowed := true, recurses := true, apart := false }
def UtfOneSaid : Prop := utfOneRow.holds Try.pinned (OpenSpec.ofChange utfOneSpec)

/-- ITS FALSE NEIGHBOUR: 'it returns false'. Refute it at one input. -/
def utfOneWrong : ChangeSpec := { name := "utfOne", fn := fun _ => fun
  | [d] => { results := [.lit (.bool false)], args := [d] }
  | _ => none }
def UtfOneWrongFalsely : Prop := utfOneRow.holds Try.pinned (OpenSpec.ofChange utfOneWrong)

/- THE SECOND FORM. 'bulk': how many values and letters a reading holds, each counted each time it is reached (what is shared counts as often as it is met; a slice's spare places count too). A statement '..UptoSaid' is the law's where the arguments, and the package variables that the reading takes, are together of bulk at most 1048576: NARROWER than '..Said'. Prove '..Said' where nothing that the law and all that it calls make is longer than what came in: it says more and counts as full. Else prove '..UptoSaid'. A law counts once. -/
mutual
def uptoBulk {H : Type} : DataW H → Nat
  | .lit (.string bytes) => bytes.length + 1
  | .lit _ => 1
  | .nil => 1
  | .ptr d => uptoBulk d + 1
  | .slice elems spare => uptoBulkAll elems + uptoBulkAll spare + 1
  | .agg parts => uptoBulkAll parts + 1
  | .iface _ d => uptoBulk d + 1
  | .map entries => uptoBulkEntries entries + 1
  | .held _ => 1
def uptoBulkAll {H : Type} : List (DataW H) → Nat
  | [] => 0
  | d :: r => uptoBulk d + uptoBulkAll r
def uptoBulkEntries {H : Type} : List (Lit × DataW H) → Nat
  | [] => 0
  | x :: r => uptoBulkEntry x + uptoBulkEntries r
def uptoBulkEntry {H : Type} : Lit × DataW H → Nat
  | (.string bytes, d) => bytes.length + uptoBulk d + 1
  | (_, d) => uptoBulk d + 1
 end
def uptoSmall : (H : Type) → List (DataW H) → Bool := fun _ ds => decide (uptoBulkAll ds ≤ 1048576)
def OpenSpec.upto (s : _root_.Go.ChangeSpec) : _root_.Go.OpenSpec := { _root_.Go.OpenSpec.ofChange s with cond := some uptoSmall }

/-- 'pigeonrylaw15.LengthReads', WHERE WHAT IT READS IS OF BULK AT MOST 1048576: true; the input reads as it did. -/
def lengthReadsUptoRow : OpenClaim := { program := "ytjgflihokbmhiaa", sum := "9f6bd2bcba7fe1c09ebc9101e38e81987717b45f6bd0c555219769d761f07e4f", func := "pigeonry/pigeonrylaw15.LengthReads", spec := "lengthReads", unfollowed := true, recurses := true, apart := false, narrowed := true }
def LengthReadsUptoSaid : Prop := lengthReadsUptoRow.holds Try.pinned (OpenSpec.upto lengthReadsSpec)

/-- 'pigeonrylaw15.LengthOrder', WHERE WHAT IT READS IS OF BULK AT MOST 1048576: true; the input reads as it did. -/
def lengthOrderUptoRow : OpenClaim := { program := "ytjgflihokbmhiaa", sum := "9f6bd2bcba7fe1c09ebc9101e38e81987717b45f6bd0c555219769d761f07e4f", func := "pigeonry/pigeonrylaw15.LengthOrder", spec := "lengthOrder", unfollowed := true, recurses := true, apart := false, narrowed := true }
def LengthOrderUptoSaid : Prop := lengthOrderUptoRow.holds Try.pinned (OpenSpec.upto lengthOrderSpec)

/-- 'pigeonrylaw12.UtfCuts', WHERE WHAT IT READS IS OF BULK AT MOST 1048576: true; the input reads as it did. -/
def utfCutsUptoRow : OpenClaim := { program := "ytjgflihokbmhiaa", sum := "9f6bd2bcba7fe1c09ebc9101e38e81987717b45f6bd0c555219769d761f07e4f", func := "pigeonry/pigeonrylaw12.UtfCuts", spec := "utfCuts", unfollowed := true, recurses := true, apart := false, narrowed := true }
def UtfCutsUptoSaid : Prop := utfCutsUptoRow.holds Try.pinned (OpenSpec.upto utfCutsSpec)

/-- 'pigeonrylaw12.UtfParts', WHERE WHAT IT READS IS OF BULK AT MOST 1048576: true; the input reads as it did. -/
def utfPartsUptoRow : OpenClaim := { program := "ytjgflihokbmhiaa", sum := "9f6bd2bcba7fe1c09ebc9101e38e81987717b45f6bd0c555219769d761f07e4f", func := "pigeonry/pigeonrylaw12.UtfParts", spec := "utfParts", unfollowed := true, recurses := true, apart := false, narrowed := true }
def UtfPartsUptoSaid : Prop := utfPartsUptoRow.holds Try.pinned (OpenSpec.upto utfPartsSpec)

/-- 'pigeonrylaw15.LengthRaws', WHERE WHAT IT READS IS OF BULK AT MOST 1048576: true; the input reads as it did. -/
def lengthRawsUptoRow : OpenClaim := { program := "ytjgflihokbmhiaa", sum := "9f6bd2bcba7fe1c09ebc9101e38e81987717b45f6bd0c555219769d761f07e4f", func := "pigeonry/pigeonrylaw15.LengthRaws", spec := "lengthRaws", unfollowed := true, recurses := true, apart := false, narrowed := true }
def LengthRawsUptoSaid : Prop := lengthRawsUptoRow.holds Try.pinned (OpenSpec.upto lengthRawsSpec)

/-- 'pigeonrylaw15.LengthBack', WHERE WHAT IT READS IS OF BULK AT MOST 1048576: true; the input reads as it did. -/
def lengthBackUptoRow : OpenClaim := { program := "ytjgflihokbmhiaa", sum := "9f6bd2bcba7fe1c09ebc9101e38e81987717b45f6bd0c555219769d761f07e4f", func := "pigeonry/pigeonrylaw15.LengthBack", spec := "lengthBack", unfollowed := true, recurses := true, apart := false, narrowed := true }
def LengthBackUptoSaid : Prop := lengthBackUptoRow.holds Try.pinned (OpenSpec.upto lengthBackSpec)

/-- 'pigeonrylaw12.UtfReads', WHERE WHAT IT READS IS OF BULK AT MOST 1048576: true; the input reads as it did. -/
def utfReadsUptoRow : OpenClaim := { program := "ytjgflihokbmhiaa", sum := "9f6bd2bcba7fe1c09ebc9101e38e81987717b45f6bd0c555219769d761f07e4f", func := "pigeonry/pigeonrylaw12.UtfReads", spec := "utfReads", unfollowed := true, recurses := true, apart := false, narrowed := true }
def UtfReadsUptoSaid : Prop := utfReadsUptoRow.holds Try.pinned (OpenSpec.upto utfReadsSpec)

/-- 'pigeonrylaw12.UtfRaws', WHERE WHAT IT READS IS OF BULK AT MOST 1048576: true; the input reads as it did. -/
def utfRawsUptoRow : OpenClaim := { program := "ytjgflihokbmhiaa", sum := "9f6bd2bcba7fe1c09ebc9101e38e81987717b45f6bd0c555219769d761f07e4f", func := "pigeonry/pigeonrylaw12.UtfRaws", spec := "utfRaws", unfollowed := true, recurses := true, apart := false, narrowed := true }
def UtfRawsUptoSaid : Prop := utfRawsUptoRow.holds Try.pinned (OpenSpec.upto utfRawsSpec)

/-- 'pigeonrylaw12.UtfOne', WHERE WHAT IT READS IS OF BULK AT MOST 1048576: true; the input reads as it did. -/
def utfOneUptoRow : OpenClaim := { program := "ytjgflihokbmhiaa", sum := "9f6bd2bcba7fe1c09ebc9101e38e81987717b45f6bd0c555219769d761f07e4f", func := "pigeonry/pigeonrylaw12.UtfOne", spec := "utfOne", unfollowed := true, recurses := true, apart := false, narrowed := true }
def UtfOneUptoSaid : Prop := utfOneUptoRow.holds Try.pinned (OpenSpec.upto utfOneSpec)

end Rows
end Go.Proofs.Ytjgflihokbmhiaa
