/-
  DERIVED. GIVEN WITH THE SEED: THE CARDS: each row of YtkghejaimhoboaaGreatDoorRows.lean that lists a variable, with what it lists TIED to the program's text (the seventh form; the later family's looks); each row that meets fmt, with fmt's text TOLD by the authors' own Lean function (tested against real Go, not proved from fmt's source: count such statements apart). THE CARD IS WHAT COUNTS. Prove the row's statement (the work); the ties are given (YtkghejaimhoboaaGreatDoorTie.lean); close each card by the builder's one call (the guide's Derived/Test/ToyasCard.lean, 'card_holds'). Laid BY PROGRAM, IN A SANDBOX (cutbox-door.mjs). By AI agents, Wed Nov 11 2026. No macro, syntax, notation, axiom, sorry.
-/
import Derived.Test.YtkghejaimhoboaaGreatDoorRows
import GoSem.ClaimSeven
namespace Go.Proofs.YtkghejaimhoboaaGreatDoor
namespace Rows

/-- THE TIED CARD OF 'pigeonrylaw28.ScriptTurns'. -/
def scriptTurnsCard : Claim7 := { stood := { row := scriptTurnsRow, standIns := [], harness := (true, "e6a857aad70cbe78b4da49a26cb64ef3c0308b9099fc062da3dbd1e3c1b5966a"), looks := true }, kinds := [], alts := [], laidByText := true, laidKinds := [.data, .data, .pinned], laidTests := true, laidLooks := .later }
def ScriptTurnsCardSaid : Prop := Claim7.holds Tryz.pinned (.plain (OpenSpec.ofChange scriptTurnsSpec)) scriptTurnsCard

/-- THE TIED CARD OF 'pigeonrylaw28.ScriptCuts'. -/
def scriptCutsCard : Claim7 := { stood := { row := scriptCutsRow, standIns := [], harness := (true, "e6a857aad70cbe78b4da49a26cb64ef3c0308b9099fc062da3dbd1e3c1b5966a"), looks := true }, kinds := [], alts := [], laidByText := true, laidKinds := [.data, .data, .pinned], laidTests := true, laidLooks := .later }
def ScriptCutsCardSaid : Prop := Claim7.holds Tryz.pinned (.plain (OpenSpec.ofChange scriptCutsSpec)) scriptCutsCard

/-- THE TIED CARD OF 'pigeonrylaw28.ScriptSame'. -/
def scriptSameCard : Claim7 := { stood := { row := scriptSameRow, standIns := [], harness := (true, "e6a857aad70cbe78b4da49a26cb64ef3c0308b9099fc062da3dbd1e3c1b5966a"), looks := true }, kinds := [], alts := [], laidByText := true, laidKinds := [.data, .data, .pinned], laidTests := true, laidLooks := .later }
def ScriptSameCardSaid : Prop := Claim7.holds Tryz.pinned (.plain (OpenSpec.ofChange scriptSameSpec)) scriptSameCard

/-- THE TIED CARD OF 'pigeonrylaw28.ScriptRaws'. -/
def scriptRawsCard : Claim7 := { stood := { row := scriptRawsRow, standIns := [], harness := (true, "e6a857aad70cbe78b4da49a26cb64ef3c0308b9099fc062da3dbd1e3c1b5966a"), looks := true }, kinds := [], alts := [], laidByText := true, laidKinds := [.data, .data, .pinned], laidTests := true, laidLooks := .later }
def ScriptRawsCardSaid : Prop := Claim7.holds Tryz.pinned (.plain (OpenSpec.ofChange scriptRawsSpec)) scriptRawsCard

/-- THE SECOND FORM's CARD OF 'pigeonrylaw28.ScriptTurns'. -/
def scriptTurnsUptoCard : Claim7 := { stood := { row := scriptTurnsUptoRow, standIns := [], harness := (true, "e6a857aad70cbe78b4da49a26cb64ef3c0308b9099fc062da3dbd1e3c1b5966a"), looks := true }, kinds := [], alts := [], laidByText := true, laidKinds := [.data, .data, .pinned], laidTests := true, laidLooks := .later }
def ScriptTurnsUptoCardSaid : Prop := Claim7.holds Tryz.pinned (.plain (OpenSpec.upto scriptTurnsSpec)) scriptTurnsUptoCard

/-- THE SECOND FORM's CARD OF 'pigeonrylaw28.ScriptCuts'. -/
def scriptCutsUptoCard : Claim7 := { stood := { row := scriptCutsUptoRow, standIns := [], harness := (true, "e6a857aad70cbe78b4da49a26cb64ef3c0308b9099fc062da3dbd1e3c1b5966a"), looks := true }, kinds := [], alts := [], laidByText := true, laidKinds := [.data, .data, .pinned], laidTests := true, laidLooks := .later }
def ScriptCutsUptoCardSaid : Prop := Claim7.holds Tryz.pinned (.plain (OpenSpec.upto scriptCutsSpec)) scriptCutsUptoCard

/-- THE SECOND FORM's CARD OF 'pigeonrylaw28.ScriptSame'. -/
def scriptSameUptoCard : Claim7 := { stood := { row := scriptSameUptoRow, standIns := [], harness := (true, "e6a857aad70cbe78b4da49a26cb64ef3c0308b9099fc062da3dbd1e3c1b5966a"), looks := true }, kinds := [], alts := [], laidByText := true, laidKinds := [.data, .data, .pinned], laidTests := true, laidLooks := .later }
def ScriptSameUptoCardSaid : Prop := Claim7.holds Tryz.pinned (.plain (OpenSpec.upto scriptSameSpec)) scriptSameUptoCard

/-- THE SECOND FORM's CARD OF 'pigeonrylaw28.ScriptRaws'. -/
def scriptRawsUptoCard : Claim7 := { stood := { row := scriptRawsUptoRow, standIns := [], harness := (true, "e6a857aad70cbe78b4da49a26cb64ef3c0308b9099fc062da3dbd1e3c1b5966a"), looks := true }, kinds := [], alts := [], laidByText := true, laidKinds := [.data, .data, .pinned], laidTests := true, laidLooks := .later }
def ScriptRawsUptoCardSaid : Prop := Claim7.holds Tryz.pinned (.plain (OpenSpec.upto scriptRawsSpec)) scriptRawsUptoCard
end Rows
end Go.Proofs.YtkghejaimhoboaaGreatDoor
