/-
  DERIVED. GIVEN WITH THE SEED: THE CARDS: each row of YtodbdojjllabmaaGreatDoorRows.lean that lists a variable, with what it lists TIED to the program's text (the seventh form; the later family's looks); each row that meets fmt, with fmt's text TOLD by the authors' own Lean function (tested against real Go, not proved from fmt's source: count such statements apart). THE CARD IS WHAT COUNTS. Prove the row's statement (the work); the ties are given (YtodbdojjllabmaaGreatDoorTie.lean); close each card by the builder's one call (the guide's Derived/Test/ToyasCard.lean, 'card_holds'). Laid BY PROGRAM, IN A SANDBOX (cutbox-door.mjs). By AI agents, Wed Nov 11 2026. No macro, syntax, notation, axiom, sorry.
-/
import Derived.Test.YtodbdojjllabmaaGreatDoorRows
import GoSem.ClaimSeven
namespace Go.Proofs.YtodbdojjllabmaaGreatDoor
namespace Rows

/-- THE TIED CARD OF 'pigeonrylaw22.OutboxIDs'. -/
def outboxIDsCard : Claim7 := { stood := { row := outboxIDsRow, standIns := [], harness := (true, "a5b4a616c1d7db7fdd98d515d3185eddc59d7ef26f6f9b24ce08e91982ff68c9"), looks := false }, kinds := [], alts := [], laidByText := true, laidKinds := [.data, .data, .pinned], laidTests := true, laidLooks := .later }
def OutboxIDsCardSaid : Prop := Claim7.holds Tryz.pinned (.plain (OpenSpec.ofChange outboxIDsSpec)) outboxIDsCard

/-- THE TIED CARD OF 'pigeonrylaw22.OutboxTurns'. -/
def outboxTurnsCard : Claim7 := { stood := { row := outboxTurnsRow, standIns := [], harness := (true, "a5b4a616c1d7db7fdd98d515d3185eddc59d7ef26f6f9b24ce08e91982ff68c9"), looks := false }, kinds := [], alts := [], laidByText := true, laidKinds := [.data, .data, .pinned], laidTests := true, laidLooks := .later }
def OutboxTurnsCardSaid : Prop := Claim7.holds Tryz.pinned (.plain (OpenSpec.ofChange outboxTurnsSpec)) outboxTurnsCard

/-- THE TIED CARD OF 'pigeonrylaw22.OutboxWindow'. -/
def outboxWindowCard : Claim7 := { stood := { row := outboxWindowRow, standIns := [], harness := (true, "a5b4a616c1d7db7fdd98d515d3185eddc59d7ef26f6f9b24ce08e91982ff68c9"), looks := false }, kinds := [], alts := [], laidByText := true, laidKinds := [.data, .data, .pinned], laidTests := true, laidLooks := .later }
def OutboxWindowCardSaid : Prop := Claim7.holds Tryz.pinned (.plain (OpenSpec.ofChange outboxWindowSpec)) outboxWindowCard

/-- THE TIED CARD OF 'pigeonrylaw22.OutboxRows'. -/
def outboxRowsCard : Claim7 := { stood := { row := outboxRowsRow, standIns := [], harness := (true, "a5b4a616c1d7db7fdd98d515d3185eddc59d7ef26f6f9b24ce08e91982ff68c9"), looks := false }, kinds := [], alts := [], laidByText := true, laidKinds := [.data, .data, .pinned], laidTests := true, laidLooks := .later }
def OutboxRowsCardSaid : Prop := Claim7.holds Tryz.pinned (.plain (OpenSpec.ofChange outboxRowsSpec)) outboxRowsCard

/-- THE TIED CARD OF 'pigeonrylaw22.OutboxNil'. -/
def outboxNilCard : Claim7 := { stood := { row := outboxNilRow, standIns := [], harness := (true, "a5b4a616c1d7db7fdd98d515d3185eddc59d7ef26f6f9b24ce08e91982ff68c9"), looks := false }, kinds := [], alts := [], laidByText := true, laidKinds := [.data, .data, .pinned], laidTests := true, laidLooks := .later }
def OutboxNilCardSaid : Prop := Claim7.holds Tryz.pinned (.plain (OpenSpec.ofChange outboxNilSpec)) outboxNilCard

/-- THE SECOND FORM's CARD OF 'pigeonrylaw22.OutboxIDs'. -/
def outboxIDsUptoCard : Claim7 := { stood := { row := outboxIDsUptoRow, standIns := [], harness := (true, "a5b4a616c1d7db7fdd98d515d3185eddc59d7ef26f6f9b24ce08e91982ff68c9"), looks := false }, kinds := [], alts := [], laidByText := true, laidKinds := [.data, .data, .pinned], laidTests := true, laidLooks := .later }
def OutboxIDsUptoCardSaid : Prop := Claim7.holds Tryz.pinned (.plain (OpenSpec.upto outboxIDsSpec)) outboxIDsUptoCard

/-- THE SECOND FORM's CARD OF 'pigeonrylaw22.OutboxTurns'. -/
def outboxTurnsUptoCard : Claim7 := { stood := { row := outboxTurnsUptoRow, standIns := [], harness := (true, "a5b4a616c1d7db7fdd98d515d3185eddc59d7ef26f6f9b24ce08e91982ff68c9"), looks := false }, kinds := [], alts := [], laidByText := true, laidKinds := [.data, .data, .pinned], laidTests := true, laidLooks := .later }
def OutboxTurnsUptoCardSaid : Prop := Claim7.holds Tryz.pinned (.plain (OpenSpec.upto outboxTurnsSpec)) outboxTurnsUptoCard

/-- THE SECOND FORM's CARD OF 'pigeonrylaw22.OutboxWindow'. -/
def outboxWindowUptoCard : Claim7 := { stood := { row := outboxWindowUptoRow, standIns := [], harness := (true, "a5b4a616c1d7db7fdd98d515d3185eddc59d7ef26f6f9b24ce08e91982ff68c9"), looks := false }, kinds := [], alts := [], laidByText := true, laidKinds := [.data, .data, .pinned], laidTests := true, laidLooks := .later }
def OutboxWindowUptoCardSaid : Prop := Claim7.holds Tryz.pinned (.plain (OpenSpec.upto outboxWindowSpec)) outboxWindowUptoCard

/-- THE SECOND FORM's CARD OF 'pigeonrylaw22.OutboxRows'. -/
def outboxRowsUptoCard : Claim7 := { stood := { row := outboxRowsUptoRow, standIns := [], harness := (true, "a5b4a616c1d7db7fdd98d515d3185eddc59d7ef26f6f9b24ce08e91982ff68c9"), looks := false }, kinds := [], alts := [], laidByText := true, laidKinds := [.data, .data, .pinned], laidTests := true, laidLooks := .later }
def OutboxRowsUptoCardSaid : Prop := Claim7.holds Tryz.pinned (.plain (OpenSpec.upto outboxRowsSpec)) outboxRowsUptoCard

/-- THE SECOND FORM's CARD OF 'pigeonrylaw22.OutboxNil'. -/
def outboxNilUptoCard : Claim7 := { stood := { row := outboxNilUptoRow, standIns := [], harness := (true, "a5b4a616c1d7db7fdd98d515d3185eddc59d7ef26f6f9b24ce08e91982ff68c9"), looks := false }, kinds := [], alts := [], laidByText := true, laidKinds := [.data, .data, .pinned], laidTests := true, laidLooks := .later }
def OutboxNilUptoCardSaid : Prop := Claim7.holds Tryz.pinned (.plain (OpenSpec.upto outboxNilSpec)) outboxNilUptoCard
end Rows
end Go.Proofs.YtodbdojjllabmaaGreatDoor
