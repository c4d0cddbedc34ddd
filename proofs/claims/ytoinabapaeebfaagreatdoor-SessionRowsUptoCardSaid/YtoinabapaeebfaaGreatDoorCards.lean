/-
  DERIVED. GIVEN WITH THE SEED: THE CARDS: each row of YtoinabapaeebfaaGreatDoorRows.lean that lists a variable, with what it lists TIED to the program's text (the seventh form; the later family's looks); each row that meets fmt, with fmt's text TOLD by the authors' own Lean function (tested against real Go, not proved from fmt's source: count such statements apart). THE CARD IS WHAT COUNTS. Prove the row's statement (the work); the ties are given (YtoinabapaeebfaaGreatDoorTie.lean); close each card by the builder's one call (the guide's Derived/Test/ToyasCard.lean, 'card_holds'). Laid BY PROGRAM, IN A SANDBOX (cutbox-door.mjs). By AI agents, Wed Nov 11 2026. No macro, syntax, notation, axiom, sorry.
-/
import Derived.Test.YtoinabapaeebfaaGreatDoorRows
import GoSem.ClaimSeven
namespace Go.Proofs.YtoinabapaeebfaaGreatDoor
namespace Rows

/-- THE TIED CARD OF 'pigeonrylaw22.OutboxRows'. -/
def outboxRowsCard : Claim7 := { stood := { row := outboxRowsRow, standIns := [], harness := (true, "54a2ed1b3300418c3d9c0d123108267a4fcb899a9b8e551a191224be8067fd47"), looks := true }, kinds := [], alts := [], laidByText := true, laidKinds := [.data, .data, .pinned], laidTests := true, laidLooks := .later }
def OutboxRowsCardSaid : Prop := Claim7.holds Tryz.pinned (.plain (OpenSpec.ofChange outboxRowsSpec)) outboxRowsCard

/-- THE TIED CARD OF 'pigeonrylaw23.SessionDue'. -/
def sessionDueCard : Claim7 := { stood := { row := sessionDueRow, standIns := [], harness := (true, "54a2ed1b3300418c3d9c0d123108267a4fcb899a9b8e551a191224be8067fd47"), looks := true }, kinds := [], alts := [], laidByText := true, laidKinds := [.data, .data, .pinned], laidTests := true, laidLooks := .later }
def SessionDueCardSaid : Prop := Claim7.holds Tryz.pinned (.plain (OpenSpec.ofChange sessionDueSpec)) sessionDueCard

/-- THE TIED CARD OF 'pigeonrylaw23.SessionGives'. -/
def sessionGivesCard : Claim7 := { stood := { row := sessionGivesRow, standIns := [], harness := (true, "54a2ed1b3300418c3d9c0d123108267a4fcb899a9b8e551a191224be8067fd47"), looks := true }, kinds := [], alts := [], laidByText := true, laidKinds := [.data, .data, .pinned], laidTests := true, laidLooks := .later }
def SessionGivesCardSaid : Prop := Claim7.holds Tryz.pinned (.plain (OpenSpec.ofChange sessionGivesSpec)) sessionGivesCard

/-- THE TIED CARD OF 'pigeonrylaw23.SessionWants'. -/
def sessionWantsCard : Claim7 := { stood := { row := sessionWantsRow, standIns := [], harness := (true, "54a2ed1b3300418c3d9c0d123108267a4fcb899a9b8e551a191224be8067fd47"), looks := true }, kinds := [], alts := [], laidByText := true, laidKinds := [.data, .data, .pinned], laidTests := true, laidLooks := .later }
def SessionWantsCardSaid : Prop := Claim7.holds Tryz.pinned (.plain (OpenSpec.ofChange sessionWantsSpec)) sessionWantsCard

/-- THE TIED CARD OF 'pigeonrylaw23.SessionRows'. -/
def sessionRowsCard : Claim7 := { stood := { row := sessionRowsRow, standIns := [], harness := (true, "54a2ed1b3300418c3d9c0d123108267a4fcb899a9b8e551a191224be8067fd47"), looks := true }, kinds := [], alts := [], laidByText := true, laidKinds := [.data, .data, .pinned], laidTests := true, laidLooks := .later }
def SessionRowsCardSaid : Prop := Claim7.holds Tryz.pinned (.plain (OpenSpec.ofChange sessionRowsSpec)) sessionRowsCard

/-- THE SECOND FORM's CARD OF 'pigeonrylaw22.OutboxRows'. -/
def outboxRowsUptoCard : Claim7 := { stood := { row := outboxRowsUptoRow, standIns := [], harness := (true, "54a2ed1b3300418c3d9c0d123108267a4fcb899a9b8e551a191224be8067fd47"), looks := true }, kinds := [], alts := [], laidByText := true, laidKinds := [.data, .data, .pinned], laidTests := true, laidLooks := .later }
def OutboxRowsUptoCardSaid : Prop := Claim7.holds Tryz.pinned (.plain (OpenSpec.upto outboxRowsSpec)) outboxRowsUptoCard

/-- THE SECOND FORM's CARD OF 'pigeonrylaw23.SessionDue'. -/
def sessionDueUptoCard : Claim7 := { stood := { row := sessionDueUptoRow, standIns := [], harness := (true, "54a2ed1b3300418c3d9c0d123108267a4fcb899a9b8e551a191224be8067fd47"), looks := true }, kinds := [], alts := [], laidByText := true, laidKinds := [.data, .data, .pinned], laidTests := true, laidLooks := .later }
def SessionDueUptoCardSaid : Prop := Claim7.holds Tryz.pinned (.plain (OpenSpec.upto sessionDueSpec)) sessionDueUptoCard

/-- THE SECOND FORM's CARD OF 'pigeonrylaw23.SessionGives'. -/
def sessionGivesUptoCard : Claim7 := { stood := { row := sessionGivesUptoRow, standIns := [], harness := (true, "54a2ed1b3300418c3d9c0d123108267a4fcb899a9b8e551a191224be8067fd47"), looks := true }, kinds := [], alts := [], laidByText := true, laidKinds := [.data, .data, .pinned], laidTests := true, laidLooks := .later }
def SessionGivesUptoCardSaid : Prop := Claim7.holds Tryz.pinned (.plain (OpenSpec.upto sessionGivesSpec)) sessionGivesUptoCard

/-- THE SECOND FORM's CARD OF 'pigeonrylaw23.SessionWants'. -/
def sessionWantsUptoCard : Claim7 := { stood := { row := sessionWantsUptoRow, standIns := [], harness := (true, "54a2ed1b3300418c3d9c0d123108267a4fcb899a9b8e551a191224be8067fd47"), looks := true }, kinds := [], alts := [], laidByText := true, laidKinds := [.data, .data, .pinned], laidTests := true, laidLooks := .later }
def SessionWantsUptoCardSaid : Prop := Claim7.holds Tryz.pinned (.plain (OpenSpec.upto sessionWantsSpec)) sessionWantsUptoCard

/-- THE SECOND FORM's CARD OF 'pigeonrylaw23.SessionRows'. -/
def sessionRowsUptoCard : Claim7 := { stood := { row := sessionRowsUptoRow, standIns := [], harness := (true, "54a2ed1b3300418c3d9c0d123108267a4fcb899a9b8e551a191224be8067fd47"), looks := true }, kinds := [], alts := [], laidByText := true, laidKinds := [.data, .data, .pinned], laidTests := true, laidLooks := .later }
def SessionRowsUptoCardSaid : Prop := Claim7.holds Tryz.pinned (.plain (OpenSpec.upto sessionRowsSpec)) sessionRowsUptoCard
end Rows
end Go.Proofs.YtoinabapaeebfaaGreatDoor
