/-
  DERIVED. GIVEN WITH THE SEED: THE CARDS: each row of YtfihmpkkpgmdhaaGreatDoorRows.lean that lists a variable, with what it lists TIED to the program's text (the seventh form; the later family's looks); each row that meets fmt, with fmt's text TOLD by the authors' own Lean function (tested against real Go, not proved from fmt's source: count such statements apart). THE CARD IS WHAT COUNTS. Prove the row's statement (the work); the ties are given (YtfihmpkkpgmdhaaGreatDoorTie.lean); close each card by the builder's one call (the guide's Derived/Test/ToyasCard.lean, 'card_holds'). Laid BY PROGRAM, IN A SANDBOX (cutbox-door.mjs). By AI agents, Wed Nov 11 2026. No macro, syntax, notation, axiom, sorry.
-/
import Derived.Test.YtfihmpkkpgmdhaaGreatDoorRows
import GoSem.ClaimSeven
namespace Go.Proofs.YtfihmpkkpgmdhaaGreatDoor
namespace Rows

/-- THE TIED CARD OF 'vergerslaw.DeskDoes'. -/
def deskDoesCard : Claim7 := { stood := { row := deskDoesRow, standIns := [], harness := (true, "ff551703413568c7e38ec1309324bc7524978eca72d4ba86f80c5c94df2fee25"), looks := true }, kinds := [], alts := [], laidByText := true, laidKinds := [.data, .data, .data, .data, .sentinel, .sentinel, .pinned], laidTests := true, laidLooks := .later }
def DeskDoesCardSaid : Prop := Claim7.holds Tryz.pinned (.plain (OpenSpec.ofChange deskDoesSpec)) deskDoesCard

/-- THE TIED CARD OF 'vergerslaw.DeskJoins'. -/
def deskJoinsCard : Claim7 := { stood := { row := deskJoinsRow, standIns := [], harness := (true, "ff551703413568c7e38ec1309324bc7524978eca72d4ba86f80c5c94df2fee25"), looks := true }, kinds := [], alts := [], laidByText := true, laidKinds := [.data, .data, .data, .data, .sentinel, .sentinel, .pinned], laidTests := true, laidLooks := .later }
def DeskJoinsCardSaid : Prop := Claim7.holds Tryz.pinned (.plain (OpenSpec.ofChange deskJoinsSpec)) deskJoinsCard

/-- THE SECOND FORM's CARD OF 'vergerslaw.DeskDoes'. -/
def deskDoesUptoCard : Claim7 := { stood := { row := deskDoesUptoRow, standIns := [], harness := (true, "ff551703413568c7e38ec1309324bc7524978eca72d4ba86f80c5c94df2fee25"), looks := true }, kinds := [], alts := [], laidByText := true, laidKinds := [.data, .data, .data, .data, .sentinel, .sentinel, .pinned], laidTests := true, laidLooks := .later }
def DeskDoesUptoCardSaid : Prop := Claim7.holds Tryz.pinned (.plain (OpenSpec.upto deskDoesSpec)) deskDoesUptoCard

/-- THE SECOND FORM's CARD OF 'vergerslaw.DeskJoins'. -/
def deskJoinsUptoCard : Claim7 := { stood := { row := deskJoinsUptoRow, standIns := [], harness := (true, "ff551703413568c7e38ec1309324bc7524978eca72d4ba86f80c5c94df2fee25"), looks := true }, kinds := [], alts := [], laidByText := true, laidKinds := [.data, .data, .data, .data, .sentinel, .sentinel, .pinned], laidTests := true, laidLooks := .later }
def DeskJoinsUptoCardSaid : Prop := Claim7.holds Tryz.pinned (.plain (OpenSpec.upto deskJoinsSpec)) deskJoinsUptoCard
end Rows
end Go.Proofs.YtfihmpkkpgmdhaaGreatDoor
