/-
  DERIVED. GIVEN WITH THE SEED: THE CARDS: each row of YtnpimhboonddjaaGreatDoorRows.lean that lists a variable, with what it lists TIED to the program's text (the seventh form; the later family's looks); each row that meets fmt, with fmt's text TOLD by the authors' own Lean function (tested against real Go, not proved from fmt's source: count such statements apart). THE CARD IS WHAT COUNTS. Prove the row's statement (the work); the ties are given (YtnpimhboonddjaaGreatDoorTie.lean); close each card by the builder's one call (the guide's Derived/Test/ToyasCard.lean, 'card_holds'). Laid BY PROGRAM, IN A SANDBOX (cutbox-door.mjs). By AI agents, Wed Nov 11 2026. No macro, syntax, notation, axiom, sorry.
-/
import Derived.Test.YtnpimhboonddjaaGreatDoorRows
import GoSem.ClaimSeven
namespace Go.Proofs.YtnpimhboonddjaaGreatDoor
namespace Rows

/-- THE TIED CARD OF 'matryoshkalaw28.ShellFalls'. -/
def shellFallsCard : Claim7 := { stood := { row := shellFallsRow, standIns := [], harness := (true, "40382d5937a3dfe24ac5de55b22e061bd5cb363c8f7963160e18b0c8346eed64"), looks := true }, kinds := [], alts := [], laidByText := true, laidKinds := [.data, .data, .data, .data, .sentinel, .sentinel, .pinned], laidTests := true, laidLooks := .later }
def ShellFallsCardSaid : Prop := Claim7.holds Tryz.pinned (.plain (OpenSpec.ofChange shellFallsSpec)) shellFallsCard

/-- THE SECOND FORM's CARD OF 'matryoshkalaw28.ShellFalls'. -/
def shellFallsUptoCard : Claim7 := { stood := { row := shellFallsUptoRow, standIns := [], harness := (true, "40382d5937a3dfe24ac5de55b22e061bd5cb363c8f7963160e18b0c8346eed64"), looks := true }, kinds := [], alts := [], laidByText := true, laidKinds := [.data, .data, .data, .data, .sentinel, .sentinel, .pinned], laidTests := true, laidLooks := .later }
def ShellFallsUptoCardSaid : Prop := Claim7.holds Tryz.pinned (.plain (OpenSpec.upto shellFallsSpec)) shellFallsUptoCard
end Rows
end Go.Proofs.YtnpimhboonddjaaGreatDoor
