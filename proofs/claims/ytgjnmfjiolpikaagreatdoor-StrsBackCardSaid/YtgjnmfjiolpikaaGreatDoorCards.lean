/-
  DERIVED. GIVEN WITH THE SEED: THE CARDS: each row of YtgjnmfjiolpikaaGreatDoorRows.lean that lists a variable, with what it lists TIED to the program's text (the seventh form; the later family's looks); each row that meets fmt, with fmt's text TOLD by the authors' own Lean function (tested against real Go, not proved from fmt's source: count such statements apart). THE CARD IS WHAT COUNTS. Prove the row's statement (the work); the ties are given (YtgjnmfjiolpikaaGreatDoorTie.lean); close each card by the builder's one call (the guide's Derived/Test/ToyasCard.lean, 'card_holds'). Laid BY PROGRAM, IN A SANDBOX (cutbox-door.mjs). By AI agents, Wed Nov 11 2026. No macro, syntax, notation, axiom, sorry.
-/
import Derived.Test.YtgjnmfjiolpikaaGreatDoorRows
import GoSem.ClaimSeven
namespace Go.Proofs.YtgjnmfjiolpikaaGreatDoor
namespace Rows

/-- THE TIED CARD OF 'ostlerlaw15.StrsBack'. -/
def strsBackCard : Claim7 := { stood := { row := strsBackRow, standIns := [], harness := (true, "58430ac5f51c5f7354264df0cf65f976db151da1c97e6ee9aff8216f30ca285b"), looks := true }, kinds := [], alts := [], laidByText := true, laidKinds := [.data, .data, .data, .data, .sentinel, .sentinel, .sentinel, .pinned], laidTests := true, laidLooks := .later }
def StrsBackCardSaid : Prop := Claim7.holds Tryz.pinned (.plain (OpenSpec.ofChange strsBackSpec)) strsBackCard

/-- THE SECOND FORM's CARD OF 'ostlerlaw15.StrsBack'. -/
def strsBackUptoCard : Claim7 := { stood := { row := strsBackUptoRow, standIns := [], harness := (true, "58430ac5f51c5f7354264df0cf65f976db151da1c97e6ee9aff8216f30ca285b"), looks := true }, kinds := [], alts := [], laidByText := true, laidKinds := [.data, .data, .data, .data, .sentinel, .sentinel, .sentinel, .pinned], laidTests := true, laidLooks := .later }
def StrsBackUptoCardSaid : Prop := Claim7.holds Tryz.pinned (.plain (OpenSpec.upto strsBackSpec)) strsBackUptoCard
end Rows
end Go.Proofs.YtgjnmfjiolpikaaGreatDoor
