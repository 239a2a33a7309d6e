/-
  DERIVED. GIVEN WITH THE SEED: THE CARDS: each row of YtopmodahdmnpjaaGreatDoorRows.lean that lists a variable, with what it lists TIED to the program's text (the seventh form; the later family's looks); each row that meets fmt, with fmt's text TOLD by the authors' own Lean function (tested against real Go, not proved from fmt's source: count such statements apart). THE CARD IS WHAT COUNTS. Prove the row's statement (the work); the ties are given (YtopmodahdmnpjaaGreatDoorTie.lean); close each card by the builder's one call (the guide's Derived/Test/ToyasCard.lean, 'card_holds'). Laid BY PROGRAM, IN A SANDBOX (cutbox-door.mjs). By AI agents, Wed Nov 11 2026. No macro, syntax, notation, axiom, sorry.
-/
import Derived.Test.YtopmodahdmnpjaaGreatDoorRows
import GoSem.ClaimSeven
namespace Go.Proofs.YtopmodahdmnpjaaGreatDoor
namespace Rows

/-- THE TIED CARD OF 'ostlerlaw16.ArrsChunks'. -/
def arrsChunksCard : Claim7 := { stood := { row := arrsChunksRow, standIns := [], harness := (true, "681145e5edd3fe64ad7fa8f3e15f4ec5b3a469f61046a313e7909850d4effa7f"), looks := true }, kinds := [], alts := [], laidByText := true, laidKinds := [.data, .data, .data, .data, .sentinel, .sentinel, .pinned], laidTests := true, laidLooks := .later }
def ArrsChunksCardSaid : Prop := Claim7.holds Tryz.pinned (.plain (OpenSpec.ofChange arrsChunksSpec)) arrsChunksCard

/-- THE TIED CARD OF 'ostlerlaw16.ArrsSorts'. -/
def arrsSortsCard : Claim7 := { stood := { row := arrsSortsRow, standIns := [], harness := (true, "681145e5edd3fe64ad7fa8f3e15f4ec5b3a469f61046a313e7909850d4effa7f"), looks := true }, kinds := [], alts := [], laidByText := true, laidKinds := [.data, .data, .data, .data, .sentinel, .sentinel, .pinned], laidTests := true, laidLooks := .later }
def ArrsSortsCardSaid : Prop := Claim7.holds Tryz.pinned (.plain (OpenSpec.ofChange arrsSortsSpec)) arrsSortsCard

/-- THE SECOND FORM's CARD OF 'ostlerlaw16.ArrsChunks'. -/
def arrsChunksUptoCard : Claim7 := { stood := { row := arrsChunksUptoRow, standIns := [], harness := (true, "681145e5edd3fe64ad7fa8f3e15f4ec5b3a469f61046a313e7909850d4effa7f"), looks := true }, kinds := [], alts := [], laidByText := true, laidKinds := [.data, .data, .data, .data, .sentinel, .sentinel, .pinned], laidTests := true, laidLooks := .later }
def ArrsChunksUptoCardSaid : Prop := Claim7.holds Tryz.pinned (.plain (OpenSpec.upto arrsChunksSpec)) arrsChunksUptoCard

/-- THE SECOND FORM's CARD OF 'ostlerlaw16.ArrsSorts'. -/
def arrsSortsUptoCard : Claim7 := { stood := { row := arrsSortsUptoRow, standIns := [], harness := (true, "681145e5edd3fe64ad7fa8f3e15f4ec5b3a469f61046a313e7909850d4effa7f"), looks := true }, kinds := [], alts := [], laidByText := true, laidKinds := [.data, .data, .data, .data, .sentinel, .sentinel, .pinned], laidTests := true, laidLooks := .later }
def ArrsSortsUptoCardSaid : Prop := Claim7.holds Tryz.pinned (.plain (OpenSpec.upto arrsSortsSpec)) arrsSortsUptoCard
end Rows
end Go.Proofs.YtopmodahdmnpjaaGreatDoor
