/-
  DERIVED. GIVEN WITH THE SEED: THE CARDS: each row of YtnbhaokbaonjkaaGreatDoorRows.lean that lists a variable, with what it lists TIED to the program's text (the seventh form; the later family's looks); each row that meets fmt, with fmt's text TOLD by the authors' own Lean function (tested against real Go, not proved from fmt's source: count such statements apart). THE CARD IS WHAT COUNTS. Prove the row's statement (the work); the ties are given (YtnbhaokbaonjkaaGreatDoorTie.lean); close each card by the builder's one call (the guide's Derived/Test/ToyasCard.lean, 'card_holds'). Laid BY PROGRAM, IN A SANDBOX (cutbox-door.mjs). By AI agents, Wed Nov 11 2026. No macro, syntax, notation, axiom, sorry.
-/
import Derived.Test.YtnbhaokbaonjkaaGreatDoorRows
import GoSem.ClaimSeven
namespace Go.Proofs.YtnbhaokbaonjkaaGreatDoor
namespace Rows

/-- THE TIED CARD OF 'ostlerlaw08.DeepOwn'. -/
def deepOwnCard : Claim7 := { stood := { row := deepOwnRow, standIns := [], harness := (true, "92e3dca32435c93ded61727bcfed5deb10cd52912b047baa6736d05aa8750d12"), looks := true }, kinds := [], alts := [], laidByText := true, laidKinds := [.data, .data, .data, .data, .sentinel, .sentinel, .pinned], laidTests := true, laidLooks := .later }
def DeepOwnCardSaid : Prop := Claim7.holds Tryz.pinned (.plain (OpenSpec.ofChange deepOwnSpec)) deepOwnCard

/-- THE TIED CARD OF 'ostlerlaw10.RawWrites'. -/
def rawWritesCard : Claim7 := { stood := { row := rawWritesRow, standIns := [], harness := (true, "92e3dca32435c93ded61727bcfed5deb10cd52912b047baa6736d05aa8750d12"), looks := true }, kinds := [], alts := [], laidByText := true, laidKinds := [.data, .data, .data, .data, .sentinel, .sentinel, .pinned], laidTests := true, laidLooks := .later }
def RawWritesCardSaid : Prop := Claim7.holds Tryz.pinned (.plain (OpenSpec.ofChange rawWritesSpec)) rawWritesCard

/-- THE TIED CARD OF 'ostlerlaw10.RawBack'. -/
def rawBackCard : Claim7 := { stood := { row := rawBackRow, standIns := [], harness := (true, "92e3dca32435c93ded61727bcfed5deb10cd52912b047baa6736d05aa8750d12"), looks := true }, kinds := [], alts := [], laidByText := true, laidKinds := [.data, .data, .data, .data, .sentinel, .sentinel, .pinned], laidTests := true, laidLooks := .later }
def RawBackCardSaid : Prop := Claim7.holds Tryz.pinned (.plain (OpenSpec.ofChange rawBackSpec)) rawBackCard

/-- THE SECOND FORM's CARD OF 'ostlerlaw08.DeepOwn'. -/
def deepOwnUptoCard : Claim7 := { stood := { row := deepOwnUptoRow, standIns := [], harness := (true, "92e3dca32435c93ded61727bcfed5deb10cd52912b047baa6736d05aa8750d12"), looks := true }, kinds := [], alts := [], laidByText := true, laidKinds := [.data, .data, .data, .data, .sentinel, .sentinel, .pinned], laidTests := true, laidLooks := .later }
def DeepOwnUptoCardSaid : Prop := Claim7.holds Tryz.pinned (.plain (OpenSpec.upto deepOwnSpec)) deepOwnUptoCard

/-- THE SECOND FORM's CARD OF 'ostlerlaw10.RawWrites'. -/
def rawWritesUptoCard : Claim7 := { stood := { row := rawWritesUptoRow, standIns := [], harness := (true, "92e3dca32435c93ded61727bcfed5deb10cd52912b047baa6736d05aa8750d12"), looks := true }, kinds := [], alts := [], laidByText := true, laidKinds := [.data, .data, .data, .data, .sentinel, .sentinel, .pinned], laidTests := true, laidLooks := .later }
def RawWritesUptoCardSaid : Prop := Claim7.holds Tryz.pinned (.plain (OpenSpec.upto rawWritesSpec)) rawWritesUptoCard

/-- THE SECOND FORM's CARD OF 'ostlerlaw10.RawBack'. -/
def rawBackUptoCard : Claim7 := { stood := { row := rawBackUptoRow, standIns := [], harness := (true, "92e3dca32435c93ded61727bcfed5deb10cd52912b047baa6736d05aa8750d12"), looks := true }, kinds := [], alts := [], laidByText := true, laidKinds := [.data, .data, .data, .data, .sentinel, .sentinel, .pinned], laidTests := true, laidLooks := .later }
def RawBackUptoCardSaid : Prop := Claim7.holds Tryz.pinned (.plain (OpenSpec.upto rawBackSpec)) rawBackUptoCard
end Rows
end Go.Proofs.YtnbhaokbaonjkaaGreatDoor
