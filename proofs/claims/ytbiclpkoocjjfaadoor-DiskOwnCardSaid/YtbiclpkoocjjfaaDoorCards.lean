/-
  DERIVED. GIVEN WITH THE SEED: THE CARDS: each row of YtbiclpkoocjjfaaDoorRows.lean that lists a variable, with what it lists TIED to the program's text (the seventh form; the later family's looks); each row that meets fmt, with fmt's text TOLD by the authors' own Lean function (tested against real Go, not proved from fmt's source: count such statements apart). THE CARD IS WHAT COUNTS. Prove the row's statement (the work); the ties are given (YtbiclpkoocjjfaaDoorTie.lean); close each card by the builder's one call (the guide's Derived/Test/ToyasCard.lean, 'card_holds'). Laid BY PROGRAM, IN A SANDBOX (cutbox-door.mjs). By AI agents, Wed Nov 11 2026. No macro, syntax, notation, axiom, sorry.
-/
import Derived.Test.YtbiclpkoocjjfaaDoorRows
import GoSem.ClaimSeven
namespace Go.Proofs.YtbiclpkoocjjfaaDoor
namespace Rows

/-- THE TIED CARD OF 'ostlerlaw18.DiskStamps'. -/
def diskStampsCard : Claim7 := { stood := { row := diskStampsRow, standIns := [], harness := (true, "f340e3473aa81a0ceb67cabb4b1f8a9844cb1aea27a71d633720e392d62cf952"), looks := false }, kinds := [], alts := [], laidByText := true, laidKinds := [.data, .pinned], laidTests := true, laidLooks := .later }
def DiskStampsCardSaid : Prop := Claim7.holds Tryd.pinned (.plain (OpenSpec.ofChange diskStampsSpec)) diskStampsCard

/-- THE TIED CARD OF 'ostlerlaw18.DiskApart'. -/
def diskApartCard : Claim7 := { stood := { row := diskApartRow, standIns := [], harness := (true, "f340e3473aa81a0ceb67cabb4b1f8a9844cb1aea27a71d633720e392d62cf952"), looks := false }, kinds := [], alts := [], laidByText := true, laidKinds := [.data, .pinned], laidTests := true, laidLooks := .later }
def DiskApartCardSaid : Prop := Claim7.holds Tryd.pinned (.plain (OpenSpec.ofChange diskApartSpec)) diskApartCard

/-- THE TIED CARD OF 'ostlerlaw18.DiskPaths'. -/
def diskPathsCard : Claim7 := { stood := { row := diskPathsRow, standIns := [], harness := (true, "f340e3473aa81a0ceb67cabb4b1f8a9844cb1aea27a71d633720e392d62cf952"), looks := false }, kinds := [], alts := [], laidByText := true, laidKinds := [.data, .pinned], laidTests := true, laidLooks := .later }
def DiskPathsCardSaid : Prop := Claim7.holds Tryd.pinned (.plain (OpenSpec.ofChange diskPathsSpec)) diskPathsCard

/-- THE TIED CARD OF 'ostlerlaw18.DiskOwn'. -/
def diskOwnCard : Claim7 := { stood := { row := diskOwnRow, standIns := [], harness := (true, "f340e3473aa81a0ceb67cabb4b1f8a9844cb1aea27a71d633720e392d62cf952"), looks := false }, kinds := [], alts := [], laidByText := true, laidKinds := [.data, .pinned], laidTests := true, laidLooks := .later }
def DiskOwnCardSaid : Prop := Claim7.holds Tryd.pinned (.plain (OpenSpec.ofChange diskOwnSpec)) diskOwnCard

/-- THE TIED CARD OF 'ostlerlaw18.DiskPlays'. -/
def diskPlaysCard : Claim7 := { stood := { row := diskPlaysRow, standIns := [], harness := (true, "f340e3473aa81a0ceb67cabb4b1f8a9844cb1aea27a71d633720e392d62cf952"), looks := false }, kinds := [], alts := [], laidByText := true, laidKinds := [.data, .pinned], laidTests := true, laidLooks := .later }
def DiskPlaysCardSaid : Prop := Claim7.holds Tryd.pinned (.plain (OpenSpec.ofChange diskPlaysSpec)) diskPlaysCard

/-- THE TIED CARD OF 'ostlerlaw18.DiskNobody'. -/
def diskNobodyCard : Claim7 := { stood := { row := diskNobodyRow, standIns := [], harness := (true, "f340e3473aa81a0ceb67cabb4b1f8a9844cb1aea27a71d633720e392d62cf952"), looks := false }, kinds := [], alts := [], laidByText := true, laidKinds := [.data, .pinned], laidTests := true, laidLooks := .later }
def DiskNobodyCardSaid : Prop := Claim7.holds Tryd.pinned (.plain (OpenSpec.ofChange diskNobodySpec)) diskNobodyCard

/-- THE SECOND FORM's CARD OF 'ostlerlaw18.DiskStamps'. -/
def diskStampsUptoCard : Claim7 := { stood := { row := diskStampsUptoRow, standIns := [], harness := (true, "f340e3473aa81a0ceb67cabb4b1f8a9844cb1aea27a71d633720e392d62cf952"), looks := false }, kinds := [], alts := [], laidByText := true, laidKinds := [.data, .pinned], laidTests := true, laidLooks := .later }
def DiskStampsUptoCardSaid : Prop := Claim7.holds Tryd.pinned (.plain (OpenSpec.upto diskStampsSpec)) diskStampsUptoCard

/-- THE SECOND FORM's CARD OF 'ostlerlaw18.DiskApart'. -/
def diskApartUptoCard : Claim7 := { stood := { row := diskApartUptoRow, standIns := [], harness := (true, "f340e3473aa81a0ceb67cabb4b1f8a9844cb1aea27a71d633720e392d62cf952"), looks := false }, kinds := [], alts := [], laidByText := true, laidKinds := [.data, .pinned], laidTests := true, laidLooks := .later }
def DiskApartUptoCardSaid : Prop := Claim7.holds Tryd.pinned (.plain (OpenSpec.upto diskApartSpec)) diskApartUptoCard

/-- THE SECOND FORM's CARD OF 'ostlerlaw18.DiskPaths'. -/
def diskPathsUptoCard : Claim7 := { stood := { row := diskPathsUptoRow, standIns := [], harness := (true, "f340e3473aa81a0ceb67cabb4b1f8a9844cb1aea27a71d633720e392d62cf952"), looks := false }, kinds := [], alts := [], laidByText := true, laidKinds := [.data, .pinned], laidTests := true, laidLooks := .later }
def DiskPathsUptoCardSaid : Prop := Claim7.holds Tryd.pinned (.plain (OpenSpec.upto diskPathsSpec)) diskPathsUptoCard

/-- THE SECOND FORM's CARD OF 'ostlerlaw18.DiskOwn'. -/
def diskOwnUptoCard : Claim7 := { stood := { row := diskOwnUptoRow, standIns := [], harness := (true, "f340e3473aa81a0ceb67cabb4b1f8a9844cb1aea27a71d633720e392d62cf952"), looks := false }, kinds := [], alts := [], laidByText := true, laidKinds := [.data, .pinned], laidTests := true, laidLooks := .later }
def DiskOwnUptoCardSaid : Prop := Claim7.holds Tryd.pinned (.plain (OpenSpec.upto diskOwnSpec)) diskOwnUptoCard

/-- THE SECOND FORM's CARD OF 'ostlerlaw18.DiskPlays'. -/
def diskPlaysUptoCard : Claim7 := { stood := { row := diskPlaysUptoRow, standIns := [], harness := (true, "f340e3473aa81a0ceb67cabb4b1f8a9844cb1aea27a71d633720e392d62cf952"), looks := false }, kinds := [], alts := [], laidByText := true, laidKinds := [.data, .pinned], laidTests := true, laidLooks := .later }
def DiskPlaysUptoCardSaid : Prop := Claim7.holds Tryd.pinned (.plain (OpenSpec.upto diskPlaysSpec)) diskPlaysUptoCard

/-- THE SECOND FORM's CARD OF 'ostlerlaw18.DiskNobody'. -/
def diskNobodyUptoCard : Claim7 := { stood := { row := diskNobodyUptoRow, standIns := [], harness := (true, "f340e3473aa81a0ceb67cabb4b1f8a9844cb1aea27a71d633720e392d62cf952"), looks := false }, kinds := [], alts := [], laidByText := true, laidKinds := [.data, .pinned], laidTests := true, laidLooks := .later }
def DiskNobodyUptoCardSaid : Prop := Claim7.holds Tryd.pinned (.plain (OpenSpec.upto diskNobodySpec)) diskNobodyUptoCard
end Rows
end Go.Proofs.YtbiclpkoocjjfaaDoor
