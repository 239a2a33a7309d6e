/-
  DERIVED. GIVEN WITH THE SEED: THE CARDS: each row of YtcmehaoicilejaaGreatDoorRows.lean that lists a variable, with what it lists TIED to the program's text (the seventh form; the later family's looks); each row that meets fmt, with fmt's text TOLD by the authors' own Lean function (tested against real Go, not proved from fmt's source: count such statements apart). THE CARD IS WHAT COUNTS. Prove the row's statement (the work); the ties are given (YtcmehaoicilejaaGreatDoorTie.lean); close each card by the builder's one call (the guide's Derived/Test/ToyasCard.lean, 'card_holds'). Laid BY PROGRAM, IN A SANDBOX (cutbox-door.mjs). By AI agents, Wed Nov 11 2026. No macro, syntax, notation, axiom, sorry.
-/
import Derived.Test.YtcmehaoicilejaaGreatDoorRows
import GoSem.ClaimSeven
namespace Go.Proofs.YtcmehaoicilejaaGreatDoor
namespace Rows

/-- THE TIED CARD OF 'ostlerlaw05.NameMeans'. -/
def nameMeansCard : Claim7 := { stood := { row := nameMeansRow, standIns := [], harness := (true, "a4c8935fa0bc585cf2559ddd10fa187f05d16ed226cd57d65f51e9d74c6efe3b"), looks := true }, kinds := [], alts := [], laidByText := true, laidKinds := [.data, .pinned, .pinned], laidTests := true, laidLooks := .later }
def NameMeansCardSaid : Prop := Claim7.holds Tryz.pinned (.plain (OpenSpec.ofChange nameMeansSpec)) nameMeansCard

/-- THE TIED CARD OF 'ostlerlaw05.NamePlain'. -/
def namePlainCard : Claim7 := { stood := { row := namePlainRow, standIns := [], harness := (true, "a4c8935fa0bc585cf2559ddd10fa187f05d16ed226cd57d65f51e9d74c6efe3b"), looks := true }, kinds := [], alts := [], laidByText := true, laidKinds := [.data, .pinned, .pinned], laidTests := true, laidLooks := .later }
def NamePlainCardSaid : Prop := Claim7.holds Tryz.pinned (.plain (OpenSpec.ofChange namePlainSpec)) namePlainCard

/-- THE TIED CARD OF 'ostlerlaw05.NameSpace'. -/
def nameSpaceCard : Claim7 := { stood := { row := nameSpaceRow, standIns := [], harness := (true, "a4c8935fa0bc585cf2559ddd10fa187f05d16ed226cd57d65f51e9d74c6efe3b"), looks := true }, kinds := [], alts := [], laidByText := true, laidKinds := [.data, .pinned, .pinned], laidTests := true, laidLooks := .later }
def NameSpaceCardSaid : Prop := Claim7.holds Tryz.pinned (.plain (OpenSpec.ofChange nameSpaceSpec)) nameSpaceCard

/-- THE SECOND FORM's CARD OF 'ostlerlaw05.NameMeans'. -/
def nameMeansUptoCard : Claim7 := { stood := { row := nameMeansUptoRow, standIns := [], harness := (true, "a4c8935fa0bc585cf2559ddd10fa187f05d16ed226cd57d65f51e9d74c6efe3b"), looks := true }, kinds := [], alts := [], laidByText := true, laidKinds := [.data, .pinned, .pinned], laidTests := true, laidLooks := .later }
def NameMeansUptoCardSaid : Prop := Claim7.holds Tryz.pinned (.plain (OpenSpec.upto nameMeansSpec)) nameMeansUptoCard

/-- THE SECOND FORM's CARD OF 'ostlerlaw05.NamePlain'. -/
def namePlainUptoCard : Claim7 := { stood := { row := namePlainUptoRow, standIns := [], harness := (true, "a4c8935fa0bc585cf2559ddd10fa187f05d16ed226cd57d65f51e9d74c6efe3b"), looks := true }, kinds := [], alts := [], laidByText := true, laidKinds := [.data, .pinned, .pinned], laidTests := true, laidLooks := .later }
def NamePlainUptoCardSaid : Prop := Claim7.holds Tryz.pinned (.plain (OpenSpec.upto namePlainSpec)) namePlainUptoCard

/-- THE SECOND FORM's CARD OF 'ostlerlaw05.NameSpace'. -/
def nameSpaceUptoCard : Claim7 := { stood := { row := nameSpaceUptoRow, standIns := [], harness := (true, "a4c8935fa0bc585cf2559ddd10fa187f05d16ed226cd57d65f51e9d74c6efe3b"), looks := true }, kinds := [], alts := [], laidByText := true, laidKinds := [.data, .pinned, .pinned], laidTests := true, laidLooks := .later }
def NameSpaceUptoCardSaid : Prop := Claim7.holds Tryz.pinned (.plain (OpenSpec.upto nameSpaceSpec)) nameSpaceUptoCard
end Rows
end Go.Proofs.YtcmehaoicilejaaGreatDoor
