/-
  DERIVED. GIVEN WITH THE SEED: THE CARDS: each row of YtohbbgghkinnhaaDoorRows.lean that lists a variable, with what it lists TIED to the program's text (the seventh form; the later family's looks); each row that meets fmt, with fmt's text TOLD by the authors' own Lean function (tested against real Go, not proved from fmt's source: count such statements apart). THE CARD IS WHAT COUNTS. Prove the row's statement (the work); the ties are given (YtohbbgghkinnhaaDoorTie.lean); close each card by the builder's one call (the guide's Derived/Test/ToyasCard.lean, 'card_holds'). Laid BY PROGRAM, IN A SANDBOX (cutbox-door.mjs). By AI agents, Wed Nov 11 2026. No macro, syntax, notation, axiom, sorry.
-/
import Derived.Test.YtohbbgghkinnhaaDoorRows
import GoSem.ClaimSeven
namespace Go.Proofs.YtohbbgghkinnhaaDoor
namespace Rows

/-- THE TIED CARD OF 'ostlerlaw01.CutCuts'. -/
def cutCutsCard : Claim7 := { stood := { row := cutCutsRow, standIns := [], harness := (true, "c6a13d81a9b30779faf38016e3611cef01c46588acb26e8d42fc6ef57e4a2afa"), looks := false }, kinds := [], alts := [], laidByText := true, laidKinds := [.data, .data, .data, .pinned, .pinned], laidTests := true, laidLooks := .later }
def CutCutsCardSaid : Prop := Claim7.holds Tryd.pinned (.plain (OpenSpec.ofChange cutCutsSpec)) cutCutsCard

/-- THE TIED CARD OF 'ostlerlaw01.CutWithin'. -/
def cutWithinCard : Claim7 := { stood := { row := cutWithinRow, standIns := [], harness := (true, "c6a13d81a9b30779faf38016e3611cef01c46588acb26e8d42fc6ef57e4a2afa"), looks := false }, kinds := [], alts := [], laidByText := true, laidKinds := [.data, .data, .data, .pinned, .pinned], laidTests := true, laidLooks := .later }
def CutWithinCardSaid : Prop := Claim7.holds Tryd.pinned (.plain (OpenSpec.ofChange cutWithinSpec)) cutWithinCard

/-- THE TIED CARD OF 'ostlerlaw01.CutPlain'. -/
def cutPlainCard : Claim7 := { stood := { row := cutPlainRow, standIns := [], harness := (true, "c6a13d81a9b30779faf38016e3611cef01c46588acb26e8d42fc6ef57e4a2afa"), looks := false }, kinds := [], alts := [], laidByText := true, laidKinds := [.data, .data, .data, .pinned, .pinned], laidTests := true, laidLooks := .later }
def CutPlainCardSaid : Prop := Claim7.holds Tryd.pinned (.plain (OpenSpec.ofChange cutPlainSpec)) cutPlainCard

/-- THE TIED CARD OF 'ostlerlaw01.CutJoins'. -/
def cutJoinsCard : Claim7 := { stood := { row := cutJoinsRow, standIns := [], harness := (true, "c6a13d81a9b30779faf38016e3611cef01c46588acb26e8d42fc6ef57e4a2afa"), looks := false }, kinds := [], alts := [], laidByText := true, laidKinds := [.data, .data, .data, .pinned, .pinned], laidTests := true, laidLooks := .later }
def CutJoinsCardSaid : Prop := Claim7.holds Tryd.pinned (.plain (OpenSpec.ofChange cutJoinsSpec)) cutJoinsCard

/-- THE TIED CARD OF 'ostlerlaw01.CutTells'. -/
def cutTellsCard : Claim7 := { stood := { row := cutTellsRow, standIns := [], harness := (true, "c6a13d81a9b30779faf38016e3611cef01c46588acb26e8d42fc6ef57e4a2afa"), looks := false }, kinds := [], alts := [], laidByText := true, laidKinds := [.data, .data, .data, .pinned, .pinned], laidTests := true, laidLooks := .later }
def CutTellsCardSaid : Prop := Claim7.holds Tryd.pinned (.plain (OpenSpec.ofChange cutTellsSpec)) cutTellsCard

/-- THE SECOND FORM's CARD OF 'ostlerlaw01.CutCuts'. -/
def cutCutsUptoCard : Claim7 := { stood := { row := cutCutsUptoRow, standIns := [], harness := (true, "c6a13d81a9b30779faf38016e3611cef01c46588acb26e8d42fc6ef57e4a2afa"), looks := false }, kinds := [], alts := [], laidByText := true, laidKinds := [.data, .data, .data, .pinned, .pinned], laidTests := true, laidLooks := .later }
def CutCutsUptoCardSaid : Prop := Claim7.holds Tryd.pinned (.plain (OpenSpec.upto cutCutsSpec)) cutCutsUptoCard

/-- THE SECOND FORM's CARD OF 'ostlerlaw01.CutWithin'. -/
def cutWithinUptoCard : Claim7 := { stood := { row := cutWithinUptoRow, standIns := [], harness := (true, "c6a13d81a9b30779faf38016e3611cef01c46588acb26e8d42fc6ef57e4a2afa"), looks := false }, kinds := [], alts := [], laidByText := true, laidKinds := [.data, .data, .data, .pinned, .pinned], laidTests := true, laidLooks := .later }
def CutWithinUptoCardSaid : Prop := Claim7.holds Tryd.pinned (.plain (OpenSpec.upto cutWithinSpec)) cutWithinUptoCard

/-- THE SECOND FORM's CARD OF 'ostlerlaw01.CutPlain'. -/
def cutPlainUptoCard : Claim7 := { stood := { row := cutPlainUptoRow, standIns := [], harness := (true, "c6a13d81a9b30779faf38016e3611cef01c46588acb26e8d42fc6ef57e4a2afa"), looks := false }, kinds := [], alts := [], laidByText := true, laidKinds := [.data, .data, .data, .pinned, .pinned], laidTests := true, laidLooks := .later }
def CutPlainUptoCardSaid : Prop := Claim7.holds Tryd.pinned (.plain (OpenSpec.upto cutPlainSpec)) cutPlainUptoCard

/-- THE SECOND FORM's CARD OF 'ostlerlaw01.CutJoins'. -/
def cutJoinsUptoCard : Claim7 := { stood := { row := cutJoinsUptoRow, standIns := [], harness := (true, "c6a13d81a9b30779faf38016e3611cef01c46588acb26e8d42fc6ef57e4a2afa"), looks := false }, kinds := [], alts := [], laidByText := true, laidKinds := [.data, .data, .data, .pinned, .pinned], laidTests := true, laidLooks := .later }
def CutJoinsUptoCardSaid : Prop := Claim7.holds Tryd.pinned (.plain (OpenSpec.upto cutJoinsSpec)) cutJoinsUptoCard

/-- THE SECOND FORM's CARD OF 'ostlerlaw01.CutTells'. -/
def cutTellsUptoCard : Claim7 := { stood := { row := cutTellsUptoRow, standIns := [], harness := (true, "c6a13d81a9b30779faf38016e3611cef01c46588acb26e8d42fc6ef57e4a2afa"), looks := false }, kinds := [], alts := [], laidByText := true, laidKinds := [.data, .data, .data, .pinned, .pinned], laidTests := true, laidLooks := .later }
def CutTellsUptoCardSaid : Prop := Claim7.holds Tryd.pinned (.plain (OpenSpec.upto cutTellsSpec)) cutTellsUptoCard
end Rows
end Go.Proofs.YtohbbgghkinnhaaDoor
