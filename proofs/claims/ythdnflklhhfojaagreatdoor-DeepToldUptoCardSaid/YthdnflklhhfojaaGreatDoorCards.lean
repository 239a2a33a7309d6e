/-
  DERIVED. GIVEN WITH THE SEED: THE CARDS: each row of YthdnflklhhfojaaGreatDoorRows.lean that lists a variable, with what it lists TIED to the program's text (the seventh form; the later family's looks); each row that meets fmt, with fmt's text TOLD by the authors' own Lean function (tested against real Go, not proved from fmt's source: count such statements apart). THE CARD IS WHAT COUNTS. Prove the row's statement (the work); the ties are given (YthdnflklhhfojaaGreatDoorTie.lean); close each card by the builder's one call (the guide's Derived/Test/ToyasCard.lean, 'card_holds'). Laid BY PROGRAM, IN A SANDBOX (cutbox-door.mjs). By AI agents, Wed Nov 11 2026. No macro, syntax, notation, axiom, sorry.
-/
import Derived.Test.YthdnflklhhfojaaGreatDoorRows
import GoSem.ClaimSeven
namespace Go.Proofs.YthdnflklhhfojaaGreatDoor
namespace Rows

/-- THE TIED CARD OF 'ostlerlaw09.UrlCodes'. -/
def urlCodesCard : Claim7 := { stood := { row := urlCodesRow, standIns := [], harness := (true, "7c1e2373bbcc494a5ec4ce4a374f48848ca86218490495ad7d233ccdf8d4c5d9"), looks := true }, kinds := [], alts := [], laidByText := true, laidKinds := [.data, .data, .data, .data, .sentinel, .sentinel, .pinned], laidTests := true, laidLooks := .later }
def UrlCodesCardSaid : Prop := Claim7.holds Tryz.pinned (.plain (OpenSpec.ofChange urlCodesSpec)) urlCodesCard

/-- THE TIED CARD OF 'ostlerlaw08.DeepShows'. -/
def deepShowsCard : Claim7 := { stood := { row := deepShowsRow, standIns := [], harness := (true, "7c1e2373bbcc494a5ec4ce4a374f48848ca86218490495ad7d233ccdf8d4c5d9"), looks := true }, kinds := [], alts := [], laidByText := true, laidKinds := [.data, .data, .data, .data, .sentinel, .sentinel, .pinned], laidTests := true, laidLooks := .later }
def DeepShowsCardSaid : Prop := Claim7.holds Tryz.pinned (.plain (OpenSpec.ofChange deepShowsSpec)) deepShowsCard

/-- THE TIED CARD OF 'ostlerlaw08.DeepRights'. -/
def deepRightsCard : Claim7 := { stood := { row := deepRightsRow, standIns := [], harness := (true, "7c1e2373bbcc494a5ec4ce4a374f48848ca86218490495ad7d233ccdf8d4c5d9"), looks := true }, kinds := [], alts := [], laidByText := true, laidKinds := [.data, .data, .data, .data, .sentinel, .sentinel, .pinned], laidTests := true, laidLooks := .later }
def DeepRightsCardSaid : Prop := Claim7.holds Tryz.pinned (.plain (OpenSpec.ofChange deepRightsSpec)) deepRightsCard

/-- THE TIED CARD OF 'ostlerlaw08.DeepOrders'. -/
def deepOrdersCard : Claim7 := { stood := { row := deepOrdersRow, standIns := [], harness := (true, "7c1e2373bbcc494a5ec4ce4a374f48848ca86218490495ad7d233ccdf8d4c5d9"), looks := true }, kinds := [], alts := [], laidByText := true, laidKinds := [.data, .data, .data, .data, .sentinel, .sentinel, .pinned], laidTests := true, laidLooks := .later }
def DeepOrdersCardSaid : Prop := Claim7.holds Tryz.pinned (.plain (OpenSpec.ofChange deepOrdersSpec)) deepOrdersCard

/-- THE TIED CARD OF 'ostlerlaw08.DeepSames'. -/
def deepSamesCard : Claim7 := { stood := { row := deepSamesRow, standIns := [], harness := (true, "7c1e2373bbcc494a5ec4ce4a374f48848ca86218490495ad7d233ccdf8d4c5d9"), looks := true }, kinds := [], alts := [], laidByText := true, laidKinds := [.data, .data, .data, .data, .sentinel, .sentinel, .pinned], laidTests := true, laidLooks := .later }
def DeepSamesCardSaid : Prop := Claim7.holds Tryz.pinned (.plain (OpenSpec.ofChange deepSamesSpec)) deepSamesCard

/-- THE TIED CARD OF 'ostlerlaw08.DeepTold'. -/
def deepToldCard : Claim7 := { stood := { row := deepToldRow, standIns := [], harness := (true, "7c1e2373bbcc494a5ec4ce4a374f48848ca86218490495ad7d233ccdf8d4c5d9"), looks := true }, kinds := [], alts := [], laidByText := true, laidKinds := [.data, .data, .data, .data, .sentinel, .sentinel, .pinned], laidTests := true, laidLooks := .later }
def DeepToldCardSaid : Prop := Claim7.holds Tryz.pinned (.plain (OpenSpec.ofChange deepToldSpec)) deepToldCard

/-- THE TIED CARD OF 'ostlerlaw08.DeepEqual'. -/
def deepEqualCard : Claim7 := { stood := { row := deepEqualRow, standIns := [], harness := (true, "7c1e2373bbcc494a5ec4ce4a374f48848ca86218490495ad7d233ccdf8d4c5d9"), looks := true }, kinds := [], alts := [], laidByText := true, laidKinds := [.data, .data, .data, .data, .sentinel, .sentinel, .pinned], laidTests := true, laidLooks := .later }
def DeepEqualCardSaid : Prop := Claim7.holds Tryz.pinned (.plain (OpenSpec.ofChange deepEqualSpec)) deepEqualCard

/-- THE SECOND FORM's CARD OF 'ostlerlaw09.UrlCodes'. -/
def urlCodesUptoCard : Claim7 := { stood := { row := urlCodesUptoRow, standIns := [], harness := (true, "7c1e2373bbcc494a5ec4ce4a374f48848ca86218490495ad7d233ccdf8d4c5d9"), looks := true }, kinds := [], alts := [], laidByText := true, laidKinds := [.data, .data, .data, .data, .sentinel, .sentinel, .pinned], laidTests := true, laidLooks := .later }
def UrlCodesUptoCardSaid : Prop := Claim7.holds Tryz.pinned (.plain (OpenSpec.upto urlCodesSpec)) urlCodesUptoCard

/-- THE SECOND FORM's CARD OF 'ostlerlaw08.DeepShows'. -/
def deepShowsUptoCard : Claim7 := { stood := { row := deepShowsUptoRow, standIns := [], harness := (true, "7c1e2373bbcc494a5ec4ce4a374f48848ca86218490495ad7d233ccdf8d4c5d9"), looks := true }, kinds := [], alts := [], laidByText := true, laidKinds := [.data, .data, .data, .data, .sentinel, .sentinel, .pinned], laidTests := true, laidLooks := .later }
def DeepShowsUptoCardSaid : Prop := Claim7.holds Tryz.pinned (.plain (OpenSpec.upto deepShowsSpec)) deepShowsUptoCard

/-- THE SECOND FORM's CARD OF 'ostlerlaw08.DeepRights'. -/
def deepRightsUptoCard : Claim7 := { stood := { row := deepRightsUptoRow, standIns := [], harness := (true, "7c1e2373bbcc494a5ec4ce4a374f48848ca86218490495ad7d233ccdf8d4c5d9"), looks := true }, kinds := [], alts := [], laidByText := true, laidKinds := [.data, .data, .data, .data, .sentinel, .sentinel, .pinned], laidTests := true, laidLooks := .later }
def DeepRightsUptoCardSaid : Prop := Claim7.holds Tryz.pinned (.plain (OpenSpec.upto deepRightsSpec)) deepRightsUptoCard

/-- THE SECOND FORM's CARD OF 'ostlerlaw08.DeepOrders'. -/
def deepOrdersUptoCard : Claim7 := { stood := { row := deepOrdersUptoRow, standIns := [], harness := (true, "7c1e2373bbcc494a5ec4ce4a374f48848ca86218490495ad7d233ccdf8d4c5d9"), looks := true }, kinds := [], alts := [], laidByText := true, laidKinds := [.data, .data, .data, .data, .sentinel, .sentinel, .pinned], laidTests := true, laidLooks := .later }
def DeepOrdersUptoCardSaid : Prop := Claim7.holds Tryz.pinned (.plain (OpenSpec.upto deepOrdersSpec)) deepOrdersUptoCard

/-- THE SECOND FORM's CARD OF 'ostlerlaw08.DeepSames'. -/
def deepSamesUptoCard : Claim7 := { stood := { row := deepSamesUptoRow, standIns := [], harness := (true, "7c1e2373bbcc494a5ec4ce4a374f48848ca86218490495ad7d233ccdf8d4c5d9"), looks := true }, kinds := [], alts := [], laidByText := true, laidKinds := [.data, .data, .data, .data, .sentinel, .sentinel, .pinned], laidTests := true, laidLooks := .later }
def DeepSamesUptoCardSaid : Prop := Claim7.holds Tryz.pinned (.plain (OpenSpec.upto deepSamesSpec)) deepSamesUptoCard

/-- THE SECOND FORM's CARD OF 'ostlerlaw08.DeepTold'. -/
def deepToldUptoCard : Claim7 := { stood := { row := deepToldUptoRow, standIns := [], harness := (true, "7c1e2373bbcc494a5ec4ce4a374f48848ca86218490495ad7d233ccdf8d4c5d9"), looks := true }, kinds := [], alts := [], laidByText := true, laidKinds := [.data, .data, .data, .data, .sentinel, .sentinel, .pinned], laidTests := true, laidLooks := .later }
def DeepToldUptoCardSaid : Prop := Claim7.holds Tryz.pinned (.plain (OpenSpec.upto deepToldSpec)) deepToldUptoCard

/-- THE SECOND FORM's CARD OF 'ostlerlaw08.DeepEqual'. -/
def deepEqualUptoCard : Claim7 := { stood := { row := deepEqualUptoRow, standIns := [], harness := (true, "7c1e2373bbcc494a5ec4ce4a374f48848ca86218490495ad7d233ccdf8d4c5d9"), looks := true }, kinds := [], alts := [], laidByText := true, laidKinds := [.data, .data, .data, .data, .sentinel, .sentinel, .pinned], laidTests := true, laidLooks := .later }
def DeepEqualUptoCardSaid : Prop := Claim7.holds Tryz.pinned (.plain (OpenSpec.upto deepEqualSpec)) deepEqualUptoCard
end Rows
end Go.Proofs.YthdnflklhhfojaaGreatDoor
