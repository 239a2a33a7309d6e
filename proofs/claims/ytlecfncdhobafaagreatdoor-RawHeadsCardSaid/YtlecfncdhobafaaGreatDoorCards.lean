/-
  DERIVED. GIVEN WITH THE SEED: THE CARDS: each row of YtlecfncdhobafaaGreatDoorRows.lean that lists a variable, with what it lists TIED to the program's text (the seventh form; the later family's looks); each row that meets fmt, with fmt's text TOLD by the authors' own Lean function (tested against real Go, not proved from fmt's source: count such statements apart). THE CARD IS WHAT COUNTS. Prove the row's statement (the work); the ties are given (YtlecfncdhobafaaGreatDoorTie.lean); close each card by the builder's one call (the guide's Derived/Test/ToyasCard.lean, 'card_holds'). Laid BY PROGRAM, IN A SANDBOX (cutbox-door.mjs). By AI agents, Wed Nov 11 2026. No macro, syntax, notation, axiom, sorry.
-/
import Derived.Test.YtlecfncdhobafaaGreatDoorRows
import GoSem.ClaimSeven
namespace Go.Proofs.YtlecfncdhobafaaGreatDoor
namespace Rows

/-- THE TIED CARD OF 'ostlerlaw08.DeepSames'. -/
def deepSamesCard : Claim7 := { stood := { row := deepSamesRow, standIns := [], harness := (true, "b6e4f1425cb7e1511b94d1e3a5ed410f27854ab21a35a181c63317025ba53e83"), looks := true }, kinds := [], alts := [], laidByText := true, laidKinds := [.data, .data, .data, .data, .sentinel, .sentinel, .pinned], laidTests := true, laidLooks := .later }
def DeepSamesCardSaid : Prop := Claim7.holds Tryz.pinned (.plain (OpenSpec.ofChange deepSamesSpec)) deepSamesCard

/-- THE TIED CARD OF 'ostlerlaw08.DeepRights'. -/
def deepRightsCard : Claim7 := { stood := { row := deepRightsRow, standIns := [], harness := (true, "b6e4f1425cb7e1511b94d1e3a5ed410f27854ab21a35a181c63317025ba53e83"), looks := true }, kinds := [], alts := [], laidByText := true, laidKinds := [.data, .data, .data, .data, .sentinel, .sentinel, .pinned], laidTests := true, laidLooks := .later }
def DeepRightsCardSaid : Prop := Claim7.holds Tryz.pinned (.plain (OpenSpec.ofChange deepRightsSpec)) deepRightsCard

/-- THE TIED CARD OF 'ostlerlaw09.UrlCodes'. -/
def urlCodesCard : Claim7 := { stood := { row := urlCodesRow, standIns := [], harness := (true, "b6e4f1425cb7e1511b94d1e3a5ed410f27854ab21a35a181c63317025ba53e83"), looks := true }, kinds := [], alts := [], laidByText := true, laidKinds := [.data, .data, .data, .data, .sentinel, .sentinel, .pinned], laidTests := true, laidLooks := .later }
def UrlCodesCardSaid : Prop := Claim7.holds Tryz.pinned (.plain (OpenSpec.ofChange urlCodesSpec)) urlCodesCard

/-- THE TIED CARD OF 'ostlerlaw10.RawHeads'. -/
def rawHeadsCard : Claim7 := { stood := { row := rawHeadsRow, standIns := [], harness := (true, "b6e4f1425cb7e1511b94d1e3a5ed410f27854ab21a35a181c63317025ba53e83"), looks := true }, kinds := [], alts := [], laidByText := true, laidKinds := [.data, .data, .data, .data, .sentinel, .sentinel, .pinned], laidTests := true, laidLooks := .later }
def RawHeadsCardSaid : Prop := Claim7.holds Tryz.pinned (.plain (OpenSpec.ofChange rawHeadsSpec)) rawHeadsCard

/-- THE SECOND FORM's CARD OF 'ostlerlaw08.DeepSames'. -/
def deepSamesUptoCard : Claim7 := { stood := { row := deepSamesUptoRow, standIns := [], harness := (true, "b6e4f1425cb7e1511b94d1e3a5ed410f27854ab21a35a181c63317025ba53e83"), looks := true }, kinds := [], alts := [], laidByText := true, laidKinds := [.data, .data, .data, .data, .sentinel, .sentinel, .pinned], laidTests := true, laidLooks := .later }
def DeepSamesUptoCardSaid : Prop := Claim7.holds Tryz.pinned (.plain (OpenSpec.upto deepSamesSpec)) deepSamesUptoCard

/-- THE SECOND FORM's CARD OF 'ostlerlaw08.DeepRights'. -/
def deepRightsUptoCard : Claim7 := { stood := { row := deepRightsUptoRow, standIns := [], harness := (true, "b6e4f1425cb7e1511b94d1e3a5ed410f27854ab21a35a181c63317025ba53e83"), looks := true }, kinds := [], alts := [], laidByText := true, laidKinds := [.data, .data, .data, .data, .sentinel, .sentinel, .pinned], laidTests := true, laidLooks := .later }
def DeepRightsUptoCardSaid : Prop := Claim7.holds Tryz.pinned (.plain (OpenSpec.upto deepRightsSpec)) deepRightsUptoCard

/-- THE SECOND FORM's CARD OF 'ostlerlaw09.UrlCodes'. -/
def urlCodesUptoCard : Claim7 := { stood := { row := urlCodesUptoRow, standIns := [], harness := (true, "b6e4f1425cb7e1511b94d1e3a5ed410f27854ab21a35a181c63317025ba53e83"), looks := true }, kinds := [], alts := [], laidByText := true, laidKinds := [.data, .data, .data, .data, .sentinel, .sentinel, .pinned], laidTests := true, laidLooks := .later }
def UrlCodesUptoCardSaid : Prop := Claim7.holds Tryz.pinned (.plain (OpenSpec.upto urlCodesSpec)) urlCodesUptoCard

/-- THE SECOND FORM's CARD OF 'ostlerlaw10.RawHeads'. -/
def rawHeadsUptoCard : Claim7 := { stood := { row := rawHeadsUptoRow, standIns := [], harness := (true, "b6e4f1425cb7e1511b94d1e3a5ed410f27854ab21a35a181c63317025ba53e83"), looks := true }, kinds := [], alts := [], laidByText := true, laidKinds := [.data, .data, .data, .data, .sentinel, .sentinel, .pinned], laidTests := true, laidLooks := .later }
def RawHeadsUptoCardSaid : Prop := Claim7.holds Tryz.pinned (.plain (OpenSpec.upto rawHeadsSpec)) rawHeadsUptoCard
end Rows
end Go.Proofs.YtlecfncdhobafaaGreatDoor
