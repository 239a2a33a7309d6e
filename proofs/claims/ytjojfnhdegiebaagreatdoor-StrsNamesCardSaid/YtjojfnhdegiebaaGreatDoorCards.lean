/-
  DERIVED. GIVEN WITH THE SEED: THE CARDS: each row of YtjojfnhdegiebaaGreatDoorRows.lean that lists a variable, with what it lists TIED to the program's text (the seventh form; the later family's looks); each row that meets fmt, with fmt's text TOLD by the authors' own Lean function (tested against real Go, not proved from fmt's source: count such statements apart). THE CARD IS WHAT COUNTS. Prove the row's statement (the work); the ties are given (YtjojfnhdegiebaaGreatDoorTie.lean); close each card by the builder's one call (the guide's Derived/Test/ToyasCard.lean, 'card_holds'). Laid BY PROGRAM, IN A SANDBOX (cutbox-door.mjs). By AI agents, Wed Nov 11 2026. No macro, syntax, notation, axiom, sorry.
-/
import Derived.Test.YtjojfnhdegiebaaGreatDoorRows
import GoSem.ClaimSeven
namespace Go.Proofs.YtjojfnhdegiebaaGreatDoor
namespace Rows

/-- THE TIED CARD OF 'ostlerlaw15.StrsBack'. -/
def strsBackCard : Claim7 := { stood := { row := strsBackRow, standIns := [], harness := (true, "53bb8e1fc645ce829bd5e08c8d1eef3f0796702ed5d9972e54f74f7f5d5c7730"), looks := true }, kinds := [], alts := [], laidByText := true, laidKinds := [.data, .data, .data, .data, .sentinel, .sentinel, .sentinel, .pinned], laidTests := true, laidLooks := .later }
def StrsBackCardSaid : Prop := Claim7.holds Tryz.pinned (.plain (OpenSpec.ofChange strsBackSpec)) strsBackCard

/-- THE TIED CARD OF 'ostlerlaw15.StrsCut'. -/
def strsCutCard : Claim7 := { stood := { row := strsCutRow, standIns := [], harness := (true, "53bb8e1fc645ce829bd5e08c8d1eef3f0796702ed5d9972e54f74f7f5d5c7730"), looks := true }, kinds := [], alts := [], laidByText := true, laidKinds := [.data, .data, .data, .data, .sentinel, .sentinel, .sentinel, .pinned], laidTests := true, laidLooks := .later }
def StrsCutCardSaid : Prop := Claim7.holds Tryz.pinned (.plain (OpenSpec.ofChange strsCutSpec)) strsCutCard

/-- THE TIED CARD OF 'ostlerlaw15.StrsFinds'. -/
def strsFindsCard : Claim7 := { stood := { row := strsFindsRow, standIns := [], harness := (true, "53bb8e1fc645ce829bd5e08c8d1eef3f0796702ed5d9972e54f74f7f5d5c7730"), looks := true }, kinds := [], alts := [], laidByText := true, laidKinds := [.data, .data, .data, .data, .sentinel, .sentinel, .sentinel, .pinned], laidTests := true, laidLooks := .later }
def StrsFindsCardSaid : Prop := Claim7.holds Tryz.pinned (.plain (OpenSpec.ofChange strsFindsSpec)) strsFindsCard

/-- THE TIED CARD OF 'ostlerlaw15.StrsNames'. -/
def strsNamesCard : Claim7 := { stood := { row := strsNamesRow, standIns := [], harness := (true, "53bb8e1fc645ce829bd5e08c8d1eef3f0796702ed5d9972e54f74f7f5d5c7730"), looks := true }, kinds := [], alts := [], laidByText := true, laidKinds := [.data, .data, .data, .data, .sentinel, .sentinel, .sentinel, .pinned], laidTests := true, laidLooks := .later }
def StrsNamesCardSaid : Prop := Claim7.holds Tryz.pinned (.plain (OpenSpec.ofChange strsNamesSpec)) strsNamesCard

/-- THE SECOND FORM's CARD OF 'ostlerlaw15.StrsBack'. -/
def strsBackUptoCard : Claim7 := { stood := { row := strsBackUptoRow, standIns := [], harness := (true, "53bb8e1fc645ce829bd5e08c8d1eef3f0796702ed5d9972e54f74f7f5d5c7730"), looks := true }, kinds := [], alts := [], laidByText := true, laidKinds := [.data, .data, .data, .data, .sentinel, .sentinel, .sentinel, .pinned], laidTests := true, laidLooks := .later }
def StrsBackUptoCardSaid : Prop := Claim7.holds Tryz.pinned (.plain (OpenSpec.upto strsBackSpec)) strsBackUptoCard

/-- THE SECOND FORM's CARD OF 'ostlerlaw15.StrsCut'. -/
def strsCutUptoCard : Claim7 := { stood := { row := strsCutUptoRow, standIns := [], harness := (true, "53bb8e1fc645ce829bd5e08c8d1eef3f0796702ed5d9972e54f74f7f5d5c7730"), looks := true }, kinds := [], alts := [], laidByText := true, laidKinds := [.data, .data, .data, .data, .sentinel, .sentinel, .sentinel, .pinned], laidTests := true, laidLooks := .later }
def StrsCutUptoCardSaid : Prop := Claim7.holds Tryz.pinned (.plain (OpenSpec.upto strsCutSpec)) strsCutUptoCard

/-- THE SECOND FORM's CARD OF 'ostlerlaw15.StrsFinds'. -/
def strsFindsUptoCard : Claim7 := { stood := { row := strsFindsUptoRow, standIns := [], harness := (true, "53bb8e1fc645ce829bd5e08c8d1eef3f0796702ed5d9972e54f74f7f5d5c7730"), looks := true }, kinds := [], alts := [], laidByText := true, laidKinds := [.data, .data, .data, .data, .sentinel, .sentinel, .sentinel, .pinned], laidTests := true, laidLooks := .later }
def StrsFindsUptoCardSaid : Prop := Claim7.holds Tryz.pinned (.plain (OpenSpec.upto strsFindsSpec)) strsFindsUptoCard

/-- THE SECOND FORM's CARD OF 'ostlerlaw15.StrsNames'. -/
def strsNamesUptoCard : Claim7 := { stood := { row := strsNamesUptoRow, standIns := [], harness := (true, "53bb8e1fc645ce829bd5e08c8d1eef3f0796702ed5d9972e54f74f7f5d5c7730"), looks := true }, kinds := [], alts := [], laidByText := true, laidKinds := [.data, .data, .data, .data, .sentinel, .sentinel, .sentinel, .pinned], laidTests := true, laidLooks := .later }
def StrsNamesUptoCardSaid : Prop := Claim7.holds Tryz.pinned (.plain (OpenSpec.upto strsNamesSpec)) strsNamesUptoCard
end Rows
end Go.Proofs.YtjojfnhdegiebaaGreatDoor
