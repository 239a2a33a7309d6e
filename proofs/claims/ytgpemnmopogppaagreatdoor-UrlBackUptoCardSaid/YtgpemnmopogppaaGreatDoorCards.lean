/-
  DERIVED. GIVEN WITH THE SEED: THE CARDS: each row of YtgpemnmopogppaaGreatDoorRows.lean that lists a variable, with what it lists TIED to the program's text (the seventh form; the later family's looks); each row that meets fmt, with fmt's text TOLD by the authors' own Lean function (tested against real Go, not proved from fmt's source: count such statements apart). THE CARD IS WHAT COUNTS. Prove the row's statement (the work); the ties are given (YtgpemnmopogppaaGreatDoorTie.lean); close each card by the builder's one call (the guide's Derived/Test/ToyasCard.lean, 'card_holds'). Laid BY PROGRAM, IN A SANDBOX (cutbox-door.mjs). By AI agents, Wed Nov 11 2026. No macro, syntax, notation, axiom, sorry.
-/
import Derived.Test.YtgpemnmopogppaaGreatDoorRows
import GoSem.ClaimSeven
namespace Go.Proofs.YtgpemnmopogppaaGreatDoor
namespace Rows

/-- THE TIED CARD OF 'ostlerlaw09.UrlQueries'. -/
def urlQueriesCard : Claim7 := { stood := { row := urlQueriesRow, standIns := [], harness := (true, "8bd9dc99b058bb71b4bb9e6899051c19fcf8042243385341e0af5807856cb4b5"), looks := true }, kinds := [], alts := [], laidByText := true, laidKinds := [.data, .data, .data, .data, .sentinel, .sentinel, .pinned], laidTests := true, laidLooks := .later }
def UrlQueriesCardSaid : Prop := Claim7.holds Tryz.pinned (.plain (OpenSpec.ofChange urlQueriesSpec)) urlQueriesCard

/-- THE TIED CARD OF 'ostlerlaw09.UrlBack'. -/
def urlBackCard : Claim7 := { stood := { row := urlBackRow, standIns := [], harness := (true, "8bd9dc99b058bb71b4bb9e6899051c19fcf8042243385341e0af5807856cb4b5"), looks := true }, kinds := [], alts := [], laidByText := true, laidKinds := [.data, .data, .data, .data, .sentinel, .sentinel, .pinned], laidTests := true, laidLooks := .later }
def UrlBackCardSaid : Prop := Claim7.holds Tryz.pinned (.plain (OpenSpec.ofChange urlBackSpec)) urlBackCard

/-- THE TIED CARD OF 'ostlerlaw09.UrlOrder'. -/
def urlOrderCard : Claim7 := { stood := { row := urlOrderRow, standIns := [], harness := (true, "8bd9dc99b058bb71b4bb9e6899051c19fcf8042243385341e0af5807856cb4b5"), looks := true }, kinds := [], alts := [], laidByText := true, laidKinds := [.data, .data, .data, .data, .sentinel, .sentinel, .pinned], laidTests := true, laidLooks := .later }
def UrlOrderCardSaid : Prop := Claim7.holds Tryz.pinned (.plain (OpenSpec.ofChange urlOrderSpec)) urlOrderCard

/-- THE TIED CARD OF 'ostlerlaw10.RawLists'. -/
def rawListsCard : Claim7 := { stood := { row := rawListsRow, standIns := [], harness := (true, "8bd9dc99b058bb71b4bb9e6899051c19fcf8042243385341e0af5807856cb4b5"), looks := true }, kinds := [], alts := [], laidByText := true, laidKinds := [.data, .data, .data, .data, .sentinel, .sentinel, .pinned], laidTests := true, laidLooks := .later }
def RawListsCardSaid : Prop := Claim7.holds Tryz.pinned (.plain (OpenSpec.ofChange rawListsSpec)) rawListsCard

/-- THE TIED CARD OF 'ostlerlaw10.RawApart'. -/
def rawApartCard : Claim7 := { stood := { row := rawApartRow, standIns := [], harness := (true, "8bd9dc99b058bb71b4bb9e6899051c19fcf8042243385341e0af5807856cb4b5"), looks := true }, kinds := [], alts := [], laidByText := true, laidKinds := [.data, .data, .data, .data, .sentinel, .sentinel, .pinned], laidTests := true, laidLooks := .later }
def RawApartCardSaid : Prop := Claim7.holds Tryz.pinned (.plain (OpenSpec.ofChange rawApartSpec)) rawApartCard

/-- THE TIED CARD OF 'ostlerlaw10.RawOwn'. -/
def rawOwnCard : Claim7 := { stood := { row := rawOwnRow, standIns := [], harness := (true, "8bd9dc99b058bb71b4bb9e6899051c19fcf8042243385341e0af5807856cb4b5"), looks := true }, kinds := [], alts := [], laidByText := true, laidKinds := [.data, .data, .data, .data, .sentinel, .sentinel, .pinned], laidTests := true, laidLooks := .later }
def RawOwnCardSaid : Prop := Claim7.holds Tryz.pinned (.plain (OpenSpec.ofChange rawOwnSpec)) rawOwnCard

/-- THE SECOND FORM's CARD OF 'ostlerlaw09.UrlQueries'. -/
def urlQueriesUptoCard : Claim7 := { stood := { row := urlQueriesUptoRow, standIns := [], harness := (true, "8bd9dc99b058bb71b4bb9e6899051c19fcf8042243385341e0af5807856cb4b5"), looks := true }, kinds := [], alts := [], laidByText := true, laidKinds := [.data, .data, .data, .data, .sentinel, .sentinel, .pinned], laidTests := true, laidLooks := .later }
def UrlQueriesUptoCardSaid : Prop := Claim7.holds Tryz.pinned (.plain (OpenSpec.upto urlQueriesSpec)) urlQueriesUptoCard

/-- THE SECOND FORM's CARD OF 'ostlerlaw09.UrlBack'. -/
def urlBackUptoCard : Claim7 := { stood := { row := urlBackUptoRow, standIns := [], harness := (true, "8bd9dc99b058bb71b4bb9e6899051c19fcf8042243385341e0af5807856cb4b5"), looks := true }, kinds := [], alts := [], laidByText := true, laidKinds := [.data, .data, .data, .data, .sentinel, .sentinel, .pinned], laidTests := true, laidLooks := .later }
def UrlBackUptoCardSaid : Prop := Claim7.holds Tryz.pinned (.plain (OpenSpec.upto urlBackSpec)) urlBackUptoCard

/-- THE SECOND FORM's CARD OF 'ostlerlaw09.UrlOrder'. -/
def urlOrderUptoCard : Claim7 := { stood := { row := urlOrderUptoRow, standIns := [], harness := (true, "8bd9dc99b058bb71b4bb9e6899051c19fcf8042243385341e0af5807856cb4b5"), looks := true }, kinds := [], alts := [], laidByText := true, laidKinds := [.data, .data, .data, .data, .sentinel, .sentinel, .pinned], laidTests := true, laidLooks := .later }
def UrlOrderUptoCardSaid : Prop := Claim7.holds Tryz.pinned (.plain (OpenSpec.upto urlOrderSpec)) urlOrderUptoCard

/-- THE SECOND FORM's CARD OF 'ostlerlaw10.RawLists'. -/
def rawListsUptoCard : Claim7 := { stood := { row := rawListsUptoRow, standIns := [], harness := (true, "8bd9dc99b058bb71b4bb9e6899051c19fcf8042243385341e0af5807856cb4b5"), looks := true }, kinds := [], alts := [], laidByText := true, laidKinds := [.data, .data, .data, .data, .sentinel, .sentinel, .pinned], laidTests := true, laidLooks := .later }
def RawListsUptoCardSaid : Prop := Claim7.holds Tryz.pinned (.plain (OpenSpec.upto rawListsSpec)) rawListsUptoCard

/-- THE SECOND FORM's CARD OF 'ostlerlaw10.RawApart'. -/
def rawApartUptoCard : Claim7 := { stood := { row := rawApartUptoRow, standIns := [], harness := (true, "8bd9dc99b058bb71b4bb9e6899051c19fcf8042243385341e0af5807856cb4b5"), looks := true }, kinds := [], alts := [], laidByText := true, laidKinds := [.data, .data, .data, .data, .sentinel, .sentinel, .pinned], laidTests := true, laidLooks := .later }
def RawApartUptoCardSaid : Prop := Claim7.holds Tryz.pinned (.plain (OpenSpec.upto rawApartSpec)) rawApartUptoCard

/-- THE SECOND FORM's CARD OF 'ostlerlaw10.RawOwn'. -/
def rawOwnUptoCard : Claim7 := { stood := { row := rawOwnUptoRow, standIns := [], harness := (true, "8bd9dc99b058bb71b4bb9e6899051c19fcf8042243385341e0af5807856cb4b5"), looks := true }, kinds := [], alts := [], laidByText := true, laidKinds := [.data, .data, .data, .data, .sentinel, .sentinel, .pinned], laidTests := true, laidLooks := .later }
def RawOwnUptoCardSaid : Prop := Claim7.holds Tryz.pinned (.plain (OpenSpec.upto rawOwnSpec)) rawOwnUptoCard
end Rows
end Go.Proofs.YtgpemnmopogppaaGreatDoor
