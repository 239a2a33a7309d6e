/-
  DERIVED. GIVEN WITH THE SEED: THE CARDS: each row of YteajmgkdiioflaaGreatDoorRows.lean that lists a variable, with what it lists TIED to the program's text (the seventh form; the later family's looks); each row that meets fmt, with fmt's text TOLD by the authors' own Lean function (tested against real Go, not proved from fmt's source: count such statements apart). THE CARD IS WHAT COUNTS. Prove the row's statement (the work); the ties are given (YteajmgkdiioflaaGreatDoorTie.lean); close each card by the builder's one call (the guide's Derived/Test/ToyasCard.lean, 'card_holds'). Laid BY PROGRAM, IN A SANDBOX (cutbox-door.mjs). By AI agents, Wed Nov 11 2026. No macro, syntax, notation, axiom, sorry.
-/
import Derived.Test.YteajmgkdiioflaaGreatDoorRows
import GoSem.ClaimSeven
namespace Go.Proofs.YteajmgkdiioflaaGreatDoor
namespace Rows

/-- THE TIED CARD OF 'ostlerlaw02.WordRises'. -/
def wordRisesCard : Claim7 := { stood := { row := wordRisesRow, standIns := [], harness := (true, "bab78617619ff479bc69a23906dfbcb54adbcd91e4b7fcead24d9e062652932d"), looks := true }, kinds := [], alts := [], laidByText := true, laidKinds := [.data, .data, .data, .data, .sentinel, .sentinel, .data, .data, .pinned, .pinned], laidTests := true, laidLooks := .later }
def WordRisesCardSaid : Prop := Claim7.holds Tryz.pinned (.plain (OpenSpec.ofChange wordRisesSpec)) wordRisesCard

/-- THE TIED CARD OF 'ostlerlaw02.WordBlanks'. -/
def wordBlanksCard : Claim7 := { stood := { row := wordBlanksRow, standIns := [], harness := (true, "bab78617619ff479bc69a23906dfbcb54adbcd91e4b7fcead24d9e062652932d"), looks := true }, kinds := [], alts := [], laidByText := true, laidKinds := [.data, .data, .data, .data, .sentinel, .sentinel, .data, .data, .pinned, .pinned], laidTests := true, laidLooks := .later }
def WordBlanksCardSaid : Prop := Claim7.holds Tryz.pinned (.plain (OpenSpec.ofChange wordBlanksSpec)) wordBlanksCard

/-- THE TIED CARD OF 'ostlerlaw02.WordPlain'. -/
def wordPlainCard : Claim7 := { stood := { row := wordPlainRow, standIns := [], harness := (true, "bab78617619ff479bc69a23906dfbcb54adbcd91e4b7fcead24d9e062652932d"), looks := true }, kinds := [], alts := [], laidByText := true, laidKinds := [.data, .data, .data, .data, .sentinel, .sentinel, .data, .data, .pinned, .pinned], laidTests := true, laidLooks := .later }
def WordPlainCardSaid : Prop := Claim7.holds Tryz.pinned (.plain (OpenSpec.ofChange wordPlainSpec)) wordPlainCard

/-- THE TIED CARD OF 'ostlerlaw02.WordNames'. -/
def wordNamesCard : Claim7 := { stood := { row := wordNamesRow, standIns := [], harness := (true, "bab78617619ff479bc69a23906dfbcb54adbcd91e4b7fcead24d9e062652932d"), looks := true }, kinds := [], alts := [], laidByText := true, laidKinds := [.data, .data, .data, .data, .sentinel, .sentinel, .data, .data, .pinned, .pinned], laidTests := true, laidLooks := .later }
def WordNamesCardSaid : Prop := Claim7.holds Tryz.pinned (.plain (OpenSpec.ofChange wordNamesSpec)) wordNamesCard

/-- THE SECOND FORM's CARD OF 'ostlerlaw02.WordRises'. -/
def wordRisesUptoCard : Claim7 := { stood := { row := wordRisesUptoRow, standIns := [], harness := (true, "bab78617619ff479bc69a23906dfbcb54adbcd91e4b7fcead24d9e062652932d"), looks := true }, kinds := [], alts := [], laidByText := true, laidKinds := [.data, .data, .data, .data, .sentinel, .sentinel, .data, .data, .pinned, .pinned], laidTests := true, laidLooks := .later }
def WordRisesUptoCardSaid : Prop := Claim7.holds Tryz.pinned (.plain (OpenSpec.upto wordRisesSpec)) wordRisesUptoCard

/-- THE SECOND FORM's CARD OF 'ostlerlaw02.WordBlanks'. -/
def wordBlanksUptoCard : Claim7 := { stood := { row := wordBlanksUptoRow, standIns := [], harness := (true, "bab78617619ff479bc69a23906dfbcb54adbcd91e4b7fcead24d9e062652932d"), looks := true }, kinds := [], alts := [], laidByText := true, laidKinds := [.data, .data, .data, .data, .sentinel, .sentinel, .data, .data, .pinned, .pinned], laidTests := true, laidLooks := .later }
def WordBlanksUptoCardSaid : Prop := Claim7.holds Tryz.pinned (.plain (OpenSpec.upto wordBlanksSpec)) wordBlanksUptoCard

/-- THE SECOND FORM's CARD OF 'ostlerlaw02.WordPlain'. -/
def wordPlainUptoCard : Claim7 := { stood := { row := wordPlainUptoRow, standIns := [], harness := (true, "bab78617619ff479bc69a23906dfbcb54adbcd91e4b7fcead24d9e062652932d"), looks := true }, kinds := [], alts := [], laidByText := true, laidKinds := [.data, .data, .data, .data, .sentinel, .sentinel, .data, .data, .pinned, .pinned], laidTests := true, laidLooks := .later }
def WordPlainUptoCardSaid : Prop := Claim7.holds Tryz.pinned (.plain (OpenSpec.upto wordPlainSpec)) wordPlainUptoCard

/-- THE SECOND FORM's CARD OF 'ostlerlaw02.WordNames'. -/
def wordNamesUptoCard : Claim7 := { stood := { row := wordNamesUptoRow, standIns := [], harness := (true, "bab78617619ff479bc69a23906dfbcb54adbcd91e4b7fcead24d9e062652932d"), looks := true }, kinds := [], alts := [], laidByText := true, laidKinds := [.data, .data, .data, .data, .sentinel, .sentinel, .data, .data, .pinned, .pinned], laidTests := true, laidLooks := .later }
def WordNamesUptoCardSaid : Prop := Claim7.holds Tryz.pinned (.plain (OpenSpec.upto wordNamesSpec)) wordNamesUptoCard
end Rows
end Go.Proofs.YteajmgkdiioflaaGreatDoor
