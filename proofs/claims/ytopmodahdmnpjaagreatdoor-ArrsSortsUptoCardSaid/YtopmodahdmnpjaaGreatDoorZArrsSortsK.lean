/- The closed facts of the row of ArrsSorts. -/
import Derived.Test.YtopmodahdmnpjaaGreatDoorZShut
namespace Go.Proofs.YtopmodahdmnpjaaGreatDoor
namespace asorts
set_option maxRecDepth 1000000 in
theorem part0 : (Rows.arrsSortsUptoRow.wf (OpenSpec.ofChange (Rows.OpenSpec.upto Rows.arrsSortsSpec).bare) && laidOutB Tryz.prog && mapsRowed Tryz.prog) = true := by kernel_rfl
set_option maxRecDepth 1000000 in
theorem part1 : (Tryz.f4.params.all (Tryz.prog.readableRec ·) && namedTie Tryz.prog Rows.arrsSortsUptoRow.named (Rows.OpenSpec.upto Rows.arrsSortsSpec).bare.vars) = true := by kernel_rfl
set_option maxRecDepth 1000000 in
theorem part2 : ((Rows.arrsSortsUptoRow.stops == []) && (Tryz.prog.stops == []) && (Rows.arrsSortsUptoRow.knobs == []) && (Tryz.prog.stopKnobs == [])) = true := by kernel_rfl
set_option maxRecDepth 1000000 in
theorem part3 : (Rows.arrsSortsUptoRow.inPlace == Tryz.prog.inPlace 4) = true := by kernel_rfl
set_option maxRecDepth 1000000 in
theorem part4 : (Rows.arrsSortsUptoRow.unfollowed == Tryz.prog.unfollowed 4) = true := by kernel_rfl
set_option maxRecDepth 1000000 in
theorem part5 : (Rows.arrsSortsUptoRow.recurses == Tryz.prog.recurses 4) = true := by kernel_rfl
set_option maxRecDepth 1000000 in
theorem part6 : (Rows.arrsSortsUptoRow.named == Tryz.prog.varsNamed 4) = true := by kernel_rfl
set_option maxRecDepth 1000000 in
theorem part7 : ((Rows.arrsSortsUptoRow.maps == (Tryz.f4.params.toList ++ (Rows.OpenSpec.upto Rows.arrsSortsSpec).bare.plain.varTypes Tryz.prog).any (Tryz.prog.mapsRec ·)) && (Rows.arrsSortsUptoRow.ifaces == (Tryz.f4.params.toList ++ (Rows.OpenSpec.upto Rows.arrsSortsSpec).bare.plain.varTypes Tryz.prog).any (Tryz.prog.ifacesRec ·)) && (Rows.arrsSortsUptoRow.mapsOut == Tryz.prog.mapsAmong Tryz.f4.resultTypes.toList)) = true := by kernel_rfl
set_option maxRecDepth 1000000 in
theorem part8 : ((Rows.arrsSortsUptoRow.loops == (Tryz.f4.params.toList ++ (Rows.OpenSpec.upto Rows.arrsSortsSpec).bare.plain.varTypes Tryz.prog).any (Tryz.prog.loopsFrom ·)) && (Rows.arrsSortsUptoRow.wideKeys == (Tryz.f4.params.toList ++ (Rows.OpenSpec.upto Rows.arrsSortsSpec).bare.plain.varTypes Tryz.prog ++ Tryz.f4.resultTypes.toList).any (Tryz.prog.wideKeysFrom ·))) = true := by kernel_rfl
set_option maxRecDepth 1000000 in
theorem part9 : ((Rows.OpenSpec.upto Rows.arrsSortsSpec).bare.vars.all (Tryz.prog.varReadable ·) && Tryz.f4.resultTypes.all (fun t => Tryz.prog.readableRec t && decide (t < Tryz.prog.types.size)) && (Rows.arrsSortsUptoRow.ifacesOut == Tryz.f4.resultTypes.toList.any (Tryz.prog.ifacesRec ·)) && (Rows.arrsSortsUptoRow.loopsOut == Tryz.f4.resultTypes.toList.any (Tryz.prog.loopsFrom ·)) && (Rows.arrsSortsUptoRow.plainKeys == Tryz.prog.plainKeys) && Rows.arrsSortsUptoRow.shortTexts.isNone) = true := by kernel_rfl
set_option maxRecDepth 1000000 in
theorem part10 : Tryz.prog.stopsHeard = true := by kernel_rfl
set_option maxRecDepth 1000000 in
theorem part11 : Tryz.prog.mayEnter = true := by kernel_rfl
set_option maxRecDepth 1000000 in
theorem part12 : ((Rows.arrsSortsUptoRow.lifted == Tryz.prog.liftsFinal) && (Tryz.prog.make == some Rows.arrsSortsUptoRow.make)) = true := by kernel_rfl
set_option maxRecDepth 1000000 in
theorem part13 : ((Rows.arrsSortsUptoRow.kinds == kindsOf Tryz.prog Tryz.f4 Rows.arrsSortsUptoRow) && (Rows.arrsSortsUptoRow.pinned == Rows.arrsSortsUptoRow.pinnedBy)) = true := by kernel_rfl
set_option maxRecDepth 1000000 in
theorem part14 : ((Rows.arrsSortsUptoRow.veiled == (Tryz.f4.params.toList ++ (Rows.OpenSpec.upto Rows.arrsSortsSpec).bare.plain.varTypes Tryz.prog ++ Tryz.f4.resultTypes.toList).any (Tryz.prog.veiledRec ·)) && Rows.arrsSortsUptoRow.veiledFits Tryz.prog Tryz.f4.params.toList (Tryz.f4.params.toList ++ (Rows.OpenSpec.upto Rows.arrsSortsSpec).bare.plain.varTypes Tryz.prog ++ Tryz.f4.resultTypes.toList)) = true := by kernel_rfl
theorem closed : joinedFacts Tryz.pinned.checked.prog 4 Tryz.f4 (Rows.OpenSpec.upto Rows.arrsSortsSpec).bare Rows.arrsSortsUptoRow = true := joined_of (P := Tryz.prog) part0 part1 part2 part3 part4 part5 part6 part7 part8 part9 part10 part11 part12 part13 part14
end asorts
end Go.Proofs.YtopmodahdmnpjaaGreatDoor
