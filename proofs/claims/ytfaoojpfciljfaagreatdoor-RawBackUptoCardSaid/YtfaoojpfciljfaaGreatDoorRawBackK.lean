/- The closed facts of the row of RawBack. -/
import Derived.Test.YtfaoojpfciljfaaGreatDoorShut
namespace Go.Proofs.YtfaoojpfciljfaaGreatDoor
namespace rback
set_option maxRecDepth 1000000 in
theorem part0 : (Rows.rawBackUptoRow.wf (OpenSpec.ofChange (Rows.OpenSpec.upto Rows.rawBackSpec).bare) && laidOutB Tryz.prog && mapsRowed Tryz.prog) = true := by kernel_rfl
set_option maxRecDepth 1000000 in
theorem part1 : (Tryz.f11.params.all (Tryz.prog.readableRec ·) && namedTie Tryz.prog Rows.rawBackUptoRow.named (Rows.OpenSpec.upto Rows.rawBackSpec).bare.vars) = true := by kernel_rfl
set_option maxRecDepth 1000000 in
theorem part2 : ((Rows.rawBackUptoRow.stops == []) && (Tryz.prog.stops == []) && (Rows.rawBackUptoRow.knobs == []) && (Tryz.prog.stopKnobs == [])) = true := by kernel_rfl
set_option maxRecDepth 1000000 in
theorem part3 : (Rows.rawBackUptoRow.inPlace == Tryz.prog.inPlace 11) = true := by kernel_rfl
set_option maxRecDepth 1000000 in
theorem part4 : (Rows.rawBackUptoRow.unfollowed == Tryz.prog.unfollowed 11) = true := by kernel_rfl
set_option maxRecDepth 1000000 in
theorem part5 : (Rows.rawBackUptoRow.recurses == Tryz.prog.recurses 11) = true := by kernel_rfl
set_option maxRecDepth 1000000 in
theorem part6 : (Rows.rawBackUptoRow.named == Tryz.prog.varsNamed 11) = true := by kernel_rfl
set_option maxRecDepth 1000000 in
theorem part7 : ((Rows.rawBackUptoRow.maps == (Tryz.f11.params.toList ++ (Rows.OpenSpec.upto Rows.rawBackSpec).bare.plain.varTypes Tryz.prog).any (Tryz.prog.mapsRec ·)) && (Rows.rawBackUptoRow.ifaces == (Tryz.f11.params.toList ++ (Rows.OpenSpec.upto Rows.rawBackSpec).bare.plain.varTypes Tryz.prog).any (Tryz.prog.ifacesRec ·)) && (Rows.rawBackUptoRow.mapsOut == Tryz.prog.mapsAmong Tryz.f11.resultTypes.toList)) = true := by kernel_rfl
set_option maxRecDepth 1000000 in
theorem part8 : ((Rows.rawBackUptoRow.loops == (Tryz.f11.params.toList ++ (Rows.OpenSpec.upto Rows.rawBackSpec).bare.plain.varTypes Tryz.prog).any (Tryz.prog.loopsFrom ·)) && (Rows.rawBackUptoRow.wideKeys == (Tryz.f11.params.toList ++ (Rows.OpenSpec.upto Rows.rawBackSpec).bare.plain.varTypes Tryz.prog ++ Tryz.f11.resultTypes.toList).any (Tryz.prog.wideKeysFrom ·))) = true := by kernel_rfl
set_option maxRecDepth 1000000 in
theorem part9 : ((Rows.OpenSpec.upto Rows.rawBackSpec).bare.vars.all (Tryz.prog.varReadable ·) && Tryz.f11.resultTypes.all (fun t => Tryz.prog.readableRec t && decide (t < Tryz.prog.types.size)) && (Rows.rawBackUptoRow.ifacesOut == Tryz.f11.resultTypes.toList.any (Tryz.prog.ifacesRec ·)) && (Rows.rawBackUptoRow.loopsOut == Tryz.f11.resultTypes.toList.any (Tryz.prog.loopsFrom ·)) && (Rows.rawBackUptoRow.plainKeys == Tryz.prog.plainKeys) && Rows.rawBackUptoRow.shortTexts.isNone) = true := by kernel_rfl
set_option maxRecDepth 1000000 in
theorem part10 : Tryz.prog.stopsHeard = true := by kernel_rfl
set_option maxRecDepth 1000000 in
theorem part11 : Tryz.prog.mayEnter = true := by kernel_rfl
set_option maxRecDepth 1000000 in
theorem part12 : ((Rows.rawBackUptoRow.lifted == Tryz.prog.liftsFinal) && (Tryz.prog.make == some Rows.rawBackUptoRow.make)) = true := by kernel_rfl
set_option maxRecDepth 1000000 in
theorem part13 : ((Rows.rawBackUptoRow.kinds == kindsOf Tryz.prog Tryz.f11 Rows.rawBackUptoRow) && (Rows.rawBackUptoRow.pinned == Rows.rawBackUptoRow.pinnedBy)) = true := by kernel_rfl
set_option maxRecDepth 1000000 in
theorem part14 : ((Rows.rawBackUptoRow.veiled == (Tryz.f11.params.toList ++ (Rows.OpenSpec.upto Rows.rawBackSpec).bare.plain.varTypes Tryz.prog ++ Tryz.f11.resultTypes.toList).any (Tryz.prog.veiledRec ·)) && Rows.rawBackUptoRow.veiledFits Tryz.prog Tryz.f11.params.toList (Tryz.f11.params.toList ++ (Rows.OpenSpec.upto Rows.rawBackSpec).bare.plain.varTypes Tryz.prog ++ Tryz.f11.resultTypes.toList)) = true := by kernel_rfl
theorem closed : joinedFacts Tryz.pinned.checked.prog 11 Tryz.f11 (Rows.OpenSpec.upto Rows.rawBackSpec).bare Rows.rawBackUptoRow = true := joined_of (P := Tryz.prog) part0 part1 part2 part3 part4 part5 part6 part7 part8 part9 part10 part11 part12 part13 part14
end rback
end Go.Proofs.YtfaoojpfciljfaaGreatDoor
