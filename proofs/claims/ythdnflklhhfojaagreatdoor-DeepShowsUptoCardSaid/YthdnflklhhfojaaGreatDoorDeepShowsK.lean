/- The closed facts of the row of DeepShows. -/
import Derived.Test.YthdnflklhhfojaaGreatDoorShut
namespace Go.Proofs.YthdnflklhhfojaaGreatDoor
namespace dshows
set_option maxRecDepth 1000000 in
theorem part0 : (Rows.deepShowsUptoRow.wf (OpenSpec.ofChange (Rows.OpenSpec.upto Rows.deepShowsSpec).bare) && laidOutB Tryz.prog && mapsRowed Tryz.prog) = true := by kernel_rfl
set_option maxRecDepth 1000000 in
theorem part1 : (Tryz.f4.params.all (Tryz.prog.readableRec ·) && namedTie Tryz.prog Rows.deepShowsUptoRow.named (Rows.OpenSpec.upto Rows.deepShowsSpec).bare.vars) = true := by kernel_rfl
set_option maxRecDepth 1000000 in
theorem part2 : ((Rows.deepShowsUptoRow.stops == []) && (Tryz.prog.stops == []) && (Rows.deepShowsUptoRow.knobs == []) && (Tryz.prog.stopKnobs == [])) = true := by kernel_rfl
set_option maxRecDepth 1000000 in
theorem part3 : (Rows.deepShowsUptoRow.inPlace == Tryz.prog.inPlace 4) = true := by kernel_rfl
set_option maxRecDepth 1000000 in
theorem part4 : (Rows.deepShowsUptoRow.unfollowed == Tryz.prog.unfollowed 4) = true := by kernel_rfl
set_option maxRecDepth 1000000 in
theorem part5 : (Rows.deepShowsUptoRow.recurses == Tryz.prog.recurses 4) = true := by kernel_rfl
set_option maxRecDepth 1000000 in
theorem part6 : (Rows.deepShowsUptoRow.named == Tryz.prog.varsNamed 4) = true := by kernel_rfl
set_option maxRecDepth 1000000 in
theorem part7 : ((Rows.deepShowsUptoRow.maps == (Tryz.f4.params.toList ++ (Rows.OpenSpec.upto Rows.deepShowsSpec).bare.plain.varTypes Tryz.prog).any (Tryz.prog.mapsRec ·)) && (Rows.deepShowsUptoRow.ifaces == (Tryz.f4.params.toList ++ (Rows.OpenSpec.upto Rows.deepShowsSpec).bare.plain.varTypes Tryz.prog).any (Tryz.prog.ifacesRec ·)) && (Rows.deepShowsUptoRow.mapsOut == Tryz.prog.mapsAmong Tryz.f4.resultTypes.toList)) = true := by kernel_rfl
set_option maxRecDepth 1000000 in
theorem part8 : ((Rows.deepShowsUptoRow.loops == (Tryz.f4.params.toList ++ (Rows.OpenSpec.upto Rows.deepShowsSpec).bare.plain.varTypes Tryz.prog).any (Tryz.prog.loopsFrom ·)) && (Rows.deepShowsUptoRow.wideKeys == (Tryz.f4.params.toList ++ (Rows.OpenSpec.upto Rows.deepShowsSpec).bare.plain.varTypes Tryz.prog ++ Tryz.f4.resultTypes.toList).any (Tryz.prog.wideKeysFrom ·))) = true := by kernel_rfl
set_option maxRecDepth 1000000 in
theorem part9 : ((Rows.OpenSpec.upto Rows.deepShowsSpec).bare.vars.all (Tryz.prog.varReadable ·) && Tryz.f4.resultTypes.all (fun t => Tryz.prog.readableRec t && decide (t < Tryz.prog.types.size)) && (Rows.deepShowsUptoRow.ifacesOut == Tryz.f4.resultTypes.toList.any (Tryz.prog.ifacesRec ·)) && (Rows.deepShowsUptoRow.loopsOut == Tryz.f4.resultTypes.toList.any (Tryz.prog.loopsFrom ·)) && (Rows.deepShowsUptoRow.plainKeys == Tryz.prog.plainKeys) && Rows.deepShowsUptoRow.shortTexts.isNone) = true := by kernel_rfl
set_option maxRecDepth 1000000 in
theorem part10 : Tryz.prog.stopsHeard = true := by kernel_rfl
set_option maxRecDepth 1000000 in
theorem part11 : Tryz.prog.mayEnter = true := by kernel_rfl
set_option maxRecDepth 1000000 in
theorem part12 : ((Rows.deepShowsUptoRow.lifted == Tryz.prog.liftsFinal) && (Tryz.prog.make == some Rows.deepShowsUptoRow.make)) = true := by kernel_rfl
set_option maxRecDepth 1000000 in
theorem part13 : ((Rows.deepShowsUptoRow.kinds == kindsOf Tryz.prog Tryz.f4 Rows.deepShowsUptoRow) && (Rows.deepShowsUptoRow.pinned == Rows.deepShowsUptoRow.pinnedBy)) = true := by kernel_rfl
set_option maxRecDepth 1000000 in
theorem part14 : ((Rows.deepShowsUptoRow.veiled == (Tryz.f4.params.toList ++ (Rows.OpenSpec.upto Rows.deepShowsSpec).bare.plain.varTypes Tryz.prog ++ Tryz.f4.resultTypes.toList).any (Tryz.prog.veiledRec ·)) && Rows.deepShowsUptoRow.veiledFits Tryz.prog Tryz.f4.params.toList (Tryz.f4.params.toList ++ (Rows.OpenSpec.upto Rows.deepShowsSpec).bare.plain.varTypes Tryz.prog ++ Tryz.f4.resultTypes.toList)) = true := by kernel_rfl
theorem closed : joinedFacts Tryz.pinned.checked.prog 4 Tryz.f4 (Rows.OpenSpec.upto Rows.deepShowsSpec).bare Rows.deepShowsUptoRow = true := joined_of (P := Tryz.prog) part0 part1 part2 part3 part4 part5 part6 part7 part8 part9 part10 part11 part12 part13 part14
end dshows
end Go.Proofs.YthdnflklhhfojaaGreatDoor
