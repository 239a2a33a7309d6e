/- The closed facts of the row of DeepTold. -/
import Derived.Test.YthdnflklhhfojaaGreatDoorShut
namespace Go.Proofs.YthdnflklhhfojaaGreatDoor
namespace dtold
set_option maxRecDepth 1000000 in
theorem part0 : (Rows.deepToldUptoRow.wf (OpenSpec.ofChange (Rows.OpenSpec.upto Rows.deepToldSpec).bare) && laidOutB Tryz.prog && mapsRowed Tryz.prog) = true := by kernel_rfl
set_option maxRecDepth 1000000 in
theorem part1 : (Tryz.f8.params.all (Tryz.prog.readableRec ·) && namedTie Tryz.prog Rows.deepToldUptoRow.named (Rows.OpenSpec.upto Rows.deepToldSpec).bare.vars) = true := by kernel_rfl
set_option maxRecDepth 1000000 in
theorem part2 : ((Rows.deepToldUptoRow.stops == []) && (Tryz.prog.stops == []) && (Rows.deepToldUptoRow.knobs == []) && (Tryz.prog.stopKnobs == [])) = true := by kernel_rfl
set_option maxRecDepth 1000000 in
theorem part3 : (Rows.deepToldUptoRow.inPlace == Tryz.prog.inPlace 8) = true := by kernel_rfl
set_option maxRecDepth 1000000 in
theorem part4 : (Rows.deepToldUptoRow.unfollowed == Tryz.prog.unfollowed 8) = true := by kernel_rfl
set_option maxRecDepth 1000000 in
theorem part5 : (Rows.deepToldUptoRow.recurses == Tryz.prog.recurses 8) = true := by kernel_rfl
set_option maxRecDepth 1000000 in
theorem part6 : (Rows.deepToldUptoRow.named == Tryz.prog.varsNamed 8) = true := by kernel_rfl
set_option maxRecDepth 1000000 in
theorem part7 : ((Rows.deepToldUptoRow.maps == (Tryz.f8.params.toList ++ (Rows.OpenSpec.upto Rows.deepToldSpec).bare.plain.varTypes Tryz.prog).any (Tryz.prog.mapsRec ·)) && (Rows.deepToldUptoRow.ifaces == (Tryz.f8.params.toList ++ (Rows.OpenSpec.upto Rows.deepToldSpec).bare.plain.varTypes Tryz.prog).any (Tryz.prog.ifacesRec ·)) && (Rows.deepToldUptoRow.mapsOut == Tryz.prog.mapsAmong Tryz.f8.resultTypes.toList)) = true := by kernel_rfl
set_option maxRecDepth 1000000 in
theorem part8 : ((Rows.deepToldUptoRow.loops == (Tryz.f8.params.toList ++ (Rows.OpenSpec.upto Rows.deepToldSpec).bare.plain.varTypes Tryz.prog).any (Tryz.prog.loopsFrom ·)) && (Rows.deepToldUptoRow.wideKeys == (Tryz.f8.params.toList ++ (Rows.OpenSpec.upto Rows.deepToldSpec).bare.plain.varTypes Tryz.prog ++ Tryz.f8.resultTypes.toList).any (Tryz.prog.wideKeysFrom ·))) = true := by kernel_rfl
set_option maxRecDepth 1000000 in
theorem part9 : ((Rows.OpenSpec.upto Rows.deepToldSpec).bare.vars.all (Tryz.prog.varReadable ·) && Tryz.f8.resultTypes.all (fun t => Tryz.prog.readableRec t && decide (t < Tryz.prog.types.size)) && (Rows.deepToldUptoRow.ifacesOut == Tryz.f8.resultTypes.toList.any (Tryz.prog.ifacesRec ·)) && (Rows.deepToldUptoRow.loopsOut == Tryz.f8.resultTypes.toList.any (Tryz.prog.loopsFrom ·)) && (Rows.deepToldUptoRow.plainKeys == Tryz.prog.plainKeys) && Rows.deepToldUptoRow.shortTexts.isNone) = true := by kernel_rfl
set_option maxRecDepth 1000000 in
theorem part10 : Tryz.prog.stopsHeard = true := by kernel_rfl
set_option maxRecDepth 1000000 in
theorem part11 : Tryz.prog.mayEnter = true := by kernel_rfl
set_option maxRecDepth 1000000 in
theorem part12 : ((Rows.deepToldUptoRow.lifted == Tryz.prog.liftsFinal) && (Tryz.prog.make == some Rows.deepToldUptoRow.make)) = true := by kernel_rfl
set_option maxRecDepth 1000000 in
theorem part13 : ((Rows.deepToldUptoRow.kinds == kindsOf Tryz.prog Tryz.f8 Rows.deepToldUptoRow) && (Rows.deepToldUptoRow.pinned == Rows.deepToldUptoRow.pinnedBy)) = true := by kernel_rfl
set_option maxRecDepth 1000000 in
theorem part14 : ((Rows.deepToldUptoRow.veiled == (Tryz.f8.params.toList ++ (Rows.OpenSpec.upto Rows.deepToldSpec).bare.plain.varTypes Tryz.prog ++ Tryz.f8.resultTypes.toList).any (Tryz.prog.veiledRec ·)) && Rows.deepToldUptoRow.veiledFits Tryz.prog Tryz.f8.params.toList (Tryz.f8.params.toList ++ (Rows.OpenSpec.upto Rows.deepToldSpec).bare.plain.varTypes Tryz.prog ++ Tryz.f8.resultTypes.toList)) = true := by kernel_rfl
theorem closed : joinedFacts Tryz.pinned.checked.prog 8 Tryz.f8 (Rows.OpenSpec.upto Rows.deepToldSpec).bare Rows.deepToldUptoRow = true := joined_of (P := Tryz.prog) part0 part1 part2 part3 part4 part5 part6 part7 part8 part9 part10 part11 part12 part13 part14
end dtold
end Go.Proofs.YthdnflklhhfojaaGreatDoor
