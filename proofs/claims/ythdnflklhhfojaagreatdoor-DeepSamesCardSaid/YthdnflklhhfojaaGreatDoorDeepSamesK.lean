/- The closed facts of the row of DeepSames. -/
import Derived.Test.YthdnflklhhfojaaGreatDoorShut
namespace Go.Proofs.YthdnflklhhfojaaGreatDoor
namespace dsames
set_option maxRecDepth 1000000 in
theorem part0 : (Rows.deepSamesRow.wf (OpenSpec.ofChange (OpenSpec.ofChange Rows.deepSamesSpec).bare) && laidOutB Tryz.prog && mapsRowed Tryz.prog) = true := by kernel_rfl
set_option maxRecDepth 1000000 in
theorem part1 : (Tryz.f7.params.all (Tryz.prog.readableRec ·) && namedTie Tryz.prog Rows.deepSamesRow.named (OpenSpec.ofChange Rows.deepSamesSpec).bare.vars) = true := by kernel_rfl
set_option maxRecDepth 1000000 in
theorem part2 : ((Rows.deepSamesRow.stops == []) && (Tryz.prog.stops == []) && (Rows.deepSamesRow.knobs == []) && (Tryz.prog.stopKnobs == [])) = true := by kernel_rfl
set_option maxRecDepth 1000000 in
theorem part3 : (Rows.deepSamesRow.inPlace == Tryz.prog.inPlace 7) = true := by kernel_rfl
set_option maxRecDepth 1000000 in
theorem part4 : (Rows.deepSamesRow.unfollowed == Tryz.prog.unfollowed 7) = true := by kernel_rfl
set_option maxRecDepth 1000000 in
theorem part5 : (Rows.deepSamesRow.recurses == Tryz.prog.recurses 7) = true := by kernel_rfl
set_option maxRecDepth 1000000 in
theorem part6 : (Rows.deepSamesRow.named == Tryz.prog.varsNamed 7) = true := by kernel_rfl
set_option maxRecDepth 1000000 in
theorem part7 : ((Rows.deepSamesRow.maps == (Tryz.f7.params.toList ++ (OpenSpec.ofChange Rows.deepSamesSpec).bare.plain.varTypes Tryz.prog).any (Tryz.prog.mapsRec ·)) && (Rows.deepSamesRow.ifaces == (Tryz.f7.params.toList ++ (OpenSpec.ofChange Rows.deepSamesSpec).bare.plain.varTypes Tryz.prog).any (Tryz.prog.ifacesRec ·)) && (Rows.deepSamesRow.mapsOut == Tryz.prog.mapsAmong Tryz.f7.resultTypes.toList)) = true := by kernel_rfl
set_option maxRecDepth 1000000 in
theorem part8 : ((Rows.deepSamesRow.loops == (Tryz.f7.params.toList ++ (OpenSpec.ofChange Rows.deepSamesSpec).bare.plain.varTypes Tryz.prog).any (Tryz.prog.loopsFrom ·)) && (Rows.deepSamesRow.wideKeys == (Tryz.f7.params.toList ++ (OpenSpec.ofChange Rows.deepSamesSpec).bare.plain.varTypes Tryz.prog ++ Tryz.f7.resultTypes.toList).any (Tryz.prog.wideKeysFrom ·))) = true := by kernel_rfl
set_option maxRecDepth 1000000 in
theorem part9 : ((OpenSpec.ofChange Rows.deepSamesSpec).bare.vars.all (Tryz.prog.varReadable ·) && Tryz.f7.resultTypes.all (fun t => Tryz.prog.readableRec t && decide (t < Tryz.prog.types.size)) && (Rows.deepSamesRow.ifacesOut == Tryz.f7.resultTypes.toList.any (Tryz.prog.ifacesRec ·)) && (Rows.deepSamesRow.loopsOut == Tryz.f7.resultTypes.toList.any (Tryz.prog.loopsFrom ·)) && (Rows.deepSamesRow.plainKeys == Tryz.prog.plainKeys) && Rows.deepSamesRow.shortTexts.isNone) = true := by kernel_rfl
set_option maxRecDepth 1000000 in
theorem part10 : Tryz.prog.stopsHeard = true := by kernel_rfl
set_option maxRecDepth 1000000 in
theorem part11 : Tryz.prog.mayEnter = true := by kernel_rfl
set_option maxRecDepth 1000000 in
theorem part12 : ((Rows.deepSamesRow.lifted == Tryz.prog.liftsFinal) && (Tryz.prog.make == some Rows.deepSamesRow.make)) = true := by kernel_rfl
set_option maxRecDepth 1000000 in
theorem part13 : ((Rows.deepSamesRow.kinds == kindsOf Tryz.prog Tryz.f7 Rows.deepSamesRow) && (Rows.deepSamesRow.pinned == Rows.deepSamesRow.pinnedBy)) = true := by kernel_rfl
set_option maxRecDepth 1000000 in
theorem part14 : ((Rows.deepSamesRow.veiled == (Tryz.f7.params.toList ++ (OpenSpec.ofChange Rows.deepSamesSpec).bare.plain.varTypes Tryz.prog ++ Tryz.f7.resultTypes.toList).any (Tryz.prog.veiledRec ·)) && Rows.deepSamesRow.veiledFits Tryz.prog Tryz.f7.params.toList (Tryz.f7.params.toList ++ (OpenSpec.ofChange Rows.deepSamesSpec).bare.plain.varTypes Tryz.prog ++ Tryz.f7.resultTypes.toList)) = true := by kernel_rfl
theorem closed : joinedFacts Tryz.pinned.checked.prog 7 Tryz.f7 (OpenSpec.ofChange Rows.deepSamesSpec).bare Rows.deepSamesRow = true := joined_of (P := Tryz.prog) part0 part1 part2 part3 part4 part5 part6 part7 part8 part9 part10 part11 part12 part13 part14
end dsames
end Go.Proofs.YthdnflklhhfojaaGreatDoor
