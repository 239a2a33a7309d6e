/- The closed facts of the row of ArrsNames. -/
import Derived.Test.YtgnfmcjfoheccaaGreatDoorShut
namespace Go.Proofs.YtgnfmcjfoheccaaGreatDoor
namespace anames
set_option maxRecDepth 1000000 in
theorem part0 : (Rows.arrsNamesRow.wf (OpenSpec.ofChange (OpenSpec.ofChange Rows.arrsNamesSpec).bare) && laidOutB Tryz.prog && mapsRowed Tryz.prog) = true := by kernel_rfl
set_option maxRecDepth 1000000 in
theorem part1 : (Tryz.f5.params.all (Tryz.prog.readableRec ·) && namedTie Tryz.prog Rows.arrsNamesRow.named (OpenSpec.ofChange Rows.arrsNamesSpec).bare.vars) = true := by kernel_rfl
set_option maxRecDepth 1000000 in
theorem part2 : ((Rows.arrsNamesRow.stops == []) && (Tryz.prog.stops == []) && (Rows.arrsNamesRow.knobs == []) && (Tryz.prog.stopKnobs == [])) = true := by kernel_rfl
set_option maxRecDepth 1000000 in
theorem part3 : (Rows.arrsNamesRow.inPlace == Tryz.prog.inPlace 5) = true := by kernel_rfl
set_option maxRecDepth 1000000 in
theorem part4 : (Rows.arrsNamesRow.unfollowed == Tryz.prog.unfollowed 5) = true := by kernel_rfl
set_option maxRecDepth 1000000 in
theorem part5 : (Rows.arrsNamesRow.recurses == Tryz.prog.recurses 5) = true := by kernel_rfl
set_option maxRecDepth 1000000 in
theorem part6 : (Rows.arrsNamesRow.named == Tryz.prog.varsNamed 5) = true := by kernel_rfl
set_option maxRecDepth 1000000 in
theorem part7 : ((Rows.arrsNamesRow.maps == (Tryz.f5.params.toList ++ (OpenSpec.ofChange Rows.arrsNamesSpec).bare.plain.varTypes Tryz.prog).any (Tryz.prog.mapsRec ·)) && (Rows.arrsNamesRow.ifaces == (Tryz.f5.params.toList ++ (OpenSpec.ofChange Rows.arrsNamesSpec).bare.plain.varTypes Tryz.prog).any (Tryz.prog.ifacesRec ·)) && (Rows.arrsNamesRow.mapsOut == Tryz.prog.mapsAmong Tryz.f5.resultTypes.toList)) = true := by kernel_rfl
set_option maxRecDepth 1000000 in
theorem part8 : ((Rows.arrsNamesRow.loops == (Tryz.f5.params.toList ++ (OpenSpec.ofChange Rows.arrsNamesSpec).bare.plain.varTypes Tryz.prog).any (Tryz.prog.loopsFrom ·)) && (Rows.arrsNamesRow.wideKeys == (Tryz.f5.params.toList ++ (OpenSpec.ofChange Rows.arrsNamesSpec).bare.plain.varTypes Tryz.prog ++ Tryz.f5.resultTypes.toList).any (Tryz.prog.wideKeysFrom ·))) = true := by kernel_rfl
set_option maxRecDepth 1000000 in
theorem part9 : ((OpenSpec.ofChange Rows.arrsNamesSpec).bare.vars.all (Tryz.prog.varReadable ·) && Tryz.f5.resultTypes.all (fun t => Tryz.prog.readableRec t && decide (t < Tryz.prog.types.size)) && (Rows.arrsNamesRow.ifacesOut == Tryz.f5.resultTypes.toList.any (Tryz.prog.ifacesRec ·)) && (Rows.arrsNamesRow.loopsOut == Tryz.f5.resultTypes.toList.any (Tryz.prog.loopsFrom ·)) && (Rows.arrsNamesRow.plainKeys == Tryz.prog.plainKeys) && Rows.arrsNamesRow.shortTexts.isNone) = true := by kernel_rfl
set_option maxRecDepth 1000000 in
theorem part10 : Tryz.prog.stopsHeard = true := by kernel_rfl
set_option maxRecDepth 1000000 in
theorem part11 : Tryz.prog.mayEnter = true := by kernel_rfl
set_option maxRecDepth 1000000 in
theorem part12 : ((Rows.arrsNamesRow.lifted == Tryz.prog.liftsFinal) && (Tryz.prog.make == some Rows.arrsNamesRow.make)) = true := by kernel_rfl
set_option maxRecDepth 1000000 in
theorem part13 : ((Rows.arrsNamesRow.kinds == kindsOf Tryz.prog Tryz.f5 Rows.arrsNamesRow) && (Rows.arrsNamesRow.pinned == Rows.arrsNamesRow.pinnedBy)) = true := by kernel_rfl
set_option maxRecDepth 1000000 in
theorem part14 : ((Rows.arrsNamesRow.veiled == (Tryz.f5.params.toList ++ (OpenSpec.ofChange Rows.arrsNamesSpec).bare.plain.varTypes Tryz.prog ++ Tryz.f5.resultTypes.toList).any (Tryz.prog.veiledRec ·)) && Rows.arrsNamesRow.veiledFits Tryz.prog Tryz.f5.params.toList (Tryz.f5.params.toList ++ (OpenSpec.ofChange Rows.arrsNamesSpec).bare.plain.varTypes Tryz.prog ++ Tryz.f5.resultTypes.toList)) = true := by kernel_rfl
theorem closed : joinedFacts Tryz.pinned.checked.prog 5 Tryz.f5 (OpenSpec.ofChange Rows.arrsNamesSpec).bare Rows.arrsNamesRow = true := joined_of (P := Tryz.prog) part0 part1 part2 part3 part4 part5 part6 part7 part8 part9 part10 part11 part12 part13 part14
end anames
end Go.Proofs.YtgnfmcjfoheccaaGreatDoor
