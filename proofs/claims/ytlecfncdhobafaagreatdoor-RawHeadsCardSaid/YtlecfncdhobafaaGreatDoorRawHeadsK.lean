/- The closed facts of the row of RawHeads. -/
import Derived.Test.YtlecfncdhobafaaGreatDoorShut
namespace Go.Proofs.YtlecfncdhobafaaGreatDoor
namespace rheads
set_option maxRecDepth 1000000 in
theorem part0 : (Rows.rawHeadsRow.wf (OpenSpec.ofChange (OpenSpec.ofChange Rows.rawHeadsSpec).bare) && laidOutB Tryz.prog && mapsRowed Tryz.prog) = true := by kernel_rfl
set_option maxRecDepth 1000000 in
theorem part1 : (Tryz.f6.params.all (Tryz.prog.readableRec ·) && namedTie Tryz.prog Rows.rawHeadsRow.named (OpenSpec.ofChange Rows.rawHeadsSpec).bare.vars) = true := by kernel_rfl
set_option maxRecDepth 1000000 in
theorem part2 : ((Rows.rawHeadsRow.stops == []) && (Tryz.prog.stops == []) && (Rows.rawHeadsRow.knobs == []) && (Tryz.prog.stopKnobs == [])) = true := by kernel_rfl
set_option maxRecDepth 1000000 in
theorem part3 : (Rows.rawHeadsRow.inPlace == Tryz.prog.inPlace 6) = true := by kernel_rfl
set_option maxRecDepth 1000000 in
theorem part4 : (Rows.rawHeadsRow.unfollowed == Tryz.prog.unfollowed 6) = true := by kernel_rfl
set_option maxRecDepth 1000000 in
theorem part5 : (Rows.rawHeadsRow.recurses == Tryz.prog.recurses 6) = true := by kernel_rfl
set_option maxRecDepth 1000000 in
theorem part6 : (Rows.rawHeadsRow.named == Tryz.prog.varsNamed 6) = true := by kernel_rfl
set_option maxRecDepth 1000000 in
theorem part7 : ((Rows.rawHeadsRow.maps == (Tryz.f6.params.toList ++ (OpenSpec.ofChange Rows.rawHeadsSpec).bare.plain.varTypes Tryz.prog).any (Tryz.prog.mapsRec ·)) && (Rows.rawHeadsRow.ifaces == (Tryz.f6.params.toList ++ (OpenSpec.ofChange Rows.rawHeadsSpec).bare.plain.varTypes Tryz.prog).any (Tryz.prog.ifacesRec ·)) && (Rows.rawHeadsRow.mapsOut == Tryz.prog.mapsAmong Tryz.f6.resultTypes.toList)) = true := by kernel_rfl
set_option maxRecDepth 1000000 in
theorem part8 : ((Rows.rawHeadsRow.loops == (Tryz.f6.params.toList ++ (OpenSpec.ofChange Rows.rawHeadsSpec).bare.plain.varTypes Tryz.prog).any (Tryz.prog.loopsFrom ·)) && (Rows.rawHeadsRow.wideKeys == (Tryz.f6.params.toList ++ (OpenSpec.ofChange Rows.rawHeadsSpec).bare.plain.varTypes Tryz.prog ++ Tryz.f6.resultTypes.toList).any (Tryz.prog.wideKeysFrom ·))) = true := by kernel_rfl
set_option maxRecDepth 1000000 in
theorem part9 : ((OpenSpec.ofChange Rows.rawHeadsSpec).bare.vars.all (Tryz.prog.varReadable ·) && Tryz.f6.resultTypes.all (fun t => Tryz.prog.readableRec t && decide (t < Tryz.prog.types.size)) && (Rows.rawHeadsRow.ifacesOut == Tryz.f6.resultTypes.toList.any (Tryz.prog.ifacesRec ·)) && (Rows.rawHeadsRow.loopsOut == Tryz.f6.resultTypes.toList.any (Tryz.prog.loopsFrom ·)) && (Rows.rawHeadsRow.plainKeys == Tryz.prog.plainKeys) && Rows.rawHeadsRow.shortTexts.isNone) = true := by kernel_rfl
set_option maxRecDepth 1000000 in
theorem part10 : Tryz.prog.stopsHeard = true := by kernel_rfl
set_option maxRecDepth 1000000 in
theorem part11 : Tryz.prog.mayEnter = true := by kernel_rfl
set_option maxRecDepth 1000000 in
theorem part12 : ((Rows.rawHeadsRow.lifted == Tryz.prog.liftsFinal) && (Tryz.prog.make == some Rows.rawHeadsRow.make)) = true := by kernel_rfl
set_option maxRecDepth 1000000 in
theorem part13 : ((Rows.rawHeadsRow.kinds == kindsOf Tryz.prog Tryz.f6 Rows.rawHeadsRow) && (Rows.rawHeadsRow.pinned == Rows.rawHeadsRow.pinnedBy)) = true := by kernel_rfl
set_option maxRecDepth 1000000 in
theorem part14 : ((Rows.rawHeadsRow.veiled == (Tryz.f6.params.toList ++ (OpenSpec.ofChange Rows.rawHeadsSpec).bare.plain.varTypes Tryz.prog ++ Tryz.f6.resultTypes.toList).any (Tryz.prog.veiledRec ·)) && Rows.rawHeadsRow.veiledFits Tryz.prog Tryz.f6.params.toList (Tryz.f6.params.toList ++ (OpenSpec.ofChange Rows.rawHeadsSpec).bare.plain.varTypes Tryz.prog ++ Tryz.f6.resultTypes.toList)) = true := by kernel_rfl
theorem closed : joinedFacts Tryz.pinned.checked.prog 6 Tryz.f6 (OpenSpec.ofChange Rows.rawHeadsSpec).bare Rows.rawHeadsRow = true := joined_of (P := Tryz.prog) part0 part1 part2 part3 part4 part5 part6 part7 part8 part9 part10 part11 part12 part13 part14
end rheads
end Go.Proofs.YtlecfncdhobafaaGreatDoor
