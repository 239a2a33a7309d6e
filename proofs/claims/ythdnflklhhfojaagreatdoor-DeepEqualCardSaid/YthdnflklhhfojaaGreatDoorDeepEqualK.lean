/- The closed facts of the row of DeepEqual. -/
import Derived.Test.YthdnflklhhfojaaGreatDoorShut
namespace Go.Proofs.YthdnflklhhfojaaGreatDoor
namespace dequal
set_option maxRecDepth 1000000 in
theorem part0 : (Rows.deepEqualRow.wf (OpenSpec.ofChange (OpenSpec.ofChange Rows.deepEqualSpec).bare) && laidOutB Tryz.prog && mapsRowed Tryz.prog) = true := by kernel_rfl
set_option maxRecDepth 1000000 in
theorem part1 : (Tryz.f9.params.all (Tryz.prog.readableRec ·) && namedTie Tryz.prog Rows.deepEqualRow.named (OpenSpec.ofChange Rows.deepEqualSpec).bare.vars) = true := by kernel_rfl
set_option maxRecDepth 1000000 in
theorem part2 : ((Rows.deepEqualRow.stops == []) && (Tryz.prog.stops == []) && (Rows.deepEqualRow.knobs == []) && (Tryz.prog.stopKnobs == [])) = true := by kernel_rfl
set_option maxRecDepth 1000000 in
theorem part3 : (Rows.deepEqualRow.inPlace == Tryz.prog.inPlace 9) = true := by kernel_rfl
set_option maxRecDepth 1000000 in
theorem part4 : (Rows.deepEqualRow.unfollowed == Tryz.prog.unfollowed 9) = true := by kernel_rfl
set_option maxRecDepth 1000000 in
theorem part5 : (Rows.deepEqualRow.recurses == Tryz.prog.recurses 9) = true := by kernel_rfl
set_option maxRecDepth 1000000 in
theorem part6 : (Rows.deepEqualRow.named == Tryz.prog.varsNamed 9) = true := by kernel_rfl
set_option maxRecDepth 1000000 in
theorem part7 : ((Rows.deepEqualRow.maps == (Tryz.f9.params.toList ++ (OpenSpec.ofChange Rows.deepEqualSpec).bare.plain.varTypes Tryz.prog).any (Tryz.prog.mapsRec ·)) && (Rows.deepEqualRow.ifaces == (Tryz.f9.params.toList ++ (OpenSpec.ofChange Rows.deepEqualSpec).bare.plain.varTypes Tryz.prog).any (Tryz.prog.ifacesRec ·)) && (Rows.deepEqualRow.mapsOut == Tryz.prog.mapsAmong Tryz.f9.resultTypes.toList)) = true := by kernel_rfl
set_option maxRecDepth 1000000 in
theorem part8 : ((Rows.deepEqualRow.loops == (Tryz.f9.params.toList ++ (OpenSpec.ofChange Rows.deepEqualSpec).bare.plain.varTypes Tryz.prog).any (Tryz.prog.loopsFrom ·)) && (Rows.deepEqualRow.wideKeys == (Tryz.f9.params.toList ++ (OpenSpec.ofChange Rows.deepEqualSpec).bare.plain.varTypes Tryz.prog ++ Tryz.f9.resultTypes.toList).any (Tryz.prog.wideKeysFrom ·))) = true := by kernel_rfl
set_option maxRecDepth 1000000 in
theorem part9 : ((OpenSpec.ofChange Rows.deepEqualSpec).bare.vars.all (Tryz.prog.varReadable ·) && Tryz.f9.resultTypes.all (fun t => Tryz.prog.readableRec t && decide (t < Tryz.prog.types.size)) && (Rows.deepEqualRow.ifacesOut == Tryz.f9.resultTypes.toList.any (Tryz.prog.ifacesRec ·)) && (Rows.deepEqualRow.loopsOut == Tryz.f9.resultTypes.toList.any (Tryz.prog.loopsFrom ·)) && (Rows.deepEqualRow.plainKeys == Tryz.prog.plainKeys) && Rows.deepEqualRow.shortTexts.isNone) = true := by kernel_rfl
set_option maxRecDepth 1000000 in
theorem part10 : Tryz.prog.stopsHeard = true := by kernel_rfl
set_option maxRecDepth 1000000 in
theorem part11 : Tryz.prog.mayEnter = true := by kernel_rfl
set_option maxRecDepth 1000000 in
theorem part12 : ((Rows.deepEqualRow.lifted == Tryz.prog.liftsFinal) && (Tryz.prog.make == some Rows.deepEqualRow.make)) = true := by kernel_rfl
set_option maxRecDepth 1000000 in
theorem part13 : ((Rows.deepEqualRow.kinds == kindsOf Tryz.prog Tryz.f9 Rows.deepEqualRow) && (Rows.deepEqualRow.pinned == Rows.deepEqualRow.pinnedBy)) = true := by kernel_rfl
set_option maxRecDepth 1000000 in
theorem part14 : ((Rows.deepEqualRow.veiled == (Tryz.f9.params.toList ++ (OpenSpec.ofChange Rows.deepEqualSpec).bare.plain.varTypes Tryz.prog ++ Tryz.f9.resultTypes.toList).any (Tryz.prog.veiledRec ·)) && Rows.deepEqualRow.veiledFits Tryz.prog Tryz.f9.params.toList (Tryz.f9.params.toList ++ (OpenSpec.ofChange Rows.deepEqualSpec).bare.plain.varTypes Tryz.prog ++ Tryz.f9.resultTypes.toList)) = true := by kernel_rfl
theorem closed : joinedFacts Tryz.pinned.checked.prog 9 Tryz.f9 (OpenSpec.ofChange Rows.deepEqualSpec).bare Rows.deepEqualRow = true := joined_of (P := Tryz.prog) part0 part1 part2 part3 part4 part5 part6 part7 part8 part9 part10 part11 part12 part13 part14
end dequal
end Go.Proofs.YthdnflklhhfojaaGreatDoor
