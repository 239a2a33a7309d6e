/- The closed facts of the row of DeepOrders. -/
import Derived.Test.YthdnflklhhfojaaGreatDoorShut
namespace Go.Proofs.YthdnflklhhfojaaGreatDoor
namespace dorders
set_option maxRecDepth 1000000 in
theorem part0 : (Rows.deepOrdersRow.wf (OpenSpec.ofChange (OpenSpec.ofChange Rows.deepOrdersSpec).bare) && laidOutB Tryz.prog && mapsRowed Tryz.prog) = true := by kernel_rfl
set_option maxRecDepth 1000000 in
theorem part1 : (Tryz.f6.params.all (Tryz.prog.readableRec ·) && namedTie Tryz.prog Rows.deepOrdersRow.named (OpenSpec.ofChange Rows.deepOrdersSpec).bare.vars) = true := by kernel_rfl
set_option maxRecDepth 1000000 in
theorem part2 : ((Rows.deepOrdersRow.stops == []) && (Tryz.prog.stops == []) && (Rows.deepOrdersRow.knobs == []) && (Tryz.prog.stopKnobs == [])) = true := by kernel_rfl
set_option maxRecDepth 1000000 in
theorem part3 : (Rows.deepOrdersRow.inPlace == Tryz.prog.inPlace 6) = true := by kernel_rfl
set_option maxRecDepth 1000000 in
theorem part4 : (Rows.deepOrdersRow.unfollowed == Tryz.prog.unfollowed 6) = true := by kernel_rfl
set_option maxRecDepth 1000000 in
theorem part5 : (Rows.deepOrdersRow.recurses == Tryz.prog.recurses 6) = true := by kernel_rfl
set_option maxRecDepth 1000000 in
theorem part6 : (Rows.deepOrdersRow.named == Tryz.prog.varsNamed 6) = true := by kernel_rfl
set_option maxRecDepth 1000000 in
theorem part7 : ((Rows.deepOrdersRow.maps == (Tryz.f6.params.toList ++ (OpenSpec.ofChange Rows.deepOrdersSpec).bare.plain.varTypes Tryz.prog).any (Tryz.prog.mapsRec ·)) && (Rows.deepOrdersRow.ifaces == (Tryz.f6.params.toList ++ (OpenSpec.ofChange Rows.deepOrdersSpec).bare.plain.varTypes Tryz.prog).any (Tryz.prog.ifacesRec ·)) && (Rows.deepOrdersRow.mapsOut == Tryz.prog.mapsAmong Tryz.f6.resultTypes.toList)) = true := by kernel_rfl
set_option maxRecDepth 1000000 in
theorem part8 : ((Rows.deepOrdersRow.loops == (Tryz.f6.params.toList ++ (OpenSpec.ofChange Rows.deepOrdersSpec).bare.plain.varTypes Tryz.prog).any (Tryz.prog.loopsFrom ·)) && (Rows.deepOrdersRow.wideKeys == (Tryz.f6.params.toList ++ (OpenSpec.ofChange Rows.deepOrdersSpec).bare.plain.varTypes Tryz.prog ++ Tryz.f6.resultTypes.toList).any (Tryz.prog.wideKeysFrom ·))) = true := by kernel_rfl
set_option maxRecDepth 1000000 in
theorem part9 : ((OpenSpec.ofChange Rows.deepOrdersSpec).bare.vars.all (Tryz.prog.varReadable ·) && Tryz.f6.resultTypes.all (fun t => Tryz.prog.readableRec t && decide (t < Tryz.prog.types.size)) && (Rows.deepOrdersRow.ifacesOut == Tryz.f6.resultTypes.toList.any (Tryz.prog.ifacesRec ·)) && (Rows.deepOrdersRow.loopsOut == Tryz.f6.resultTypes.toList.any (Tryz.prog.loopsFrom ·)) && (Rows.deepOrdersRow.plainKeys == Tryz.prog.plainKeys) && Rows.deepOrdersRow.shortTexts.isNone) = true := by kernel_rfl
set_option maxRecDepth 1000000 in
theorem part10 : Tryz.prog.stopsHeard = true := by kernel_rfl
set_option maxRecDepth 1000000 in
theorem part11 : Tryz.prog.mayEnter = true := by kernel_rfl
set_option maxRecDepth 1000000 in
theorem part12 : ((Rows.deepOrdersRow.lifted == Tryz.prog.liftsFinal) && (Tryz.prog.make == some Rows.deepOrdersRow.make)) = true := by kernel_rfl
set_option maxRecDepth 1000000 in
theorem part13 : ((Rows.deepOrdersRow.kinds == kindsOf Tryz.prog Tryz.f6 Rows.deepOrdersRow) && (Rows.deepOrdersRow.pinned == Rows.deepOrdersRow.pinnedBy)) = true := by kernel_rfl
set_option maxRecDepth 1000000 in
theorem part14 : ((Rows.deepOrdersRow.veiled == (Tryz.f6.params.toList ++ (OpenSpec.ofChange Rows.deepOrdersSpec).bare.plain.varTypes Tryz.prog ++ Tryz.f6.resultTypes.toList).any (Tryz.prog.veiledRec ·)) && Rows.deepOrdersRow.veiledFits Tryz.prog Tryz.f6.params.toList (Tryz.f6.params.toList ++ (OpenSpec.ofChange Rows.deepOrdersSpec).bare.plain.varTypes Tryz.prog ++ Tryz.f6.resultTypes.toList)) = true := by kernel_rfl
theorem closed : joinedFacts Tryz.pinned.checked.prog 6 Tryz.f6 (OpenSpec.ofChange Rows.deepOrdersSpec).bare Rows.deepOrdersRow = true := joined_of (P := Tryz.prog) part0 part1 part2 part3 part4 part5 part6 part7 part8 part9 part10 part11 part12 part13 part14
end dorders
end Go.Proofs.YthdnflklhhfojaaGreatDoor
