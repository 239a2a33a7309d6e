/- The closed facts of the row of UrlCodes. -/
import Derived.Test.YthdnflklhhfojaaGreatDoorShut
namespace Go.Proofs.YthdnflklhhfojaaGreatDoor
namespace ucodes
set_option maxRecDepth 1000000 in
theorem part0 : (Rows.urlCodesUptoRow.wf (OpenSpec.ofChange (Rows.OpenSpec.upto Rows.urlCodesSpec).bare) && laidOutB Tryz.prog && mapsRowed Tryz.prog) = true := by kernel_rfl
set_option maxRecDepth 1000000 in
theorem part1 : (Tryz.f3.params.all (Tryz.prog.readableRec ·) && namedTie Tryz.prog Rows.urlCodesUptoRow.named (Rows.OpenSpec.upto Rows.urlCodesSpec).bare.vars) = true := by kernel_rfl
set_option maxRecDepth 1000000 in
theorem part2 : ((Rows.urlCodesUptoRow.stops == []) && (Tryz.prog.stops == []) && (Rows.urlCodesUptoRow.knobs == []) && (Tryz.prog.stopKnobs == [])) = true := by kernel_rfl
set_option maxRecDepth 1000000 in
theorem part3 : (Rows.urlCodesUptoRow.inPlace == Tryz.prog.inPlace 3) = true := by kernel_rfl
set_option maxRecDepth 1000000 in
theorem part4 : (Rows.urlCodesUptoRow.unfollowed == Tryz.prog.unfollowed 3) = true := by kernel_rfl
set_option maxRecDepth 1000000 in
theorem part5 : (Rows.urlCodesUptoRow.recurses == Tryz.prog.recurses 3) = true := by kernel_rfl
set_option maxRecDepth 1000000 in
theorem part6 : (Rows.urlCodesUptoRow.named == Tryz.prog.varsNamed 3) = true := by kernel_rfl
set_option maxRecDepth 1000000 in
theorem part7 : ((Rows.urlCodesUptoRow.maps == (Tryz.f3.params.toList ++ (Rows.OpenSpec.upto Rows.urlCodesSpec).bare.plain.varTypes Tryz.prog).any (Tryz.prog.mapsRec ·)) && (Rows.urlCodesUptoRow.ifaces == (Tryz.f3.params.toList ++ (Rows.OpenSpec.upto Rows.urlCodesSpec).bare.plain.varTypes Tryz.prog).any (Tryz.prog.ifacesRec ·)) && (Rows.urlCodesUptoRow.mapsOut == Tryz.prog.mapsAmong Tryz.f3.resultTypes.toList)) = true := by kernel_rfl
set_option maxRecDepth 1000000 in
theorem part8 : ((Rows.urlCodesUptoRow.loops == (Tryz.f3.params.toList ++ (Rows.OpenSpec.upto Rows.urlCodesSpec).bare.plain.varTypes Tryz.prog).any (Tryz.prog.loopsFrom ·)) && (Rows.urlCodesUptoRow.wideKeys == (Tryz.f3.params.toList ++ (Rows.OpenSpec.upto Rows.urlCodesSpec).bare.plain.varTypes Tryz.prog ++ Tryz.f3.resultTypes.toList).any (Tryz.prog.wideKeysFrom ·))) = true := by kernel_rfl
set_option maxRecDepth 1000000 in
theorem part9 : ((Rows.OpenSpec.upto Rows.urlCodesSpec).bare.vars.all (Tryz.prog.varReadable ·) && Tryz.f3.resultTypes.all (fun t => Tryz.prog.readableRec t && decide (t < Tryz.prog.types.size)) && (Rows.urlCodesUptoRow.ifacesOut == Tryz.f3.resultTypes.toList.any (Tryz.prog.ifacesRec ·)) && (Rows.urlCodesUptoRow.loopsOut == Tryz.f3.resultTypes.toList.any (Tryz.prog.loopsFrom ·)) && (Rows.urlCodesUptoRow.plainKeys == Tryz.prog.plainKeys) && Rows.urlCodesUptoRow.shortTexts.isNone) = true := by kernel_rfl
set_option maxRecDepth 1000000 in
theorem part10 : Tryz.prog.stopsHeard = true := by kernel_rfl
set_option maxRecDepth 1000000 in
theorem part11 : Tryz.prog.mayEnter = true := by kernel_rfl
set_option maxRecDepth 1000000 in
theorem part12 : ((Rows.urlCodesUptoRow.lifted == Tryz.prog.liftsFinal) && (Tryz.prog.make == some Rows.urlCodesUptoRow.make)) = true := by kernel_rfl
set_option maxRecDepth 1000000 in
theorem part13 : ((Rows.urlCodesUptoRow.kinds == kindsOf Tryz.prog Tryz.f3 Rows.urlCodesUptoRow) && (Rows.urlCodesUptoRow.pinned == Rows.urlCodesUptoRow.pinnedBy)) = true := by kernel_rfl
set_option maxRecDepth 1000000 in
theorem part14 : ((Rows.urlCodesUptoRow.veiled == (Tryz.f3.params.toList ++ (Rows.OpenSpec.upto Rows.urlCodesSpec).bare.plain.varTypes Tryz.prog ++ Tryz.f3.resultTypes.toList).any (Tryz.prog.veiledRec ·)) && Rows.urlCodesUptoRow.veiledFits Tryz.prog Tryz.f3.params.toList (Tryz.f3.params.toList ++ (Rows.OpenSpec.upto Rows.urlCodesSpec).bare.plain.varTypes Tryz.prog ++ Tryz.f3.resultTypes.toList)) = true := by kernel_rfl
theorem closed : joinedFacts Tryz.pinned.checked.prog 3 Tryz.f3 (Rows.OpenSpec.upto Rows.urlCodesSpec).bare Rows.urlCodesUptoRow = true := joined_of (P := Tryz.prog) part0 part1 part2 part3 part4 part5 part6 part7 part8 part9 part10 part11 part12 part13 part14
end ucodes
end Go.Proofs.YthdnflklhhfojaaGreatDoor
