/- The closed facts of the row of RawLists. -/
import Derived.Test.YtgpemnmopogppaaGreatDoorZShut
namespace Go.Proofs.YtgpemnmopogppaaGreatDoor
namespace rlists
set_option maxRecDepth 1000000 in
theorem part0 : (Rows.rawListsUptoRow.wf (OpenSpec.ofChange (Rows.OpenSpec.upto Rows.rawListsSpec).bare) && laidOutB Tryz.prog && mapsRowed Tryz.prog) = true := by kernel_rfl
set_option maxRecDepth 1000000 in
theorem part1 : (Tryz.f6.params.all (Tryz.prog.readableRec ·) && namedTie Tryz.prog Rows.rawListsUptoRow.named (Rows.OpenSpec.upto Rows.rawListsSpec).bare.vars) = true := by kernel_rfl
set_option maxRecDepth 1000000 in
theorem part2 : ((Rows.rawListsUptoRow.stops == []) && (Tryz.prog.stops == []) && (Rows.rawListsUptoRow.knobs == []) && (Tryz.prog.stopKnobs == [])) = true := by kernel_rfl
set_option maxRecDepth 1000000 in
theorem part3 : (Rows.rawListsUptoRow.inPlace == Tryz.prog.inPlace 6) = true := by kernel_rfl
set_option maxRecDepth 1000000 in
theorem part4 : (Rows.rawListsUptoRow.unfollowed == Tryz.prog.unfollowed 6) = true := by kernel_rfl
set_option maxRecDepth 1000000 in
theorem part5 : (Rows.rawListsUptoRow.recurses == Tryz.prog.recurses 6) = true := by kernel_rfl
set_option maxRecDepth 1000000 in
theorem part6 : (Rows.rawListsUptoRow.named == Tryz.prog.varsNamed 6) = true := by kernel_rfl
set_option maxRecDepth 1000000 in
theorem part7 : ((Rows.rawListsUptoRow.maps == (Tryz.f6.params.toList ++ (Rows.OpenSpec.upto Rows.rawListsSpec).bare.plain.varTypes Tryz.prog).any (Tryz.prog.mapsRec ·)) && (Rows.rawListsUptoRow.ifaces == (Tryz.f6.params.toList ++ (Rows.OpenSpec.upto Rows.rawListsSpec).bare.plain.varTypes Tryz.prog).any (Tryz.prog.ifacesRec ·)) && (Rows.rawListsUptoRow.mapsOut == Tryz.prog.mapsAmong Tryz.f6.resultTypes.toList)) = true := by kernel_rfl
set_option maxRecDepth 1000000 in
theorem part8 : ((Rows.rawListsUptoRow.loops == (Tryz.f6.params.toList ++ (Rows.OpenSpec.upto Rows.rawListsSpec).bare.plain.varTypes Tryz.prog).any (Tryz.prog.loopsFrom ·)) && (Rows.rawListsUptoRow.wideKeys == (Tryz.f6.params.toList ++ (Rows.OpenSpec.upto Rows.rawListsSpec).bare.plain.varTypes Tryz.prog ++ Tryz.f6.resultTypes.toList).any (Tryz.prog.wideKeysFrom ·))) = true := by kernel_rfl
set_option maxRecDepth 1000000 in
theorem part9 : ((Rows.OpenSpec.upto Rows.rawListsSpec).bare.vars.all (Tryz.prog.varReadable ·) && Tryz.f6.resultTypes.all (fun t => Tryz.prog.readableRec t && decide (t < Tryz.prog.types.size)) && (Rows.rawListsUptoRow.ifacesOut == Tryz.f6.resultTypes.toList.any (Tryz.prog.ifacesRec ·)) && (Rows.rawListsUptoRow.loopsOut == Tryz.f6.resultTypes.toList.any (Tryz.prog.loopsFrom ·)) && (Rows.rawListsUptoRow.plainKeys == Tryz.prog.plainKeys) && Rows.rawListsUptoRow.shortTexts.isNone) = true := by kernel_rfl
set_option maxRecDepth 1000000 in
theorem part10 : Tryz.prog.stopsHeard = true := by kernel_rfl
set_option maxRecDepth 1000000 in
theorem part11 : Tryz.prog.mayEnter = true := by kernel_rfl
set_option maxRecDepth 1000000 in
theorem part12 : ((Rows.rawListsUptoRow.lifted == Tryz.prog.liftsFinal) && (Tryz.prog.make == some Rows.rawListsUptoRow.make)) = true := by kernel_rfl
set_option maxRecDepth 1000000 in
theorem part13 : ((Rows.rawListsUptoRow.kinds == kindsOf Tryz.prog Tryz.f6 Rows.rawListsUptoRow) && (Rows.rawListsUptoRow.pinned == Rows.rawListsUptoRow.pinnedBy)) = true := by kernel_rfl
set_option maxRecDepth 1000000 in
theorem part14 : ((Rows.rawListsUptoRow.veiled == (Tryz.f6.params.toList ++ (Rows.OpenSpec.upto Rows.rawListsSpec).bare.plain.varTypes Tryz.prog ++ Tryz.f6.resultTypes.toList).any (Tryz.prog.veiledRec ·)) && Rows.rawListsUptoRow.veiledFits Tryz.prog Tryz.f6.params.toList (Tryz.f6.params.toList ++ (Rows.OpenSpec.upto Rows.rawListsSpec).bare.plain.varTypes Tryz.prog ++ Tryz.f6.resultTypes.toList)) = true := by kernel_rfl
theorem closed : joinedFacts Tryz.pinned.checked.prog 6 Tryz.f6 (Rows.OpenSpec.upto Rows.rawListsSpec).bare Rows.rawListsUptoRow = true := joined_of (P := Tryz.prog) part0 part1 part2 part3 part4 part5 part6 part7 part8 part9 part10 part11 part12 part13 part14
end rlists
end Go.Proofs.YtgpemnmopogppaaGreatDoor
