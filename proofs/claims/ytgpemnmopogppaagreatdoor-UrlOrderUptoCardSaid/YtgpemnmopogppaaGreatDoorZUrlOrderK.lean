/- The closed facts of the row of UrlOrder. -/
import Derived.Test.YtgpemnmopogppaaGreatDoorZShut
namespace Go.Proofs.YtgpemnmopogppaaGreatDoor
namespace uorder
set_option maxRecDepth 1000000 in
theorem part0 : (Rows.urlOrderUptoRow.wf (OpenSpec.ofChange (Rows.OpenSpec.upto Rows.urlOrderSpec).bare) && laidOutB Tryz.prog && mapsRowed Tryz.prog) = true := by kernel_rfl
set_option maxRecDepth 1000000 in
theorem part1 : (Tryz.f5.params.all (Tryz.prog.readableRec ·) && namedTie Tryz.prog Rows.urlOrderUptoRow.named (Rows.OpenSpec.upto Rows.urlOrderSpec).bare.vars) = true := by kernel_rfl
set_option maxRecDepth 1000000 in
theorem part2 : ((Rows.urlOrderUptoRow.stops == []) && (Tryz.prog.stops == []) && (Rows.urlOrderUptoRow.knobs == []) && (Tryz.prog.stopKnobs == [])) = true := by kernel_rfl
set_option maxRecDepth 1000000 in
theorem part3 : (Rows.urlOrderUptoRow.inPlace == Tryz.prog.inPlace 5) = true := by kernel_rfl
set_option maxRecDepth 1000000 in
theorem part4 : (Rows.urlOrderUptoRow.unfollowed == Tryz.prog.unfollowed 5) = true := by kernel_rfl
set_option maxRecDepth 1000000 in
theorem part5 : (Rows.urlOrderUptoRow.recurses == Tryz.prog.recurses 5) = true := by kernel_rfl
set_option maxRecDepth 1000000 in
theorem part6 : (Rows.urlOrderUptoRow.named == Tryz.prog.varsNamed 5) = true := by kernel_rfl
set_option maxRecDepth 1000000 in
theorem part7 : ((Rows.urlOrderUptoRow.maps == (Tryz.f5.params.toList ++ (Rows.OpenSpec.upto Rows.urlOrderSpec).bare.plain.varTypes Tryz.prog).any (Tryz.prog.mapsRec ·)) && (Rows.urlOrderUptoRow.ifaces == (Tryz.f5.params.toList ++ (Rows.OpenSpec.upto Rows.urlOrderSpec).bare.plain.varTypes Tryz.prog).any (Tryz.prog.ifacesRec ·)) && (Rows.urlOrderUptoRow.mapsOut == Tryz.prog.mapsAmong Tryz.f5.resultTypes.toList)) = true := by kernel_rfl
set_option maxRecDepth 1000000 in
theorem part8 : ((Rows.urlOrderUptoRow.loops == (Tryz.f5.params.toList ++ (Rows.OpenSpec.upto Rows.urlOrderSpec).bare.plain.varTypes Tryz.prog).any (Tryz.prog.loopsFrom ·)) && (Rows.urlOrderUptoRow.wideKeys == (Tryz.f5.params.toList ++ (Rows.OpenSpec.upto Rows.urlOrderSpec).bare.plain.varTypes Tryz.prog ++ Tryz.f5.resultTypes.toList).any (Tryz.prog.wideKeysFrom ·))) = true := by kernel_rfl
set_option maxRecDepth 1000000 in
theorem part9 : ((Rows.OpenSpec.upto Rows.urlOrderSpec).bare.vars.all (Tryz.prog.varReadable ·) && Tryz.f5.resultTypes.all (fun t => Tryz.prog.readableRec t && decide (t < Tryz.prog.types.size)) && (Rows.urlOrderUptoRow.ifacesOut == Tryz.f5.resultTypes.toList.any (Tryz.prog.ifacesRec ·)) && (Rows.urlOrderUptoRow.loopsOut == Tryz.f5.resultTypes.toList.any (Tryz.prog.loopsFrom ·)) && (Rows.urlOrderUptoRow.plainKeys == Tryz.prog.plainKeys) && Rows.urlOrderUptoRow.shortTexts.isNone) = true := by kernel_rfl
set_option maxRecDepth 1000000 in
theorem part10 : Tryz.prog.stopsHeard = true := by kernel_rfl
set_option maxRecDepth 1000000 in
theorem part11 : Tryz.prog.mayEnter = true := by kernel_rfl
set_option maxRecDepth 1000000 in
theorem part12 : ((Rows.urlOrderUptoRow.lifted == Tryz.prog.liftsFinal) && (Tryz.prog.make == some Rows.urlOrderUptoRow.make)) = true := by kernel_rfl
set_option maxRecDepth 1000000 in
theorem part13 : ((Rows.urlOrderUptoRow.kinds == kindsOf Tryz.prog Tryz.f5 Rows.urlOrderUptoRow) && (Rows.urlOrderUptoRow.pinned == Rows.urlOrderUptoRow.pinnedBy)) = true := by kernel_rfl
set_option maxRecDepth 1000000 in
theorem part14 : ((Rows.urlOrderUptoRow.veiled == (Tryz.f5.params.toList ++ (Rows.OpenSpec.upto Rows.urlOrderSpec).bare.plain.varTypes Tryz.prog ++ Tryz.f5.resultTypes.toList).any (Tryz.prog.veiledRec ·)) && Rows.urlOrderUptoRow.veiledFits Tryz.prog Tryz.f5.params.toList (Tryz.f5.params.toList ++ (Rows.OpenSpec.upto Rows.urlOrderSpec).bare.plain.varTypes Tryz.prog ++ Tryz.f5.resultTypes.toList)) = true := by kernel_rfl
theorem closed : joinedFacts Tryz.pinned.checked.prog 5 Tryz.f5 (Rows.OpenSpec.upto Rows.urlOrderSpec).bare Rows.urlOrderUptoRow = true := joined_of (P := Tryz.prog) part0 part1 part2 part3 part4 part5 part6 part7 part8 part9 part10 part11 part12 part13 part14
end uorder
end Go.Proofs.YtgpemnmopogppaaGreatDoor
