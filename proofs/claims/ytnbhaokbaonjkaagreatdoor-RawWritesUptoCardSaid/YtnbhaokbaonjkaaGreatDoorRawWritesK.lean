/- The closed facts of the row of RawWrites. -/
import Derived.Test.YtnbhaokbaonjkaaGreatDoorShut
namespace Go.Proofs.YtnbhaokbaonjkaaGreatDoor
namespace rwrites
set_option maxRecDepth 1000000 in
theorem part0 : (Rows.rawWritesUptoRow.wf (OpenSpec.ofChange (Rows.OpenSpec.upto Rows.rawWritesSpec).bare) && laidOutB Tryz.prog && mapsRowed Tryz.prog) = true := by kernel_rfl
set_option maxRecDepth 1000000 in
theorem part1 : (Tryz.f4.params.all (Tryz.prog.readableRec ·) && namedTie Tryz.prog Rows.rawWritesUptoRow.named (Rows.OpenSpec.upto Rows.rawWritesSpec).bare.vars) = true := by kernel_rfl
set_option maxRecDepth 1000000 in
theorem part2 : ((Rows.rawWritesUptoRow.stops == []) && (Tryz.prog.stops == []) && (Rows.rawWritesUptoRow.knobs == []) && (Tryz.prog.stopKnobs == [])) = true := by kernel_rfl
set_option maxRecDepth 1000000 in
theorem part3 : (Rows.rawWritesUptoRow.inPlace == Tryz.prog.inPlace 4) = true := by kernel_rfl
set_option maxRecDepth 1000000 in
theorem part4 : (Rows.rawWritesUptoRow.unfollowed == Tryz.prog.unfollowed 4) = true := by kernel_rfl
set_option maxRecDepth 1000000 in
theorem part5 : (Rows.rawWritesUptoRow.recurses == Tryz.prog.recurses 4) = true := by kernel_rfl
set_option maxRecDepth 1000000 in
theorem part6 : (Rows.rawWritesUptoRow.named == Tryz.prog.varsNamed 4) = true := by kernel_rfl
set_option maxRecDepth 1000000 in
theorem part7 : ((Rows.rawWritesUptoRow.maps == (Tryz.f4.params.toList ++ (Rows.OpenSpec.upto Rows.rawWritesSpec).bare.plain.varTypes Tryz.prog).any (Tryz.prog.mapsRec ·)) && (Rows.rawWritesUptoRow.ifaces == (Tryz.f4.params.toList ++ (Rows.OpenSpec.upto Rows.rawWritesSpec).bare.plain.varTypes Tryz.prog).any (Tryz.prog.ifacesRec ·)) && (Rows.rawWritesUptoRow.mapsOut == Tryz.prog.mapsAmong Tryz.f4.resultTypes.toList)) = true := by kernel_rfl
set_option maxRecDepth 1000000 in
theorem part8 : ((Rows.rawWritesUptoRow.loops == (Tryz.f4.params.toList ++ (Rows.OpenSpec.upto Rows.rawWritesSpec).bare.plain.varTypes Tryz.prog).any (Tryz.prog.loopsFrom ·)) && (Rows.rawWritesUptoRow.wideKeys == (Tryz.f4.params.toList ++ (Rows.OpenSpec.upto Rows.rawWritesSpec).bare.plain.varTypes Tryz.prog ++ Tryz.f4.resultTypes.toList).any (Tryz.prog.wideKeysFrom ·))) = true := by kernel_rfl
set_option maxRecDepth 1000000 in
theorem part9 : ((Rows.OpenSpec.upto Rows.rawWritesSpec).bare.vars.all (Tryz.prog.varReadable ·) && Tryz.f4.resultTypes.all (fun t => Tryz.prog.readableRec t && decide (t < Tryz.prog.types.size)) && (Rows.rawWritesUptoRow.ifacesOut == Tryz.f4.resultTypes.toList.any (Tryz.prog.ifacesRec ·)) && (Rows.rawWritesUptoRow.loopsOut == Tryz.f4.resultTypes.toList.any (Tryz.prog.loopsFrom ·)) && (Rows.rawWritesUptoRow.plainKeys == Tryz.prog.plainKeys) && Rows.rawWritesUptoRow.shortTexts.isNone) = true := by kernel_rfl
set_option maxRecDepth 1000000 in
theorem part10 : Tryz.prog.stopsHeard = true := by kernel_rfl
set_option maxRecDepth 1000000 in
theorem part11 : Tryz.prog.mayEnter = true := by kernel_rfl
set_option maxRecDepth 1000000 in
theorem part12 : ((Rows.rawWritesUptoRow.lifted == Tryz.prog.liftsFinal) && (Tryz.prog.make == some Rows.rawWritesUptoRow.make)) = true := by kernel_rfl
set_option maxRecDepth 1000000 in
theorem part13 : ((Rows.rawWritesUptoRow.kinds == kindsOf Tryz.prog Tryz.f4 Rows.rawWritesUptoRow) && (Rows.rawWritesUptoRow.pinned == Rows.rawWritesUptoRow.pinnedBy)) = true := by kernel_rfl
set_option maxRecDepth 1000000 in
theorem part14 : ((Rows.rawWritesUptoRow.veiled == (Tryz.f4.params.toList ++ (Rows.OpenSpec.upto Rows.rawWritesSpec).bare.plain.varTypes Tryz.prog ++ Tryz.f4.resultTypes.toList).any (Tryz.prog.veiledRec ·)) && Rows.rawWritesUptoRow.veiledFits Tryz.prog Tryz.f4.params.toList (Tryz.f4.params.toList ++ (Rows.OpenSpec.upto Rows.rawWritesSpec).bare.plain.varTypes Tryz.prog ++ Tryz.f4.resultTypes.toList)) = true := by kernel_rfl
theorem closed : joinedFacts Tryz.pinned.checked.prog 4 Tryz.f4 (Rows.OpenSpec.upto Rows.rawWritesSpec).bare Rows.rawWritesUptoRow = true := joined_of (P := Tryz.prog) part0 part1 part2 part3 part4 part5 part6 part7 part8 part9 part10 part11 part12 part13 part14
end rwrites
end Go.Proofs.YtnbhaokbaonjkaaGreatDoor
