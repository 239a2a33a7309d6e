/- The closed facts of the row of DeepOwn. -/
import Derived.Test.YtnbhaokbaonjkaaGreatDoorShut
namespace Go.Proofs.YtnbhaokbaonjkaaGreatDoor
namespace downs
set_option maxRecDepth 1000000 in
theorem part0 : (Rows.deepOwnRow.wf (OpenSpec.ofChange (OpenSpec.ofChange Rows.deepOwnSpec).bare) && laidOutB Tryz.prog && mapsRowed Tryz.prog) = true := by kernel_rfl
set_option maxRecDepth 1000000 in
theorem part1 : (Tryz.f3.params.all (Tryz.prog.readableRec ·) && namedTie Tryz.prog Rows.deepOwnRow.named (OpenSpec.ofChange Rows.deepOwnSpec).bare.vars) = true := by kernel_rfl
set_option maxRecDepth 1000000 in
theorem part2 : ((Rows.deepOwnRow.stops == []) && (Tryz.prog.stops == []) && (Rows.deepOwnRow.knobs == []) && (Tryz.prog.stopKnobs == [])) = true := by kernel_rfl
set_option maxRecDepth 1000000 in
theorem part3 : (Rows.deepOwnRow.inPlace == Tryz.prog.inPlace 3) = true := by kernel_rfl
set_option maxRecDepth 1000000 in
theorem part4 : (Rows.deepOwnRow.unfollowed == Tryz.prog.unfollowed 3) = true := by kernel_rfl
set_option maxRecDepth 1000000 in
theorem part5 : (Rows.deepOwnRow.recurses == Tryz.prog.recurses 3) = true := by kernel_rfl
set_option maxRecDepth 1000000 in
theorem part6 : (Rows.deepOwnRow.named == Tryz.prog.varsNamed 3) = true := by kernel_rfl
set_option maxRecDepth 1000000 in
theorem part7 : ((Rows.deepOwnRow.maps == (Tryz.f3.params.toList ++ (OpenSpec.ofChange Rows.deepOwnSpec).bare.plain.varTypes Tryz.prog).any (Tryz.prog.mapsRec ·)) && (Rows.deepOwnRow.ifaces == (Tryz.f3.params.toList ++ (OpenSpec.ofChange Rows.deepOwnSpec).bare.plain.varTypes Tryz.prog).any (Tryz.prog.ifacesRec ·)) && (Rows.deepOwnRow.mapsOut == Tryz.prog.mapsAmong Tryz.f3.resultTypes.toList)) = true := by kernel_rfl
set_option maxRecDepth 1000000 in
theorem part8 : ((Rows.deepOwnRow.loops == (Tryz.f3.params.toList ++ (OpenSpec.ofChange Rows.deepOwnSpec).bare.plain.varTypes Tryz.prog).any (Tryz.prog.loopsFrom ·)) && (Rows.deepOwnRow.wideKeys == (Tryz.f3.params.toList ++ (OpenSpec.ofChange Rows.deepOwnSpec).bare.plain.varTypes Tryz.prog ++ Tryz.f3.resultTypes.toList).any (Tryz.prog.wideKeysFrom ·))) = true := by kernel_rfl
set_option maxRecDepth 1000000 in
theorem part9 : ((OpenSpec.ofChange Rows.deepOwnSpec).bare.vars.all (Tryz.prog.varReadable ·) && Tryz.f3.resultTypes.all (fun t => Tryz.prog.readableRec t && decide (t < Tryz.prog.types.size)) && (Rows.deepOwnRow.ifacesOut == Tryz.f3.resultTypes.toList.any (Tryz.prog.ifacesRec ·)) && (Rows.deepOwnRow.loopsOut == Tryz.f3.resultTypes.toList.any (Tryz.prog.loopsFrom ·)) && (Rows.deepOwnRow.plainKeys == Tryz.prog.plainKeys) && Rows.deepOwnRow.shortTexts.isNone) = true := by kernel_rfl
set_option maxRecDepth 1000000 in
theorem part10 : Tryz.prog.stopsHeard = true := by kernel_rfl
set_option maxRecDepth 1000000 in
theorem part11 : Tryz.prog.mayEnter = true := by kernel_rfl
set_option maxRecDepth 1000000 in
theorem part12 : ((Rows.deepOwnRow.lifted == Tryz.prog.liftsFinal) && (Tryz.prog.make == some Rows.deepOwnRow.make)) = true := by kernel_rfl
set_option maxRecDepth 1000000 in
theorem part13 : ((Rows.deepOwnRow.kinds == kindsOf Tryz.prog Tryz.f3 Rows.deepOwnRow) && (Rows.deepOwnRow.pinned == Rows.deepOwnRow.pinnedBy)) = true := by kernel_rfl
set_option maxRecDepth 1000000 in
theorem part14 : ((Rows.deepOwnRow.veiled == (Tryz.f3.params.toList ++ (OpenSpec.ofChange Rows.deepOwnSpec).bare.plain.varTypes Tryz.prog ++ Tryz.f3.resultTypes.toList).any (Tryz.prog.veiledRec ·)) && Rows.deepOwnRow.veiledFits Tryz.prog Tryz.f3.params.toList (Tryz.f3.params.toList ++ (OpenSpec.ofChange Rows.deepOwnSpec).bare.plain.varTypes Tryz.prog ++ Tryz.f3.resultTypes.toList)) = true := by kernel_rfl
theorem closed : joinedFacts Tryz.pinned.checked.prog 3 Tryz.f3 (OpenSpec.ofChange Rows.deepOwnSpec).bare Rows.deepOwnRow = true := joined_of (P := Tryz.prog) part0 part1 part2 part3 part4 part5 part6 part7 part8 part9 part10 part11 part12 part13 part14
end downs
end Go.Proofs.YtnbhaokbaonjkaaGreatDoor
