/- The closed facts of the row of StrsBack. -/
import Derived.Test.YtgjnmfjiolpikaaGreatDoorShut
namespace Go.Proofs.YtgjnmfjiolpikaaGreatDoor
namespace sback
set_option maxRecDepth 1000000 in
theorem part0 : (Rows.strsBackRow.wf (OpenSpec.ofChange (OpenSpec.ofChange Rows.strsBackSpec).bare) && laidOutB Tryz.prog && mapsRowed Tryz.prog) = true := by kernel_rfl
set_option maxRecDepth 1000000 in
theorem part1 : (Tryz.f3.params.all (Tryz.prog.readableRec ·) && namedTie Tryz.prog Rows.strsBackRow.named (OpenSpec.ofChange Rows.strsBackSpec).bare.vars) = true := by kernel_rfl
set_option maxRecDepth 1000000 in
theorem part2 : ((Rows.strsBackRow.stops == []) && (Tryz.prog.stops == []) && (Rows.strsBackRow.knobs == []) && (Tryz.prog.stopKnobs == [])) = true := by kernel_rfl
set_option maxRecDepth 1000000 in
theorem part3 : (Rows.strsBackRow.inPlace == Tryz.prog.inPlace 3) = true := by kernel_rfl
set_option maxRecDepth 1000000 in
theorem part4 : (Rows.strsBackRow.unfollowed == Tryz.prog.unfollowed 3) = true := by kernel_rfl
set_option maxRecDepth 1000000 in
theorem part5 : (Rows.strsBackRow.recurses == Tryz.prog.recurses 3) = true := by kernel_rfl
set_option maxRecDepth 1000000 in
theorem part6 : (Rows.strsBackRow.named == Tryz.prog.varsNamed 3) = true := by kernel_rfl
set_option maxRecDepth 1000000 in
theorem part7 : ((Rows.strsBackRow.maps == (Tryz.f3.params.toList ++ (OpenSpec.ofChange Rows.strsBackSpec).bare.plain.varTypes Tryz.prog).any (Tryz.prog.mapsRec ·)) && (Rows.strsBackRow.ifaces == (Tryz.f3.params.toList ++ (OpenSpec.ofChange Rows.strsBackSpec).bare.plain.varTypes Tryz.prog).any (Tryz.prog.ifacesRec ·)) && (Rows.strsBackRow.mapsOut == Tryz.prog.mapsAmong Tryz.f3.resultTypes.toList)) = true := by kernel_rfl
set_option maxRecDepth 1000000 in
theorem part8 : ((Rows.strsBackRow.loops == (Tryz.f3.params.toList ++ (OpenSpec.ofChange Rows.strsBackSpec).bare.plain.varTypes Tryz.prog).any (Tryz.prog.loopsFrom ·)) && (Rows.strsBackRow.wideKeys == (Tryz.f3.params.toList ++ (OpenSpec.ofChange Rows.strsBackSpec).bare.plain.varTypes Tryz.prog ++ Tryz.f3.resultTypes.toList).any (Tryz.prog.wideKeysFrom ·))) = true := by kernel_rfl
set_option maxRecDepth 1000000 in
theorem part9 : ((OpenSpec.ofChange Rows.strsBackSpec).bare.vars.all (Tryz.prog.varReadable ·) && Tryz.f3.resultTypes.all (fun t => Tryz.prog.readableRec t && decide (t < Tryz.prog.types.size)) && (Rows.strsBackRow.ifacesOut == Tryz.f3.resultTypes.toList.any (Tryz.prog.ifacesRec ·)) && (Rows.strsBackRow.loopsOut == Tryz.f3.resultTypes.toList.any (Tryz.prog.loopsFrom ·)) && (Rows.strsBackRow.plainKeys == Tryz.prog.plainKeys) && Rows.strsBackRow.shortTexts.isNone) = true := by kernel_rfl
set_option maxRecDepth 1000000 in
theorem part10 : Tryz.prog.stopsHeard = true := by kernel_rfl
set_option maxRecDepth 1000000 in
theorem part11 : Tryz.prog.mayEnter = true := by kernel_rfl
set_option maxRecDepth 1000000 in
theorem part12 : ((Rows.strsBackRow.lifted == Tryz.prog.liftsFinal) && (Tryz.prog.make == some Rows.strsBackRow.make)) = true := by kernel_rfl
set_option maxRecDepth 1000000 in
theorem part13 : ((Rows.strsBackRow.kinds == kindsOf Tryz.prog Tryz.f3 Rows.strsBackRow) && (Rows.strsBackRow.pinned == Rows.strsBackRow.pinnedBy)) = true := by kernel_rfl
set_option maxRecDepth 1000000 in
theorem part14 : ((Rows.strsBackRow.veiled == (Tryz.f3.params.toList ++ (OpenSpec.ofChange Rows.strsBackSpec).bare.plain.varTypes Tryz.prog ++ Tryz.f3.resultTypes.toList).any (Tryz.prog.veiledRec ·)) && Rows.strsBackRow.veiledFits Tryz.prog Tryz.f3.params.toList (Tryz.f3.params.toList ++ (OpenSpec.ofChange Rows.strsBackSpec).bare.plain.varTypes Tryz.prog ++ Tryz.f3.resultTypes.toList)) = true := by kernel_rfl
theorem closed : joinedFacts Tryz.pinned.checked.prog 3 Tryz.f3 (OpenSpec.ofChange Rows.strsBackSpec).bare Rows.strsBackRow = true := joined_of (P := Tryz.prog) part0 part1 part2 part3 part4 part5 part6 part7 part8 part9 part10 part11 part12 part13 part14
end sback
end Go.Proofs.YtgjnmfjiolpikaaGreatDoor
