/- The closed facts of the row of ArrsChunks. -/
import Derived.Test.YtopmodahdmnpjaaGreatDoorZShut
namespace Go.Proofs.YtopmodahdmnpjaaGreatDoor
namespace achunks
set_option maxRecDepth 1000000 in
theorem part0 : (Rows.arrsChunksRow.wf (OpenSpec.ofChange (OpenSpec.ofChange Rows.arrsChunksSpec).bare) && laidOutB Tryz.prog && mapsRowed Tryz.prog) = true := by kernel_rfl
set_option maxRecDepth 1000000 in
theorem part1 : (Tryz.f3.params.all (Tryz.prog.readableRec ·) && namedTie Tryz.prog Rows.arrsChunksRow.named (OpenSpec.ofChange Rows.arrsChunksSpec).bare.vars) = true := by kernel_rfl
set_option maxRecDepth 1000000 in
theorem part2 : ((Rows.arrsChunksRow.stops == []) && (Tryz.prog.stops == []) && (Rows.arrsChunksRow.knobs == []) && (Tryz.prog.stopKnobs == [])) = true := by kernel_rfl
set_option maxRecDepth 1000000 in
theorem part3 : (Rows.arrsChunksRow.inPlace == Tryz.prog.inPlace 3) = true := by kernel_rfl
set_option maxRecDepth 1000000 in
theorem part4 : (Rows.arrsChunksRow.unfollowed == Tryz.prog.unfollowed 3) = true := by kernel_rfl
set_option maxRecDepth 1000000 in
theorem part5 : (Rows.arrsChunksRow.recurses == Tryz.prog.recurses 3) = true := by kernel_rfl
set_option maxRecDepth 1000000 in
theorem part6 : (Rows.arrsChunksRow.named == Tryz.prog.varsNamed 3) = true := by kernel_rfl
set_option maxRecDepth 1000000 in
theorem part7 : ((Rows.arrsChunksRow.maps == (Tryz.f3.params.toList ++ (OpenSpec.ofChange Rows.arrsChunksSpec).bare.plain.varTypes Tryz.prog).any (Tryz.prog.mapsRec ·)) && (Rows.arrsChunksRow.ifaces == (Tryz.f3.params.toList ++ (OpenSpec.ofChange Rows.arrsChunksSpec).bare.plain.varTypes Tryz.prog).any (Tryz.prog.ifacesRec ·)) && (Rows.arrsChunksRow.mapsOut == Tryz.prog.mapsAmong Tryz.f3.resultTypes.toList)) = true := by kernel_rfl
set_option maxRecDepth 1000000 in
theorem part8 : ((Rows.arrsChunksRow.loops == (Tryz.f3.params.toList ++ (OpenSpec.ofChange Rows.arrsChunksSpec).bare.plain.varTypes Tryz.prog).any (Tryz.prog.loopsFrom ·)) && (Rows.arrsChunksRow.wideKeys == (Tryz.f3.params.toList ++ (OpenSpec.ofChange Rows.arrsChunksSpec).bare.plain.varTypes Tryz.prog ++ Tryz.f3.resultTypes.toList).any (Tryz.prog.wideKeysFrom ·))) = true := by kernel_rfl
set_option maxRecDepth 1000000 in
theorem part9 : ((OpenSpec.ofChange Rows.arrsChunksSpec).bare.vars.all (Tryz.prog.varReadable ·) && Tryz.f3.resultTypes.all (fun t => Tryz.prog.readableRec t && decide (t < Tryz.prog.types.size)) && (Rows.arrsChunksRow.ifacesOut == Tryz.f3.resultTypes.toList.any (Tryz.prog.ifacesRec ·)) && (Rows.arrsChunksRow.loopsOut == Tryz.f3.resultTypes.toList.any (Tryz.prog.loopsFrom ·)) && (Rows.arrsChunksRow.plainKeys == Tryz.prog.plainKeys) && Rows.arrsChunksRow.shortTexts.isNone) = true := by kernel_rfl
set_option maxRecDepth 1000000 in
theorem part10 : Tryz.prog.stopsHeard = true := by kernel_rfl
set_option maxRecDepth 1000000 in
theorem part11 : Tryz.prog.mayEnter = true := by kernel_rfl
set_option maxRecDepth 1000000 in
theorem part12 : ((Rows.arrsChunksRow.lifted == Tryz.prog.liftsFinal) && (Tryz.prog.make == some Rows.arrsChunksRow.make)) = true := by kernel_rfl
set_option maxRecDepth 1000000 in
theorem part13 : ((Rows.arrsChunksRow.kinds == kindsOf Tryz.prog Tryz.f3 Rows.arrsChunksRow) && (Rows.arrsChunksRow.pinned == Rows.arrsChunksRow.pinnedBy)) = true := by kernel_rfl
set_option maxRecDepth 1000000 in
theorem part14 : ((Rows.arrsChunksRow.veiled == (Tryz.f3.params.toList ++ (OpenSpec.ofChange Rows.arrsChunksSpec).bare.plain.varTypes Tryz.prog ++ Tryz.f3.resultTypes.toList).any (Tryz.prog.veiledRec ·)) && Rows.arrsChunksRow.veiledFits Tryz.prog Tryz.f3.params.toList (Tryz.f3.params.toList ++ (OpenSpec.ofChange Rows.arrsChunksSpec).bare.plain.varTypes Tryz.prog ++ Tryz.f3.resultTypes.toList)) = true := by kernel_rfl
theorem closed : joinedFacts Tryz.pinned.checked.prog 3 Tryz.f3 (OpenSpec.ofChange Rows.arrsChunksSpec).bare Rows.arrsChunksRow = true := joined_of (P := Tryz.prog) part0 part1 part2 part3 part4 part5 part6 part7 part8 part9 part10 part11 part12 part13 part14
end achunks
end Go.Proofs.YtopmodahdmnpjaaGreatDoor
