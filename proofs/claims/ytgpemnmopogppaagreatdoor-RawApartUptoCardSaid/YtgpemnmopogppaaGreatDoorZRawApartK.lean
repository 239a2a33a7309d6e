/- The closed facts of the row of RawApart. -/
import Derived.Test.YtgpemnmopogppaaGreatDoorZShut
namespace Go.Proofs.YtgpemnmopogppaaGreatDoor
namespace rapart
set_option maxRecDepth 1000000 in
theorem part0 : (Rows.rawApartUptoRow.wf (OpenSpec.ofChange (Rows.OpenSpec.upto Rows.rawApartSpec).bare) && laidOutB Tryz.prog && mapsRowed Tryz.prog) = true := by kernel_rfl
set_option maxRecDepth 1000000 in
theorem part1 : (Tryz.f7.params.all (Tryz.prog.readableRec ·) && namedTie Tryz.prog Rows.rawApartUptoRow.named (Rows.OpenSpec.upto Rows.rawApartSpec).bare.vars) = true := by kernel_rfl
set_option maxRecDepth 1000000 in
theorem part2 : ((Rows.rawApartUptoRow.stops == []) && (Tryz.prog.stops == []) && (Rows.rawApartUptoRow.knobs == []) && (Tryz.prog.stopKnobs == [])) = true := by kernel_rfl
set_option maxRecDepth 1000000 in
theorem part3 : (Rows.rawApartUptoRow.inPlace == Tryz.prog.inPlace 7) = true := by kernel_rfl
set_option maxRecDepth 1000000 in
theorem part4 : (Rows.rawApartUptoRow.unfollowed == Tryz.prog.unfollowed 7) = true := by kernel_rfl
set_option maxRecDepth 1000000 in
theorem part5 : (Rows.rawApartUptoRow.recurses == Tryz.prog.recurses 7) = true := by kernel_rfl
set_option maxRecDepth 1000000 in
theorem part6 : (Rows.rawApartUptoRow.named == Tryz.prog.varsNamed 7) = true := by kernel_rfl
set_option maxRecDepth 1000000 in
theorem part7 : ((Rows.rawApartUptoRow.maps == (Tryz.f7.params.toList ++ (Rows.OpenSpec.upto Rows.rawApartSpec).bare.plain.varTypes Tryz.prog).any (Tryz.prog.mapsRec ·)) && (Rows.rawApartUptoRow.ifaces == (Tryz.f7.params.toList ++ (Rows.OpenSpec.upto Rows.rawApartSpec).bare.plain.varTypes Tryz.prog).any (Tryz.prog.ifacesRec ·)) && (Rows.rawApartUptoRow.mapsOut == Tryz.prog.mapsAmong Tryz.f7.resultTypes.toList)) = true := by kernel_rfl
set_option maxRecDepth 1000000 in
theorem part8 : ((Rows.rawApartUptoRow.loops == (Tryz.f7.params.toList ++ (Rows.OpenSpec.upto Rows.rawApartSpec).bare.plain.varTypes Tryz.prog).any (Tryz.prog.loopsFrom ·)) && (Rows.rawApartUptoRow.wideKeys == (Tryz.f7.params.toList ++ (Rows.OpenSpec.upto Rows.rawApartSpec).bare.plain.varTypes Tryz.prog ++ Tryz.f7.resultTypes.toList).any (Tryz.prog.wideKeysFrom ·))) = true := by kernel_rfl
set_option maxRecDepth 1000000 in
theorem part9 : ((Rows.OpenSpec.upto Rows.rawApartSpec).bare.vars.all (Tryz.prog.varReadable ·) && Tryz.f7.resultTypes.all (fun t => Tryz.prog.readableRec t && decide (t < Tryz.prog.types.size)) && (Rows.rawApartUptoRow.ifacesOut == Tryz.f7.resultTypes.toList.any (Tryz.prog.ifacesRec ·)) && (Rows.rawApartUptoRow.loopsOut == Tryz.f7.resultTypes.toList.any (Tryz.prog.loopsFrom ·)) && (Rows.rawApartUptoRow.plainKeys == Tryz.prog.plainKeys) && Rows.rawApartUptoRow.shortTexts.isNone) = true := by kernel_rfl
set_option maxRecDepth 1000000 in
theorem part10 : Tryz.prog.stopsHeard = true := by kernel_rfl
set_option maxRecDepth 1000000 in
theorem part11 : Tryz.prog.mayEnter = true := by kernel_rfl
set_option maxRecDepth 1000000 in
theorem part12 : ((Rows.rawApartUptoRow.lifted == Tryz.prog.liftsFinal) && (Tryz.prog.make == some Rows.rawApartUptoRow.make)) = true := by kernel_rfl
set_option maxRecDepth 1000000 in
theorem part13 : ((Rows.rawApartUptoRow.kinds == kindsOf Tryz.prog Tryz.f7 Rows.rawApartUptoRow) && (Rows.rawApartUptoRow.pinned == Rows.rawApartUptoRow.pinnedBy)) = true := by kernel_rfl
set_option maxRecDepth 1000000 in
theorem part14 : ((Rows.rawApartUptoRow.veiled == (Tryz.f7.params.toList ++ (Rows.OpenSpec.upto Rows.rawApartSpec).bare.plain.varTypes Tryz.prog ++ Tryz.f7.resultTypes.toList).any (Tryz.prog.veiledRec ·)) && Rows.rawApartUptoRow.veiledFits Tryz.prog Tryz.f7.params.toList (Tryz.f7.params.toList ++ (Rows.OpenSpec.upto Rows.rawApartSpec).bare.plain.varTypes Tryz.prog ++ Tryz.f7.resultTypes.toList)) = true := by kernel_rfl
theorem closed : joinedFacts Tryz.pinned.checked.prog 7 Tryz.f7 (Rows.OpenSpec.upto Rows.rawApartSpec).bare Rows.rawApartUptoRow = true := joined_of (P := Tryz.prog) part0 part1 part2 part3 part4 part5 part6 part7 part8 part9 part10 part11 part12 part13 part14
end rapart
end Go.Proofs.YtgpemnmopogppaaGreatDoor
