import Derived.Test.YtgpemnmopogppaaGreatDoorZShut
set_option maxRecDepth 1000000
set_option maxHeartbeats 16000000
namespace Go.Proofs.YtgpemnmopogppaaGreatDoor
open Go.Proofs.Tryz
namespace rown
theorem part0 : (Rows.rawOwnRow.wf (OpenSpec.ofChange (OpenSpec.ofChange Rows.rawOwnSpec).bare) && laidOutB prog && mapsRowed prog) = true := by kernel_rfl
theorem part1 : (Tryz.f8.params.all (prog.readableRec ·) && namedTie prog Rows.rawOwnRow.named (OpenSpec.ofChange Rows.rawOwnSpec).bare.vars) = true := by kernel_rfl
theorem part2 : ((Rows.rawOwnRow.stops == []) && (prog.stops == []) && (Rows.rawOwnRow.knobs == []) && (prog.stopKnobs == [])) = true := by kernel_rfl
theorem part3 : (Rows.rawOwnRow.inPlace == prog.inPlace 8) = true := by kernel_rfl
theorem part4 : (Rows.rawOwnRow.unfollowed == prog.unfollowed 8) = true := by kernel_rfl
theorem part5 : (Rows.rawOwnRow.recurses == prog.recurses 8) = true := by kernel_rfl
theorem part6 : (Rows.rawOwnRow.named == prog.varsNamed 8) = true := by kernel_rfl
theorem part7 : ((Rows.rawOwnRow.maps == (Tryz.f8.params.toList ++ (OpenSpec.ofChange Rows.rawOwnSpec).bare.plain.varTypes prog).any (prog.mapsRec ·)) && (Rows.rawOwnRow.ifaces == (Tryz.f8.params.toList ++ (OpenSpec.ofChange Rows.rawOwnSpec).bare.plain.varTypes prog).any (prog.ifacesRec ·)) && (Rows.rawOwnRow.mapsOut == prog.mapsAmong Tryz.f8.resultTypes.toList)) = true := by kernel_rfl
theorem part8 : ((Rows.rawOwnRow.loops == (Tryz.f8.params.toList ++ (OpenSpec.ofChange Rows.rawOwnSpec).bare.plain.varTypes prog).any (prog.loopsFrom ·)) && (Rows.rawOwnRow.wideKeys == (Tryz.f8.params.toList ++ (OpenSpec.ofChange Rows.rawOwnSpec).bare.plain.varTypes prog ++ Tryz.f8.resultTypes.toList).any (prog.wideKeysFrom ·))) = true := by kernel_rfl
theorem part9 : ((OpenSpec.ofChange Rows.rawOwnSpec).bare.vars.all (prog.varReadable ·) && Tryz.f8.resultTypes.all (fun t => prog.readableRec t && decide (t < prog.types.size)) && (Rows.rawOwnRow.ifacesOut == Tryz.f8.resultTypes.toList.any (prog.ifacesRec ·)) && (Rows.rawOwnRow.loopsOut == Tryz.f8.resultTypes.toList.any (prog.loopsFrom ·)) && (Rows.rawOwnRow.plainKeys == prog.plainKeys) && Rows.rawOwnRow.shortTexts.isNone) = true := by kernel_rfl
theorem part10 : prog.stopsHeard = true := by kernel_rfl
theorem part11 : prog.mayEnter = true := by kernel_rfl
theorem part12 : ((Rows.rawOwnRow.lifted == prog.liftsFinal) && (prog.make == some Rows.rawOwnRow.make)) = true := by kernel_rfl
theorem part13 : ((Rows.rawOwnRow.kinds == kindsOf prog Tryz.f8 Rows.rawOwnRow) && (Rows.rawOwnRow.pinned == Rows.rawOwnRow.pinnedBy)) = true := by kernel_rfl
theorem part14 : ((Rows.rawOwnRow.veiled == (Tryz.f8.params.toList ++ (OpenSpec.ofChange Rows.rawOwnSpec).bare.plain.varTypes prog ++ Tryz.f8.resultTypes.toList).any (prog.veiledRec ·)) && Rows.rawOwnRow.veiledFits prog Tryz.f8.params.toList (Tryz.f8.params.toList ++ (OpenSpec.ofChange Rows.rawOwnSpec).bare.plain.varTypes prog ++ Tryz.f8.resultTypes.toList)) = true := by kernel_rfl
theorem closed : joinedFacts Tryz.pinned.checked.prog 8 Tryz.f8 (OpenSpec.ofChange Rows.rawOwnSpec).bare Rows.rawOwnRow = true := joined_of (P := prog) part0 part1 part2 part3 part4 part5 part6 part7 part8 part9 part10 part11 part12 part13 part14
end rown
end Go.Proofs.YtgpemnmopogppaaGreatDoor
