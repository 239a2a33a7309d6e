/- The closed facts of a row, out of parts that are reckoned each by itself. -/
import Derived.Test.YtopmodahdmnpjaaGreatDoorZRow
import Derived.JoinedCond
namespace Go.Proofs.YtopmodahdmnpjaaGreatDoor
/-- The kinds of the parameters, as a row with a domain lists them. -/
def kindsOf (P : Program) (fn : Func) (c : OpenClaim) : List (Option IntKind) := if c.domain.isEmpty then [] else fn.params.toList.map fun t => match P.underlying t with | some (.int k) => some k | _ => none
theorem joined_of {P : Program} {f : FuncId} {fn : Func} {s : ChangeSpec} {c : OpenClaim}
    (h1 : (c.wf (OpenSpec.ofChange s) && laidOutB P && mapsRowed P) = true)
    (h2 : (fn.params.all (P.readableRec ·) && namedTie P c.named s.vars) = true)
    (h3 : ((c.stops == []) && (P.stops == []) && (c.knobs == []) && (P.stopKnobs == [])) = true)
    (h4 : (c.inPlace == P.inPlace f) = true) (h5 : (c.unfollowed == P.unfollowed f) = true) (h6 : (c.recurses == P.recurses f) = true) (h7 : (c.named == P.varsNamed f) = true)
    (h8 : ((c.maps == (fn.params.toList ++ s.plain.varTypes P).any (P.mapsRec ·)) && (c.ifaces == (fn.params.toList ++ s.plain.varTypes P).any (P.ifacesRec ·)) && (c.mapsOut == P.mapsAmong fn.resultTypes.toList)) = true)
    (h9 : ((c.loops == (fn.params.toList ++ s.plain.varTypes P).any (P.loopsFrom ·)) && (c.wideKeys == (fn.params.toList ++ s.plain.varTypes P ++ fn.resultTypes.toList).any (P.wideKeysFrom ·))) = true)
    (h10 : (s.vars.all (P.varReadable ·) && fn.resultTypes.all (fun t => P.readableRec t && decide (t < P.types.size)) && (c.ifacesOut == fn.resultTypes.toList.any (P.ifacesRec ·)) && (c.loopsOut == fn.resultTypes.toList.any (P.loopsFrom ·)) && (c.plainKeys == P.plainKeys) && c.shortTexts.isNone) = true)
    (h11 : P.stopsHeard = true) (h12 : P.mayEnter = true)
    (h13 : ((c.lifted == P.liftsFinal) && (P.make == some c.make)) = true)
    (h14 : ((c.kinds == kindsOf P fn c) && (c.pinned == c.pinnedBy)) = true)
    (h15 : ((c.veiled == (fn.params.toList ++ s.plain.varTypes P ++ fn.resultTypes.toList).any (P.veiledRec ·)) && c.veiledFits P fn.params.toList (fn.params.toList ++ s.plain.varTypes P ++ fn.resultTypes.toList)) = true) : joinedFacts P f fn s c = true := by
  simp only [Bool.and_eq_true] at h1 h2 h3 h8 h9 h10 h13 h14 h15
  obtain ⟨⟨a1, a2⟩, a3⟩ := h1
  obtain ⟨b1, b2⟩ := h2
  obtain ⟨⟨⟨c1, c2⟩, c3⟩, c4⟩ := h3
  obtain ⟨⟨d1, d2⟩, d3⟩ := h8
  obtain ⟨e1, e2⟩ := h9
  obtain ⟨⟨⟨⟨⟨g1, g2⟩, g3⟩, g4⟩, g5⟩, g6⟩ := h10
  obtain ⟨i1, i2⟩ := h13
  obtain ⟨j1, j2⟩ := h14
  obtain ⟨k1, k2⟩ := h15
  unfold joinedFacts
  simp only [a1, a2, a3, b1, b2, c1, c2, c3, c4, h4, h5, h6, h7, d1, d2, d3, e1, e2, g1, g2, g3, g4, g5, g6, h11, h12, i1, i2, j2, k1, k2, Bool.and_self, Bool.and_true, Bool.true_and]
  exact j1
end Go.Proofs.YtopmodahdmnpjaaGreatDoor
