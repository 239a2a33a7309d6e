/- deep: plain kinds; a world that draws: plain words. -/
import Derived.Test.YtgjnmfjiolpikaaGreatDoorDpB
import Derived.Deep.QuietTactic
import Derived.Deep.RegionLaw
import Derived.BigQuiet
import Derived.Laws.EntriesVeiled
namespace Go.Proofs.YtgjnmfjiolpikaaGreatDoor
open Go.RowKit
namespace Dp
def plainB (k : Int) : Bool := decide (0 ≤ k) && decide (k ≤ 3)
theorem drewN' {B : Nat} {w w' : World} (h : Below B w w') (n : Nat) : Below B w (w'.drewN n) := ⟨h.os, h.tape, h.output, h.size, h.block⟩
end Dp
end Go.Proofs.YtgjnmfjiolpikaaGreatDoor
