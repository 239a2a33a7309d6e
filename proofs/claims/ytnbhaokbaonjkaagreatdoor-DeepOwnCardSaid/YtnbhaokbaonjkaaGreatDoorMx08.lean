/- The closed call 'alive' of law 08. -/
import Derived.Test.YtnbhaokbaonjkaaGreatDoorMxA
namespace Go.Proofs.YtnbhaokbaonjkaaGreatDoor
open Go Go.Ev Go.RowKit
set_option maxRecDepth 1000000
theorem alive08_run : okRes (.bool true) (call envB 60000 9 [] ⟨0, .e⟩) = true := by kernel_rfl
theorem alive08 (w : World) (hL : LibS w) : Calls Tryz.prog 9 #[] w fun e w' => e = .returned (.bool true) ∧ Below w.heap.size w w' := alive_of alive08_run w hL
end Go.Proofs.YtnbhaokbaonjkaaGreatDoor
