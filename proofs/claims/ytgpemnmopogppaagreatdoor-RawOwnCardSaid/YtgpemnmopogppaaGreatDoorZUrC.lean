import Derived.Test.YtgpemnmopogppaaGreatDoorZUrAQ
import Derived.Still
import Derived.StillTactics
import Derived.StillTail
import Derived.BigQuiet
import Derived.Laws.DeepStrings4
set_option maxRecDepth 1000000
set_option maxHeartbeats 16000000
namespace Go.Proofs.YtgpemnmopogppaaGreatDoor
open Go Go.RowKit
namespace Url
abbrev IsB (b : Nat) (l : List UInt8) (w : World) : Prop := Lib.IsBuilderF 73 5 b b (Lib.byteCells l) w
theorem isB_new (w : World) : IsB w.heap.size [] (w.alloc (.cells #[.pointer none, .slice none 0 0] 73)) :=
 .inl ⟨Nat.le_refl _, .slice none 0 0, heap_alloc_new w _, World.ownsRowF_nil _ _ _ _, by simp [Value.ownBlock]⟩
theorem low_fin : ∀ n : Fin 256, bits BinOp.and .u8 (n.val : Int) 15 = ((n.val % 16 : Nat) : Int) := by decide +kernel
theorem low (n : Nat) (h : n < 256) : bits BinOp.and .u8 (n : Int) 15 = ((n % 16 : Nat) : Int) := low_fin ⟨n, h⟩
end Url
end Go.Proofs.YtgpemnmopogppaaGreatDoor
