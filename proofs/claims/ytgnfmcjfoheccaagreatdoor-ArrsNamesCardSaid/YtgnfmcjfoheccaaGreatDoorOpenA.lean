/- The world that shows that the rows of this seat may be asked. -/
import Derived.Test.YtgnfmcjfoheccaaGreatDoorRow
import Derived.Test.YtgnfmcjfoheccaaGreatDoorArA
import Derived.Deep.DeepWitnessRowRef
import Derived.Lib.LaidIn
import Derived.Lib.LaidU8
import Derived.PinnedBridge
import Derived.Lib.LaidTab
namespace Go.Proofs.YtgnfmcjfoheccaaGreatDoor
open Go.ChangeShapes Go.WideShapes Go.ChangeAt Go.RowKit Go.Deep Go.Lib

noncomputable def putAt (w : World) (g : Nat) (cs : Array Value) : World :=
  { w with heap := w.heap.modify g fun | .cells _ t fr => .cells cs t fr | o => o }
noncomputable abbrev N0 : Nat := (World.settled Tryz.prog default).heap.size
/-- A world for the witness: the settled one, two blocks more, the variables holding what their initialisers lay. -/
noncomputable def laidWorld (os : Os) : World :=
  let N := (World.settled Tryz.prog os).heap.size
  let w0 := World.holding Tryz.prog os ⟨#[.cells #[.string ⟨#[118, 97, 108, 117, 101, 32, 111, 117, 116, 32, 111, 102, 32, 114, 97, 110, 103, 101]⟩] 324, .cells #[.string ⟨#[105, 110, 118, 97, 108, 105, 100, 32, 115, 121, 110, 116, 97, 120]⟩] 324], #[], []⟩
  let w1 := layAt (layAt w0 1 Rows.laid_unicode_utf8_acceptRanges) 0 Rows.laid_unicode_utf8_first
  let w2 := layAt (layAt (layAt w1 6 Rows.laid_math_bits_deBruijn32tab) 7 Rows.laid_math_bits_deBruijn64tab) 5 Rows.laid_internal_strconv_uint64pow10
  let w5 := putAt w2 4 #[.iface 322 (.pointer (some ⟨N, 0, none⟩))]
  putAt w5 3 #[.iface 322 (.pointer (some ⟨N + 1, 0, none⟩))]

theorem piece0 (os : Os) (args : Array Value) : LaidIn Tryz.prog ((laidWorld os).forCall (fun _ _ => 0) ⟨#[], args, []⟩).memory [("math/bits.deBruijn32tab", Rows.laid_math_bits_deBruijn32tab), ("math/bits.deBruijn64tab", Rows.laid_math_bits_deBruijn64tab), ("internal/strconv.uint64pow10", Rows.laid_internal_strconv_uint64pow10), ("unicode/utf8.acceptRanges", Rows.laid_unicode_utf8_acceptRanges), ("strconv.ErrRange", Rows.laid_strconv_ErrRange), ("strconv.ErrSyntax", Rows.laid_strconv_ErrSyntax)] [6, 7, 5, 1, 4, N0, 3, N0 + 1] :=
  LaidIn.of_run [6, 7, 5, 1, 4, N0, 3, N0 + 1] 8 (by kernel_rfl) (by kernel_rfl) (by kernel_rfl) (by kernel_rfl)
theorem piece2 (os : Os) (args : Array Value) : LaidIn Tryz.prog ((laidWorld os).forCall (fun _ _ => 0) ⟨#[], args, []⟩).memory [("unicode/utf8.first", Rows.laid_unicode_utf8_first)] [0] :=
  LaidIn.of_run [0] 8 (by kernel_rfl) (by kernel_rfl) (by kernel_rfl) (by kernel_rfl)
theorem laid_met (os : Os) (args : Array Value) : laidMet Tryz.prog Rows.arrsNamesRow.laid ((laidWorld os).forCall (fun _ _ => 0) ⟨#[], args, []⟩).memory :=
  ((piece0 os args).append (piece2 os args) (by kernel_rfl)).met
end Go.Proofs.YtgnfmcjfoheccaaGreatDoor
