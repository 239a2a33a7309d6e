/- The world that shows that the rows of this seat may be asked; what the tables say. -/
import Derived.Test.YtopmodahdmnpjaaGreatDoorZRow
import Derived.Test.YtopmodahdmnpjaaGreatDoorZArD
import Derived.Test.YtopmodahdmnpjaaGreatDoorZMxL
import Derived.Test.YtopmodahdmnpjaaGreatDoorZDpA
import Derived.Deep.DeepWitnessRowRef
import Derived.Lib.LaidIn
import Derived.Lib.LaidU8
import Derived.PinnedBridge
import Derived.Lib.LaidTab
import Derived.Stop.LaidErr
namespace Go.Proofs.YtopmodahdmnpjaaGreatDoor
open Go.ChangeShapes Go.WideShapes Go.ChangeAt Go.RowKit Go.Deep Go.Lib

noncomputable def putAt (w : World) (g : Nat) (cs : Array Value) : World :=
  { w with heap := w.heap.modify g fun | .cells _ t fr => .cells cs t fr | o => o }
noncomputable abbrev N0 : Nat := (World.settled Tryz.prog default).heap.size
/-- A world for the witness: the settled one, two blocks more, the variables holding what their initialisers lay. -/
noncomputable def laidWorld (os : Os) : World :=
  let N := (World.settled Tryz.prog os).heap.size
  let w0 := World.holding Tryz.prog os ⟨#[.cells #[.string ⟨#[118, 97, 108, 117, 101, 32, 111, 117, 116, 32, 111, 102, 32, 114, 97, 110, 103, 101]⟩] 298, .cells #[.string ⟨#[105, 110, 118, 97, 108, 105, 100, 32, 115, 121, 110, 116, 97, 120]⟩] 298], #[], []⟩
  let w1 := layAt (layAt w0 1 Rows.laid_unicode_utf8_acceptRanges) 0 Rows.laid_unicode_utf8_first
  let w2 := layAt (layAt (layAt w1 6 Rows.laid_math_bits_deBruijn32tab) 7 Rows.laid_math_bits_deBruijn64tab) 5 Rows.laid_internal_strconv_uint64pow10
  let w5 := putAt w2 4 #[.iface 296 (.pointer (some ⟨N, 0, none⟩))]
  putAt w5 3 #[.iface 296 (.pointer (some ⟨N + 1, 0, none⟩))]

theorem piece0 (os : Os) (args : Array Value) : LaidIn Tryz.prog ((laidWorld os).forCall (fun _ _ => 0) ⟨#[], args, []⟩).memory [("math/bits.deBruijn32tab", Rows.laid_math_bits_deBruijn32tab), ("math/bits.deBruijn64tab", Rows.laid_math_bits_deBruijn64tab), ("internal/strconv.uint64pow10", Rows.laid_internal_strconv_uint64pow10), ("unicode/utf8.acceptRanges", Rows.laid_unicode_utf8_acceptRanges), ("strconv.ErrRange", Rows.laid_strconv_ErrRange), ("strconv.ErrSyntax", Rows.laid_strconv_ErrSyntax)] [6, 7, 5, 1, 4, N0, 3, N0 + 1] :=
  LaidIn.of_run [6, 7, 5, 1, 4, N0, 3, N0 + 1] 8 (by kernel_rfl) (by kernel_rfl) (by kernel_rfl) (by kernel_rfl)
theorem piece2 (os : Os) (args : Array Value) : LaidIn Tryz.prog ((laidWorld os).forCall (fun _ _ => 0) ⟨#[], args, []⟩).memory [("unicode/utf8.first", Rows.laid_unicode_utf8_first)] [0] :=
  LaidIn.of_run [0] 8 (by kernel_rfl) (by kernel_rfl) (by kernel_rfl) (by kernel_rfl)
theorem laid_met (os : Os) (args : Array Value) : laidMet Tryz.prog Rows.arrsChunksRow.laid ((laidWorld os).forCall (fun _ _ => 0) ⟨#[], args, []⟩).memory :=
  ((piece0 os args).append (piece2 os args) (by kernel_rfl)).met

def zsOf : DataW Unit → List Int
  | .agg l => l.map fun | .lit (.int _ z) => z | _ => 0
  | _ => []
theorem met_tail {P : Program} {x : String × DataW Unit} {r : List (String × DataW Unit)} {w : World} (h : laidMet P (x :: r) w) : laidMet P r w := by
  obtain ⟨ps, ⟨g, t, cs, fuel, p, q, _, _, _, _, hr, rfl⟩, hnd, hfit⟩ := h
  exact ⟨q, hr, (List.nodup_append.1 hnd).2.1, fun b off hp => hfit b off (List.mem_append_right _ hp)⟩
theorem pow_data : (Rows.laid_internal_strconv_uint64pow10 : DataW Unit) = tabData .u64 pow10Tab := by kernel_rfl
theorem star : "*" ++ "errors.errorString" = "*errors.errorString" := by decide
theorem error_row (u : TypeId) (h : Tryz.prog.typeName? 3 u = some "*errors.errorString") : u = 296 :=
  typeName_ptr_named (nm := "errors.errorString") (by rw [star]; kernel_rfl) (by kernel_rfl) (by decide) u (by rw [star]; exact h)
theorem libs_of_laid {W : World} (h : laidMetH Tryz.prog Rows.arrsChunksRow.laid W) : LibS W := by
  have h0 : laidMet Tryz.prog Rows.arrsChunksRow.laid W := h
  have h5 := met_tail (met_tail (met_tail (met_tail (met_tail h0))))
  obtain ⟨a0, s0, hv0, -, -, -⟩ := laid_sentinel (g := 3) h5 (by kernel_rfl) (ti := 146) (by kernel_rfl) Tryz.underlying146 error_row Tryz.underlying296 Tryz.underlying298 rfl rfl Tryz.underlying9 (by kernel_rfl) (by kernel_rfl)
  have h4 := met_tail (met_tail (met_tail (met_tail h0)))
  obtain ⟨a1, s1, hv1, -, -, -⟩ := laid_sentinel (g := 4) h4 (by kernel_rfl) (ti := 146) (by kernel_rfl) Tryz.underlying146 error_row Tryz.underlying296 Tryz.underlying298 rfl rfl Tryz.underlying9 (by kernel_rfl) (by kernel_rfl)
  have h2 : laidMet Tryz.prog (("internal/strconv.uint64pow10", Rows.laid_internal_strconv_uint64pow10) :: _) W := met_tail (met_tail h0)
  rw [pow_data] at h2
  have hp := tabIs_of_head (g := 5) (by kernel_rfl) (by kernel_rfl) (t := 300) (e := 89) (n := 20) (by kernel_rfl) (by kernel_rfl) (by kernel_rfl) (by kernel_rfl) h2
  exact ⟨⟨_, _, hv0⟩, ⟨_, _, hv1⟩, hp⟩
end Go.Proofs.YtopmodahdmnpjaaGreatDoor
