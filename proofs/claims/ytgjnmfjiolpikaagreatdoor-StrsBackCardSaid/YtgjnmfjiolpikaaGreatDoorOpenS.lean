/- The world that shows that the rows of this seat may be asked; what the tables say. -/
import Derived.Test.YtgjnmfjiolpikaaGreatDoorRow
import Derived.Test.YtgjnmfjiolpikaaGreatDoorAliveS
import Derived.Test.YtgjnmfjiolpikaaGreatDoorMxL
import Derived.Deep.DeepWitnessRowRef
import Derived.Lib.LaidIn
import Derived.Lib.LaidU8
import Derived.PinnedBridge
import Derived.Lib.LaidTab
import Derived.Stop.LaidErr
namespace Go.Proofs.YtgjnmfjiolpikaaGreatDoor
open Go.ChangeShapes Go.WideShapes Go.ChangeAt Go.RowKit Go.Deep Go.Lib

noncomputable def putAt (w : World) (g : Nat) (cs : Array Value) : World :=
  { w with heap := w.heap.modify g fun | .cells _ t fr => .cells cs t fr | o => o }
noncomputable abbrev N0 : Nat := (World.settled Tryz.prog default).heap.size
/-- A world for the witness: the settled one, three blocks more, the variables holding what their initialisers lay. -/
noncomputable def laidWorld (os : Os) : World :=
  let N := (World.settled Tryz.prog os).heap.size
  let w0 := World.holding Tryz.prog os ⟨#[.cells #[.string ⟨#[118, 97, 108, 117, 101, 32, 111, 117, 116, 32, 111, 102, 32, 114, 97, 110, 103, 101]⟩] 229, .cells #[.string ⟨#[105, 110, 118, 97, 108, 105, 100, 32, 115, 121, 110, 116, 97, 120]⟩] 229, .cells #[.string ⟨#[98, 121, 116, 101, 115, 46, 66, 117, 102, 102, 101, 114, 58, 32, 116, 111, 111, 32, 108, 97, 114, 103, 101]⟩] 229], #[], []⟩
  let w1 := layAt (layAt w0 6 Rows.laid_unicode_utf8_acceptRanges) 5 Rows.laid_unicode_utf8_first
  let w2 := layAt (layAt (layAt w1 7 Rows.laid_math_bits_deBruijn32tab) 8 Rows.laid_math_bits_deBruijn64tab) 4 Rows.laid_internal_strconv_uint64pow10
  let w5 := putAt w2 3 #[.iface 227 (.pointer (some ⟨N, 0, none⟩))]
  let w6 := putAt w5 2 #[.iface 227 (.pointer (some ⟨N + 1, 0, none⟩))]
  putAt w6 1 #[.iface 227 (.pointer (some ⟨N + 2, 0, none⟩))]

theorem piece0 (os : Os) (args : Array Value) : LaidIn Tryz.prog ((laidWorld os).forCall (fun _ _ => 0) ⟨#[], args, []⟩).memory [("math/bits.deBruijn32tab", Rows.laid_math_bits_deBruijn32tab), ("math/bits.deBruijn64tab", Rows.laid_math_bits_deBruijn64tab), ("internal/strconv.uint64pow10", Rows.laid_internal_strconv_uint64pow10), ("unicode/utf8.acceptRanges", Rows.laid_unicode_utf8_acceptRanges), ("strconv.ErrRange", Rows.laid_strconv_ErrRange), ("strconv.ErrSyntax", Rows.laid_strconv_ErrSyntax), ("bytes.ErrTooLarge", Rows.laid_bytes_ErrTooLarge)] [7, 8, 4, 6, 3, N0, 2, N0 + 1, 1, N0 + 2] :=
  LaidIn.of_run [7, 8, 4, 6, 3, N0, 2, N0 + 1, 1, N0 + 2] 8 (by kernel_rfl) (by kernel_rfl) (by kernel_rfl) (by kernel_rfl)
theorem piece2 (os : Os) (args : Array Value) : LaidIn Tryz.prog ((laidWorld os).forCall (fun _ _ => 0) ⟨#[], args, []⟩).memory [("unicode/utf8.first", Rows.laid_unicode_utf8_first)] [5] :=
  LaidIn.of_run [5] 8 (by kernel_rfl) (by kernel_rfl) (by kernel_rfl) (by kernel_rfl)
theorem laid_met (os : Os) (args : Array Value) : laidMet Tryz.prog Rows.strsBackRow.laid ((laidWorld os).forCall (fun _ _ => 0) ⟨#[], args, []⟩).memory :=
  ((piece0 os args).append (piece2 os args) (by kernel_rfl)).met

def zsOf : DataW Unit → List Int
  | .agg l => l.map fun | .lit (.int _ z) => z | _ => 0
  | _ => []
theorem met_tail {P : Program} {x : String × DataW Unit} {r : List (String × DataW Unit)} {w : World} (h : laidMet P (x :: r) w) : laidMet P r w := by
  obtain ⟨ps, ⟨g, t, cs, fuel, p, q, _, _, _, _, hr, rfl⟩, hnd, hfit⟩ := h
  exact ⟨q, hr, (List.nodup_append.1 hnd).2.1, fun b off hp => hfit b off (List.mem_append_right _ hp)⟩
theorem bruijn_data : (Rows.laid_math_bits_deBruijn64tab : DataW Unit) = tabData .u8 (zsOf Rows.laid_math_bits_deBruijn64tab) := by kernel_rfl
theorem pow_data : (Rows.laid_internal_strconv_uint64pow10 : DataW Unit) = tabData .u64 pow10Tab := by kernel_rfl
theorem lib_of_laid {W : World} (h : laidMetH Tryz.prog Rows.strsBackRow.laid W) (hsh : W.ShapedOpen Tryz.prog) : ∃ m, LibA m W := by
  obtain ⟨m, hm⟩ := maxLen_cell hsh
  have h0 : laidMet Tryz.prog Rows.strsBackRow.laid W := h
  have h1 := met_tail h0
  have h2 := met_tail h1
  rw [bruijn_data] at h1
  rw [pow_data] at h2
  have ht := tabIs_of_head (g := 8) (by kernel_rfl) (by kernel_rfl) (t := 244) (e := 5) (n := 64) (by kernel_rfl) (by kernel_rfl) (by kernel_rfl) (by kernel_rfl) h1
  have hp := tabIs_of_head (g := 4) (by kernel_rfl) (by kernel_rfl) (t := 213) (e := 92) (n := 20) (by kernel_rfl) (by kernel_rfl) (by kernel_rfl) (by kernel_rfl) h2
  exact ⟨m, hp, (ht.cell (by kernel_rfl) 15 (of_decide_eq_true (by kernel_rfl))).trans (by kernel_rfl), hm⟩
theorem star : "*" ++ "errors.errorString" = "*errors.errorString" := by decide
theorem error_row (u : TypeId) (h : Tryz.prog.typeName? 3 u = some "*errors.errorString") : u = 227 :=
  typeName_ptr_named (nm := "errors.errorString") (by rw [star]; kernel_rfl) (by kernel_rfl) (by decide) u (by rw [star]; exact h)
theorem libs_of_laid {W : World} (h : laidMetH Tryz.prog Rows.strsBackRow.laid W) : LibS W := by
  have h0 : laidMet Tryz.prog Rows.strsBackRow.laid W := h
  have h5 := met_tail (met_tail (met_tail (met_tail (met_tail h0))))
  obtain ⟨a0, s0, hv0, -, -, -⟩ := laid_sentinel (g := 2) h5 (by kernel_rfl) (ti := 88) (by kernel_rfl) Tryz.underlying88 error_row Tryz.underlying227 Tryz.underlying229 rfl rfl Tryz.underlying9 (by kernel_rfl) (by kernel_rfl)
  have h4 := met_tail (met_tail (met_tail (met_tail h0)))
  obtain ⟨a1, s1, hv1, -, -, -⟩ := laid_sentinel (g := 3) h4 (by kernel_rfl) (ti := 88) (by kernel_rfl) Tryz.underlying88 error_row Tryz.underlying227 Tryz.underlying229 rfl rfl Tryz.underlying9 (by kernel_rfl) (by kernel_rfl)
  have h2 : laidMet Tryz.prog (("internal/strconv.uint64pow10", Rows.laid_internal_strconv_uint64pow10) :: _) W := met_tail (met_tail h0)
  rw [pow_data] at h2
  have hp := tabIs_of_head (g := 4) (by kernel_rfl) (by kernel_rfl) (t := 213) (e := 92) (n := 20) (by kernel_rfl) (by kernel_rfl) (by kernel_rfl) (by kernel_rfl) h2
  exact ⟨⟨_, _, hv0⟩, ⟨_, _, hv1⟩, hp⟩
end Go.Proofs.YtgjnmfjiolpikaaGreatDoor
