/- The world that shows that the rows of this seat may be asked; what the tables say. -/
import Derived.Test.YtopmodahdmnpjaaGreatDoorZRow
import Derived.Test.YtopmodahdmnpjaaGreatDoorZArA
import Derived.Test.YtopmodahdmnpjaaGreatDoorZMxL
import Derived.Test.YtopmodahdmnpjaaGreatDoorZDpA
import Derived.ChangeSlices
import Derived.Deep.DeepWitnessRowRef
import Derived.Lib.LaidIn
import Derived.Lib.LaidU8
import Derived.PinnedBridge
import Derived.Lib.LaidTab
import Derived.Stop.LaidErr
namespace Go.Proofs.YtopmodahdmnpjaaGreatDoor
open Go.ChangeShapes Go.WideShapes Go.ChangeAt Go.RowKit Go.Deep Go.Lib

noncomputable def putAt (w : World) (g : Nat) (cs : Array Value) : World :=
  { w with heap := w.heap.modify g fun | .cells _ t fr => .cells cs t fr | o => o }
noncomputable abbrev N0 : Nat := (World.settled Tryz.prog default).heap.size
/-- A world for the witness: the settled one, two blocks more, the variables holding what their initialisers lay. -/
noncomputable def laidWorld (os : Os) : World :=
  let N := (World.settled Tryz.prog os).heap.size
  let w0 := World.holding Tryz.prog os ⟨#[.cells #[.string ⟨#[118, 97, 108, 117, 101, 32, 111, 117, 116, 32, 111, 102, 32, 114, 97, 110, 103, 101]⟩] 298, .cells #[.string ⟨#[105, 110, 118, 97, 108, 105, 100, 32, 115, 121, 110, 116, 97, 120]⟩] 298], #[], []⟩
  let w1 := layAt (layAt w0 1 Rows.laid_unicode_utf8_acceptRanges) 0 Rows.laid_unicode_utf8_first
  let w2 := layAt (layAt (layAt w1 6 Rows.laid_math_bits_deBruijn32tab) 7 Rows.laid_math_bits_deBruijn64tab) 5 Rows.laid_internal_strconv_uint64pow10
  let w5 := putAt w2 4 #[.iface 296 (.pointer (some ⟨N, 0, none⟩))]
  putAt w5 3 #[.iface 296 (.pointer (some ⟨N + 1, 0, none⟩))]

theorem piece0 (os : Os) (args : Array Value) : LaidIn Tryz.prog ((laidWorld os).forCall (fun _ _ => 0) ⟨#[], args, []⟩).memory [("math/bits.deBruijn32tab", Rows.laid_math_bits_deBruijn32tab), ("math/bits.deBruijn64tab", Rows.laid_math_bits_deBruijn64tab), ("internal/strconv.uint64pow10", Rows.laid_internal_strconv_uint64pow10), ("unicode/utf8.acceptRanges", Rows.laid_unicode_utf8_acceptRanges), ("strconv.ErrRange", Rows.laid_strconv_ErrRange), ("strconv.ErrSyntax", Rows.laid_strconv_ErrSyntax)] [6, 7, 5, 1, 4, N0, 3, N0 + 1] :=
  LaidIn.of_run [6, 7, 5, 1, 4, N0, 3, N0 + 1] 8 (by kernel_rfl) (by kernel_rfl) (by kernel_rfl) (by kernel_rfl)
theorem piece2 (os : Os) (args : Array Value) : LaidIn Tryz.prog ((laidWorld os).forCall (fun _ _ => 0) ⟨#[], args, []⟩).memory [("unicode/utf8.first", Rows.laid_unicode_utf8_first)] [0] :=
  LaidIn.of_run [0] 8 (by kernel_rfl) (by kernel_rfl) (by kernel_rfl) (by kernel_rfl)
theorem laid_met (os : Os) (args : Array Value) : laidMet Tryz.prog Rows.arrsSortsUptoRow.laid ((laidWorld os).forCall (fun _ _ => 0) ⟨#[], args, []⟩).memory :=
  ((piece0 os args).append (piece2 os args) (by kernel_rfl)).met

def zsOf : DataW Unit → List Int
  | .agg l => l.map fun | .lit (.int _ z) => z | _ => 0
  | _ => []
theorem met_tail {P : Program} {x : String × DataW Unit} {r : List (String × DataW Unit)} {w : World} (h : laidMet P (x :: r) w) : laidMet P r w := by
  obtain ⟨ps, ⟨g, t, cs, fuel, p, q, _, _, _, _, hr, rfl⟩, hnd, hfit⟩ := h
  exact ⟨q, hr, (List.nodup_append.1 hnd).2.1, fun b off hp => hfit b off (List.mem_append_right _ hp)⟩
theorem pow_data : (Rows.laid_internal_strconv_uint64pow10 : DataW Unit) = tabData .u64 pow10Tab := by kernel_rfl
theorem star : "*" ++ "errors.errorString" = "*errors.errorString" := by decide
theorem error_row (u : TypeId) (h : Tryz.prog.typeName? 3 u = some "*errors.errorString") : u = 296 :=
  typeName_ptr_named (nm := "errors.errorString") (by rw [star]; kernel_rfl) (by kernel_rfl) (by decide) u (by rw [star]; exact h)
theorem libs_of_laid {W : World} (h : laidMetH Tryz.prog Rows.arrsSortsUptoRow.laid W) : LibS W := by
  have h0 : laidMet Tryz.prog Rows.arrsSortsUptoRow.laid W := h
  have h5 := met_tail (met_tail (met_tail (met_tail (met_tail h0))))
  obtain ⟨a0, s0, hv0, -, -, -⟩ := laid_sentinel (g := 3) h5 (by kernel_rfl) (ti := 146) (by kernel_rfl) Tryz.underlying146 error_row Tryz.underlying296 Tryz.underlying298 rfl rfl Tryz.underlying9 (by kernel_rfl) (by kernel_rfl)
  have h4 := met_tail (met_tail (met_tail (met_tail h0)))
  obtain ⟨a1, s1, hv1, -, -, -⟩ := laid_sentinel (g := 4) h4 (by kernel_rfl) (ti := 146) (by kernel_rfl) Tryz.underlying146 error_row Tryz.underlying296 Tryz.underlying298 rfl rfl Tryz.underlying9 (by kernel_rfl) (by kernel_rfl)
  have h2 : laidMet Tryz.prog (("internal/strconv.uint64pow10", Rows.laid_internal_strconv_uint64pow10) :: _) W := met_tail (met_tail h0)
  rw [pow_data] at h2
  have hp := tabIs_of_head (g := 5) (by kernel_rfl) (by kernel_rfl) (t := 300) (e := 89) (n := 20) (by kernel_rfl) (by kernel_rfl) (by kernel_rfl) (by kernel_rfl) h2
  exact ⟨⟨_, _, hv0⟩, ⟨_, _, hv1⟩, hp⟩
section
variable {H : Type} {enc : TypeId × Value → H} {W : World}
theorem bulk_pos {H : Type} (d : DataW H) : 1 ≤ Rows.uptoBulk d := by
  cases d with
  | lit x => cases x <;> simp [Rows.uptoBulk]
  | _ => simp [Rows.uptoBulk]
theorem bulk_len {H : Type} : ∀ es : List (DataW H), es.length ≤ Rows.uptoBulkAll es
  | [] => by simp [Rows.uptoBulkAll]
  | d :: r => by
    have h1 := bulk_pos d
    have h2 := bulk_len r
    simp only [Rows.uptoBulkAll, List.length_cons]
    omega
theorem int64_wf {n : Int} (h : (Lit.int .i64 n).wf = true) : In64 n := by simp [Lit.wf, IntKind.min, IntKind.max, IntKind.signed, IntKind.bits] at h; unfold In64; omega
theorem cell_off {a : Addr} {m : Nat} {v : Value} (h : W.cell? (a.add m) = some v) : W.cell? ⟨a.block, a.off + m, none⟩ = some v := by
  have hs := World.cell?_spot h
  have e : a.add m = ⟨a.block, a.off + m, none⟩ := by
    obtain ⟨ab, ao, sp⟩ := a
    unfold Addr.add at *
    by_cases hm : m = 0 <;> simp_all
  rw [← e]
  exact h
set_option maxRecDepth 100000 in
/-- A list of numbers as an argument, opened, where it is of small bulk. -/
theorem open_nums {base : Nat} {v : Value} {d : DataW H} {p : List MemPlace} (hv : Value.okWide Tryz.prog W .any base 37 v) (h : DataW.Trod enc Tryz.prog W 0 (fun _ => true) true 37 v d p) (hu : Rows.uptoBulk d ≤ 1048576) :
    ∃ (ns : List Int) (A : Option Addr) (c gb ob : Nat), v = .slice A ns.length c ∧ (0 < ns.length → A = some ⟨gb, ob, none⟩ ∧ gb < W.heap.size) ∧ (∀ (j : Nat) x, ns[j]? = some x → W.cell? ⟨gb, ob + j, none⟩ = some (.int .i64 x)) ∧ (∀ x ∈ ns, In64 x) ∧ ns.length ≤ 1048576 := by
  obtain ⟨a0, len, cap, rfl⟩ := okWide_slice Tryz.underlying37 hv
  obtain ⟨fuel, h⟩ := h
  have h' : DataW.trod enc Tryz.prog W 0 (fun _ => true) true fuel 37 [.slice a0 len cap] = some (d, p) := h
  rcases open_ints Tryz.underlying37 Tryz.underlying3 (by kernel_rfl) h' with ⟨e, -⟩ | ⟨a, len1, cap1, zs, e, -, hl, -, hz, hx, hc, hw⟩
  · obtain ⟨rfl, rfl, rfl⟩ : a0 = none ∧ len = 0 ∧ cap = 0 := by simpa using e
    exact ⟨[], none, 0, 0, 0, rfl, fun h => absurd h (Nat.lt_irrefl 0), fun j x h => by simp at h, fun x h => by simp at h, Nat.zero_le _⟩
  · obtain ⟨rfl, rfl, rfl⟩ : a0 = some a ∧ len = len1 ∧ cap = cap1 := by simpa using e
    obtain ⟨rfl, -⟩ := Prod.mk.inj hx
    have hzl : len ≤ zs.length := by rw [hz]; split <;> omega
    have htl : (zs.take len).length = len := by rw [List.length_take]; omega
    have hbu : len ≤ 1048576 := by
      have hb := bulk_len (lits .i64 (zs.take len) : List (DataW H))
      have : (lits .i64 (zs.take len) : List (DataW H)).length = len := by rw [lits, List.length_map, htl]
      simp only [Rows.uptoBulk] at hu
      omega
    have hcell : ∀ (j : Nat) x, (zs.take len)[j]? = some x → W.cell? (a.add j) = some (.int .i64 x) := fun j x hj => by
      have hjl := (List.getElem?_eq_some_iff.1 hj).1
      rw [htl] at hjl
      rw [List.getElem?_take, if_pos hjl] at hj
      have := hc j (by omega)
      rwa [List.getD_eq_getElem?_getD, hj] at this
    refine ⟨zs.take len, some a, cap, a.block, a.off, by rw [htl], fun h0 => ?_, fun j x hj => cell_off (hcell j x hj), fun x hx => int64_wf (hw x (List.mem_of_mem_take hx)), by omega⟩
    have h1 := hcell 0 _ (List.getElem?_eq_getElem h0)
    have hs := World.cell?_spot h1
    refine ⟨?_, ?_⟩
    · obtain ⟨ab, ao, sp⟩ := a
      simp_all [Addr.add]
    · have := cell_lt h1
      rwa [block_add] at this
end
end Go.Proofs.YtopmodahdmnpjaaGreatDoor
