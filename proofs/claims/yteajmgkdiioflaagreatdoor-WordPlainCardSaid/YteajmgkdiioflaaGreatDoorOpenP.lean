/- The world that shows that the rows of this seat may be asked; what the tables say. -/
import Derived.Test.YteajmgkdiioflaaGreatDoorRow
import Derived.Test.YteajmgkdiioflaaGreatDoorPlD
import Derived.Deep.DeepWitnessRowRef
import Derived.Lib.LaidCaseMet
import Derived.Lib.LaidIn
import Derived.Lib.LaidU8
import Derived.PinnedBridge
import Derived.Lib.LaidTab
namespace Go.Proofs.YteajmgkdiioflaaGreatDoor
open Go.ChangeShapes Go.WideShapes Go.ChangeAt Go.RowKit Go.Deep Go.Lib

/-- The cells of a slice's elements. -/
def sliceCells : DataW Unit → List Value
  | .slice l _ => litCells.all l
  | _ => []
def sliceLen : DataW Unit → Nat
  | .slice l _ => l.length
  | _ => 0
noncomputable def putAt (w : World) (g : Nat) (cs : Array Value) : World :=
  { w with heap := w.heap.modify g fun | .cells _ t fr => .cells cs t fr | o => o }
noncomputable abbrev N0 : Nat := (World.settled Tryz.prog default).heap.size
/-- A world for the witness: the settled one, four blocks more, the variables holding what their initialisers lay. -/
noncomputable def laidWorld (os : Os) : World :=
  let N := (World.settled Tryz.prog os).heap.size
  let w0 := World.holding Tryz.prog os ⟨#[.cells (sliceCells Rows.laid_unicode_caseOrbit).toArray 101, .cells caseCells5 128, .cells #[.string ⟨#[118, 97, 108, 117, 101, 32, 111, 117, 116, 32, 111, 102, 32, 114, 97, 110, 103, 101]⟩] 136, .cells #[.string ⟨#[105, 110, 118, 97, 108, 105, 100, 32, 115, 121, 110, 116, 97, 120]⟩] 136], #[], []⟩
  let w1 := layAt (layAt (layAt w0 5 Rows.laid_unicode_utf8_acceptRanges) 4 Rows.laid_unicode_utf8_first) 1 Rows.laid_unicode_asciiFold
  let w2 := layAt (layAt (layAt w1 9 Rows.laid_math_bits_deBruijn32tab) 10 Rows.laid_math_bits_deBruijn64tab) 8 Rows.laid_internal_strconv_uint64pow10
  let w3 := putAt w2 2 #[.slice (some ⟨N, 0, none⟩) (sliceLen Rows.laid_unicode_caseOrbit) (sliceLen Rows.laid_unicode_caseOrbit)]
  let w4 := putAt w3 3 #[.slice (some ⟨N + 1, 0, none⟩) caseA.size caseA.size]
  let w5 := putAt w4 7 #[.iface 134 (.pointer (some ⟨N + 2, 0, none⟩))]
  putAt w5 6 #[.iface 134 (.pointer (some ⟨N + 3, 0, none⟩))]

def ren274 : Go.Shelf.Ren := ⟨Tryz.lays274_ren.f, Tryz.lays274_ren.t, fun | 13 => 3 | n => n⟩
set_option maxRecDepth 100000 in
theorem l274 : Go.Proofs.Lays.n274 Tryz.prog ren274 := by
  have h := Tryz.lays274
  constructor <;> first | exact h.1 | exact h.2 | (cases h; assumption)
theorem extra274 : CaseExtra Tryz.prog ren274 := ⟨by kernel_rfl, by kernel_rfl, by kernel_rfl, by kernel_rfl, by kernel_rfl, by kernel_rfl⟩

set_option maxRecDepth 100000 in
theorem laidIn_case {w : World} (R : Nat) (t t' : TypeId) (hgR : 3 ≠ R)
    (hvar : w.heap[3]? = some (.cells #[.slice (some ⟨R, 0, none⟩) caseA.size caseA.size] t' (0, 0))) (hblk : w.heap[R]? = some (.cells caseCells5 t (0, 0))) :
    LaidIn Tryz.prog w [("unicode.CaseRanges", caseData)] [3, R] := by
  have hT := caseTab_of_block hblk
  have hread := case_slice_reads l274 (by kernel_rfl) extra274 hT caseA_wf (by rw [caseA_size]; unfold maxLen; omega) 0
  rw [case_rows_data] at hread
  have hv : w.var? Tryz.prog "unicode.CaseRanges" = some #[.slice (some ⟨R, 0, none⟩) caseA.size caseA.size] := by
    have := extra274.n13
    simp [World.var?, this, show ren274.g 13 = 3 from rfl, hvar]
  refine LaidIn.one _ extra274.n13 extra274.y13 hv hread ?_ ?_ ?_
  · refine List.nodup_append.2 ⟨row_nodup _ _, row_nodup _ _, ?_⟩
    intro a ha b hb e
    obtain ⟨i, _, rfl⟩ := MemPlace.mem_row.1 ha
    obtain ⟨j, _, rfl⟩ := MemPlace.mem_row.1 hb
    simp at e
    exact hgR e.1
  · intro b off hp
    rcases List.mem_append.1 hp with hp | hp
    · obtain ⟨i, hi, e⟩ := MemPlace.mem_row.1 hp
      have hi0 : i = 0 := by simp at hi; omega
      subst hi0
      simp at e
      obtain ⟨rfl, rfl⟩ := e
      refine ⟨⟨_, _, hvar⟩, fun u v hc => ?_⟩
      rw [show ren274.g 13 = 3 from rfl, cell_of_row w _ 0 _ _ _ hvar] at hc
      simp at hc
    · obtain ⟨i, hi, e⟩ := MemPlace.mem_row.1 hp
      simp at e
      obtain ⟨rfl, rfl⟩ := e
      refine ⟨⟨_, _, hblk⟩, fun u v hc => ?_⟩
      rw [cell_of_row w _ _ _ _ _ hblk] at hc
      exfalso
      have hm := Array.mem_of_getElem? hc
      unfold caseCells5 at hm
      simp only [List.mem_toArray, List.mem_flatMap] at hm
      obtain ⟨x, _, hx⟩ := hm
      simp [cells5] at hx
  · intro x hx
    rcases List.mem_append.1 hx with hx | hx
    · obtain ⟨i, _, rfl⟩ := MemPlace.mem_row.1 hx
      simp [MemPlace.block]; left; rfl
    · obtain ⟨i, _, rfl⟩ := MemPlace.mem_row.1 hx
      simp [MemPlace.block]

theorem piece0 (os : Os) (args : Array Value) : LaidIn Tryz.prog ((laidWorld os).forCall (fun _ _ => 0) ⟨#[], args, []⟩).memory [("math/bits.deBruijn32tab", Rows.laid_math_bits_deBruijn32tab), ("math/bits.deBruijn64tab", Rows.laid_math_bits_deBruijn64tab), ("internal/strconv.uint64pow10", Rows.laid_internal_strconv_uint64pow10), ("unicode/utf8.acceptRanges", Rows.laid_unicode_utf8_acceptRanges), ("strconv.ErrRange", Rows.laid_strconv_ErrRange), ("strconv.ErrSyntax", Rows.laid_strconv_ErrSyntax), ("unicode.asciiFold", Rows.laid_unicode_asciiFold), ("unicode.caseOrbit", Rows.laid_unicode_caseOrbit)] [9, 10, 8, 5, 7, N0 + 2, 6, N0 + 3, 1, 2, N0] :=
  LaidIn.of_run [9, 10, 8, 5, 7, N0 + 2, 6, N0 + 3, 1, 2, N0] 8 (by kernel_rfl) (by kernel_rfl) (by kernel_rfl) (by kernel_rfl)
theorem piece1 (os : Os) (args : Array Value) : LaidIn Tryz.prog ((laidWorld os).forCall (fun _ _ => 0) ⟨#[], args, []⟩).memory [("unicode.CaseRanges", caseData)] [3, N0 + 1] :=
  laidIn_case (N0 + 1) 128 104 (by decide +kernel) (by kernel_rfl) (by kernel_rfl)
theorem piece2 (os : Os) (args : Array Value) : LaidIn Tryz.prog ((laidWorld os).forCall (fun _ _ => 0) ⟨#[], args, []⟩).memory [("unicode/utf8.first", Rows.laid_unicode_utf8_first)] [4] :=
  LaidIn.of_run [4] 8 (by kernel_rfl) (by kernel_rfl) (by kernel_rfl) (by kernel_rfl)
theorem laid_met (os : Os) (args : Array Value) : laidMet Tryz.prog Rows.wordPlainRow.laid ((laidWorld os).forCall (fun _ _ => 0) ⟨#[], args, []⟩).memory := by
  have h := ((piece0 os args).append (piece1 os args) (by kernel_rfl)).append (piece2 os args) (by kernel_rfl)
  rw [← Pinned.caseRanges_eq] at h
  exact h.met

theorem lib_of_laid {W : World} (h : laidMetH Tryz.prog Rows.wordPlainRow.laid W) (hsh : W.ShapedOpen Tryz.prog) : ∃ m, LibW m W := by
  obtain ⟨m, hm⟩ := maxLen_cell hsh
  have h0 : laidMet Tryz.prog Rows.wordPlainRow.laid W := h
  have h3 : VarReads Tryz.prog W "unicode/utf8.first" firstData := by
    have := laidMet.reads h0 (n := "unicode/utf8.first") (d := Rows.laid_unicode_utf8_first) (by simp [Rows.wordPlainRow])
    rw [← Pinned.utf8First_eq]
    exact this
  have h4 : VarReads Tryz.prog W "unicode/utf8.acceptRanges" acceptData := by
    have := laidMet.reads h0 (n := "unicode/utf8.acceptRanges") (d := Rows.laid_unicode_utf8_acceptRanges) (by simp [Rows.wordPlainRow])
    rw [show (Rows.laid_unicode_utf8_acceptRanges : DataW Unit) = acceptData by kernel_rfl] at this
    exact this
  exact ⟨m, utf8Tabs_of_reads (ρ := Tryz.lays230_ren) { Tryz.lays230 with } ⟨by kernel_rfl, by kernel_rfl, by kernel_rfl, by kernel_rfl, by kernel_rfl, by kernel_rfl, by kernel_rfl⟩ h3 h4, hm⟩

/-! ### what the table of letters' other cases says -/
def zsOf : DataW Unit → List Int
  | .agg l => l.map fun | .lit (.int _ z) => z | _ => 0
  | _ => []
theorem fold_data : (Rows.laid_unicode_asciiFold : DataW Unit) = tabData .u16 (zsOf Rows.laid_unicode_asciiFold) := by kernel_rfl
theorem met_tail {P : Program} {x : String × DataW Unit} {r : List (String × DataW Unit)} {w : World} (h : laidMet P (x :: r) w) : laidMet P r w := by
  obtain ⟨ps, ⟨g, t, cs, fuel, p, q, _, _, _, _, hr, rfl⟩, hnd, hfit⟩ := h
  exact ⟨q, hr, (List.nodup_append.1 hnd).2.1, fun b off hp => hfit b off (List.mem_append_right _ hp)⟩
theorem fold_of_laid {W : World} (h : laidMetH Tryz.prog Rows.wordPlainRow.laid W) : FoldAt W := by
  have h0 : laidMet Tryz.prog Rows.wordPlainRow.laid W := h
  have h1 := met_tail (met_tail (met_tail (met_tail (met_tail (met_tail h0)))))
  rw [fold_data] at h1
  have ht := tabIs_of_head (g := 1) (by kernel_rfl) (by kernel_rfl) (t := 98) (e := 97) (n := 128) (by kernel_rfl) (by kernel_rfl) (by kernel_rfl) (by kernel_rfl) h1
  exact ⟨(ht.cell (by kernel_rfl) 112 (of_decide_eq_true (by kernel_rfl))).trans (by kernel_rfl), (ht.cell (by kernel_rfl) 80 (of_decide_eq_true (by kernel_rfl))).trans (by kernel_rfl), (ht.cell (by kernel_rfl) 104 (of_decide_eq_true (by kernel_rfl))).trans (by kernel_rfl), (ht.cell (by kernel_rfl) 72 (of_decide_eq_true (by kernel_rfl))).trans (by kernel_rfl)⟩
theorem libP_of_laid {W : World} (h : laidMetH Tryz.prog Rows.wordPlainRow.laid W) (hsh : W.ShapedOpen Tryz.prog) : ∃ m, LibP m W := by
  obtain ⟨m, hm⟩ := lib_of_laid h hsh
  exact ⟨m, hm, fold_of_laid h⟩
end Go.Proofs.YteajmgkdiioflaaGreatDoor
