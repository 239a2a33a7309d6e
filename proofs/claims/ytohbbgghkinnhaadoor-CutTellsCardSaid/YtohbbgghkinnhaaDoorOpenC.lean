/- The world that shows that the rows of this seat may be asked; what the tables say. -/
import Derived.Test.YtohbbgghkinnhaaDoorRow
import Derived.Test.YtohbbgghkinnhaaDoorCutI
import Derived.Deep.DeepWitnessRowRef
import Derived.Lib.LaidCaseMet
import Derived.Lib.LaidIn
import Derived.PinnedBridge
import Derived.Lib.LaidTab
namespace Go.Proofs.YtohbbgghkinnhaaDoor
open Go.ChangeShapes Go.WideShapes Go.ChangeAt Go.RowKit Go.Deep Go.Lib

/-- The cells of a slice's elements. -/
def sliceCells : DataW Unit → List Value
  | .slice l _ => litCells.all l
  | _ => []
def sliceLen : DataW Unit → Nat
  | .slice l _ => l.length
  | _ => 0
noncomputable def putAt (w : World) (g : Nat) (cs : Array Value) : World :=
  { w with heap := w.heap.modify g fun | .cells _ t fr => .cells cs t fr | o => o }
noncomputable abbrev N0 : Nat := (World.settled Tryd.prog default).heap.size
/-- A world for the witness: the settled one, two blocks more, the five tables holding what their initialisers lay. -/
noncomputable def laidWorld (os : Os) : World :=
  let N := (World.settled Tryd.prog os).heap.size
  let w0 := World.holding Tryd.prog os ⟨#[.cells (sliceCells Rows.laid_unicode_caseOrbit).toArray 60, .cells caseCells5 75], #[], []⟩
  let w1 := layAt (layAt (layAt w0 5 Rows.laid_unicode_utf8_acceptRanges) 4 Rows.laid_unicode_utf8_first) 1 Rows.laid_unicode_asciiFold
  let w2 := putAt w1 2 #[.slice (some ⟨N, 0, none⟩) (sliceLen Rows.laid_unicode_caseOrbit) (sliceLen Rows.laid_unicode_caseOrbit)]
  putAt w2 3 #[.slice (some ⟨N + 1, 0, none⟩) caseA.size caseA.size]

def ren274 : Go.Shelf.Ren := ⟨Tryd.lays274_ren.f, Tryd.lays274_ren.t, fun | 13 => 3 | n => n⟩
theorem l274 : Go.Proofs.Lays.n274 Tryd.prog ren274 := by
  have h := Tryd.lays274
  constructor <;> first | exact h.1 | exact h.2 | (cases h; assumption)
theorem extra274 : CaseExtra Tryd.prog ren274 := ⟨by kernel_rfl, by kernel_rfl, by kernel_rfl, by kernel_rfl, by kernel_rfl, by kernel_rfl⟩

theorem laidIn_case {w : World} (R : Nat) (t t' : TypeId) (hgR : 3 ≠ R)
    (hvar : w.heap[3]? = some (.cells #[.slice (some ⟨R, 0, none⟩) caseA.size caseA.size] t' (0, 0))) (hblk : w.heap[R]? = some (.cells caseCells5 t (0, 0))) :
    LaidIn Tryd.prog w [("unicode.CaseRanges", caseData)] [3, R] := by
  have hT := caseTab_of_block hblk
  have hread := case_slice_reads l274 (by kernel_rfl) extra274 hT caseA_wf (by rw [caseA_size]; unfold maxLen; omega) 0
  rw [case_rows_data] at hread
  have hv : w.var? Tryd.prog "unicode.CaseRanges" = some #[.slice (some ⟨R, 0, none⟩) caseA.size caseA.size] := by
    have := extra274.n13
    simp [World.var?, this, show ren274.g 13 = 3 from rfl, hvar]
  refine LaidIn.one _ extra274.n13 extra274.y13 hv hread ?_ ?_ ?_
  · refine List.nodup_append.2 ⟨row_nodup _ _, row_nodup _ _, ?_⟩
    intro a ha b hb e
    obtain ⟨i, _, rfl⟩ := MemPlace.mem_row.1 ha
    obtain ⟨j, _, rfl⟩ := MemPlace.mem_row.1 hb
    simp at e
    exact hgR e.1
  · intro b off hp
    rcases List.mem_append.1 hp with hp | hp
    · obtain ⟨i, hi, e⟩ := MemPlace.mem_row.1 hp
      have hi0 : i = 0 := by simp at hi; omega
      subst hi0
      simp at e
      obtain ⟨rfl, rfl⟩ := e
      refine ⟨⟨_, _, hvar⟩, fun u v hc => ?_⟩
      rw [show ren274.g 13 = 3 from rfl, cell_of_row w _ 0 _ _ _ hvar] at hc
      simp at hc
    · obtain ⟨i, hi, e⟩ := MemPlace.mem_row.1 hp
      simp at e
      obtain ⟨rfl, rfl⟩ := e
      refine ⟨⟨_, _, hblk⟩, fun u v hc => ?_⟩
      rw [cell_of_row w _ _ _ _ _ hblk] at hc
      exfalso
      have hm := Array.mem_of_getElem? hc
      unfold caseCells5 at hm
      simp only [List.mem_toArray, List.mem_flatMap] at hm
      obtain ⟨x, _, hx⟩ := hm
      simp [cells5] at hx
  · intro x hx
    rcases List.mem_append.1 hx with hx | hx
    · obtain ⟨i, _, rfl⟩ := MemPlace.mem_row.1 hx
      simp [MemPlace.block]; left; rfl
    · obtain ⟨i, _, rfl⟩ := MemPlace.mem_row.1 hx
      simp [MemPlace.block]

theorem piece0 (os : Os) (args : Array Value) : LaidIn Tryd.prog ((laidWorld os).forCall (fun _ _ => 0) ⟨#[], args, []⟩).memory [("unicode/utf8.acceptRanges", Rows.laid_unicode_utf8_acceptRanges), ("unicode.asciiFold", Rows.laid_unicode_asciiFold), ("unicode.caseOrbit", Rows.laid_unicode_caseOrbit)] [5, 1, 2, N0] :=
  LaidIn.of_run [5, 1, 2, N0] 8 (by kernel_rfl) (by kernel_rfl) (by kernel_rfl) (by kernel_rfl)
theorem piece1 (os : Os) (args : Array Value) : LaidIn Tryd.prog ((laidWorld os).forCall (fun _ _ => 0) ⟨#[], args, []⟩).memory [("unicode.CaseRanges", caseData)] [3, N0 + 1] :=
  laidIn_case (N0 + 1) 75 63 (by decide +kernel) (by kernel_rfl) (by kernel_rfl)
theorem piece2 (os : Os) (args : Array Value) : LaidIn Tryd.prog ((laidWorld os).forCall (fun _ _ => 0) ⟨#[], args, []⟩).memory [("unicode/utf8.first", Rows.laid_unicode_utf8_first)] [4] :=
  LaidIn.of_run [4] 8 (by kernel_rfl) (by kernel_rfl) (by kernel_rfl) (by kernel_rfl)
theorem laid_met (os : Os) (args : Array Value) : laidMet Tryd.prog Rows.cutPlainRow.laid ((laidWorld os).forCall (fun _ _ => 0) ⟨#[], args, []⟩).memory := by
  have h := ((piece0 os args).append (piece1 os args) (by kernel_rfl)).append (piece2 os args) (by kernel_rfl)
  rw [← Pinned.caseRanges_eq] at h
  exact h.met

/-! ### what the table of letters' other cases says -/
def zsOf : DataW Unit → List Int
  | .agg l => l.map fun | .lit (.int _ z) => z | _ => 0
  | _ => []
theorem fold_data : (Rows.laid_unicode_asciiFold : DataW Unit) = tabData .u16 (zsOf Rows.laid_unicode_asciiFold) := by kernel_rfl
theorem met_tail {P : Program} {x : String × DataW Unit} {r : List (String × DataW Unit)} {w : World} (h : laidMet P (x :: r) w) : laidMet P r w := by
  obtain ⟨ps, ⟨g, t, cs, fuel, p, q, _, _, _, _, hr, rfl⟩, hnd, hfit⟩ := h
  exact ⟨q, hr, (List.nodup_append.1 hnd).2.1, fun b off hp => hfit b off (List.mem_append_right _ hp)⟩
theorem fold_of_laid {W : World} (h : laidMetH Tryd.prog Rows.cutPlainRow.laid W) : FoldAt W := by
  have h0 : laidMet Tryd.prog Rows.cutPlainRow.laid W := h
  have h1 := met_tail h0
  rw [fold_data] at h1
  have ht := tabIs_of_head (g := 1) (by kernel_rfl) (by kernel_rfl) (t := 56) (e := 55) (n := 128) (by kernel_rfl) (by kernel_rfl) (by kernel_rfl) (by kernel_rfl) h1
  exact ⟨(ht.cell (by kernel_rfl) 112 (of_decide_eq_true (by kernel_rfl))).trans (by kernel_rfl), (ht.cell (by kernel_rfl) 80 (of_decide_eq_true (by kernel_rfl))).trans (by kernel_rfl), (ht.cell (by kernel_rfl) 104 (of_decide_eq_true (by kernel_rfl))).trans (by kernel_rfl), (ht.cell (by kernel_rfl) 72 (of_decide_eq_true (by kernel_rfl))).trans (by kernel_rfl)⟩
end Go.Proofs.YtohbbgghkinnhaaDoor
