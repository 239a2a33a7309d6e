/- The world that shows that the rows of this seat may be asked; the arguments opened. -/
import Derived.Test.YtcmehaoicilejaaGreatDoorRow
import Derived.Test.YtcmehaoicilejaaGreatDoorMeansB
import Derived.Deep.DeepWitnessRowRef
import Derived.Lib.LaidCaseMet
import Derived.Lib.LaidIn
import Derived.PinnedBridge
import Derived.Lib.LaidTab
namespace Go.Proofs.YtcmehaoicilejaaGreatDoor
open Go.ChangeShapes Go.WideShapes Go.ChangeAt Go.RowKit Go.Deep Go.Lib

noncomputable def putAt (w : World) (g : Nat) (cs : Array Value) : World :=
  { w with heap := w.heap.modify g fun | .cells _ t fr => .cells cs t fr | o => o }
noncomputable abbrev N0 : Nat := (World.settled Tryz.prog default).heap.size
/-- A world for the witness: the settled one, one block more, the three tables holding what their initialisers lay. -/
noncomputable def laidWorld (os : Os) : World :=
  let N := (World.settled Tryz.prog os).heap.size
  let w0 := World.holding Tryz.prog os ⟨#[.cells caseCells5 179], #[], []⟩
  let w1 := layAt (layAt w0 3 Rows.laid_unicode_utf8_acceptRanges) 2 Rows.laid_unicode_utf8_first
  putAt w1 1 #[.slice (some ⟨N, 0, none⟩) caseA.size caseA.size]

def ren274 : Go.Shelf.Ren := ⟨Tryz.lays274_ren.f, Tryz.lays274_ren.t, fun | 13 => 1 | n => n⟩
set_option maxRecDepth 100000 in
theorem l274 : Go.Proofs.Lays.n274 Tryz.prog ren274 := by
  have h := Tryz.lays274
  constructor <;> first | exact h.1 | exact h.2 | (cases h; assumption)
theorem extra274 : CaseExtra Tryz.prog ren274 := ⟨by kernel_rfl, by kernel_rfl, by kernel_rfl, by kernel_rfl, by kernel_rfl, by kernel_rfl⟩

set_option maxRecDepth 100000 in
theorem laidIn_case {w : World} (R : Nat) (t t' : TypeId) (hgR : 1 ≠ R)
    (hvar : w.heap[1]? = some (.cells #[.slice (some ⟨R, 0, none⟩) caseA.size caseA.size] t' (0, 0))) (hblk : w.heap[R]? = some (.cells caseCells5 t (0, 0))) :
    LaidIn Tryz.prog w [("unicode.CaseRanges", caseData)] [1, R] := by
  have hT := caseTab_of_block hblk
  have hread := case_slice_reads l274 (by kernel_rfl) extra274 hT caseA_wf (by rw [caseA_size]; unfold maxLen; omega) 0
  rw [case_rows_data] at hread
  have hv : w.var? Tryz.prog "unicode.CaseRanges" = some #[.slice (some ⟨R, 0, none⟩) caseA.size caseA.size] := by
    have := extra274.n13
    simp [World.var?, this, show ren274.g 13 = 1 from rfl, hvar]
  refine LaidIn.one _ extra274.n13 extra274.y13 hv hread ?_ ?_ ?_
  · refine List.nodup_append.2 ⟨row_nodup _ _, row_nodup _ _, ?_⟩
    intro a ha b hb e
    obtain ⟨i, _, rfl⟩ := MemPlace.mem_row.1 ha
    obtain ⟨j, _, rfl⟩ := MemPlace.mem_row.1 hb
    simp at e
    exact hgR e.1
  · intro b off hp
    rcases List.mem_append.1 hp with hp | hp
    · obtain ⟨i, hi, e⟩ := MemPlace.mem_row.1 hp
      have hi0 : i = 0 := by simp at hi; omega
      subst hi0
      simp at e
      obtain ⟨rfl, rfl⟩ := e
      refine ⟨⟨_, _, hvar⟩, fun u v hc => ?_⟩
      rw [show ren274.g 13 = 1 from rfl, cell_of_row w _ 0 _ _ _ hvar] at hc
      simp at hc
    · obtain ⟨i, hi, e⟩ := MemPlace.mem_row.1 hp
      simp at e
      obtain ⟨rfl, rfl⟩ := e
      refine ⟨⟨_, _, hblk⟩, fun u v hc => ?_⟩
      rw [cell_of_row w _ _ _ _ _ hblk] at hc
      exfalso
      have hm := Array.mem_of_getElem? hc
      unfold caseCells5 at hm
      simp only [List.mem_toArray, List.mem_flatMap] at hm
      obtain ⟨x, _, hx⟩ := hm
      simp [cells5] at hx
  · intro x hx
    rcases List.mem_append.1 hx with hx | hx
    · obtain ⟨i, _, rfl⟩ := MemPlace.mem_row.1 hx
      simp [MemPlace.block]; left; rfl
    · obtain ⟨i, _, rfl⟩ := MemPlace.mem_row.1 hx
      simp [MemPlace.block]

theorem piece0 (os : Os) (args : Array Value) : LaidIn Tryz.prog ((laidWorld os).forCall (fun _ _ => 0) ⟨#[], args, []⟩).memory [("unicode/utf8.acceptRanges", Rows.laid_unicode_utf8_acceptRanges)] [3] :=
  LaidIn.of_run [3] 8 (by kernel_rfl) (by kernel_rfl) (by kernel_rfl) (by kernel_rfl)
theorem piece1 (os : Os) (args : Array Value) : LaidIn Tryz.prog ((laidWorld os).forCall (fun _ _ => 0) ⟨#[], args, []⟩).memory [("unicode.CaseRanges", caseData)] [1, N0] :=
  laidIn_case N0 179 168 (by decide +kernel) (by kernel_rfl) (by kernel_rfl)
theorem piece2 (os : Os) (args : Array Value) : LaidIn Tryz.prog ((laidWorld os).forCall (fun _ _ => 0) ⟨#[], args, []⟩).memory [("unicode/utf8.first", Rows.laid_unicode_utf8_first)] [2] :=
  LaidIn.of_run [2] 8 (by kernel_rfl) (by kernel_rfl) (by kernel_rfl) (by kernel_rfl)
theorem laid_met (os : Os) (args : Array Value) : laidMet Tryz.prog Rows.nameMeansRow.laid ((laidWorld os).forCall (fun _ _ => 0) ⟨#[], args, []⟩).memory := by
  have h := ((piece0 os args).append (piece1 os args) (by kernel_rfl)).append (piece2 os args) (by kernel_rfl)
  rw [← Pinned.caseRanges_eq] at h
  exact h.met


set_option maxRecDepth 100000 in
/-- A slice of pairs, opened. -/
theorem open_pairs {H : Type} {enc : TypeId × Value → H} {W : World} {base : Nat} {v : Value} {d : DataW H} {p : List MemPlace} (hv : Value.okWide Tryz.prog W .any base 22 v)
    (h : DataW.Trod enc Tryz.prog W 0 (fun _ => true) true 22 v d p) :
    ∃ (A : Option Addr) (l : List (ByteArray × ByteArray)) (c : Nat), v = .slice A l.length c ∧ PairsAt W W.heap.size A l ∧ (l.length = 0 ∨ ∃ es sp, d = .slice es sp ∧ l.length = es.length ∧ ∀ k, k < l.length → es[k]? = some (.agg [.lit (.string (l.getD k default).1.data.toList), .lit (.string (l.getD k default).2.data.toList)])) ∧
      (∀ k, (l.getD k default).1.size ≤ maxLen ∧ (l.getD k default).2.size ≤ maxLen) := by
  obtain ⟨a0, len, cap, rfl⟩ := okWide_slice Tryz.underlying22 hv
  obtain ⟨fuel, hf⟩ := h
  have hdef : ∀ k, (([] : List (ByteArray × ByteArray)).getD k default).1.size ≤ maxLen ∧ (([] : List (ByteArray × ByteArray)).getD k default).2.size ≤ maxLen := fun k => ⟨Nat.zero_le _, Nat.zero_le _⟩
  rcases open_slice_fields Tryz.underlying22 Tryz.underlying45 (by kernel_rfl) (by kernel_rfl) hf with ⟨hcs, _⟩ | ⟨a, len', cap', m, D, Pl, hcs, _, hl, hm, hmm, hx, hi⟩
  · simp [Value.cells] at hcs
    obtain ⟨rfl, rfl, rfl⟩ := hcs
    exact ⟨none, [], 0, rfl, fun h => absurd h (by decide), .inl rfl, hdef⟩
  · simp [Value.cells] at hcs
    obtain ⟨rfl, rfl, rfl⟩ := hcs
    have hmc : m = cap := by rw [hmm]; rfl
    subst hmc
    have hex : ∀ i, i < m → ∃ x : ByteArray × ByteArray, W.cell? (a.add (i * 2 + 0)) = some (.string x.1) ∧ W.cell? (a.add (i * 2 + 1)) = some (.string x.2) ∧ x.1.size ≤ maxLen ∧ x.2.size ≤ maxLen ∧ D i = .agg [.lit (.string x.1.data.toList), .lit (.string x.2.data.toList)] := by
      intro i hi'
      obtain ⟨ys, n, hD, _, hyl, hf'⟩ := hi i hi'
      obtain ⟨v0, y0, c0, g0, t0⟩ := hf' 0 _ rfl
      obtain ⟨v1, y1, c1, g1, t1⟩ := hf' 1 _ rfl
      obtain ⟨s0, e0, r0, w0⟩ := DataW.trod_string Tryz.underlying9 t0
      obtain ⟨s1, e1, r1, w1⟩ := DataW.trod_string Tryz.underlying9 t1
      simp only [List.cons.injEq, and_true] at e0 e1
      subst e0 e1 r0 r1
      refine ⟨⟨s0, s1⟩, c0, c1, w0, w1, ?_⟩
      have hl2 : ys.length = 2 := hyl
      match ys, hl2 with
      | [z0, z1], _ =>
        simp at g0 g1
        subst g0 g1
        exact hD
    obtain ⟨X, hX⟩ := choose_lt hex
    refine ⟨some a, (List.range len).map X, m, by simp, ?_, .inr ⟨_, _, congrArg Prod.fst hx, by simp, fun k hk => ?_⟩, ?_⟩
    · intro hpos
      have hlen : 0 < len := by simpa using hpos
      obtain ⟨ab, ao, spot⟩ := a
      have hspot : spot = none := by simpa [Addr.add] using World.cell?_spot (hX 0 (by omega)).1
      subst hspot
      refine ⟨ab, ao, rfl, by have := cell_lt (hX 0 (by omega)).1; simpa [Addr.add] using this, fun k hk => ?_⟩
      have hk' : k < len := by simpa using hk
      have e : ((List.range len).map X).getD k default = X k := by simp [hk']
      rw [e]
      obtain ⟨c0, c1, _⟩ := hX k (by omega)
      rw [add_plain] at c0 c1
      exact ⟨c0, by rw [Nat.add_assoc]; exact c1⟩
    · have hk' : k < len := by simpa using hk
      have e : ((List.range len).map X).getD k default = X k := by simp [hk']
      rw [e, ← (hX k (by omega)).2.2.2.2]
      simp [hk']
    · intro k
      by_cases hk : k < len
      · have e : ((List.range len).map X).getD k default = X k := by simp [hk]
        rw [e]
        obtain ⟨_, _, h1, h2, _⟩ := hX k (by omega)
        exact ⟨h1, h2⟩
      · have e : ((List.range len).map X).getD k default = default := by simp [hk]
        rw [e]; exact hdef 0


theorem weightsAll_mem {H : Type} {P : Program} {e : TypeId} : ∀ {es : List (DataW H)} {k : Nat} {d : DataW H}, es[k]? = some d → ∀ n ∈ d.weights P e, n ∈ DataW.weightsAll P e es
  | d0 :: es, 0, d, h, n, hn => by
    simp only [List.getElem?_cons_zero, Option.some.injEq] at h
    subst h
    simp only [DataW.weightsAll, List.mem_append]
    exact .inl hn
  | d0 :: es, k + 1, d, h, n, hn => by
    simp only [List.getElem?_cons_succ] at h
    simp only [DataW.weightsAll, List.mem_append]
    exact .inr (weightsAll_mem h n hn)
  | [], _, _, h, _, _ => by simp at h
/-- A pair's value in a slice is no longer than any argument reaches. -/
theorem sized_pair {H : Type} {ts : List TypeId} {ds : List (DataW H)} (h : (DataW.weightsEach Tryz.prog ts ds).all (· ≤ reachBytes) = true) {j k : Nat} {es sp : List (DataW H)} {a b : List UInt8} (ht : ts[j]? = some 22) (hd : ds[j]? = some (.slice es sp))
    (he : es[k]? = some (.agg [.lit (.string a), .lit (.string b)])) : b.length ≤ reachBytes := by
  refine of_decide_eq_true (List.all_eq_true.1 h _ (DataW.weights_mem_each ht hd b.length ?_))
  simp only [DataW.weights, Tryz.underlying22]
  refine List.mem_cons_of_mem _ (List.mem_append_left _ (weightsAll_mem he _ ?_))
  simp [DataW.weights, DataW.weightsEach, Tryz.underlying45]
theorem bytesPair : Tryz.prog.bytesOf 45 = 32 := by kernel_rfl
end Go.Proofs.YtcmehaoicilejaaGreatDoor
