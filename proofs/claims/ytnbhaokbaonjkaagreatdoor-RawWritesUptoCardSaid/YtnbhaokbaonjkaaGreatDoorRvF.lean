/- Rows of bytes that were made of a text: a text is appended to them. -/
import Derived.Test.YtnbhaokbaonjkaaGreatDoorRvE
import Derived.Test.YtnbhaokbaonjkaaGreatDoorRwT
import Derived.Lib.AppendStr
import Derived.Lib.FrozenHead
import Derived.Laws.IdiomStrings
namespace Go.Proofs.YtnbhaokbaonjkaaGreatDoor
open Go Go.RowKit
namespace Rv
open Go.Proofs.YtnbhaokbaonjkaaGreatDoor.Rw
/-- Cells are stored in a row whose marked range lies behind its end. -/
theorem store_far (P : Program) (g o : Nat) (t : TypeId) (fz : Nat × Nat) : ∀ (vs : List Value) (i : Nat) (cur : Array Value) (w : World), w.heap[g]? = some (.cells cur t fz) → cur.size ≤ fz.1 → o + i + vs.length ≤ cur.size → (∀ v ∈ vs, v.oneCell' = true) →
    (storeCells ⟨g, o, none⟩ vs i).run P w = .ok () (w.setRow g (cur.toList.take (o + i) ++ vs ++ cur.toList.drop (o + i + vs.length)).toArray)
  | [], i, cur, w, hg, _, _, _ => by
    simp only [storeCells, List.append_nil, List.length_nil, Nat.add_zero, List.take_append_drop, Array.toArray_toList]
    rw [setRow_self w g cur t fz hg]
    rfl
  | v :: rest, i, cur, w, hg, hfz, hl, h1 => by
    have hi : o + i < cur.size := by simp at hl; omega
    have ha : (⟨g, o, none⟩ : Addr).add i = ⟨g, o + i, none⟩ := by unfold Addr.add; split <;> simp_all
    have hc : w.cell? ⟨g, o + i, none⟩ = some cur[o + i] := by simp [World.cell?, hg, hi]
    have hf : w.frozen? ⟨g, o + i, none⟩ = false := by
      obtain ⟨lo, up⟩ := fz
      simp only at hfz
      simp only [World.frozen?, hg, Bool.and_eq_false_iff, decide_eq_false_iff_not]
      left
      omega
    have hst : (store ((⟨g, o, none⟩ : Addr).add i) v).run P w = .ok () (w.setRow g (cur.setIfInBounds (o + i) v)) := by
      rw [ha, run_store P w _ v _ (h1 v (by simp)), hc]
      simp [hf, setCell_eq_setRow w g (o + i) cur t fz v hg]
    have ih := store_far P g o t fz rest (i + 1) (cur.setIfInBounds (o + i) v) (w.setRow g (cur.setIfInBounds (o + i) v)) (setRow_heap w g cur _ t _ hg) (by simpa using hfz) (by simp at hl ⊢; omega) (fun x hx => h1 x (by simp [hx]))
    simp only [storeCells, Sem.run_bind, hst, Result.andThen_ok, ih, setRow_setRow]
    congr 3
    have e := list_seg_step cur.toList (o + i) v rest (by simp at hl ⊢; omega)
    simpa [Array.toList_setIfInBounds, Nat.add_assoc] using e
/-- A row of bytes that the call may write on: its own, or one that was made of a text. -/
def RowX (B : Nat) (v : Value) (l : Bytes) (w : World) : Prop :=
  w.ownsRow B 5 1 v l.length (Lib.byteCells l) ∨
  ∃ g cap cur fz, v = .slice (some ⟨g, 0, none⟩) l.length cap ∧ B ≤ g ∧ w.heap[g]? = some (.cells cur 5 fz) ∧ cap ≤ fz.1 ∧ l.length ≤ cap ∧ cap ≤ maxLen ∧ cur.size = cap ∧ cur.toList.take l.length = Lib.byteCells l
theorem addr_row (g j : Nat) : (⟨g, 0, none⟩ : Addr).add j = ⟨g, j, none⟩ := by
  unfold Addr.add
  split <;> simp_all

theorem u8_inf : ∃ i : TypeInfo, Tryz.prog.info? 5 = some i ∧ i.zero = some (.int .u8 0) ∧ i.size = 1 ∧ i.bytes = 1 := Bd.u8_parts
set_option maxRecDepth 100000 in
theorem run_app_X {B : Nat} {v : Value} {l : Bytes} {w : World} (h : RowX B v l w) (hB : B ≤ w.heap.size) (ty : TypeId) (s : ByteArray) (hlen : l.length + s.size ≤ 1000000000) :
    ∃ v' w' row, (Builtin.append_ #[67, 9] ty #[v, .string s]).run Tryz.prog w = .ok v' w' ∧ RowX B v' (l ++ s.data.toList) w' ∧ w.grownBy w' row ∧ (∀ k, row = some k → B ≤ k) := by
  obtain ⟨i0, hi0, hz0, hz1, hz2⟩ := u8_inf
  have hss := Lib.size_eq s
  have hcell : Lib.byteCells (l ++ s.data.toList) = Lib.byteCells l ++ Lib.strCells s := by rw [Lib.byteCells_append, Lib.strCells_eq]
  have hlen2 : (l ++ s.data.toList).length = l.length + s.size := by rw [List.length_append, ← hss]
  rcases h with h | ⟨g, cap, cur, fz, rfl, hg, hb, hfz, hlc, hcm, hcs, htk⟩
  · obtain ⟨v', w', a1, a2, a3, -⟩ := Lib.run_append_own_string (P := Tryz.prog) w B 67 9 ty 5 i0 Tryz.underlying67 Tryz.underlying9 hi0 hz0 hz1 hz2 v l.length (Lib.byteCells l) h s (by unfold maxLen; omega) (by omega) hB
    refine ⟨v', w', _, a1, .inl ?_, a3, fun k hk => (h.lt k hk).1⟩
    rw [hlen2, hcell]
    exact a2
  · by_cases hroom : l.length + s.size ≤ cap
    · have hf := Lib.run_firstCells_string (P := Tryz.prog) w 1 s
      have hst := store_far Tryz.prog g l.length 5 fz (Lib.strCells s) 0 cur w hb (by omega) (by rw [Lib.strCells_length, hcs]; omega) (Lib.strCells_oneCell s)
      simp only [Nat.add_zero, Lib.strCells_length] at hst
      refine ⟨.slice (some ⟨g, 0, none⟩) (l.length + s.size) cap, w.setRow g (cur.toList.take l.length ++ Lib.strCells s ++ cur.toList.drop (l.length + s.size)).toArray, some g, ?_, ?_, ⟨rfl, rfl, rfl, by simp, fun k _ hk => setRow_other w g k _ (fun e => hk (by simp [e]))⟩, fun k hk => by injection hk with hk; omega⟩
      · simp [Builtin.append_, run_underlying Tryz.underlying67, run_underlying Tryz.underlying9, sizeOf, typeInfo, hi0, hz1, Builtin.lenOf, hroom, hf, Addr.add_lit, hst]
      · refine .inr ⟨g, cap, _, fz, by rw [hlen2], hg, setRow_heap w g cur _ _ _ hb, hfz, by rw [hlen2]; exact hroom, hcm, ?_, ?_⟩
        · simp only [List.size_toArray, List.length_append, List.length_take, List.length_drop, Array.length_toList, Lib.strCells_length]
          omega
        · rw [hcell, htk, hlen2]
          have : (Lib.byteCells l ++ Lib.strCells s).length = l.length + s.size := by rw [List.length_append, Lib.byteCells_length, Lib.strCells_length]
          rw [← this]
          exact List.take_left
    · have holds : ∀ j u, (Lib.byteCells l)[j]? = some u → w.cell? ((⟨g, 0, none⟩ : Addr).add j) = some u := fun j u hu => by
        rw [addr_row, cell_of_row w g j cur _ fz hb]
        rw [← htk, List.getElem?_take] at hu
        split at hu
        · simpa using hu
        · cases hu
      have hr := Lib.run_append_grow_string (P := Tryz.prog) w 67 9 ty 5 i0 (.int .u8 0) Tryz.underlying67 Tryz.underlying9 hi0 hz0 ⟨g, 0, none⟩ l.length cap (Lib.byteCells l) (by rw [hz1, Lib.byteCells_length]; omega) holds s (by omega) (by omega) (by rw [hz2]; exact growslice_fits (by omega) (by omega))
      have hge := grownCap_ge w (l.length + s.size) cap 5
      have hcm2 : grownCap w (l.length + s.size) cap 5 ≤ maxLen := grownCap_le_maxLen w (l.length + s.size) cap _ (by unfold maxLen; omega)
      refine ⟨_, _, none, hr, .inl ?_, ⟨rfl, rfl, rfl, by simp, fun k hk _ => heap_alloc_old w.drew _ hk⟩, fun k hk => by cases hk⟩
      rw [hlen2, hcell]
      refine ⟨by rw [List.length_append, Lib.byteCells_length, Lib.strCells_length, Nat.mul_one], .inr ⟨w.heap.size, _, _, rfl, hB, heap_alloc_new w.drew _, hge, hcm2, ?_, ?_⟩⟩
      · have hz1' : (Value.int IntKind.u8 0).cells.size = 1 := rfl
        simp only [Array.size_append, List.size_toArray, size_zeroCells, hz1', Lib.byteCells_length, Lib.strCells_length]
        omega
      · simp only [Array.toList_append, List.append_assoc]
        rw [← List.append_assoc]
        have : (Lib.byteCells l ++ Lib.strCells s).length = (l.length + s.size) * 1 := by rw [List.length_append, Lib.byteCells_length, Lib.strCells_length, Nat.mul_one]
        rw [← this]
        exact List.take_left
end Rv
end Go.Proofs.YtnbhaokbaonjkaaGreatDoor
