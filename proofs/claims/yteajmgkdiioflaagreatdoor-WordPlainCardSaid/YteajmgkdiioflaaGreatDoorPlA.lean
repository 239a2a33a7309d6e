/- Pieces in memory; the pieces of a file without a tag. -/
import Derived.Test.YteajmgkdiioflaaGreatDoorCutI
namespace Go.Proofs.YteajmgkdiioflaaGreatDoor
open Go.RowKit

theorem pcells_len (s : ByteArray) (L : List P3) : (L.flatMap (pcCells s)).length = L.length * 3 := by
  induction L with
  | nil => rfl
  | cons e r ih => rw [List.flatMap_cons, List.length_append, ih, List.length_cons]; simp [pcCells]; omega
theorem pcells_get (s : ByteArray) (L : List P3) (k r : Nat) (hr : r < 3) (hk : k < L.length) : (L.flatMap (pcCells s))[k * 3 + r]? = (pcCells s (L.getD k default))[r]? := by
  induction L generalizing k with
  | nil => simp at hk
  | cons e l ih =>
    rw [List.flatMap_cons]
    cases k with
    | zero => rw [List.getElem?_append_left (by simp [pcCells]; omega)]; simp
    | succ k =>
      rw [List.getElem?_append_right (by simp [pcCells]; omega)]
      have := ih k (by simpa using hk)
      rw [show (k + 1) * 3 + r - (pcCells s e).length = k * 3 + r by simp [pcCells]; omega, this]
      simp
theorem PiecesAt.shape {w : World} {base : Nat} {s : ByteArray} {v : Value} {L : List P3} (h : PiecesAt w base s v L) : ∃ A cap, v = .slice A L.length cap ∧ ∀ k, k < L.length → ∃ g, A = some ⟨g, 0, none⟩ ∧ base ≤ g ∧
    w.cell? ⟨g, k * 3, none⟩ = some (.int .i64 ((L.getD k default).kind : Int)) ∧ w.cell? ⟨g, k * 3 + 1, none⟩ = some (.string (s.extract (L.getD k default).a (L.getD k default).b)) ∧
    w.cell? ⟨g, k * 3 + 2, none⟩ = some (.int .i64 ((L.getD k default).a : Int)) := by
  have h0 := h
  unfold PiecesAt at h0
  rcases h0.2 with ⟨rfl, hx⟩ | ⟨g, cap, cur, rfl, hb, _⟩
  · have hz : L = [] := List.eq_nil_of_length_eq_zero hx
    subst hz
    exact ⟨_, _, rfl, fun j hj => absurd hj (by simp)⟩
  · refine ⟨_, _, rfl, fun k hk => ⟨g, rfl, hb, ?_, ?_, ?_⟩⟩
    · rw [h0.cellAt (k * 3) (by omega), show k * 3 = k * 3 + 0 from rfl, pcells_get s L k 0 (by omega) hk]; rfl
    · rw [h0.cellAt (k * 3 + 1) (by omega), pcells_get s L k 1 (by omega) hk]; rfl
    · rw [h0.cellAt (k * 3 + 2) (by omega), pcells_get s L k 2 (by omega) hk]; rfl

/-- No byte of l begins a tag. -/
def NoTag (l : Bytes) : Prop := ∀ i, Lib.hasPrefix (l.drop i) [60, 63] = false
theorem pre_two (l : Bytes) (h : Lib.hasPrefix l [60, 63] = false) : (tagN l).2 = 0 := by
  unfold tagN
  rw [if_neg, if_neg]
  · rw [h]; simp
  · cases l with
    | nil => decide
    | cons c r =>
      cases r with
      | nil => rw [pre_cons]; simp [Lib.hasPrefix]
      | cons d r =>
        rw [pre_cons, pre_cons] at h ⊢
        simp only [Lib.hasPrefix, List.isPrefixOf, Bool.and_true] at h
        intro h'
        simp only [Bool.and_eq_true] at h'
        rw [h'.1, h'.2.1] at h
        exact absurd h (by decide)
theorem cut_plain_from (l : Bytes) (h : NoTag l) : ∀ (n i : Nat), l.length - i ≤ n → cutR l i 0 = htmlP 0 l.length := by
  intro n
  induction n with
  | zero => intro i hi; exact cutR_end (by omega)
  | succ n ih =>
    intro i hi
    by_cases hl : l.length ≤ i
    · exact cutR_end hl
    · rw [cutR_none (by omega) (pre_two _ (h i))]
      exact ih (i + 1) (by omega)
theorem cut_plain (l : Bytes) (h : NoTag l) : cut3 l = htmlP 0 l.length := cut_plain_from l h l.length 0 (by omega)
/-- No tag begins ahead of byte k. -/
def NoTagTo (s : ByteArray) (k : Nat) : Prop := ∀ i, i < k → Lib.hasPrefix (s.data.toList.drop i) [60, 63] = false
theorem pre_at (s : ByteArray) (k : Nat) (h : k + 1 < s.size) : Lib.hasPrefix (s.data.toList.drop k) [60, 63] = (s[k] == 60 && s[k + 1] == 63) := by
  rw [drop_cons s k (by omega), drop_cons s (k + 1) h, pre_cons, pre_cons]
  simp [Lib.hasPrefix]
theorem noTag_all (s : ByteArray) (k : Nat) (h : NoTagTo s k) (hk : s.size ≤ k + 1) : NoTag s.data.toList := fun i => by
  by_cases hi : i < k
  · exact h i hi
  · cases hp : Lib.hasPrefix (s.data.toList.drop i) [60, 63] with
    | false => rfl
    | true =>
      have := pre_le hp
      rw [List.length_drop, ← Lib.size_eq] at this
      simp at this
      omega

end Go.Proofs.YteajmgkdiioflaaGreatDoor
