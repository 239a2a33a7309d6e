/- Plain laws: a text cut at slashes, by a recursion over its bytes; it is what strings.Split gives, and what a scan from the left gathers. -/
import Derived.Lib.SplitLaws
import Derived.Lib.IndexBytes
namespace Go.Proofs.YtbiclpkoocjjfaaDoor
open Go.Lib

def splitS : List UInt8 → List (List UInt8)
  | [] => [[]]
  | c :: r => if c = 47 then [] :: splitS r else match splitS r with
    | h :: t => (c :: h) :: t
    | [] => [[c]]
theorem splitS_ne (l : List UInt8) : splitS l ≠ [] := by
  cases l with
  | nil => simp [splitS]
  | cons c r =>
    unfold splitS
    split
    · simp
    · split <;> simp
theorem splitS_miss (l : List UInt8) (h : indexByte l 47 = -1) : splitS l = [l] := by
  induction l with
  | nil => rfl
  | cons c r ih =>
    unfold indexByte at h
    by_cases hc : c = 47
    · subst hc; simp at h
    · rw [if_neg (by simpa using hc)] at h
      by_cases hr : indexByte r 47 = -1
      · unfold splitS; rw [if_neg hc, ih hr]
      · rw [if_neg (by simpa using hr)] at h
        have := indexByte_ge r 47
        omega
theorem splitS_hit (l : List UInt8) (i : Nat) (h : indexByte l 47 = i) : splitS l = l.take i :: splitS (l.drop (i + 1)) := by
  induction l generalizing i with
  | nil => simp [indexByte] at h
  | cons c r ih =>
    unfold indexByte at h
    by_cases hc : c = 47
    · subst hc
      simp at h
      obtain rfl : i = 0 := by omega
      simp [splitS]
    · rw [if_neg (by simpa using hc)] at h
      by_cases hr : indexByte r 47 = -1
      · rw [if_pos (by simpa using hr)] at h; omega
      · rw [if_neg (by simpa using hr)] at h
        obtain ⟨j, rfl⟩ : ∃ j, i = j + 1 := ⟨i - 1, by have := indexByte_ge r 47; omega⟩
        have e := ih j (by omega)
        rw [splitS, if_neg hc, e]
        simp

theorem split_data : ∀ (k : Nat) (s : ByteArray), countB s ⟨#[47]⟩ = k → (splitB ⟨#[47]⟩ 0 k s).map (·.data.toList) = splitS s.data.toList := by
  intro k
  induction k with
  | zero =>
    intro s hk
    rcases indexB_cases s ⟨#[47]⟩ with hix | ⟨i, hix, _⟩
    · rw [splitB_miss _ _ _ _ hix, splitS_miss _ ((index_one _ 47).symm.trans hix)]; rfl
    · have := countB_hit s ⟨#[47]⟩ i (by decide) hix; omega
  | succ k ih =>
    intro s hk
    rcases indexB_cases s ⟨#[47]⟩ with hix | ⟨i, hix, _⟩
    · rw [countB_miss s _ hix] at hk; omega
    · have hc := countB_hit s ⟨#[47]⟩ i (by decide) hix
      rw [splitB_hit _ _ k s i hix, List.map_cons, ih _ (by omega), splitS_hit _ i ((index_one _ 47).symm.trans hix)]
      congr 1
      · rw [extract_data]; simp
      · rw [extract_data]
        congr 1
        have hl : s.size = s.data.toList.length := size_eq s
        rw [List.take_of_length_le (by rw [List.length_drop, ← hl]; exact Nat.le_refl _)]
        rfl

/-! ### the scan from the left -/
def scanStep (st : List (List UInt8) × List UInt8) (c : UInt8) : List (List UInt8) × List UInt8 := if c = 47 then (st.1 ++ [st.2], []) else (st.1, st.2 ++ [c])
def scanL (l : List UInt8) : List (List UInt8) × List UInt8 := l.foldl scanStep ([], [])
theorem scan_from (l : List UInt8) : ∀ st : List (List UInt8) × List UInt8, (l.foldl scanStep st).1 ++ [(l.foldl scanStep st).2] = st.1 ++ (match splitS l with | h :: t => (st.2 ++ h) :: t | [] => [st.2]) := by
  induction l with
  | nil => intro st; simp [splitS]
  | cons c r ih =>
    intro st
    rw [List.foldl_cons, ih]
    have hne := splitS_ne r
    by_cases hc : c = 47
    · unfold scanStep
      rw [if_pos hc, splitS, if_pos hc]
      cases hs : splitS r with
      | nil => exact absurd hs hne
      | cons h t => simp
    · unfold scanStep
      rw [if_neg hc, splitS, if_neg hc]
      cases hs : splitS r with
      | nil => exact absurd hs hne
      | cons h t => simp
theorem scan_split (l : List UInt8) : splitS l = (scanL l).1 ++ [(scanL l).2] := by
  have := scan_from l ([], [])
  unfold scanL
  rw [this]
  cases hs : splitS l with
  | nil => exact absurd hs (splitS_ne l)
  | cons h t => simp
theorem scan_snoc (l : List UInt8) (c : UInt8) : scanL (l ++ [c]) = scanStep (scanL l) c := by simp [scanL]
theorem scan_lengths (l : List UInt8) : (scanL l).1.length + (scanL l).2.length ≤ l.length := by
  suffices h : ∀ st : List (List UInt8) × List UInt8, (l.foldl scanStep st).1.length + (l.foldl scanStep st).2.length ≤ st.1.length + st.2.length + l.length by
    simpa [scanL] using h ([], [])
  induction l with
  | nil => intro st; simp
  | cons c r ih =>
    intro st
    rw [List.foldl_cons]
    have := ih (scanStep st c)
    have hs : (scanStep st c).1.length + (scanStep st c).2.length ≤ st.1.length + st.2.length + 1 := by
      unfold scanStep; split <;> simp <;> omega
    simp only [List.length_cons]
    omega
end Go.Proofs.YtbiclpkoocjjfaaDoor
