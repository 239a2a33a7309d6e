/- Plain: the pieces of a file, by places. -/
import Derived.Test.YteajmgkdiioflaaGreatDoorCutF
namespace Go.Proofs.YteajmgkdiioflaaGreatDoor
open Go.RowKit

/-- A piece: its kind, where its text begins and ends. -/
structure P3 where
  kind : Nat
  a : Nat
  b : Nat
instance : Inhabited P3 := ⟨⟨0, 0, 0⟩⟩
def htmlP (a b : Nat) : List P3 := if a < b then [⟨1, a, b⟩] else []
/-- The pieces from byte i on; fr: where text outside of code began that is not told yet. -/
def cutF3 (l : Bytes) : Nat → Nat → Nat → List P3
  | 0, _, fr => htmlP fr l.length
  | f + 1, i, fr =>
    if l.length ≤ i then htmlP fr l.length
    else if (tagN (l.drop i)).2 = 0 then cutF3 l f (i + 1) fr
    else
      let n := (tagN (l.drop i)).2
      let d := codeN (l.drop (i + n))
      let e := closeN (l.drop (i + n + d))
      htmlP fr i ++ ⟨(tagN (l.drop i)).1, i + n, i + n + d⟩ :: cutF3 l f (i + n + d + e) (i + n + d + e)
def cutR (l : Bytes) (i fr : Nat) : List P3 := cutF3 l (l.length - i) i fr
def cut3 (l : Bytes) : List P3 := cutR l 0 0

theorem cutF3_fuel (l : Bytes) : ∀ (n f f' i fr : Nat), l.length - i ≤ n → l.length - i ≤ f → l.length - i ≤ f' → cutF3 l f i fr = cutF3 l f' i fr := by
  intro n
  induction n with
  | zero =>
    intro f f' i fr h h1 h2
    have h0 : l.length ≤ i := by omega
    cases f <;> cases f' <;> simp [cutF3, h0]
  | succ n ih =>
    intro f f' i fr h h1 h2
    by_cases h0 : l.length ≤ i
    · cases f <;> cases f' <;> simp [cutF3, h0]
    · cases f with
      | zero => omega
      | succ f =>
        cases f' with
        | zero => omega
        | succ f' =>
          rw [cutF3, cutF3, if_neg h0, if_neg h0]
          split
          · exact ih f f' (i + 1) fr (by omega) (by omega) (by omega)
          · rename_i ht
            simp only
            congr 2
            exact ih f f' _ _ (by omega) (by omega) (by omega)
theorem cutR_end {l : Bytes} {i fr : Nat} (h : l.length ≤ i) : cutR l i fr = htmlP fr l.length := by
  unfold cutR
  rw [show l.length - i = 0 by omega, cutF3]
theorem cutR_none {l : Bytes} {i fr : Nat} (h : i < l.length) (ht : (tagN (l.drop i)).2 = 0) : cutR l i fr = cutR l (i + 1) fr := by
  unfold cutR
  rw [show l.length - i = (l.length - (i + 1)) + 1 by omega, cutF3, if_neg (by omega), if_pos ht]
theorem cutR_tag {l : Bytes} {i fr k n : Nat} (h : i < l.length) (ht : tagN (l.drop i) = (k, n)) (hn : n ≠ 0) :
    cutR l i fr = htmlP fr i ++ ⟨k, i + n, i + n + codeN (l.drop (i + n))⟩ :: cutR l (i + n + codeN (l.drop (i + n)) + closeN (l.drop (i + n + codeN (l.drop (i + n))))) (i + n + codeN (l.drop (i + n)) + closeN (l.drop (i + n + codeN (l.drop (i + n))))) := by
  have e : cutR l i fr = cutF3 l ((l.length - (i + 1)) + 1) i fr := by unfold cutR; rw [show l.length - i = (l.length - (i + 1)) + 1 by omega]
  rw [e, cutF3, if_neg (by omega), ht, if_neg hn]
  simp only
  congr 2
  unfold cutR
  exact cutF3_fuel l l.length _ _ _ _ (by omega) (by omega) (by omega)
theorem tagN_len (l : Bytes) : (tagN l).2 ≤ l.length := by
  unfold tagN
  split
  · rename_i h; have := pre_le h; simpa using this
  · split
    · rename_i h1 h
      simp only [Bool.and_eq_true, decide_eq_true_eq] at h
      have h5 := h.1.2
      split
      · simpa using h5
      · rename_i c r hd
        have hl : l.length = r.length + 6 := by have := congrArg List.length hd; simp at this; omega
        split
        · rename_i hp; have := pre_le hp; simp at this; simp only; omega
        · split
          · simp only; omega
          · simp
    · simp
theorem tagN_kind (l : Bytes) : (tagN l).1 = 0 ∨ (tagN l).1 = 2 ∨ (tagN l).1 = 3 := by
  unfold tagN
  split
  · simp
  · split
    · split
      · simp
      · split
        · simp
        · split <;> simp
    · simp
theorem closeN_le (l : Bytes) : closeN l ≤ l.length := by
  unfold closeN
  split
  · rename_i h0
    have h0 := pre_le h0
    split
    · rename_i h; have := pre_le h; rw [List.length_drop] at this; simp at *; omega
    · split
      · rename_i h; have := pre_le h; rw [List.length_drop] at this; simp at *; omega
      · simpa using h0
  · omega
end Go.Proofs.YteajmgkdiioflaaGreatDoor
