/- deep: values as trees, how many items they have, which are the same: plain functions; where they lie in memory. -/
import Derived.Test.YtopmodahdmnpjaaGreatDoorChecked
import Derived.Lib.Hide
import Derived.ProofKit
import Derived.Below
namespace Go.Proofs.YtopmodahdmnpjaaGreatDoor
open Go.RowKit
mutual
/-- A value: its kind, its number, its text, its items. -/
inductive GV where
  | mk (k n : Int) (t : ByteArray) (l : List GI)
/-- An item: whether its key is a text, the key's number and text, the value. -/
inductive GI where
  | mk (b : Bool) (i : Int) (s : ByteArray) (v : GV)
end
def GI.isText : GI → Bool
  | .mk b _ _ _ => b
def GI.int : GI → Int
  | .mk _ i _ _ => i
def GI.text : GI → ByteArray
  | .mk _ _ s _ => s
def GI.val : GI → GV
  | .mk _ _ _ v => v
mutual
/-- How many of m items are left behind a value's; below 0: it has more. -/
def leftV : GV → Int → Int
  | .mk _ _ _ l, m => leftL l (m - l.length)
def leftL : List GI → Int → Int
  | [], m => m
  | .mk _ _ _ v :: l, m => if m < 0 then m else leftL l (leftV v m)
end
/-- Plain values that are the same. -/
def sameP (k n : Int) (t : ByteArray) (n' : Int) (t' : ByteArray) : Bool := if k = 1 then (n != 0) == (n' != 0) else if k = 2 then n == n' else if k = 0 then true else t.toList == t'.toList
mutual
def alikeV : GV → GV → Bool
  | .mk k n t l, .mk k' n' t' l' => if k ≠ k' then false else if 0 ≤ k ∧ k ≤ 3 then sameP k n t n' t' else if k = 5 then n == n' else if k ≠ 4 then false else if l.length ≠ l'.length then false else alikeL l l'
def alikeL : List GI → List GI → Bool
  | .mk b i s v :: l, .mk b' i' s' v' :: l' => if ¬ (b = b' ∧ i = i' ∧ s = s') then false else if alikeV v v' = true then alikeL l l' else false
  | _, _ => true
end
theorem leftL_drop (l : List GI) (j : Nat) (it : GI) (h : l[j]? = some it) (m : Int) : leftL (l.drop j) m = if m < 0 then m else leftL (l.drop (j + 1)) (leftV it.val m) := by
  obtain ⟨hj, rfl⟩ := List.getElem?_eq_some_iff.1 h
  rw [List.drop_eq_getElem_cons hj]
  cases l[j] with
  | mk b i s v => rw [leftL]; rfl
theorem alikeL_drop (l l' : List GI) (j : Nat) (it it' : GI) (h : l[j]? = some it) (h' : l'[j]? = some it') : alikeL (l.drop j) (l'.drop j) = if ¬ (it.isText = it'.isText ∧ it.int = it'.int ∧ it.text = it'.text) then false else if alikeV it.val it'.val = true then alikeL (l.drop (j + 1)) (l'.drop (j + 1)) else false := by
  obtain ⟨hj, rfl⟩ := List.getElem?_eq_some_iff.1 h
  obtain ⟨hj', rfl⟩ := List.getElem?_eq_some_iff.1 h'
  rw [List.drop_eq_getElem_cons hj, List.drop_eq_getElem_cons hj']
  cases l[j] with
  | mk b i s v =>
    cases l'[j] with
    | mk b' i' s' v' => rw [alikeL]; rfl

/-- The cells of an item from place o on: its key, its value x. -/
def ItemAt (w : World) (b o : Nat) (it : GI) (x : Value) : Prop :=
  w.cell? ⟨b, o, none⟩ = some (.bool it.isText) ∧ w.cell? ⟨b, o + 1, none⟩ = some (.int .i64 it.int) ∧ w.cell? ⟨b, o + 2, none⟩ = some (.string it.text) ∧
  ∃ v0 v1 v2 v3, x = .agg #[v0, v1, v2, v3] ∧ w.cell? ⟨b, o + 3, none⟩ = some v0 ∧ w.cell? ⟨b, o + 4, none⟩ = some v1 ∧ w.cell? ⟨b, o + 5, none⟩ = some v2 ∧ w.cell? ⟨b, o + 6, none⟩ = some v3
/-- A value in memory: what lies below B. -/
inductive VAt (w : World) (B : Nat) : GV → Value → Prop where
  | mk (k n : Int) (t : ByteArray) (l : List GI) (A : Option Addr) (c b off : Nat) (C : Nat → Value) (hc : l.length ≤ c) (hn : l.length ≤ 9223372036854775807) (hA : 0 < l.length → A = some ⟨b, off, none⟩ ∧ b < B)
      (hi : ∀ i it, l[i]? = some it → ItemAt w b (off + i * 7) it (C i)) (hv : ∀ i it, l[i]? = some it → VAt w B it.val (C i)) : VAt w B (.mk k n t l) (.agg #[.int .i64 k, .int .i64 n, .string t, .slice A l.length c])
theorem VAt.form {w : World} {B : Nat} {g : GV} {v0 v1 v2 v3 : Value} (h : VAt w B g (.agg #[v0, v1, v2, v3])) : ∃ (k n : Int) (t : ByteArray) (A : Option Addr) (len c : Nat), v0 = .int .i64 k ∧ v1 = .int .i64 n ∧ v2 = .string t ∧ v3 = .slice A len c := by
  cases h
  exact ⟨_, _, _, _, _, _, rfl, rfl, rfl, rfl⟩
theorem ItemAt.below {w w' : World} {B b o : Nat} {it : GI} {x : Value} (h : ItemAt w b o it x) (hb : Below B w w') (hlt : b < B) : ItemAt w' b o it x := by
  obtain ⟨h0, h1, h2, v0, v1, v2, v3, e, h3, h4, h5, h6⟩ := h
  exact ⟨(hb.cell (p := ⟨b, _, none⟩) hlt).trans h0, (hb.cell (p := ⟨b, _, none⟩) hlt).trans h1, (hb.cell (p := ⟨b, _, none⟩) hlt).trans h2, v0, v1, v2, v3, e,
    (hb.cell (p := ⟨b, _, none⟩) hlt).trans h3, (hb.cell (p := ⟨b, _, none⟩) hlt).trans h4, (hb.cell (p := ⟨b, _, none⟩) hlt).trans h5, (hb.cell (p := ⟨b, _, none⟩) hlt).trans h6⟩
/-- A number that an int can be. -/
def In64 (n : Int) : Prop := -9223372036854775808 ≤ n ∧ n ≤ 9223372036854775807
/-- A value whose numbers ints can be, and whose texts are no longer than any argument reaches. -/
inductive Fit : GV → Prop where
  | mk (k n : Int) (t : ByteArray) (l : List GI) (hk : In64 k) (hn : In64 n) (ht : t.size ≤ 140737488351232) (h1 : ∀ (i : Nat) (it : GI), l[i]? = some it → In64 it.int ∧ it.text.size ≤ 140737488351232) (h2 : ∀ (i : Nat) (it : GI), l[i]? = some it → Fit it.val) : Fit (.mk k n t l)
end Go.Proofs.YtopmodahdmnpjaaGreatDoor
