/- deep: which values may be: plain functions; a map of the keys that were met. -/
import Derived.Test.YtgjnmfjiolpikaaGreatDoorNmW
import Derived.Test.YtgjnmfjiolpikaaGreatDoorDpB
import Derived.Maps.Own
import Derived.Maps.Views
import Derived.DeepKeys4
namespace Go.Proofs.YtgjnmfjiolpikaaGreatDoor
open Go Go.RowKit
open Go.Maps (Keyed IsMap)
namespace Dp
open Go.Proofs.YtgjnmfjiolpikaaGreatDoor.Nm (normG keyV)
def GI.keyG : GI → Bool × Int × ByteArray
  | .mk b i s _ => (b, i, s)
theorem keyG_eq (it : GI) : GI.keyG it = (it.isText, it.int, it.text) := by cases it; rfl
/-- A value of another kind than a list. -/
def flatB (k n : Int) (t : ByteArray) : Bool :=
  if k = 0 then n == 0 && t.size == 0 else if k = 1 then (n == 0 || n == 1) && t.size == 0 else if k = 2 then t.size == 0 else if k = 3 then n == 0 && decide (t.size ≤ 65536) else if k = 5 then decide (0 < n) && t.size == 0 else false
instance memKey (k : Bool × Int × ByteArray) : (ks : List (Bool × Int × ByteArray)) → Decidable (k ∈ ks)
  | [] => isFalse (by simp)
  | a :: r => if h : k = a then isTrue (by simp [h]) else match memKey k r with
    | isTrue h2 => isTrue (by simp [h2])
    | isFalse h2 => isFalse (by simp [h, h2])
mutual
/-- May a value be, within so many lists? -/
def mayV : GV → Int → Bool
  | .mk k n t l, d => if k = 4 then (if t.size = 0 ∧ -1 ≤ n ∧ l.length ≤ 2048 ∧ d < 64 then mayL l [] n d else false) else l.length == 0 && flatB k n t
/-- May the rest of a list's items be, behind those with the keys m? -/
def mayL : List GI → List (Bool × Int × ByteArray) → Int → Int → Bool
  | [], _, _, _ => true
  | .mk b i s v :: l, m, n, d => if normG b i s ≠ (b, i, s) then false else if (b, i, s) ∈ m then false else if mayV v (d + 1) = true then (if b = false ∧ 0 ≤ n ∧ n ≤ i then false else mayL l (m ++ [(b, i, s)]) n d) else false
end
def keysOf (l : List GI) (j : Nat) : List (Bool × Int × ByteArray) := (l.take j).map GI.keyG
theorem keysOf_succ (l : List GI) (j : Nat) (it : GI) (h : l[j]? = some it) : keysOf l (j + 1) = keysOf l j ++ [GI.keyG it] := by
  unfold keysOf
  rw [List.take_add_one, h, List.map_append]
  rfl
theorem mayL_drop (l : List GI) (j : Nat) (it : GI) (h : l[j]? = some it) (n d : Int) : mayL (l.drop j) (keysOf l j) n d =
    if normG it.isText it.int it.text ≠ GI.keyG it then false else if GI.keyG it ∈ keysOf l j then false else if mayV it.val (d + 1) = true then (if it.isText = false ∧ 0 ≤ n ∧ n ≤ it.int then false else mayL (l.drop (j + 1)) (keysOf l (j + 1)) n d) else false := by
  rw [keysOf_succ l j it h]
  obtain ⟨hj, rfl⟩ := List.getElem?_eq_some_iff.1 h
  rw [List.drop_eq_getElem_cons hj]
  cases l[j] with
  | mk b i s v => rw [mayL]; rfl
/-- A key that an argument can hold. -/
def KeyOK (k : Bool × Int × ByteArray) : Prop := In64 k.2.1 ∧ k.2.2.size ≤ 140737488351232
theorem key_type : Tryz.prog.keyTypeAt (Tryz.prog.types.size + 1) 44 = true := by kernel_rfl
theorem key_row : (44 : TypeId) < Tryz.prog.types.size := of_decide_eq_true (by kernel_rfl)
theorem key_laid : laidOutB Tryz.prog = true := by kernel_rfl
theorem key_small : Tryz.prog.types.size + 1 + 1 ≤ 10000 := of_decide_eq_true (by kernel_rfl)
theorem key_keyed : Keyed Tryz.prog 44 := Keyed.of_law (deep_law_laid key_laid key_small key_row key_type (by rw [Tryz.underlying44]))
theorem key_cells3 : Tryz.prog.cellsOf 44 = 3 := by kernel_rfl
theorem key_bool : Tryz.prog.cellsOf 4 = 1 := by kernel_rfl
theorem key_int : Tryz.prog.cellsOf 3 = 1 := by kernel_rfl
theorem key_str : Tryz.prog.cellsOf 9 = 1 := by kernel_rfl
theorem lits_bool (d : Nat) (b : Bool) : Tryz.prog.keyLits (d + 1) 4 [.bool b] = some [.bool b] := by unfold Program.keyLits; simp [Tryz.underlying4]
theorem lits_int (d : Nat) (i : Int) (h : (Lit.int .i64 i).wf = true) : Tryz.prog.keyLits (d + 1) 3 [.int .i64 i] = some [.int .i64 i] := by unfold Program.keyLits; simp [Tryz.underlying3, h]
theorem lits_str (d : Nat) (s : ByteArray) (h : s.size ≤ maxLen) : Tryz.prog.keyLits (d + 1) 9 [.string s] = some [.string s.data.toList] := by unfold Program.keyLits; simp [Tryz.underlying9, h]
theorem key_lit (k : Bool × Int × ByteArray) (h : KeyOK k) : ∃ kl, keyOf Tryz.prog 44 (keyV k) = some kl := by
  obtain ⟨b, i, s⟩ := k
  obtain ⟨hi, hs⟩ := h
  have hw : (Lit.int .i64 i).wf = true := by
    have h2 : -9223372036854775808 ≤ i ∧ i ≤ 9223372036854775807 := hi
    simp [Lit.wf, IntKind.min, IntKind.max, IntKind.signed, IntKind.bits]
    omega
  have hf : (keyV (b, i, s)).formed Tryz.prog 44 = true := by simp [keyV, Value.formed, Tryz.underlying44, key_cells3]
  have hk : Tryz.prog.keyType 44 = true := key_type
  have hs' : s.size ≤ maxLen := by
    have h2 : s.size ≤ 140737488351232 := hs
    unfold maxLen
    omega
  obtain ⟨d, hd⟩ : ∃ d, Tryz.prog.types.size = d + 1 := Nat.exists_eq_succ_of_ne_zero fun h0 => by
    have h9 := key_row
    rw [h0] at h9
    exact Nat.not_lt_zero _ h9
  unfold keyOf
  rw [Tryz.underlying44]
  simp only [hk, hf, Bool.and_self, if_true]
  unfold Program.keyLits
  rw [Tryz.underlying44, hd]
  simp [keyV, Value.cells, key_cells3, key_bool, key_int, key_str, lits_bool, lits_int d i hw, lits_str d s hs']
theorem keyV_inj {a b : Bool × Int × ByteArray} (h : keyV a = keyV b) : a = b := by
  obtain ⟨a0, a1, a2⟩ := a
  obtain ⟨b0, b1, b2⟩ := b
  simp [keyV] at h
  obtain ⟨rfl, rfl, rfl⟩ := h
  rfl
/-- The place of a key among others, from place i on; -1. -/
def findK : List (Bool × Int × ByteArray) → (Bool × Int × ByteArray) → Int → Int
  | [], _, _ => -1
  | a :: r, k, i => if a = k then i else findK r k (i + 1)
theorem findK_le : ∀ (ks : List (Bool × Int × ByteArray)) (k : Bool × Int × ByteArray) (i : Int), 0 ≤ i → -1 ≤ findK ks k i ∧ findK ks k i < i + ks.length ∨ findK ks k i = -1
  | [], _, _, _ => by simp [findK]
  | a :: r, k, i, h => by
    unfold findK
    split
    · left; simp only [List.length_cons]; omega
    · rcases findK_le r k (i + 1) (by omega) with h | h
      · left; simp only [List.length_cons]; omega
      · exact .inr h
theorem findK_mem : ∀ (ks : List (Bool × Int × ByteArray)) (k : Bool × Int × ByteArray) (i : Int), 0 ≤ i → decide (0 ≤ findK ks k i) = decide (k ∈ ks)
  | [], _, _, _ => by simp [findK]
  | a :: r, k, i, h => by
    unfold findK
    by_cases he : a = k
    · rw [if_pos he]; simp [he, h]
    · rw [if_neg he, findK_mem r k (i + 1) (by omega)]
      have : k ≠ a := fun e => he e.symm
      simp [this]
end Dp
end Go.Proofs.YtgjnmfjiolpikaaGreatDoor
