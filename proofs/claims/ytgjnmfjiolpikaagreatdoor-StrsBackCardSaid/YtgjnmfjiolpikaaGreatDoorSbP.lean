/- strs: what was cut is joined again; the list of some texts may be: plain laws. -/
import Derived.Test.YtgjnmfjiolpikaaGreatDoorDpRa
import Derived.Test.YtgjnmfjiolpikaaGreatDoorDoA
import Derived.Lib.Join
import Derived.Lib.Split
import Derived.Lib.IndexMore
namespace Go.Proofs.YtgjnmfjiolpikaaGreatDoor
open Go Go.RowKit
namespace Sb
open Dp
open Go.Proofs.YtgjnmfjiolpikaaGreatDoor.Nm (normG)
theorem occ_eq {s sub : List UInt8} {i : Nat} (hi : i ≤ s.length) (h : Lib.occAt s sub i = true) : s = s.take i ++ (sub ++ s.drop (i + sub.length)) := by
  have h1 : sub <+: s.drop i := by
    unfold Lib.occAt at h
    exact List.isPrefixOf_iff_prefix.1 h
  obtain ⟨r, hr⟩ := h1
  have e : s.drop (i + sub.length) = r := by
    rw [← List.drop_drop, ← hr]
    simp
  rw [e, hr, List.take_append_drop]
theorem split_cons (sep : List UInt8) (x : List UInt8) (l : List (List UInt8)) (hl : l ≠ []) : Lib.join (x :: l) sep = x ++ (sep ++ Lib.join l sep) := by
  cases l with
  | nil => exact absurd rfl hl
  | cons y r =>
    rw [Lib.join_cons, Lib.join_cons]
    simp [Lib.joinTail]
theorem splitK_ne (sep : List UInt8) (k : Nat) (s : List UInt8) : Lib.splitK sep 0 k s ≠ [] := by
  cases k with
  | zero => simp [Lib.splitK]
  | succ k =>
    unfold Lib.splitK
    split <;> simp
/-- What was cut is joined again. -/
theorem join_splitK (sep : List UInt8) : ∀ (k : Nat) (s : List UInt8), Lib.join (Lib.splitK sep 0 k s) sep = s
  | 0, s => Lib.join_one s sep
  | k + 1, s => by
    unfold Lib.splitK
    rcases Lib.index_spec s sep with ⟨h, _⟩ | ⟨i, h, hi, ho, _⟩
    · rw [h, if_pos (by decide)]
      exact Lib.join_one s sep
    · rw [h, if_neg (by simp), split_cons _ _ _ (splitK_ne _ _ _), join_splitK sep k]
      have e : ((i : Int)).toNat = i := by omega
      rw [e, Nat.add_zero]
      exact (occ_eq hi ho).symm
def joinB (l : List ByteArray) (sep : ByteArray) : List UInt8 := Lib.join (l.map (·.data.toList)) sep.data.toList
theorem join_split (sep s : ByteArray) (k : Nat) : joinB (Lib.splitB sep 0 k s) sep = s.data.toList := by
  unfold joinB
  rw [Lib.splitB_data]
  exact join_splitK _ _ _
def sumS (l : List ByteArray) : Nat := (l.map (·.size)).sum
theorem join_len (sep : ByteArray) : ∀ l : List ByteArray, sumS l + (l.length - 1) * sep.size = (joinB l sep).length
  | [] => by simp [sumS, joinB, Lib.join_nil]
  | [x] => by
    unfold joinB
    rw [List.map_cons, List.map_nil, Lib.join_one]
    simp [sumS]
  | x :: y :: r => by
    have ih := join_len sep (y :: r)
    unfold joinB at ih ⊢
    rw [List.map_cons, split_cons _ _ _ (by simp), List.length_append, List.length_append, ← ih]
    simp [sumS, Nat.add_mul]
    omega
theorem sum_mem : ∀ (l : List ByteArray) (x : ByteArray), x ∈ l → x.size ≤ sumS l
  | [], x, h => by simp at h
  | y :: l, x, h => by
    have e : sumS (y :: l) = y.size + sumS l := by simp [sumS]
    rw [e]
    rcases List.mem_cons.1 h with rfl | h
    · omega
    · have := sum_mem l x h
      omega
theorem sum_le (sep s : ByteArray) (k : Nat) : sumS (Lib.splitB sep 0 k s) ≤ s.size := by
  have h1 := join_len sep (Lib.splitB sep 0 k s)
  rw [join_split] at h1
  have h2 : s.data.toList.length = s.size := by simp
  omega
/-- The list of some texts. -/
def rowI : List ByteArray → Nat → List GI
  | [], _ => []
  | x :: r, k => .mk false k ⟨#[]⟩ (.mk 3 0 x []) :: rowI r (k + 1)
def rowG (l : List ByteArray) : GV := .mk 4 l.length ⟨#[]⟩ (rowI l 0)
theorem rowI_len : ∀ (l : List ByteArray) (k : Nat), (rowI l k).length = l.length
  | [], _ => rfl
  | _ :: r, k => by rw [rowI, List.length_cons, List.length_cons, rowI_len r]
theorem rowI_get : ∀ (l : List ByteArray) (k i : Nat) (x : ByteArray), l[i]? = some x → (rowI l k)[i]? = some (.mk false ((k + i : Nat) : Int) ⟨#[]⟩ (.mk 3 0 x []))
  | [], _, i, x, h => by simp at h
  | y :: r, k, 0, x, h => by
    simp at h
    subst h
    rfl
  | y :: r, k, i + 1, x, h => by
    have := rowI_get r (k + 1) i x (by simpa using h)
    rw [show k + 1 + i = k + (i + 1) by omega] at this
    simpa [rowI] using this
theorem rowI_app : ∀ (a b : List ByteArray) (k : Nat), rowI (a ++ b) k = rowI a k ++ rowI b (k + a.length)
  | [], b, k => by simp [rowI]
  | x :: a, b, k => by
    rw [List.cons_append, rowI, rowI, rowI_app a b, List.cons_append, List.length_cons, show k + 1 + a.length = k + (a.length + 1) by omega]
theorem left_row : ∀ (l : List ByteArray) (k : Nat) (m : Int), 0 ≤ m → leftL (rowI l k) m = m
  | [], _, m, _ => by rw [rowI, leftL]
  | x :: r, k, m, h => by
    rw [rowI, leftL, if_neg (by omega), leftV, leftL]
    simpa using left_row r (k + 1) m h
theorem may_row (n d : Int) : ∀ (l : List ByteArray) (k : Nat) (m : List Key3), (∀ x ∈ l, x.size ≤ 65536) → (∀ q ∈ m, q.1 = false ∧ q.2.1 < (k : Int)) → (k : Int) + l.length ≤ n → mayL (rowI l k) m n d = true
  | [], k, m, _, _, _ => by rw [rowI, mayL]
  | x :: r, k, m, hx, hm, hn => by
    rw [List.length_cons] at hn
    rw [rowI, mayL]
    have h1 : normG false (k : Int) ⟨#[]⟩ = (false, (k : Int), ⟨#[]⟩) := by unfold normG; rfl
    rw [if_neg (by rw [h1]; simp)]
    have h2 : ((false, (k : Int), ⟨#[]⟩) : Key3) ∉ m := fun h => by
      have := (hm _ h).2
      simp at this
    rw [if_neg h2]
    have h3 : mayV (.mk 3 0 x []) (d + 1) = true := by
      rw [mayV, if_neg (by decide)]
      have := hx x (List.mem_cons_self ..)
      simp [flatB, this]
    rw [if_pos h3, if_neg (by omega)]
    refine may_row n d r (k + 1) _ (fun y hy => hx y (List.mem_cons_of_mem _ hy)) (fun q hq => ?_) (by omega)
    rcases List.mem_append.1 hq with hq | hq
    · obtain ⟨q1, q2⟩ := hm q hq
      exact ⟨q1, by omega⟩
    · simp at hq
      subst hq
      exact ⟨rfl, by show (k : Int) < _; omega⟩
/-- The list of few texts, each of which may be, may be. -/
theorem right_row (l : List ByteArray) (h1 : l.length ≤ 2048) (h2 : ∀ x ∈ l, x.size ≤ 65536) : rightB (rowG l) = true := by
  have hf : fewB (rowG l) = true := by
    refine few_yes ?_
    unfold rowG
    rw [leftV, rowI_len, left_row l 0 _ (by omega)]
    omega
  have hm : mayV (rowG l) 0 = true := by
    unfold rowG
    rw [mayV, if_pos rfl, if_pos ⟨rfl, by omega, by rw [rowI_len]; exact h1, by decide⟩]
    exact may_row _ _ l 0 [] h2 (fun q hq => by simp at hq) (by simp)
  unfold rightB
  rw [hf, hm]
  rfl
theorem fit_row (l : List ByteArray) (h1 : l.length ≤ 1000000) (h2 : ∀ x ∈ l, x.size ≤ 140737488351232) : Fit (rowG l) := by
  have key : ∀ (i : Nat) (it : GI), (rowI l 0)[i]? = some it → ∃ x ∈ l, it = .mk false ((i : Nat) : Int) ⟨#[]⟩ (.mk 3 0 x []) ∧ i < l.length := by
    intro i it h
    have hi : i < l.length := by
      have := (List.getElem?_eq_some_iff.1 h).1
      rwa [rowI_len] at this
    have h3 := rowI_get l 0 i _ (List.getElem?_eq_getElem hi)
    rw [h, Nat.zero_add] at h3
    exact ⟨_, List.getElem_mem hi, Option.some.inj h3, hi⟩
  refine .mk _ _ _ _ ⟨by decide, by decide⟩ ⟨by omega, by omega⟩ (by decide) (fun i it h => ?_) (fun i it h => ?_)
  · obtain ⟨x, hx, rfl, hi⟩ := key i it h
    exact ⟨⟨by show -9223372036854775808 ≤ (i : Int); omega, by show (i : Int) ≤ 9223372036854775807; omega⟩, by show (0 : Nat) ≤ _; omega⟩
  · obtain ⟨x, hx, rfl, hi⟩ := key i it h
    exact .mk _ _ _ _ ⟨by decide, by decide⟩ ⟨by decide, by decide⟩ (h2 x hx) (fun i it h => by simp at h) (fun i it h => by simp at h)
def textG : GV → ByteArray
  | .mk _ _ t _ => t
def sizesL : List GI → Nat
  | [] => 0
  | .mk _ _ _ v :: r => (textG v).size + sizesL r
theorem sizes_row : ∀ (l : List ByteArray) (k : Nat), sizesL (rowI l k) = sumS l
  | [], _ => rfl
  | x :: r, k => by
    rw [rowI, sizesL, sizes_row r]
    simp [textG, sumS]
theorem sizes_take : ∀ (l : List GI) (j : Nat) (it : GI), l[j]? = some it → sizesL (l.take (j + 1)) = sizesL (l.take j) + (textG it.val).size
  | [], j, it, h => by simp at h
  | .mk b i s v :: r, 0, it, h => by
    simp at h
    subst h
    simp [sizesL, GI.val]
  | .mk b i s v :: r, j + 1, it, h => by
    have := sizes_take r j it (by simpa using h)
    rw [List.take_succ_cons, List.take_succ_cons, sizesL, sizesL, this]
    omega
theorem sizes_le : ∀ (l : List GI) (j : Nat), sizesL (l.take j) ≤ sizesL l
  | [], j => by simp [sizesL]
  | .mk b i s v :: r, 0 => by simp [sizesL]
  | .mk b i s v :: r, j + 1 => by
    have := sizes_le r j
    rw [List.take_succ_cons, sizesL, sizesL]
    omega
end Sb
end Go.Proofs.YtgjnmfjiolpikaaGreatDoor
