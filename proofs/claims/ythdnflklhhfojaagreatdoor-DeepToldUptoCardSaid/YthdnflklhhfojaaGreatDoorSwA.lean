/- deep: the text of a value: plain functions, and how long it is. -/
import Derived.Test.YthdnflklhhfojaaGreatDoorDpA
import Derived.Lib.ItoaNum
namespace Go.Proofs.YthdnflklhhfojaaGreatDoor
open Go.RowKit
namespace Sw
/-- A text with a backslash ahead of each quote and each backslash. -/
def escL : List UInt8 → List UInt8
  | [] => []
  | c :: r => if c.toNat = 39 ∨ c.toNat = 92 then 92 :: c :: escL r else c :: escL r
def quoteL (s : List UInt8) : List UInt8 := 39 :: (escL s ++ [39])
def spaces (n : Nat) : List UInt8 := List.replicate n 32
def keyL (b : Bool) (i : Int) (s : ByteArray) : List UInt8 := if b = true then quoteL s.data.toList else Lib.itoa i
def nullL : List UInt8 := [78, 85, 76, 76]
def trueL : List UInt8 := [116, 114, 117, 101]
def falseL : List UInt8 := [102, 97, 108, 115, 101]
def objL : List UInt8 := [111, 98, 106, 101, 99, 116, 40]
def arrL : List UInt8 := [97, 114, 114, 97, 121, 32, 40, 10]
def toL : List UInt8 := [32, 61, 62, 32]
mutual
/-- The text of a value within d lists. -/
def showV : GV → Nat → List UInt8
  | .mk k n t l, d => if k = 0 then nullL else if k = 1 then (if n = 1 then trueL else falseL) else if k = 2 then Lib.itoa n else if k = 3 then quoteL t.data.toList else if k = 5 then objL ++ Lib.itoa n ++ [41] else arrL ++ (showL l d ++ (spaces (2 * d) ++ [41]))
def showL : List GI → Nat → List UInt8
  | [], _ => []
  | .mk b i s v :: l, d => spaces (2 * (d + 1)) ++ (keyL b i s ++ (toL ++ (showV v (d + 1) ++ ([44, 10] ++ showL l d))))
end
theorem showL_drop (l : List GI) (j : Nat) (it : GI) (h : l[j]? = some it) (d : Nat) : showL (l.drop j) d = spaces (2 * (d + 1)) ++ (keyL it.isText it.int it.text ++ (toL ++ (showV it.val (d + 1) ++ ([44, 10] ++ showL (l.drop (j + 1)) d)))) := by
  obtain ⟨hj, rfl⟩ := List.getElem?_eq_some_iff.1 h
  rw [List.drop_eq_getElem_cons hj]
  cases l[j] with
  | mk b i s v => rw [showL]; rfl
theorem escL_len : ∀ s : List UInt8, (escL s).length ≤ 2 * s.length
  | [] => by simp [escL]
  | c :: r => by
    have := escL_len r
    unfold escL
    split <;> simp only [List.length_cons] <;> omega
theorem quoteL_len (s : List UInt8) : (quoteL s).length ≤ 2 * s.length + 2 := by
  have := escL_len s
  unfold quoteL
  simp only [List.length_cons, List.length_append, List.length_nil]
  omega
theorem itoa_len (n : Int) (h0 : -9223372036854775808 ≤ n) (h1 : n ≤ 9223372036854775807) : (Lib.itoa n).length ≤ 64 := by
  have key : ∀ (k u : Nat), u < 10 ^ (k + 1) → Lib.nDigits u ≤ k + 1 := by
    intro k
    induction k with
    | zero => intro u h; rw [Lib.nDigits_small (by simpa using h)]; exact Nat.le_refl _
    | succ k ih =>
      intro u h
      by_cases hu : u < 10
      · rw [Lib.nDigits_small hu]; omega
      · rw [Lib.nDigits_big hu]
        have := ih (u / 10) (by rw [Nat.pow_succ] at h; omega)
        omega
  unfold Lib.itoa
  split
  · have := key 18 n.natAbs (by omega)
    rw [List.length_cons, Lib.decDigits_length]
    omega
  · have := key 18 n.toNat (by omega)
    rw [Lib.decDigits_length]
    omega
mutual
/-- How many items a value has. -/
def cntV : GV → Nat
  | .mk _ _ _ l => cntL l
def cntL : List GI → Nat
  | [] => 0
  | .mk _ _ _ v :: l => 1 + cntV v + cntL l
end
mutual
theorem left_cnt : ∀ (g : GV) (m : Int), 0 ≤ leftV g m → leftV g m = m - cntV g
  | .mk k n t l, m, h => by
    rw [leftV] at h ⊢
    rw [left_cntL l (m - l.length) h, cntV]
    omega
theorem left_cntL : ∀ (l : List GI) (m : Int), 0 ≤ leftL l m → leftL l m = m + l.length - cntL l
  | [], m, h => by
    rw [leftL, cntL]
    simp
  | .mk b i s v :: l, m, h => by
    rw [leftL] at h ⊢
    by_cases hm : m < 0
    · rw [if_pos hm] at h
      omega
    · rw [if_neg hm] at h ⊢
      have h1 := left_cntL l _ h
      by_cases h2 : 0 ≤ leftV v m
      · have h3 := left_cnt v m h2
        rw [h1, h3, cntL]
        simp only [List.length_cons]
        omega
      · exfalso
        cases l with
        | nil => rw [leftL] at h; omega
        | cons a r =>
          cases a with
          | mk b' i' s' v' =>
            rw [leftL, if_pos (by omega)] at h
            omega
end
theorem left_pos {g : GV} (h : 0 ≤ leftV g 2048) : cntV g ≤ 2048 := by
  have := left_cnt g 2048 h
  omega
/-- A value whose texts are short. -/
inductive Short : GV → Prop where
  | mk (k n : Int) (t : ByteArray) (l : List GI) (hn : In64 n) (ht : t.size ≤ 1048576) (h1 : ∀ (i : Nat) (it : GI), l[i]? = some it → In64 it.int ∧ it.text.size ≤ 1048576) (h2 : ∀ (i : Nat) (it : GI), l[i]? = some it → Short it.val) : Short (.mk k n t l)
mutual
theorem show_len : ∀ (g : GV) (d : Nat), Short g → (showV g d).length ≤ 2097200 + 2 * d + cntV g * (4194500 + 4 * (d + cntV g))
  | .mk k n t l, d, h => by
    cases h with
    | mk _ _ _ _ hn ht h1 h2 =>
    rw [showV]
    have hi := itoa_len n hn.1 hn.2
    have hq := quoteL_len t.data.toList
    have hts : t.data.toList.length = t.size := by simp
    have hl := show_lenL l d h1 h2
    rw [cntV]
    generalize cntL l * (4194500 + 4 * (d + cntL l)) = X at *
    split
    · simp only [nullL, List.length_cons, List.length_nil]; omega
    · split
      · split
        · simp only [trueL, List.length_cons, List.length_nil]; omega
        · simp only [falseL, List.length_cons, List.length_nil]; omega
      · split
        · omega
        · split
          · omega
          · split
            · simp only [objL, List.length_append, List.length_cons, List.length_nil]; omega
            · simp only [arrL, spaces, List.length_append, List.length_cons, List.length_nil, List.length_replicate]; omega
theorem show_lenL : ∀ (l : List GI) (d : Nat), (∀ (i : Nat) (it : GI), l[i]? = some it → In64 it.int ∧ it.text.size ≤ 1048576) → (∀ (i : Nat) (it : GI), l[i]? = some it → Short it.val) → (showL l d).length ≤ cntL l * (4194500 + 4 * (d + cntL l))
  | [], d, _, _ => by simp [showL]
  | .mk b i s v :: l, d, h1, h2 => by
    have hv := show_len v (d + 1) (h2 0 _ rfl)
    have hl := show_lenL l d (fun i it hi => h1 (i + 1) it (by simpa using hi)) (fun i it hi => h2 (i + 1) it (by simpa using hi))
    obtain ⟨k1, k2⟩ := h1 0 _ rfl
    have k1' : In64 i := k1
    have k2' : s.size ≤ 1048576 := k2
    have hk : (keyL b i s).length ≤ 2097154 := by
      unfold keyL
      split
      · have := quoteL_len s.data.toList
        have hts : s.data.toList.length = s.size := by simp
        omega
      · have := itoa_len i k1'.1 k1'.2
        omega
    rw [showL, cntL]
    simp only [spaces, toL, List.length_append, List.length_cons, List.length_nil, List.length_replicate]
    generalize cntV v = a at *
    generalize cntL l = c at *
    have e1 : (1 + a + c) * (4194500 + 4 * (d + (1 + a + c))) ≥ a * (4194500 + 4 * (d + 1 + a)) + c * (4194500 + 4 * (d + c)) + (4194500 + 4 * (d + 1)) := by
      have m1 : a * (4194500 + 4 * (d + (1 + a + c))) ≥ a * (4194500 + 4 * (d + 1 + a)) := Nat.mul_le_mul_left _ (by omega)
      have m2 : c * (4194500 + 4 * (d + (1 + a + c))) ≥ c * (4194500 + 4 * (d + c)) := Nat.mul_le_mul_left _ (by omega)
      have m3 : (1 + a + c) * (4194500 + 4 * (d + (1 + a + c))) = (4194500 + 4 * (d + (1 + a + c))) + a * (4194500 + 4 * (d + (1 + a + c))) + c * (4194500 + 4 * (d + (1 + a + c))) := by
        rw [Nat.add_mul, Nat.add_mul, Nat.one_mul]
      omega
    omega
end
theorem show_bound {g : GV} (hs : Short g) (hf : 0 ≤ leftV g 2048) : (showV g 0).length ≤ 9000000000 := by
  have h1 := show_len g 0 hs
  have h2 := left_pos hf
  have h3 : cntV g * (4194500 + 4 * (0 + cntV g)) ≤ 2048 * (4194500 + 4 * (0 + 2048)) := Nat.mul_le_mul h2 (by omega)
  omega
end Sw
end Go.Proofs.YthdnflklhhfojaaGreatDoor
