/- url: how a text is encoded and decoded, and that it comes back: plain lists of bytes, no program. -/
import Derived.Lib.Hide
namespace Go.Proofs.YthdnflklhhfojaaGreatDoor
namespace Url
/-- What stands for itself. -/
def plain (c : UInt8) : Bool := (97 ≤ c && c ≤ 122) || (65 ≤ c && c ≤ 90) || (48 ≤ c && c ≤ 57) || c == 45 || c == 95 || c == 46
def digit (n : Nat) : UInt8 := if n < 10 then UInt8.ofNat (48 + n) else UInt8.ofNat (55 + n)
def encC (c : UInt8) : List UInt8 := if plain c then [c] else if c == 32 then [43] else [37, digit (c.toNat / 16), digit (c.toNat % 16)]
def encL : List UInt8 → List UInt8
  | [] => []
  | c :: l => encC c ++ encL l
/-- A hexadecimal digit's number. -/
def hexV (c : UInt8) : Option Nat := if 48 ≤ c && c ≤ 57 then some (c.toNat - 48) else if 97 ≤ c && c ≤ 102 then some (c.toNat - 87) else if 65 ≤ c && c ≤ 70 then some (c.toNat - 55) else none
def hex2 : List UInt8 → Option Nat
  | a :: b :: _ => match hexV a, hexV b with
    | some h, some l => some (16 * h + l)
    | _, _ => none
  | _ => none
def decL : Nat → List UInt8 → List UInt8
  | 0, _ => []
  | _, [] => []
  | n + 1, c :: l => if c == 43 then 32 :: decL n l else if c == 37 then match hex2 l with
      | some v => UInt8.ofNat v :: decL n (l.drop 2)
      | none => c :: decL n l
    else c :: decL n l
theorem hexV_digit : ∀ n : Fin 16, hexV (digit n.val) = some n.val := by decide
theorem digit_hex (n : Nat) (h : n < 16) : hexV (digit n) = some n := hexV_digit ⟨n, h⟩
theorem plain_not : ∀ c : Fin 256, plain (UInt8.ofNat c.val) = true → (UInt8.ofNat c.val == 43) = false ∧ (UInt8.ofNat c.val == 37) = false := by decide +kernel
theorem plain_no (c : UInt8) (h : plain c = true) : (c == 43) = false ∧ (c == 37) = false := by
  have := plain_not ⟨c.toNat, c.toNat_lt⟩
  simp only [UInt8.ofNat_toNat] at this
  exact this h
theorem encL_len (l : List UInt8) : (encL l).length ≤ 3 * l.length := by
  induction l with
  | nil => simp [encL]
  | cons c l ih =>
    simp only [encL, List.length_append, List.length_cons]
    have : (encC c).length ≤ 3 := by
      unfold encC
      by_cases h1 : plain c = true
      · simp [h1]
      · by_cases h2 : (c == 32) = true
        · simp [h1, h2]
        · simp [h1, h2]
    omega
/-- A text comes back. -/
theorem dec_enc : ∀ (l : List UInt8) (n : Nat), 3 * l.length ≤ n → decL n (encL l) = l := by
  intro l
  induction l with
  | nil => intro n _; cases n <;> rfl
  | cons c l ih =>
    intro n hn
    simp only [List.length_cons] at hn
    obtain ⟨n, rfl⟩ : ∃ k, n = k + 1 := ⟨n - 1, by omega⟩
    simp only [encL, encC]
    by_cases hp : plain c = true
    · obtain ⟨h1, h2⟩ := plain_no c hp
      rw [if_pos hp]
      simp only [List.cons_append, List.nil_append, decL, h1, h2, Bool.false_eq_true, if_false]
      rw [ih n (by omega)]
    · rw [if_neg hp]
      by_cases h32 : (c == 32) = true
      · rw [if_pos h32]
        have e : c = 32 := by simpa using h32
        subst e
        simp only [List.cons_append, List.nil_append, decL]
        rw [ih n (by omega)]
        rfl
      · rw [if_neg h32]
        have hc := c.toNat_lt
        have e1 := digit_hex (c.toNat / 16) (by omega)
        have e2 := digit_hex (c.toNat % 16) (by omega)
        simp only [List.cons_append, List.nil_append, decL, hex2, e1, e2, List.drop_succ_cons, List.drop_zero]
        rw [ih n (by omega)]
        have : 16 * (c.toNat / 16) + c.toNat % 16 = c.toNat := by omega
        rw [this]
        simp
end Url
end Go.Proofs.YthdnflklhhfojaaGreatDoor
