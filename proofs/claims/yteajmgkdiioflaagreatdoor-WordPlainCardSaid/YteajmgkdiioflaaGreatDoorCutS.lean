/- Plain: what cutting a file means, over lists of bytes. No program. -/
import Derived.Lib.Strings
import Derived.Lib.IndexBytes
namespace Go.Proofs.YteajmgkdiioflaaGreatDoor
open Go.Lib

abbrev Bytes := List UInt8

def letterB (c : UInt8) : Bool := c == 95 || (97 ≤ c && c ≤ 122) || (65 ≤ c && c ≤ 90)
def digitB (c : UInt8) : Bool := 48 ≤ c && c ≤ 57

/-! ### a name -/
def wordT : Bytes → Nat
  | [] => 0
  | c :: r => if letterB c || digitB c then wordT r + 1 else 0
def wordN : Bytes → Nat
  | [] => 0
  | c :: r => if letterB c then wordT r + 1 else 0
/-- May byte n of l stand in a name that begins at l's head? -/
def wordOk (l : Bytes) (n : Nat) : Bool := match l[n]? with | some c => letterB c || (decide (0 < n) && digitB c) | none => false
theorem wordT_eq : ∀ (l : Bytes) (n : Nat), (∀ j, j < n → (match l[j]? with | some c => letterB c || digitB c | none => false) = true) → (match l[n]? with | some c => letterB c || digitB c | none => false) = false → wordT l = n
  | [], 0, _, _ => rfl
  | [], n + 1, h, _ => by have := h 0 (by omega); simp at this
  | c :: r, 0, _, h => by simp at h; simp [wordT, h]
  | c :: r, n + 1, h, h' => by
    have h0 := h 0 (by omega)
    simp at h0
    rw [wordT, if_pos (by simpa using h0), wordT_eq r n (fun j hj => by simpa using h (j + 1) (by omega)) (by simpa using h')]
theorem wordN_eq (l : Bytes) (n : Nat) (h : ∀ j, j < n → wordOk l j = true) (h' : wordOk l n = false) : wordN l = n := by
  cases l with
  | nil =>
    cases n with
    | zero => rfl
    | succ n => have := h 0 (by omega); simp [wordOk] at this
  | cons c r =>
    cases n with
    | zero => simp [wordOk] at h'; simp [wordN, h']
    | succ n =>
      have h0 := h 0 (by omega)
      simp [wordOk] at h0
      rw [wordN, if_pos h0, wordT_eq r n]
      · intro j hj
        have := h (j + 1) (by omega)
        simpa [wordOk] using this
      · simpa [wordOk] using h'
theorem wordT_le : ∀ l : Bytes, wordT l ≤ l.length
  | [] => Nat.le_refl _
  | c :: r => by rw [wordT]; split <;> simp; exact wordT_le r
theorem wordN_le (l : Bytes) : wordN l ≤ l.length := by
  cases l with
  | nil => exact Nat.le_refl _
  | cons c r => rw [wordN]; split <;> simp; exact wordT_le r

/-! ### a tag -/
def lowB (c : UInt8) : UInt8 := if 65 ≤ c && c ≤ 90 then c + 32 else c
def phpB (l : Bytes) : Bool := l.map lowB == [112, 104, 112]
def blankB (c : UInt8) : Bool := c == 32 || c == 9 || c == 10 || c == 13
/-- The kind of the tag at l's head, and its bytes; 0: none. -/
def tagN (l : Bytes) : Nat × Nat :=
  if hasPrefix l [60, 63, 61] then (3, 3)
  else if hasPrefix l [60, 63] && decide (5 ≤ l.length) && phpB ((l.drop 2).take 3) then
    match l.drop 5 with
    | [] => (2, 5)
    | c :: r => if hasPrefix (c :: r) [13, 10] then (2, 7) else if blankB c then (2, 6) else (0, 0)
  else (0, 0)

/-! ### a long text -/
/-- Where the line begins that ends a long text, from l's head on; 'true': l begins a line. -/
def endsN (name : Bytes) : Bool → Bytes → Option Nat
  | b, [] => if b && hasPrefix [] name && wordN [] == name.length then some 0 else none
  | b, c :: r => if b && hasPrefix (c :: r) name && wordN (c :: r) == name.length then some 0 else (endsN name (c == 10) r).map (· + 1)
/-- The head of a long text: where its name begins, the name's bytes, where its lines begin; the name's bytes 0: it is none. -/
def longH (l : Bytes) : Nat × Nat × Nat :=
  if hasPrefix l [60, 60, 60] then
    let q := if hasPrefix (l.drop 3) [39] then 1 else 0
    let n := wordN (l.drop (3 + q))
    if n = 0 then (0, 0, 0)
    else if q = 1 && !hasPrefix (l.drop (3 + q + n)) [39] then (0, 0, 0)
    else if hasPrefix (l.drop (3 + q + n + q)) [10] then (3 + q, n, 3 + q + n + q + 1) else (0, 0, 0)
  else (0, 0, 0)
/-- How many bytes a long text has at l's head; 0: it is none. -/
def longN (l : Bytes) : Nat :=
  if (longH l).2.1 = 0 then 0
  else match endsN ((l.drop (longH l).1).take (longH l).2.1) true (l.drop (longH l).2.2) with
    | some i => (longH l).2.2 + i + (longH l).2.1
    | none => l.length

/-! ### a text in quotes -/
def textT (q : UInt8) : Bytes → Nat
  | [] => 0
  | c :: r => if c = 92 then (match r with | [] => 1 | _ :: r' => textT q r' + 2) else if c = q then 1 else textT q r + 1
def textN : Bytes → Nat
  | [] => 0
  | q :: r => textT q r + 1

/-! ### code -/
/-- How many bytes go by ahead of a line's end or the end of code. -/
def lineN : Bytes → Nat
  | [] => 0
  | c :: r => if c = 10 || hasPrefix (c :: r) [63, 62] then 0 else lineN r + 1
def stepN (l : Bytes) : Nat :=
  match l with
  | [] => 0
  | c :: r =>
    if c = 39 || c = 34 then textN (c :: r)
    else if hasPrefix (c :: r) [47, 42] then (if index (l.drop 2) [42, 47] < 0 then l.length else (index (l.drop 2) [42, 47]).toNat + 4)
    else if c = 35 || hasPrefix (c :: r) [47, 47] then lineN (c :: r)
    else max (longN l) 1
/-- How many bytes of code stand at l's head. -/
def codeF : Nat → Bytes → Nat
  | 0, _ => 0
  | f + 1, l => if l = [] then 0 else if hasPrefix l [63, 62] then 0 else stepN l + codeF f (l.drop (stepN l))
def codeN (l : Bytes) : Nat := codeF l.length l
/-- What is skipped behind code: the end of code, and a line's end behind it. -/
def closeN (l : Bytes) : Nat :=
  if hasPrefix l [63, 62] then (if hasPrefix (l.drop 2) [13, 10] then 4 else if hasPrefix (l.drop 2) [10] then 3 else 2) else 0
end Go.Proofs.YteajmgkdiioflaaGreatDoor
