/- raw: reading a request: the plain function. -/
import Derived.Test.YtnbhaokbaonjkaaGreatDoorRhA
import Derived.Lib.ItoaNum
namespace Go.Proofs.YtnbhaokbaonjkaaGreatDoor
open Go.RowKit
namespace Rw
/-- How many letters at the head, at most m, are of the kind p. -/
def cnt (p : UInt8 → Bool) : Nat → Bytes → Nat
  | 0, _ => 0
  | _ + 1, [] => 0
  | m + 1, c :: r => if p c = true then cnt p m r + 1 else 0
theorem cnt_m (p : UInt8 → Bool) : ∀ (m : Nat) (l : Bytes), cnt p m l ≤ m
  | 0, l => by simp [cnt]
  | m + 1, [] => by simp [cnt]
  | m + 1, c :: r => by
    have := cnt_m p m r
    rw [cnt]
    split <;> omega
theorem cnt_len (p : UInt8 → Bool) : ∀ (m : Nat) (l : Bytes), cnt p m l ≤ l.length
  | 0, l => by simp [cnt]
  | m + 1, [] => by simp [cnt]
  | m + 1, c :: r => by
    have := cnt_len p m r
    rw [cnt]
    simp only [List.length_cons]
    split <;> omega
/-- Where letters of the kind p, at most m, end that begin at a place. -/
def whileN (s : Bytes) (p : UInt8 → Bool) (m at_ : Nat) : Nat := at_ + cnt p m (s.drop at_)
theorem while_zero (s : Bytes) (p : UInt8 → Bool) (a : Nat) : whileN s p 0 a = a := by simp [whileN, cnt]
theorem while_end {s : Bytes} {a : Nat} (p : UInt8 → Bool) (m : Nat) (h : s.length ≤ a) : whileN s p m a = a := by
  unfold whileN
  rw [List.drop_eq_nil_of_le h]
  cases m <;> simp [cnt]
theorem while_step {s : Bytes} {a : Nat} (p : UInt8 → Bool) (m : Nat) (h : a < s.length) : whileN s p (m + 1) a = if p s[a] = true then whileN s p m (a + 1) else a := by
  unfold whileN
  rw [List.drop_eq_getElem_cons h, cnt]
  split <;> omega
theorem while_ge (s : Bytes) (p : UInt8 → Bool) (m a : Nat) : a ≤ whileN s p m a := by unfold whileN; omega
theorem while_le {s : Bytes} {a : Nat} (p : UInt8 → Bool) (m : Nat) (h : a ≤ s.length) : whileN s p m a ≤ s.length := by
  have := cnt_len p m (s.drop a)
  rw [List.length_drop] at this
  unfold whileN
  omega
/-- Behind a text that must stand at a place. -/
def mustN (s : Bytes) : Bytes → Nat → Option Nat
  | [], a => some a
  | c :: t, a => if s[a]? = some c then mustN s t (a + 1) else none
theorem must_le {s : Bytes} : ∀ {t : Bytes} {a b : Nat}, mustN s t a = some b → b = a + t.length ∧ (b ≤ s.length ∨ t = [])
  | [], a, b, h => by
    simp only [mustN, Option.some.injEq] at h
    exact ⟨by simp [h], .inr rfl⟩
  | c :: t, a, b, h => by
    rw [mustN] at h
    split at h
    · next h1 =>
      obtain ⟨e1, e2⟩ := must_le h
      refine ⟨by simp only [List.length_cons]; omega, .inl ?_⟩
      have := (List.getElem?_eq_some_iff.1 h1).1
      rcases e2 with e2 | rfl
      · exact e2
      · simp only [List.length_nil] at e1; omega
    · cases h
def capB (c : UInt8) : Bool := upB c
def namedB (c : UInt8) : Bool := upB c || ((decide (97 ≤ c.toNat) && decide (c.toNat ≤ 122)) || ((decide (48 ≤ c.toNat) && decide (c.toNat ≤ 57)) || decide (c.toNat = 45)))
def blankB (c : UInt8) : Bool := decide (c.toNat = 32) || decide (c.toNat = 9)
def valuedB (c : UInt8) : Bool := decide (c.toNat = 9) || (decide (32 ≤ c.toNat) && decide (c.toNat ≠ 127))
def shownB (c : UInt8) : Bool := decide (32 < c.toNat) && decide (c.toNat < 127)
/-- A text ahead of the first question mark, and what is behind it. -/
def cutQ : Bytes → Bytes × Bytes
  | [] => ([], [])
  | c :: r => if c = 63 then ([], r) else (c :: (cutQ r).1, (cutQ r).2)
/-- A text without the blanks at its end. -/
def trimR : Bytes → Bytes
  | [] => []
  | c :: r => if trimR r = [] ∧ blankB c = true then [] else c :: trimR r
theorem trimR_snoc (l : Bytes) (c : UInt8) : trimR (l ++ [c]) = if blankB c = true then trimR l else l ++ [c] := by
  induction l with
  | nil =>
    simp only [List.nil_append, trimR, true_and]
  | cons d l ih =>
    rw [List.cons_append, trimR, ih]
    by_cases h : blankB c = true
    · rw [if_pos h, if_pos h]
      conv => rhs; rw [trimR]
    · rw [if_neg h, if_neg h, if_neg (by simp)]
theorem trimR_len : ∀ l : Bytes, (trimR l).length ≤ l.length
  | [] => by simp [trimR]
  | c :: r => by
    have := trimR_len r
    rw [trimR]
    split <;> simp only [List.length_cons, List.length_nil] <;> omega
theorem trimR_take : ∀ l : Bytes, trimR l = l.take (trimR l).length
  | [] => by simp [trimR]
  | c :: r => by
    rw [trimR]
    split
    · simp
    · rw [List.length_cons, List.take_succ_cons, ← trimR_take r]
def piece (s : Bytes) (a b : Nat) : Bytes := (s.drop a).take (b - a)
def bytes (l : Bytes) : ByteArray := ⟨l.toArray⟩
def versL : Bytes := [32, 72, 84, 84, 80, 47, 49, 46, 49, 13, 10]
def clenL : Bytes := [67, 111, 110, 116, 101, 110, 116, 45, 76, 101, 110, 103, 116, 104]
/-- A request's first line: method, path, query, and the place behind it. -/
def lineN (s : Bytes) : Option (Bytes × Bytes × Bytes × Nat) :=
  let a := whileN s upB 16 0
  if a = 0 then none else
  match mustN s [32] a with
  | none => none
  | some a1 => match mustN s [47] a1 with
    | none => none
    | some a2 =>
      let b := whileN s shownB s.length a2
      match mustN s versL b with
      | none => none
      | some e => some (piece s 0 a, (cutQ (piece s a1 b)).1, (cutQ (piece s a1 b)).2, e)
/-- A head line: its name, its value, where the value begins, and the place behind the line. -/
def headN (s : Bytes) (at_ : Nat) : Option (Bytes × Bytes × Nat × Nat) :=
  let a := whileN s namedB 64 at_
  if a = at_ then none else
  match mustN s [58] a with
  | none => none
  | some a1 =>
    let f := whileN s blankB s.length a1
    let e := whileN s valuedB s.length f
    match mustN s [13, 10] e with
    | none => none
    | some z => some (piece s at_ a, trimR (piece s f e), f, z)
theorem head_far {s : Bytes} {at_ : Nat} {n v : Bytes} {f z : Nat} (h : headN s at_ = some (n, v, f, z)) : at_ < z ∧ z ≤ s.length := by
  unfold headN at h
  simp only at h
  split at h
  · cases h
  · split at h
    · cases h
    · next a1 h1 =>
      split at h
      · cases h
      · next z' h2 =>
        simp only [Option.some.injEq, Prod.mk.injEq] at h
        obtain ⟨-, -, -, rfl⟩ := h
        obtain ⟨e1, -⟩ := must_le h1
        obtain ⟨e2, e3⟩ := must_le h2
        have g1 := while_ge s namedB 64 at_
        have g2 := while_ge s blankB s.length a1
        have g3 := while_ge s valuedB s.length (whileN s blankB s.length a1)
        simp only [List.length_cons, List.length_nil] at e1 e2
        refine ⟨by omega, ?_⟩
        rcases e3 with e3 | e3
        · exact e3
        · cases e3
/-- The length that a head tells: the first one's of that name. -/
def lenN (ln : Option (Nat × Bytes)) (n v : Bytes) (f : Nat) : Option (Nat × Bytes) := if ln = none ∧ sameS (bytes n) (bytes clenL) = true then some (f, v) else ln
/-- The head lines, and the empty one: the heads, the length that they tell, the place behind. -/
def headsN (s : Bytes) (at_ : Nat) (hs : List (Bytes × Bytes)) (ln : Option (Nat × Bytes)) : Option (List (Bytes × Bytes) × Option (Nat × Bytes) × Nat) :=
  if s[at_]? = some 13 then (match mustN s [13, 10] at_ with | none => none | some e => some (hs, ln, e))
  else if 64 ≤ hs.length then none
  else match _h : headN s at_ with
    | none => none
    | some (n, v, f, z) => headsN s z (hs ++ [(n, v)]) (lenN ln n v f)
termination_by s.length - at_
decreasing_by
  have := head_far _h
  omega
/-- A request. -/
structure Rq where
  method : Bytes
  path : Bytes
  query : Bytes
  heads : List (Bytes × Bytes)
  body : Bytes
def lenOk (ln : Option (Nat × Bytes)) (body : Bytes) : Bool :=
  match ln with
  | none => true
  | some (_, v) => decide (v = Lib.itoa body.length)
/-- What is read of some bytes, if it is a request. -/
def parseN (s : Bytes) : Option Rq :=
  if 65536 < s.length then none else
  match lineN s with
  | none => none
  | some (m, p, q, a) => match headsN s a [] none with
    | none => none
    | some (hs, ln, e) => if lenOk ln (s.drop e) = true then some ⟨m, p, q, hs, s.drop e⟩ else none
/-- A request's bytes. -/
def targetN (q : Rq) : Bytes := if q.query = [] then q.path else q.path ++ (63 :: q.query)
def headsT : List (Bytes × Bytes) → Bytes
  | [] => []
  | (n, v) :: r => n ++ ([58, 32] ++ (v ++ ([13, 10] ++ headsT r)))
def textN (q : Rq) : Bytes := q.method ++ ([32] ++ (targetN q ++ (versL ++ (headsT q.heads ++ ([13, 10] ++ q.body)))))
end Rw
end Go.Proofs.YtnbhaokbaonjkaaGreatDoor
