/- Norm: a key's one form: what the program and the document read as a number: plain laws. -/
import Derived.Lib.AtoiAllCases
import Derived.Lib.ItoaNum
namespace Go.Proofs.YtgjnmfjiolpikaaGreatDoor
namespace Nm
open Go Go.Lib

theorem toNat_digit (d : Nat) (h : d < 10) : (UInt8.ofNat (48 + d)).toNat = 48 + d := by
  rw [UInt8.toNat_ofNat']
  omega
theorem parse_dec (u : Nat) : ∀ (acc : Nat) (r : List UInt8), acc * 10 ^ nDigits u + u < 18446744073709551616 → parseUint10 acc (decDigits u ++ r) = parseUint10 (acc * 10 ^ nDigits u + u) r := by
  induction u using Nat.strongRecOn with
  | _ u ih =>
    intro acc r h
    by_cases hu : u < 10
    · rw [nDigits_small hu] at h ⊢
      rw [decDigits, dif_pos hu]
      simp only [List.cons_append, List.nil_append, parseUint10, toNat_digit u hu]
      rw [if_pos (by omega), if_neg (by omega), if_neg (by omega)]
      congr 1
      omega
    · rw [nDigits_big hu, Nat.pow_succ] at h ⊢
      have e : acc * (10 ^ nDigits (u / 10) * 10) = (acc * 10 ^ nDigits (u / 10)) * 10 := by rw [Nat.mul_assoc]
      rw [e] at h ⊢
      rw [decDigits, dif_neg hu, List.append_assoc, ih (u / 10) (by omega) acc _ (by omega)]
      have hd := Nat.mod_lt u (show 0 < 10 by decide)
      simp only [List.cons_append, List.nil_append, parseUint10, toNat_digit _ hd]
      rw [if_pos (by omega), if_neg (by omega), if_neg (by omega)]
      congr 1
      omega
theorem dec_ne (u : Nat) : decDigits u ≠ [] := by
  intro h
  have := decDigits_length u
  rw [h] at this
  have := nDigits_pos u
  simp at *
  omega
theorem mag_dec (u : Nat) (h : u < 18446744073709551616) : parseMag (decDigits u) = .ok u := by
  unfold parseMag
  rw [if_neg (dec_ne u)]
  have := parse_dec u 0 [] (by omega)
  simpa [parseUint10] using this
theorem dec_head (u : Nat) : ∃ c r, decDigits u = c :: r ∧ 48 ≤ c.toNat ∧ c.toNat ≤ 57 := by
  induction u using Nat.strongRecOn with
  | _ u ih =>
    by_cases hu : u < 10
    · exact ⟨_, [], by rw [decDigits, dif_pos hu], by rw [toNat_digit u hu]; omega, by rw [toNat_digit u hu]; omega⟩
    · obtain ⟨c, r, e, h1, h2⟩ := ih (u / 10) (by omega)
      exact ⟨c, r ++ [UInt8.ofNat (48 + u % 10)], by rw [decDigits, dif_neg hu, e]; rfl, h1, h2⟩
theorem dec_all (u : Nat) : ∀ c ∈ decDigits u, 48 ≤ c.toNat ∧ c.toNat ≤ 57 := by
  induction u using Nat.strongRecOn with
  | _ u ih =>
    intro c hc
    by_cases hu : u < 10
    · rw [decDigits, dif_pos hu] at hc
      obtain rfl := List.mem_singleton.1 hc
      rw [toNat_digit u hu]; omega
    · rw [decDigits, dif_neg hu, List.mem_append] at hc
      rcases hc with hc | hc
      · exact ih _ (by omega) c hc
      · obtain rfl := List.mem_singleton.1 hc
        have hd := Nat.mod_lt u (show 0 < 10 by decide)
        rw [toNat_digit _ hd]; omega
theorem atoi_itoa (n : Int) (h0 : -9223372036854775808 ≤ n) (h1 : n ≤ 9223372036854775807) : atoiAll (itoa n) = .ok n := by
  unfold itoa
  split
  · rw [atoiAll_minus, mag_dec _ (by omega), signed, if_neg (by omega)]
    congr 1
    omega
  · obtain ⟨c, r, e, h2, h3⟩ := dec_head n.toNat
    have hm := mag_dec n.toNat (by omega)
    rw [e] at hm ⊢
    rw [atoiAll_plain c r (by omega) (by omega), hm, signless, if_neg (by omega)]
    congr 1
    omega

/-! ### the document's reading of a number -/
def blankB (c : UInt8) : Bool := c.toNat == 32 || (decide (9 ≤ c.toNat) && decide (c.toNat ≤ 13))
def digitB (c : UInt8) : Bool := decide (48 ≤ c.toNat) && decide (c.toNat ≤ 57)
def signB (c : UInt8) : Bool := c.toNat == 45 || c.toNat == 43
/-- One digit more, held within what an int can be. -/
def satStep (minus : Bool) (n d : Int) : Int :=
  if minus then if n < Int.tdiv (-9223372036854775808 + d) 10 then -9223372036854775808 else n * 10 - d
  else if n > Int.tdiv (9223372036854775807 - d) 10 then 9223372036854775807 else n * 10 + d
def endB (n : Int) : Bool := n == -9223372036854775808 || n == 9223372036854775807
def satF (minus : Bool) : Int → List UInt8 → Int
  | n, [] => n
  | n, c :: r => if digitB c then (if endB (satStep minus n (c.toNat - 48)) then satStep minus n (c.toNat - 48) else satF minus (satStep minus n (c.toNat - 48)) r) else n
def skipB (l : List UInt8) : List UInt8 := l.dropWhile blankB
def skipD (l : List UInt8) : List UInt8 := l.dropWhile digitB
def minusB (l : List UInt8) : Bool := match l with | c :: _ => c.toNat == 45 | [] => false
def signed1 (l : List UInt8) : List UInt8 := match l with | c :: r => if signB c then r else c :: r | [] => []
def headD (l : List UInt8) : Bool := match l with | c :: _ => digitB c | [] => false
/-- The number of a text's longest numeric beginning, and what stands behind it; none: there is no such. -/
def beginL (l : List UInt8) : Option (Int × List UInt8) :=
  if headD (signed1 (skipB l)) then some (satF (minusB (skipB l)) 0 (signed1 (skipB l)), skipB (skipD (signed1 (skipB l)))) else none
def numericL (l : List UInt8) : Option Int := match beginL l with | some (n, []) => some n | _ => none

theorem satF_dec (minus : Bool) (u : Nat) : ∀ (m : Nat) (r : List UInt8), (m * 10 ^ nDigits u + u : Nat) < (if minus then 9223372036854775808 else 9223372036854775807) → satF minus (if minus then -(m : Int) else m) (decDigits u ++ r) = satF minus (if minus then -((m * 10 ^ nDigits u + u : Nat) : Int) else ((m * 10 ^ nDigits u + u : Nat) : Int)) r := by
  induction u using Nat.strongRecOn with
  | _ u ih =>
    intro m r h
    by_cases hu : u < 10
    · rw [nDigits_small hu] at h ⊢
      rw [decDigits, dif_pos hu]
      have hdg : digitB (UInt8.ofNat (48 + u)) = true := by unfold digitB; rw [toNat_digit u hu]; simp; omega
      simp only [List.cons_append, List.nil_append, satF, hdg, if_true, toNat_digit u hu]
      cases minus
      · simp only [Bool.false_eq_true, if_false] at h ⊢
        have hs : satStep false (m : Int) (((48 + u : Nat) : Int) - 48) = ((m * 10 ^ 1 + u : Nat) : Int) := by
          unfold satStep
          simp only [Bool.false_eq_true, if_false]
          rw [Int.tdiv_eq_ediv_of_nonneg (by omega), if_neg (by omega)]
          omega
        rw [hs]
        have he : endB ((m * 10 ^ 1 + u : Nat) : Int) = false := by unfold endB; simp only [Bool.or_eq_false_iff, beq_eq_false_iff_ne]; omega
        rw [he]
        simp
      · simp only [if_true] at h ⊢
        have hs : satStep true (-(m : Int)) (((48 + u : Nat) : Int) - 48) = -((m * 10 ^ 1 + u : Nat) : Int) := by
          unfold satStep
          simp only [if_true]
          have ht : Int.tdiv (-9223372036854775808 + (((48 + u : Nat) : Int) - 48)) 10 = -(((9223372036854775808 - u) / 10 : Nat) : Int) := by
            rw [show (-9223372036854775808 + (((48 + u : Nat) : Int) - 48)) = -((9223372036854775808 - u : Nat) : Int) by omega, Int.neg_tdiv]
            rw [Int.tdiv_eq_ediv_of_nonneg (by omega)]
            omega
          rw [ht, if_neg (by omega)]
          omega
        rw [hs]
        have he : endB (-((m * 10 ^ 1 + u : Nat) : Int)) = false := by unfold endB; simp only [Bool.or_eq_false_iff, beq_eq_false_iff_ne]; omega
        rw [he]
        simp
    · rw [nDigits_big hu, Nat.pow_succ] at h ⊢
      have e : m * (10 ^ nDigits (u / 10) * 10) = (m * 10 ^ nDigits (u / 10)) * 10 := by rw [Nat.mul_assoc]
      rw [e] at h ⊢
      rw [decDigits, dif_neg hu, List.append_assoc, ih (u / 10) (by omega) m _ (by split at h <;> simp_all <;> omega)]
      have hd := Nat.mod_lt u (show 0 < 10 by decide)
      have h1 := ih (u % 10) (by omega) (m * 10 ^ nDigits (u / 10) + u / 10) r
      rw [nDigits_small hd] at h1
      rw [decDigits, dif_pos hd] at h1
      rw [h1 (by split at h <;> simp_all <;> omega)]
      congr 2
      · congr 2; omega
      · omega
theorem skipB_digit {c : UInt8} {r : List UInt8} (h : 45 ≤ c.toNat) : skipB (c :: r) = c :: r := by
  have : blankB c = false := by unfold blankB; simp; omega
  simp [skipB, this]
theorem skipD_all {l : List UInt8} (h : ∀ c ∈ l, 48 ≤ c.toNat ∧ c.toNat ≤ 57) : skipD l = [] := by
  induction l with
  | nil => rfl
  | cons c r ih =>
    have h1 := h c (List.mem_cons_self ..)
    have h2 : digitB c = true := by unfold digitB; simp; omega
    show List.dropWhile digitB (c :: r) = []
    rw [List.dropWhile_cons, if_pos h2]
    exact ih fun c hc => h c (List.mem_cons_of_mem _ hc)
theorem satF_whole (minus : Bool) (u : Nat) (h : u < (if minus then 9223372036854775808 else 9223372036854775807)) : satF minus 0 (decDigits u) = if minus then -(u : Int) else u := by
  have := satF_dec minus u 0 [] (by simpa using h)
  simpa [satF] using this
theorem dec_most : decDigits 9223372036854775807 = decDigits 922337203685477580 ++ [55] := by rw [decDigits, dif_neg (by decide)]; rfl
theorem dec_least : decDigits 9223372036854775808 = decDigits 922337203685477580 ++ [56] := by rw [decDigits, dif_neg (by decide)]; rfl
theorem satF_most : satF false 0 (decDigits 9223372036854775807) = 9223372036854775807 := by
  have := satF_dec false 922337203685477580 0 [55] (by rw [Nat.zero_mul]; decide)
  rw [dec_most]
  simp only [Nat.zero_mul, Nat.zero_add, Bool.false_eq_true, if_false] at this
  rw [show (0 : Int) = ((0 : Nat) : Int) by rfl, this]
  decide
theorem satF_least : satF true 0 (decDigits 9223372036854775808) = -9223372036854775808 := by
  have := satF_dec true 922337203685477580 0 [56] (by rw [Nat.zero_mul]; decide)
  rw [dec_least]
  simp only [Nat.zero_mul, Nat.zero_add, if_true] at this
  rw [show (0 : Int) = -((0 : Nat) : Int) by rfl, this]
  decide
theorem satF_any (minus : Bool) (u : Nat) (h : u ≤ (if minus then 9223372036854775808 else 9223372036854775807)) : satF minus 0 (decDigits u) = if minus then -(u : Int) else u := by
  cases minus
  · simp only [Bool.false_eq_true, if_false] at h ⊢
    by_cases hu : u = 9223372036854775807
    · subst hu; exact satF_most
    · simpa using satF_whole false u (by simp; omega)
  · simp only [if_true] at h ⊢
    by_cases hu : u = 9223372036854775808
    · subst hu; exact satF_least
    · simpa using satF_whole true u (by simp; omega)
theorem numeric_itoa (n : Int) (h0 : -9223372036854775808 ≤ n) (h1 : n ≤ 9223372036854775807) : numericL (itoa n) = some n := by
  unfold itoa
  split
  · have hs := satF_any true n.natAbs (by simp; omega)
    obtain ⟨c, r, e, h2, h3⟩ := dec_head n.natAbs
    have ha := skipD_all (dec_all n.natAbs)
    have hh : headD (decDigits n.natAbs) = true := by rw [e]; unfold headD digitB; simp; omega
    unfold numericL beginL
    rw [skipB_digit (by decide)]
    simp only [signed1, signB, minusB]
    simp only [show ((45 : UInt8).toNat == 45) = true by decide, Bool.true_or, if_true, hh, hs, ha]
    simp only [skipB, List.dropWhile_nil]
    congr 1
    omega
  · obtain ⟨c, r, e, h2, h3⟩ := dec_head n.toNat
    have hs := satF_any false n.toNat (by simp; omega)
    have ha := skipD_all (dec_all n.toNat)
    have hh : headD (decDigits n.toNat) = true := by rw [e]; unfold headD digitB; simp; omega
    have h4 : (c.toNat == 45) = false := by simp; omega
    have h5 : (c.toNat == 43) = false := by simp; omega
    have hb : skipB (decDigits n.toNat) = decDigits n.toNat := by rw [e]; exact skipB_digit (by omega)
    have hg : signed1 (decDigits n.toNat) = decDigits n.toNat := by rw [e]; simp [signed1, signB, h4, h5]
    have hm : minusB (decDigits n.toNat) = false := by rw [e]; simpa [minusB] using h4
    unfold numericL beginL
    rw [hb, hg, hh, hm, ha, if_pos rfl]
    rw [hs]
    simp only [skipB, List.dropWhile_nil, Bool.false_eq_true, if_false]
    congr 1
    omega
/-- A key in its one form. -/
def normK (b : Bool) (i : Int) (s : List UInt8) : Bool × Int × List UInt8 :=
  if b then match atoiAll s with | .ok n => if itoa n = s then (false, n, []) else (true, 0, s) | _ => (true, 0, s) else (false, i, [])
/-- The document's. -/
def normR (b : Bool) (i : Int) (s : List UInt8) : Bool × Int × List UInt8 :=
  if b then match numericL s with | some n => if itoa n = s then (false, n, []) else (true, 0, s) | none => (true, 0, s) else (false, i, [])
theorem normR_eq (b : Bool) (i : Int) (s : List UInt8) (hn : ∀ n, numericL s = some n → -9223372036854775808 ≤ n ∧ n ≤ 9223372036854775807) : normR b i s = normK b i s := by
  unfold normR normK
  cases b
  · rfl
  · simp only [if_true]
    by_cases h : ∃ n, (-9223372036854775808 ≤ n ∧ n ≤ 9223372036854775807) ∧ itoa n = s
    · obtain ⟨n, ⟨h0, h1⟩, rfl⟩ := h
      rw [numeric_itoa n h0 h1, atoi_itoa n h0 h1]
    · have e1 : ∀ n, atoiAll s = .ok n → itoa n ≠ s := fun n hn e => h ⟨n, atoiAll_bounds hn, e⟩
      have e2 : ∀ n, numericL s = some n → itoa n ≠ s := fun n hn' e => h ⟨n, hn n hn', e⟩
      cases ha : atoiAll s with
      | ok n => cases hb : numericL s with
        | some m => simp only [if_neg (e1 n ha), if_neg (e2 m hb)]
        | none => simp only [if_neg (e1 n ha)]
      | _ => cases hb : numericL s with
        | some m => simp only [if_neg (e2 m hb)]
        | none => rfl
/-- What is read is held within what an int can be. -/
theorem satStep_bounds (minus : Bool) (n d : Int) (hd0 : 0 ≤ d) (hd9 : d ≤ 9) (h : if minus then -9223372036854775808 ≤ n ∧ n ≤ 0 else 0 ≤ n ∧ n ≤ 9223372036854775807) : if minus then -9223372036854775808 ≤ satStep minus n d ∧ satStep minus n d ≤ 0 else 0 ≤ satStep minus n d ∧ satStep minus n d ≤ 9223372036854775807 := by
  cases minus
  · simp only [Bool.false_eq_true, if_false] at h ⊢
    unfold satStep
    simp only [Bool.false_eq_true, if_false]
    rw [Int.tdiv_eq_ediv_of_nonneg (by omega)]
    split <;> omega
  · simp only [if_true] at h ⊢
    unfold satStep
    simp only [if_true]
    rw [show (-9223372036854775808 + d) = -(9223372036854775808 - d) by omega, Int.neg_tdiv, Int.tdiv_eq_ediv_of_nonneg (by omega)]
    split <;> omega
theorem satF_bounds (minus : Bool) : ∀ (l : List UInt8) (n : Int), (if minus then -9223372036854775808 ≤ n ∧ n ≤ 0 else 0 ≤ n ∧ n ≤ 9223372036854775807) → if minus then -9223372036854775808 ≤ satF minus n l ∧ satF minus n l ≤ 0 else 0 ≤ satF minus n l ∧ satF minus n l ≤ 9223372036854775807
  | [], n, h => by simpa [satF] using h
  | c :: r, n, h => by
    unfold satF
    by_cases hd : digitB c = true
    · rw [if_pos hd]
      unfold digitB at hd
      simp at hd
      have hb := satStep_bounds minus n ((c.toNat : Int) - 48) (by omega) (by omega) h
      by_cases he : endB (satStep minus n ((c.toNat : Int) - 48)) = true
      · rw [if_pos he]; exact hb
      · rw [if_neg he]; exact satF_bounds minus r _ hb
    · rw [if_neg hd]; exact h
theorem beginL_bounds {l r : List UInt8} {n : Int} (h : beginL l = some (n, r)) : -9223372036854775808 ≤ n ∧ n ≤ 9223372036854775807 := by
  unfold beginL at h
  split at h
  · cases h
    have := satF_bounds (minusB (skipB l)) (signed1 (skipB l)) 0 (by split <;> omega)
    split at this <;> omega
  · cases h
theorem numericL_bounds {l : List UInt8} {n : Int} (h : numericL l = some n) : -9223372036854775808 ≤ n ∧ n ≤ 9223372036854775807 := by
  unfold numericL at h
  split at h
  · cases h
    rename_i he
    exact beginL_bounds he
  · cases h
theorem norm_eq (b : Bool) (i : Int) (s : List UInt8) : normR b i s = normK b i s := normR_eq b i s fun _ h => numericL_bounds h
end Nm
end Go.Proofs.YtgjnmfjiolpikaaGreatDoor
