/- A number's text and its number: plain laws. -/
import Derived.Test.YthdnflklhhfojaaGreatDoorOrD
namespace Go.Proofs.YthdnflklhhfojaaGreatDoor
open Go Go.RowKit
namespace Dp
open Go.Proofs.YthdnflklhhfojaaGreatDoor.Nm
open Go.Lib (parseUintM parseIntB parseUintB intSat NumEnd)
/-- What digits spell behind a. -/
def dv : Nat → List UInt8 → Nat
  | a, [] => a
  | a, c :: r => dv (a * 10 + (c.toNat - 48)) r
theorem dv_ge : ∀ (l : List UInt8) (a : Nat), a ≤ dv a l
  | [], a => Nat.le_refl _
  | c :: r, a => by
    have := dv_ge r (a * 10 + (c.toNat - 48))
    unfold dv
    omega
theorem satF_tw (m : Bool) : ∀ (l : List UInt8) (n : Int), satF m n l = satF m n (l.takeWhile digitB)
  | [], n => rfl
  | c :: r, n => by
    rw [List.takeWhile_cons]
    cases hd : digitB c with
    | false => simp [satF, hd]
    | true =>
      simp only [if_true]
      unfold satF
      rw [hd]
      simp only [if_true]
      split
      · rfl
      · exact satF_tw m r _
theorem digit_of {c : UInt8} (h : digitB c = true) : 48 ≤ c.toNat ∧ c.toNat ≤ 57 := by
  unfold digitB at h
  simpa using h
theorem satF_pos : ∀ (l : List UInt8) (a : Nat), (∀ c ∈ l, digitB c = true) → a ≤ 9223372036854775807 → satF false (a : Int) l = ((min 9223372036854775807 (dv a l) : Nat) : Int)
  | [], a, _, h => by
    unfold satF dv
    rw [Nat.min_eq_right h]
  | c :: r, a, hl, h => by
    have hd := hl c (List.mem_cons_self ..)
    obtain ⟨h1, h2⟩ := digit_of hd
    have hg := dv_ge r (a * 10 + (c.toNat - 48))
    unfold satF dv
    rw [hd]
    simp only [if_true]
    by_cases hov : 9223372036854775807 < a * 10 + (c.toNat - 48)
    · have e : satStep false (a : Int) ((c.toNat : Int) - 48) = 9223372036854775807 := by
        unfold satStep
        simp only [Bool.false_eq_true, if_false]
        rw [if_pos]
        rw [Int.tdiv_eq_ediv_of_nonneg (by omega)]
        omega
      rw [e, if_pos (by decide), Nat.min_eq_left (by omega)]
      rfl
    · have e : satStep false (a : Int) ((c.toNat : Int) - 48) = ((a * 10 + (c.toNat - 48) : Nat) : Int) := by
        unfold satStep
        simp only [Bool.false_eq_true, if_false]
        rw [if_neg]
        · omega
        · rw [Int.tdiv_eq_ediv_of_nonneg (by omega)]
          omega
      rw [e]
      by_cases hend : endB ((a * 10 + (c.toNat - 48) : Nat) : Int) = true
      · rw [if_pos hend]
        unfold endB at hend
        simp only [Bool.or_eq_true, beq_iff_eq] at hend
        rw [Nat.min_eq_left (by omega)]
        omega
      · rw [if_neg hend]
        exact satF_pos r _ (fun d hd => hl d (List.mem_cons_of_mem _ hd)) (by omega)
theorem satF_neg : ∀ (l : List UInt8) (a : Nat), (∀ c ∈ l, digitB c = true) → a ≤ 9223372036854775808 → satF true (-(a : Int)) l = -((min 9223372036854775808 (dv a l) : Nat) : Int)
  | [], a, _, h => by
    unfold satF dv
    rw [Nat.min_eq_right h]
  | c :: r, a, hl, h => by
    have hd := hl c (List.mem_cons_self ..)
    obtain ⟨h1, h2⟩ := digit_of hd
    have hg := dv_ge r (a * 10 + (c.toNat - 48))
    have ht : Int.tdiv (-9223372036854775808 + ((c.toNat : Int) - 48)) 10 = -((9223372036854775808 - ((c.toNat : Int) - 48)) / 10) := by
      rw [show -9223372036854775808 + ((c.toNat : Int) - 48) = -(9223372036854775808 - ((c.toNat : Int) - 48)) by omega, Int.neg_tdiv, Int.tdiv_eq_ediv_of_nonneg (by omega)]
    unfold satF dv
    rw [hd]
    simp only [if_true]
    by_cases hov : 9223372036854775808 < a * 10 + (c.toNat - 48)
    · have e : satStep true (-(a : Int)) ((c.toNat : Int) - 48) = -9223372036854775808 := by
        unfold satStep
        simp only [if_true]
        rw [ht, if_pos (by omega)]
      rw [e, if_pos (by decide), Nat.min_eq_left (by omega)]
      rfl
    · have e : satStep true (-(a : Int)) ((c.toNat : Int) - 48) = -((a * 10 + (c.toNat - 48) : Nat) : Int) := by
        unfold satStep
        simp only [if_true]
        rw [ht, if_neg (by omega)]
        omega
      rw [e]
      by_cases hend : endB (-((a * 10 + (c.toNat - 48) : Nat) : Int)) = true
      · rw [if_pos hend]
        unfold endB at hend
        simp only [Bool.or_eq_true, beq_iff_eq] at hend
        rw [Nat.min_eq_left (by omega)]
        omega
      · rw [if_neg hend]
        exact satF_neg r _ (fun d hd => hl d (List.mem_cons_of_mem _ hd)) (by omega)
theorem uint_val : ∀ (l : List UInt8) (a : Nat), (∀ c ∈ l, digitB c = true) → a ≤ 18446744073709551615 → parseUintM 18446744073709551615 a l = if dv a l ≤ 18446744073709551615 then .ok (dv a l) else .range
  | [], a, _, h => by
    unfold parseUintM dv
    rw [if_pos h]
  | c :: r, a, hl, h => by
    have hd := hl c (List.mem_cons_self ..)
    have h12 := digit_of hd
    have hg := dv_ge r (a * 10 + (c.toNat - 48))
    unfold parseUintM dv
    rw [if_pos h12]
    by_cases h1 : 1844674407370955162 ≤ a
    · rw [if_pos h1, if_neg (by omega)]
    · rw [if_neg h1]
      by_cases h2 : 18446744073709551615 < a * 10 + (c.toNat - 48)
      · rw [if_pos h2, if_neg (by omega)]
      · rw [if_neg h2]
        exact uint_val r _ (fun d hd => hl d (List.mem_cons_of_mem _ hd)) (by omega)
/-- The number of a sign and digits, held within what an int can be. -/
def valB (neg : Bool) (u : Nat) : Int := if neg = true then -((min 9223372036854775808 u : Nat) : Int) else ((min 9223372036854775807 u : Nat) : Int)
theorem satF_val (neg : Bool) (l : List UInt8) (h : ∀ c ∈ l, digitB c = true) : satF neg 0 l = valB neg (dv 0 l) := by
  cases neg with
  | false => exact satF_pos l 0 h (by omega)
  | true => exact satF_neg l 0 h (by omega)
/-- What ParseInt says of a text, the error aside. -/
def valE (l : List UInt8) (v : Int) : Prop := parseIntB 64 l = .ok v ∨ (parseIntB 64 l = .range ∧ intSat 64 l = v)
theorem int_val (c : UInt8) (r D : List UInt8) (hD : D = if c.toNat = 43 ∨ c.toNat = 45 then r else c :: r) (hne : D ≠ []) (h : ∀ d ∈ D, digitB d = true) : valE (c :: r) (valB (decide (c.toNat = 45)) (dv 0 D)) := by
  have hu : parseUintB 64 D = if dv 0 D ≤ 18446744073709551615 then .ok (dv 0 D) else .range := by
    unfold parseUintB
    rw [if_neg hne]
    exact uint_val D 0 h (by omega)
  unfold valE parseIntB
  simp only
  rw [← hD, hu]
  unfold valB intSat
  simp only [List.head?_cons, Option.map_some, Option.some.injEq, decide_eq_true_eq]
  by_cases hneg : c.toNat = 45
  · simp only [hneg, if_true, not_true_eq_false, false_and, if_false, true_and]
    by_cases h1 : dv 0 D ≤ 18446744073709551615
    · rw [if_pos h1]
      simp only
      by_cases h2 : 2 ^ (64 - 1) < dv 0 D
      · right
        rw [if_pos h2]
        refine ⟨rfl, ?_⟩
        rw [Nat.min_eq_left (by omega)]
      · left
        rw [if_neg h2, Nat.min_eq_right (by omega)]
    · right
      rw [if_neg h1]
      refine ⟨rfl, ?_⟩
      rw [Nat.min_eq_left (by omega)]
  · simp only [hneg, if_false, not_false_eq_true, true_and, false_and]
    by_cases h1 : dv 0 D ≤ 18446744073709551615
    · rw [if_pos h1]
      simp only
      by_cases h2 : 2 ^ (64 - 1) ≤ dv 0 D
      · right
        rw [if_pos h2]
        refine ⟨rfl, ?_⟩
        rw [Nat.min_eq_left (by omega)]
      · left
        rw [if_neg h2, Nat.min_eq_right (by omega)]
    · right
      rw [if_neg h1]
      refine ⟨rfl, ?_⟩
      rw [Nat.min_eq_left (by omega)]
theorem tw_take (r : List UInt8) : r.take (r.takeWhile digitB).length = r.takeWhile digitB := (List.prefix_iff_eq_take.1 (List.takeWhile_prefix (p := digitB) (l := r))).symm
theorem tw_all (r : List UInt8) : ∀ c ∈ r.takeWhile digitB, digitB c = true := fun c hc => by
  have := List.all_takeWhile (p := digitB) (l := r)
  rw [List.all_eq_true] at this
  exact this c hc
theorem tw_drop (r : List UInt8) : r.drop (r.takeWhile digitB).length = skipD r := by
  unfold skipD
  have h := List.takeWhile_append_dropWhile (p := digitB) (l := r)
  have h2 := List.take_append_drop (r.takeWhile digitB).length r
  rw [tw_take] at h2
  exact List.append_cancel_left (h2.trans h.symm)
/-- The lead of a text that begins with a number spells that number. -/
theorem lead_val (l : List UInt8) (h : headD (signed1 l) = true) : valE (l.take (pre l)) (satF (minusB l) 0 (signed1 l)) ∧ l.drop (pre l) = skipD (signed1 l) := by
  cases l with
  | nil => simp [signed1, headD] at h
  | cons c r =>
    rw [signed1_cons] at h ⊢
    rw [pre_cons]
    by_cases hs : signB c = true
    · rw [if_pos hs] at h ⊢
      rw [hs]
      simp only [Bool.true_or, if_true]
      have hsg : c.toNat = 43 ∨ c.toNat = 45 := by
        unfold signB at hs
        simp at hs
        omega
      rw [Nat.add_comm 1, List.take_succ_cons, List.drop_succ_cons, tw_take, tw_drop]
      refine ⟨?_, rfl⟩
      have hne : r.takeWhile digitB ≠ [] := by
        cases r with
        | nil => simp [headD] at h
        | cons d r =>
          rw [headD_cons] at h
          rw [List.takeWhile_cons, h]
          simp
      have hv := int_val c (r.takeWhile digitB) (r.takeWhile digitB) (by rw [if_pos hsg]) hne (tw_all r)
      rw [satF_tw, satF_val _ _ (tw_all r)]
      have hm : minusB (c :: r) = decide (c.toNat = 45) := by
        unfold minusB
        simp only
        rw [Bool.eq_iff_iff]
        simp
      rw [hm]
      exact hv
    · rw [if_neg hs] at h ⊢
      have hs0 : signB c = false := by simpa using hs
      rw [headD_cons] at h
      rw [hs0, h]
      simp only [Bool.or_true, if_true]
      have hsg : ¬ (c.toNat = 43 ∨ c.toNat = 45) := by
        have := digit_of h
        omega
      rw [Nat.add_comm 1, List.take_succ_cons, List.drop_succ_cons, tw_take, tw_drop]
      have hall : ∀ d ∈ c :: r.takeWhile digitB, digitB d = true := by
        intro d hd
        rcases List.mem_cons.1 hd with rfl | hd
        · exact h
        · exact tw_all r d hd
      refine ⟨?_, by unfold skipD; rw [List.dropWhile_cons, h]; rfl⟩
      have hv := int_val c (r.takeWhile digitB) (c :: r.takeWhile digitB) (by rw [if_neg hsg]) (by simp) hall
      have htw : (c :: r).takeWhile digitB = c :: r.takeWhile digitB := by rw [List.takeWhile_cons, h]; rfl
      rw [satF_tw, htw, satF_val _ _ hall]
      have hm : minusB (c :: r) = decide (c.toNat = 45) := by
        unfold minusB
        simp only
        rw [Bool.eq_iff_iff]
        simp
      rw [hm]
      exact hv
end Dp
end Go.Proofs.YthdnflklhhfojaaGreatDoor
