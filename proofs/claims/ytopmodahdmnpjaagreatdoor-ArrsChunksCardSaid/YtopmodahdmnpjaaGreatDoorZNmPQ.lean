/- deep: how many items are left: the walk of the document's. -/
import Derived.Test.YtopmodahdmnpjaaGreatDoorZDpA
import Derived.Test.YtopmodahdmnpjaaGreatDoorZWords
import Derived.WalkKit
import Derived.Lib.AtoiAllCases
import Derived.Lib.ItoaNum
import Derived.Test.YtopmodahdmnpjaaGreatDoorZMxL
import Derived.Deep.RegionHeld3
import Derived.Sort.Grow
import Derived.Maps.Own
import Derived.Maps.Views
import Derived.DeepKeys4
namespace Go.Proofs.YtopmodahdmnpjaaGreatDoor
open Go.RowKit
namespace Dp
def ixOf : Value → Int
  | .int _ q => q
  | _ => 0
theorem blk_below {w w' : World} {g : Nat} {t : TypeId} {cs : Array Value} (h : Blk w g t cs) (hb : Below w.heap.size w w') : Blk w' g t cs := h.keeps (Keeps.of_below (S := fun _ => False) hb) id
section
variable {w : World} {B : Nat}
set_option maxRecDepth 100000 in
set_option maxHeartbeats 4000000 in
theorem rleft_any (hBw : B ≤ w.heap.size) {g : GV} {x : Value} (h : VAt w B g x) : ∀ (w' : World), Below B w w' → ∀ m : Int, 0 ≤ m → m ≤ 2048 →
    Calls Tryz.prog 80 #[x, .int .i64 m] w' fun e w'' => e = .returned (.int .i64 (leftV g m)) ∧ leftV g m ≤ m ∧ Below w'.heap.size w' w'' := by
  induction h with
  | mk k n t l A c b off C hc hn hA hi hv ih =>
    intro w' hb m hm0 hm1
    have hB' : B ≤ w'.heap.size := Nat.le_trans hBw hb.size
    have HA := Lib.hid hA
    have HI := Lib.hid hi
    have HV := Lib.hid ih
    have HW := Lib.hid hv
    have Hb := Lib.hid hb
    have HB0 := Lib.hid ((Below.refl w'.heap.size w').alloc (Nat.le_refl _) (.cells #[.int .i64 k, .int .i64 n, .string t, .slice A l.length c] 24))
    have HX0 := Lib.hid (Blk.new w' 24 #[.int .i64 k, .int .i64 n, .string t, .slice A l.length c])
    obtain ⟨M, HM⟩ : ∃ z, Hid (leftV (.mk k n t l) m = z) := ⟨_, rfl⟩
    have HM0 : Hid (M = leftL l (m - l.length)) := by
      show _ = _
      rw [← HM.out, leftV]
    rw [HM.out]
    clear hA hi hv ih hb HM
    go_enter Tryz.func80, Tryz.ntmps80
    go_wp2_with fail
    go_loopw [1, 5] (fun xn xi wx => ∃ (j : Nat) (q : Int), j ≤ l.length ∧ xi = .int .i64 j ∧ xn = .int .i64 q ∧ q ≤ m ∧ Hid (M = leftL (l.drop j) q) ∧ Hid (Below w'.heap.size w' wx) ∧ Hid (Blk wx w'.heap.size 24 #[.int .i64 k, .int .i64 n, .string t, .slice A l.length c])) (fun _ xi _ => l.length - (ixOf xi).toNat)
    case atStart => exact ⟨0, m - l.length, Nat.zero_le _, rfl, by go_num, by omega, by simpa using HM0, HB0, HX0⟩
    case round =>
      obtain ⟨j, q, hj, rfl, rfl, hq1, HL, HB, HX⟩ := hrel
      clear HB0 HM0 HX0
      have b3 : wr.cell? ⟨w'.heap.size, 3, none⟩ = some (.slice A l.length c) := HX.out.cell 3
      by_cases hlt : j < l.length
      · obtain ⟨it, hit⟩ : ∃ it, l[j]? = some it := ⟨_, List.getElem?_eq_getElem hlt⟩
        obtain ⟨rfl, hbB⟩ := HA.out (by omega)
        have hbw : Below B w wr := Hb.out.trans (HB.out.mono hB')
        have hwr := HB.out.size
        obtain ⟨c0, c1, c2, v0, v1, v2, v3, e, c3, c4, c5, c6⟩ := (HI.out j it hit).below hbw hbB
        have hform := HW.out j it hit
        rw [e] at hform
        obtain ⟨k1, n1, t1, A1, l1, e1, rfl, rfl, rfl, rfl⟩ := hform.form
        clear hform HW
        have HD := Lib.hid (HL.out.trans (leftL_drop l j it hit q))
        by_cases hq : q < 0
        · have hM : M = q := by rw [HD.out, if_pos hq]
          subst hM
          clear HI HV HL HD e
          go_wp2_with fail
          go_ret
          first | exact ⟨rfl, hq1, HB.out⟩ | exact ⟨rfl, HB.out⟩
        · have hR := fun wz (hz : Below B w wz) => HV.out j it hit wz hz q (by omega) (by omega)
          rw [e] at hR
          have HR := Lib.hid hR
          have HD2 := Lib.hid (HD.out.trans (if_neg hq))
          have Hbw := Lib.hid hbw
          have hqn : 0 ≤ q := by omega
          generalize leftV it.val q = q2 at *
          clear hR HI HV HL HD e hbw
          go_wp2_with (go_at_call 80; refine (HR.out _ Hbw.out).mono ?_; rintro e w2 ⟨rfl, hle, hb2⟩; have HB2 := Lib.hid (HB.out.trans (hb2.mono HB.out.size)); have HX2 := Lib.hid (blk_below HX.out hb2); clear hb2)
          go_roundw
          case rel => exact ⟨j + 1, q2, by omega, by go_num, rfl, by omega, HD2, HB2, HX2⟩
          case measure => simp [ixOf] <;> omega
      · obtain rfl : j = l.length := by omega
        have hM : M = q := by rw [HL.out, List.drop_length, leftL]
        subst hM
        clear HI HV HL HA
        go_wp2_with fail
        go_ret
        first | exact ⟨rfl, hq1, HB.out⟩ | exact ⟨rfl, HB.out⟩
end
end Dp
end Go.Proofs.YtopmodahdmnpjaaGreatDoor
/- Norm: a key's one form: what the program and the document read as a number: plain laws. -/
namespace Go.Proofs.YtopmodahdmnpjaaGreatDoor
namespace Nm
open Go Go.Lib

theorem toNat_digit (d : Nat) (h : d < 10) : (UInt8.ofNat (48 + d)).toNat = 48 + d := by
  rw [UInt8.toNat_ofNat']
  omega
theorem parse_dec (u : Nat) : ∀ (acc : Nat) (r : List UInt8), acc * 10 ^ nDigits u + u < 18446744073709551616 → parseUint10 acc (decDigits u ++ r) = parseUint10 (acc * 10 ^ nDigits u + u) r := by
  induction u using Nat.strongRecOn with
  | _ u ih =>
    intro acc r h
    by_cases hu : u < 10
    · rw [nDigits_small hu] at h ⊢
      rw [decDigits, dif_pos hu]
      simp only [List.cons_append, List.nil_append, parseUint10, toNat_digit u hu]
      rw [if_pos (by omega), if_neg (by omega), if_neg (by omega)]
      congr 1
      omega
    · rw [nDigits_big hu, Nat.pow_succ] at h ⊢
      have e : acc * (10 ^ nDigits (u / 10) * 10) = (acc * 10 ^ nDigits (u / 10)) * 10 := by rw [Nat.mul_assoc]
      rw [e] at h ⊢
      rw [decDigits, dif_neg hu, List.append_assoc, ih (u / 10) (by omega) acc _ (by omega)]
      have hd := Nat.mod_lt u (show 0 < 10 by decide)
      simp only [List.cons_append, List.nil_append, parseUint10, toNat_digit _ hd]
      rw [if_pos (by omega), if_neg (by omega), if_neg (by omega)]
      congr 1
      omega
theorem dec_ne (u : Nat) : decDigits u ≠ [] := by
  intro h
  have := decDigits_length u
  rw [h] at this
  have := nDigits_pos u
  simp at *
  omega
theorem mag_dec (u : Nat) (h : u < 18446744073709551616) : parseMag (decDigits u) = .ok u := by
  unfold parseMag
  rw [if_neg (dec_ne u)]
  have := parse_dec u 0 [] (by omega)
  simpa [parseUint10] using this
theorem dec_head (u : Nat) : ∃ c r, decDigits u = c :: r ∧ 48 ≤ c.toNat ∧ c.toNat ≤ 57 := by
  induction u using Nat.strongRecOn with
  | _ u ih =>
    by_cases hu : u < 10
    · exact ⟨_, [], by rw [decDigits, dif_pos hu], by rw [toNat_digit u hu]; omega, by rw [toNat_digit u hu]; omega⟩
    · obtain ⟨c, r, e, h1, h2⟩ := ih (u / 10) (by omega)
      exact ⟨c, r ++ [UInt8.ofNat (48 + u % 10)], by rw [decDigits, dif_neg hu, e]; rfl, h1, h2⟩
theorem dec_all (u : Nat) : ∀ c ∈ decDigits u, 48 ≤ c.toNat ∧ c.toNat ≤ 57 := by
  induction u using Nat.strongRecOn with
  | _ u ih =>
    intro c hc
    by_cases hu : u < 10
    · rw [decDigits, dif_pos hu] at hc
      obtain rfl := List.mem_singleton.1 hc
      rw [toNat_digit u hu]; omega
    · rw [decDigits, dif_neg hu, List.mem_append] at hc
      rcases hc with hc | hc
      · exact ih _ (by omega) c hc
      · obtain rfl := List.mem_singleton.1 hc
        have hd := Nat.mod_lt u (show 0 < 10 by decide)
        rw [toNat_digit _ hd]; omega
theorem atoi_itoa (n : Int) (h0 : -9223372036854775808 ≤ n) (h1 : n ≤ 9223372036854775807) : atoiAll (itoa n) = .ok n := by
  unfold itoa
  split
  · rw [atoiAll_minus, mag_dec _ (by omega), signed, if_neg (by omega)]
    congr 1
    omega
  · obtain ⟨c, r, e, h2, h3⟩ := dec_head n.toNat
    have hm := mag_dec n.toNat (by omega)
    rw [e] at hm ⊢
    rw [atoiAll_plain c r (by omega) (by omega), hm, signless, if_neg (by omega)]
    congr 1
    omega

/-! ### the document's reading of a number -/
def blankB (c : UInt8) : Bool := c.toNat == 32 || (decide (9 ≤ c.toNat) && decide (c.toNat ≤ 13))
def digitB (c : UInt8) : Bool := decide (48 ≤ c.toNat) && decide (c.toNat ≤ 57)
def signB (c : UInt8) : Bool := c.toNat == 45 || c.toNat == 43
/-- One digit more, held within what an int can be. -/
def satStep (minus : Bool) (n d : Int) : Int :=
  if minus then if n < Int.tdiv (-9223372036854775808 + d) 10 then -9223372036854775808 else n * 10 - d
  else if n > Int.tdiv (9223372036854775807 - d) 10 then 9223372036854775807 else n * 10 + d
def endB (n : Int) : Bool := n == -9223372036854775808 || n == 9223372036854775807
def satF (minus : Bool) : Int → List UInt8 → Int
  | n, [] => n
  | n, c :: r => if digitB c then (if endB (satStep minus n (c.toNat - 48)) then satStep minus n (c.toNat - 48) else satF minus (satStep minus n (c.toNat - 48)) r) else n
def skipB (l : List UInt8) : List UInt8 := l.dropWhile blankB
def skipD (l : List UInt8) : List UInt8 := l.dropWhile digitB
def minusB (l : List UInt8) : Bool := match l with | c :: _ => c.toNat == 45 | [] => false
def signed1 (l : List UInt8) : List UInt8 := match l with | c :: r => if signB c then r else c :: r | [] => []
def headD (l : List UInt8) : Bool := match l with | c :: _ => digitB c | [] => false
/-- The number of a text's longest numeric beginning, and what stands behind it; none: there is no such. -/
def beginL (l : List UInt8) : Option (Int × List UInt8) :=
  if headD (signed1 (skipB l)) then some (satF (minusB (skipB l)) 0 (signed1 (skipB l)), skipB (skipD (signed1 (skipB l)))) else none
def numericL (l : List UInt8) : Option Int := match beginL l with | some (n, []) => some n | _ => none

theorem satF_dec (minus : Bool) (u : Nat) : ∀ (m : Nat) (r : List UInt8), (m * 10 ^ nDigits u + u : Nat) < (if minus then 9223372036854775808 else 9223372036854775807) → satF minus (if minus then -(m : Int) else m) (decDigits u ++ r) = satF minus (if minus then -((m * 10 ^ nDigits u + u : Nat) : Int) else ((m * 10 ^ nDigits u + u : Nat) : Int)) r := by
  induction u using Nat.strongRecOn with
  | _ u ih =>
    intro m r h
    by_cases hu : u < 10
    · rw [nDigits_small hu] at h ⊢
      rw [decDigits, dif_pos hu]
      have hdg : digitB (UInt8.ofNat (48 + u)) = true := by unfold digitB; rw [toNat_digit u hu]; simp; omega
      simp only [List.cons_append, List.nil_append, satF, hdg, if_true, toNat_digit u hu]
      cases minus
      · simp only [Bool.false_eq_true, if_false] at h ⊢
        have hs : satStep false (m : Int) (((48 + u : Nat) : Int) - 48) = ((m * 10 ^ 1 + u : Nat) : Int) := by
          unfold satStep
          simp only [Bool.false_eq_true, if_false]
          rw [Int.tdiv_eq_ediv_of_nonneg (by omega), if_neg (by omega)]
          omega
        rw [hs]
        have he : endB ((m * 10 ^ 1 + u : Nat) : Int) = false := by unfold endB; simp only [Bool.or_eq_false_iff, beq_eq_false_iff_ne]; omega
        rw [he]
        simp
      · simp only [if_true] at h ⊢
        have hs : satStep true (-(m : Int)) (((48 + u : Nat) : Int) - 48) = -((m * 10 ^ 1 + u : Nat) : Int) := by
          unfold satStep
          simp only [if_true]
          have ht : Int.tdiv (-9223372036854775808 + (((48 + u : Nat) : Int) - 48)) 10 = -(((9223372036854775808 - u) / 10 : Nat) : Int) := by
            rw [show (-9223372036854775808 + (((48 + u : Nat) : Int) - 48)) = -((9223372036854775808 - u : Nat) : Int) by omega, Int.neg_tdiv]
            rw [Int.tdiv_eq_ediv_of_nonneg (by omega)]
            omega
          rw [ht, if_neg (by omega)]
          omega
        rw [hs]
        have he : endB (-((m * 10 ^ 1 + u : Nat) : Int)) = false := by unfold endB; simp only [Bool.or_eq_false_iff, beq_eq_false_iff_ne]; omega
        rw [he]
        simp
    · rw [nDigits_big hu, Nat.pow_succ] at h ⊢
      have e : m * (10 ^ nDigits (u / 10) * 10) = (m * 10 ^ nDigits (u / 10)) * 10 := by rw [Nat.mul_assoc]
      rw [e] at h ⊢
      rw [decDigits, dif_neg hu, List.append_assoc, ih (u / 10) (by omega) m _ (by split at h <;> simp_all <;> omega)]
      have hd := Nat.mod_lt u (show 0 < 10 by decide)
      have h1 := ih (u % 10) (by omega) (m * 10 ^ nDigits (u / 10) + u / 10) r
      rw [nDigits_small hd] at h1
      rw [decDigits, dif_pos hd] at h1
      rw [h1 (by split at h <;> simp_all <;> omega)]
      congr 2
      · congr 2; omega
      · omega
theorem skipB_digit {c : UInt8} {r : List UInt8} (h : 45 ≤ c.toNat) : skipB (c :: r) = c :: r := by
  have : blankB c = false := by unfold blankB; simp; omega
  simp [skipB, this]
theorem skipD_all {l : List UInt8} (h : ∀ c ∈ l, 48 ≤ c.toNat ∧ c.toNat ≤ 57) : skipD l = [] := by
  induction l with
  | nil => rfl
  | cons c r ih =>
    have h1 := h c (List.mem_cons_self ..)
    have h2 : digitB c = true := by unfold digitB; simp; omega
    show List.dropWhile digitB (c :: r) = []
    rw [List.dropWhile_cons, if_pos h2]
    exact ih fun c hc => h c (List.mem_cons_of_mem _ hc)
theorem satF_whole (minus : Bool) (u : Nat) (h : u < (if minus then 9223372036854775808 else 9223372036854775807)) : satF minus 0 (decDigits u) = if minus then -(u : Int) else u := by
  have := satF_dec minus u 0 [] (by simpa using h)
  simpa [satF] using this
theorem dec_most : decDigits 9223372036854775807 = decDigits 922337203685477580 ++ [55] := by rw [decDigits, dif_neg (by decide)]; rfl
theorem dec_least : decDigits 9223372036854775808 = decDigits 922337203685477580 ++ [56] := by rw [decDigits, dif_neg (by decide)]; rfl
theorem satF_most : satF false 0 (decDigits 9223372036854775807) = 9223372036854775807 := by
  have := satF_dec false 922337203685477580 0 [55] (by rw [Nat.zero_mul]; decide)
  rw [dec_most]
  simp only [Nat.zero_mul, Nat.zero_add, Bool.false_eq_true, if_false] at this
  rw [show (0 : Int) = ((0 : Nat) : Int) by rfl, this]
  decide
theorem satF_least : satF true 0 (decDigits 9223372036854775808) = -9223372036854775808 := by
  have := satF_dec true 922337203685477580 0 [56] (by rw [Nat.zero_mul]; decide)
  rw [dec_least]
  simp only [Nat.zero_mul, Nat.zero_add, if_true] at this
  rw [show (0 : Int) = -((0 : Nat) : Int) by rfl, this]
  decide
theorem satF_any (minus : Bool) (u : Nat) (h : u ≤ (if minus then 9223372036854775808 else 9223372036854775807)) : satF minus 0 (decDigits u) = if minus then -(u : Int) else u := by
  cases minus
  · simp only [Bool.false_eq_true, if_false] at h ⊢
    by_cases hu : u = 9223372036854775807
    · subst hu; exact satF_most
    · simpa using satF_whole false u (by simp; omega)
  · simp only [if_true] at h ⊢
    by_cases hu : u = 9223372036854775808
    · subst hu; exact satF_least
    · simpa using satF_whole true u (by simp; omega)
theorem numeric_itoa (n : Int) (h0 : -9223372036854775808 ≤ n) (h1 : n ≤ 9223372036854775807) : numericL (itoa n) = some n := by
  unfold itoa
  split
  · have hs := satF_any true n.natAbs (by simp; omega)
    obtain ⟨c, r, e, h2, h3⟩ := dec_head n.natAbs
    have ha := skipD_all (dec_all n.natAbs)
    have hh : headD (decDigits n.natAbs) = true := by rw [e]; unfold headD digitB; simp; omega
    unfold numericL beginL
    rw [skipB_digit (by decide)]
    simp only [signed1, signB, minusB]
    simp only [show ((45 : UInt8).toNat == 45) = true by decide, Bool.true_or, if_true, hh, hs, ha]
    simp only [skipB, List.dropWhile_nil]
    congr 1
    omega
  · obtain ⟨c, r, e, h2, h3⟩ := dec_head n.toNat
    have hs := satF_any false n.toNat (by simp; omega)
    have ha := skipD_all (dec_all n.toNat)
    have hh : headD (decDigits n.toNat) = true := by rw [e]; unfold headD digitB; simp; omega
    have h4 : (c.toNat == 45) = false := by simp; omega
    have h5 : (c.toNat == 43) = false := by simp; omega
    have hb : skipB (decDigits n.toNat) = decDigits n.toNat := by rw [e]; exact skipB_digit (by omega)
    have hg : signed1 (decDigits n.toNat) = decDigits n.toNat := by rw [e]; simp [signed1, signB, h4, h5]
    have hm : minusB (decDigits n.toNat) = false := by rw [e]; simpa [minusB] using h4
    unfold numericL beginL
    rw [hb, hg, hh, hm, ha, if_pos rfl]
    rw [hs]
    simp only [skipB, List.dropWhile_nil, Bool.false_eq_true, if_false]
    congr 1
    omega
/-- A key in its one form. -/
def normK (b : Bool) (i : Int) (s : List UInt8) : Bool × Int × List UInt8 :=
  if b then match atoiAll s with | .ok n => if itoa n = s then (false, n, []) else (true, 0, s) | _ => (true, 0, s) else (false, i, [])
/-- The document's. -/
def normR (b : Bool) (i : Int) (s : List UInt8) : Bool × Int × List UInt8 :=
  if b then match numericL s with | some n => if itoa n = s then (false, n, []) else (true, 0, s) | none => (true, 0, s) else (false, i, [])
theorem normR_eq (b : Bool) (i : Int) (s : List UInt8) (hn : ∀ n, numericL s = some n → -9223372036854775808 ≤ n ∧ n ≤ 9223372036854775807) : normR b i s = normK b i s := by
  unfold normR normK
  cases b
  · rfl
  · simp only [if_true]
    by_cases h : ∃ n, (-9223372036854775808 ≤ n ∧ n ≤ 9223372036854775807) ∧ itoa n = s
    · obtain ⟨n, ⟨h0, h1⟩, rfl⟩ := h
      rw [numeric_itoa n h0 h1, atoi_itoa n h0 h1]
    · have e1 : ∀ n, atoiAll s = .ok n → itoa n ≠ s := fun n hn e => h ⟨n, atoiAll_bounds hn, e⟩
      have e2 : ∀ n, numericL s = some n → itoa n ≠ s := fun n hn' e => h ⟨n, hn n hn', e⟩
      cases ha : atoiAll s with
      | ok n => cases hb : numericL s with
        | some m => simp only [if_neg (e1 n ha), if_neg (e2 m hb)]
        | none => simp only [if_neg (e1 n ha)]
      | _ => cases hb : numericL s with
        | some m => simp only [if_neg (e2 m hb)]
        | none => rfl
/-- What is read is held within what an int can be. -/
theorem satStep_bounds (minus : Bool) (n d : Int) (hd0 : 0 ≤ d) (hd9 : d ≤ 9) (h : if minus then -9223372036854775808 ≤ n ∧ n ≤ 0 else 0 ≤ n ∧ n ≤ 9223372036854775807) : if minus then -9223372036854775808 ≤ satStep minus n d ∧ satStep minus n d ≤ 0 else 0 ≤ satStep minus n d ∧ satStep minus n d ≤ 9223372036854775807 := by
  cases minus
  · simp only [Bool.false_eq_true, if_false] at h ⊢
    unfold satStep
    simp only [Bool.false_eq_true, if_false]
    rw [Int.tdiv_eq_ediv_of_nonneg (by omega)]
    split <;> omega
  · simp only [if_true] at h ⊢
    unfold satStep
    simp only [if_true]
    rw [show (-9223372036854775808 + d) = -(9223372036854775808 - d) by omega, Int.neg_tdiv, Int.tdiv_eq_ediv_of_nonneg (by omega)]
    split <;> omega
theorem satF_bounds (minus : Bool) : ∀ (l : List UInt8) (n : Int), (if minus then -9223372036854775808 ≤ n ∧ n ≤ 0 else 0 ≤ n ∧ n ≤ 9223372036854775807) → if minus then -9223372036854775808 ≤ satF minus n l ∧ satF minus n l ≤ 0 else 0 ≤ satF minus n l ∧ satF minus n l ≤ 9223372036854775807
  | [], n, h => by simpa [satF] using h
  | c :: r, n, h => by
    unfold satF
    by_cases hd : digitB c = true
    · rw [if_pos hd]
      unfold digitB at hd
      simp at hd
      have hb := satStep_bounds minus n ((c.toNat : Int) - 48) (by omega) (by omega) h
      by_cases he : endB (satStep minus n ((c.toNat : Int) - 48)) = true
      · rw [if_pos he]; exact hb
      · rw [if_neg he]; exact satF_bounds minus r _ hb
    · rw [if_neg hd]; exact h
theorem beginL_bounds {l r : List UInt8} {n : Int} (h : beginL l = some (n, r)) : -9223372036854775808 ≤ n ∧ n ≤ 9223372036854775807 := by
  unfold beginL at h
  split at h
  · cases h
    have := satF_bounds (minusB (skipB l)) (signed1 (skipB l)) 0 (by split <;> omega)
    split at this <;> omega
  · cases h
theorem numericL_bounds {l : List UInt8} {n : Int} (h : numericL l = some n) : -9223372036854775808 ≤ n ∧ n ≤ 9223372036854775807 := by
  unfold numericL at h
  split at h
  · cases h
    rename_i he
    exact beginL_bounds he
  · cases h
theorem norm_eq (b : Bool) (i : Int) (s : List UInt8) : normR b i s = normK b i s := normR_eq b i s fun _ h => numericL_bounds h
end Nm
end Go.Proofs.YtopmodahdmnpjaaGreatDoor
/- list.Norm at any key: the walk. -/
namespace Go.Proofs.YtopmodahdmnpjaaGreatDoor
open Go Go.RowKit
namespace Nm
/-- A key in its one form: whether it is a text, its number, its text. -/
def normG (b : Bool) (i : Int) (s : ByteArray) : Bool × Int × ByteArray :=
  if b then match Lib.atoiAll s.data.toList with | .ok n => if Lib.itoa n = s.data.toList then (false, n, ⟨#[]⟩) else (true, 0, s) | _ => (true, 0, s) else (false, i, ⟨#[]⟩)
def keyV (k : Bool × Int × ByteArray) : Value := .agg #[.bool k.1, .int .i64 k.2.1, .string k.2.2]
theorem below_grow (w : World) (q : Nat) (os : Array Obj) : Below w.heap.size w (Sort.grow (w.drewN q) os) :=
  ⟨rfl, rfl, rfl, by first | (simp [Sort.grow]; done) | (simp [Sort.grow]; omega), fun i hi => by
    show ((w.drewN q).heap ++ os)[i]? = _
    rw [Array.getElem?_append_left (by show i < w.heap.size; omega)]
    rfl⟩
theorem itoa_any (n : Int) (h0 : -9223372036854775808 ≤ n) (h1 : n ≤ 9223372036854775807) (w : World) (hL : LibS w) : Calls Tryz.prog 194 #[.int .i64 n] w fun e w' => e = .returned (.string ⟨(Lib.itoa n).toArray⟩) ∧ Below w.heap.size w w' := by
  refine (Tryz.strconv_Itoa n h0 h1 w hL.pow).mono ?_
  rintro e w' ⟨rfl, k, os, rfl⟩
  exact ⟨rfl, below_grow w k os⟩
theorem atoi_ok (s : ByteArray) (hz : s.size ≤ 281474976710656) (v : Int) (h : Lib.atoiAll s.data.toList = .ok v) (w : World) : Calls Tryz.prog 193 #[.string s] w fun e w' => e = .returned (.tuple #[.int .i64 v, .nilIface]) ∧ Below w.heap.size w w' := by
  refine (Tryz.strconv_Atoi_ok s (by omega) v h w).mono ?_
  rintro e w' ⟨rfl, rfl | ⟨t, rfl⟩⟩
  · exact ⟨rfl, Below.refl _ _⟩
  · exact ⟨rfl, Joins.below_bytesWorld _ _ _ _ (Nat.le_refl _)⟩
theorem atoi_no (s : ByteArray) (hz : s.size ≤ 281474976710656) (h : ∀ v, Lib.atoiAll s.data.toList ≠ .ok v) (w : World) (hL : LibS w) : Calls Tryz.prog 193 #[.string s] w fun e w' => (∃ n t N, e = .returned (.tuple #[.int .i64 n, .iface t (.pointer (some ⟨N, 0, none⟩))])) ∧ Below w.heap.size w w' := by
  obtain ⟨tp, p, hv⟩ := hL.syn
  obtain ⟨tq, q, hu⟩ := hL.rng
  cases ha : Lib.atoiAll s.data.toList with
  | ok v => exact absurd ha (h v)
  | range =>
    refine (Tryz.strconv_Atoi_range_var s hz ha tq q w hu).mono ?_
    rintro e w' ⟨N, rfl, -, -, hb⟩
    exact ⟨⟨_, _, _, rfl⟩, hb⟩
  | _ =>
    refine (Tryz.strconv_Atoi_syntax_var s hz ha tp p w hv).mono ?_
    rintro e w' ⟨N, rfl, -, -, hb⟩
    exact ⟨⟨_, _, _, rfl⟩, hb⟩
section
variable (i : Int) (s : ByteArray) (w : World)
set_option maxRecDepth 100000 in
theorem norm_int : Calls Tryz.prog 145 #[.agg #[.bool false, .int .i64 i, .string s]] w fun e w' => e = .returned (.agg #[.bool false, .int .i64 i, .string ⟨#[]⟩]) ∧ Below w.heap.size w w' := by
  have HB0 := Lib.hid (((Below.refl w.heap.size w).alloc (Nat.le_refl _) (.cells #[.bool false, .int .i64 i, .string s] 32)).alloc (by simp) (.cells #[.bool false, .int .i64 0, .string ⟨#[]⟩] 32))
  go_enter Tryz.func145, Tryz.ntmps145
  go_wp2_with fail
  refine bodyPost_ret (v := .agg #[.bool false, .int .i64 i, .string ⟨#[]⟩]) ?_ rfl ?_
  · simp [results, Tryz.results145, go_sem]
  exact ⟨rfl, ((Below.refl w.heap.size w).alloc (Nat.le_refl _) _).alloc (by simp) _⟩
set_option maxRecDepth 100000 in
theorem norm_no (hz : s.size ≤ 281474976710656) (h : ∀ v, Lib.atoiAll s.data.toList ≠ .ok v) (hL : LibS w) : Calls Tryz.prog 145 #[.agg #[.bool true, .int .i64 i, .string s]] w fun e w' => e = .returned (.agg #[.bool true, .int .i64 0, .string s]) ∧ Below w.heap.size w w' := by
  have HB0 := Lib.hid (((Below.refl w.heap.size w).alloc (Nat.le_refl _) (.cells #[.bool true, .int .i64 i, .string s] 32)).alloc (by simp) (.cells #[.bool false, .int .i64 0, .string ⟨#[]⟩] 32))
  have HK := Lib.hid ((Blk.new w 32 #[.bool true, .int .i64 i, .string s]).alloc (.cells #[.bool false, .int .i64 0, .string ⟨#[]⟩] 32))
  have HR0 : Blk ((w.alloc (.cells #[.bool true, .int .i64 i, .string s] 32)).alloc (.cells #[.bool false, .int .i64 0, .string ⟨#[]⟩] 32)) (w.heap.size + 1) 32 #[.bool false, .int .i64 0, .string ⟨#[]⟩] := by
    have := Blk.new (w.alloc (.cells #[.bool true, .int .i64 i, .string s] 32)) 32 #[.bool false, .int .i64 0, .string ⟨#[]⟩]
    simpa using this
  have HR := Lib.hid HR0
  have HA := Lib.hid (fun w hL => atoi_no s hz h w hL)
  clear HR0 h
  go_enter Tryz.func145, Tryz.ntmps145
  go_wp2_with fail
  generalize (w.alloc (.cells #[.bool true, .int .i64 i, .string s] 32)).alloc (.cells #[.bool false, .int .i64 0, .string ⟨#[]⟩] 32) = w2 at *
  refine (HA.out w2 (hL.below HB0.out)).mono ?_
  rintro e w3 ⟨⟨n, t, N, rfl⟩, hb3⟩
  have HB3 := Lib.hid (HB0.out.trans (hb3.mono HB0.out.size))
  have HK3 := Lib.hid (HK.out.keeps (Keeps.of_below (S := fun _ => False) hb3) id)
  have HR3 := Lib.hid (HR.out.keeps (Keeps.of_below (S := fun _ => False) hb3) id)
  have k0 : w3.cell? ⟨w.heap.size, 0, none⟩ = some (.bool true) := HK3.out.cell 0
  have k1 : w3.cell? ⟨w.heap.size, 1, none⟩ = some (.int .i64 i) := HK3.out.cell 1
  have k2 : w3.cell? ⟨w.heap.size, 2, none⟩ = some (.string s) := HK3.out.cell 2
  have r0 : w3.cell? ⟨w.heap.size + 1, 0, none⟩ = some (.bool false) := HR3.out.cell 0
  have r1 : w3.cell? ⟨w.heap.size + 1, 1, none⟩ = some (.int .i64 0) := HR3.out.cell 1
  have r2 : w3.cell? ⟨w.heap.size + 1, 2, none⟩ = some (.string ⟨#[]⟩) := HR3.out.cell 2
  have z0 := HR3.out.frozen 0
  have z1 := HR3.out.frozen 1
  have z2 := HR3.out.frozen 2
  clear hb3 HB0 HK HR HA
  go_wp2_with fail
  go_quiet (fail)
  go_wp2_with fail
  have HR7 := ((HR3.out.drewN nq).set_ 0 (.bool true)).set_ 1 (.int .i64 0) |>.set_ 2 (.string s)
  have hb7 : ∀ v0 v1 v2, Below w.heap.size w ((((w3.drewN nq).setCell ⟨w.heap.size + 1, 0, none⟩ v0).setCell ⟨w.heap.size + 1, 1, none⟩ v1).setCell ⟨w.heap.size + 1, 2, none⟩ v2) := fun v0 v1 v2 =>
    ((((⟨HB3.out.os, HB3.out.tape, HB3.out.output, HB3.out.size, HB3.out.block⟩ : Below w.heap.size w (w3.drewN nq)).setCell (p := ⟨w.heap.size + 1, 0, none⟩) (by simp) v0).setCell (p := ⟨w.heap.size + 1, 1, none⟩) (by simp) v1).setCell (p := ⟨w.heap.size + 1, 2, none⟩) (by simp) v2)
  have HB7 := hb7 (.bool true) (.int .i64 0) (.string s)
  clear hb7
  generalize (((w3.drewN nq).setCell ⟨w.heap.size + 1, 0, none⟩ (.bool true)).setCell ⟨w.heap.size + 1, 1, none⟩ (.int .i64 0)).setCell ⟨w.heap.size + 1, 2, none⟩ (.string s) = w7 at *
  have e0 : w7.cell? ⟨w.heap.size + 1, 0, none⟩ = some (.bool true) := HR7.cell 0
  have e1 : w7.cell? ⟨w.heap.size + 1, 1, none⟩ = some (.int .i64 0) := HR7.cell 1
  have e2 : w7.cell? ⟨w.heap.size + 1, 2, none⟩ = some (.string s) := HR7.cell 2
  refine bodyPost_ret (v := .agg #[.bool true, .int .i64 0, .string s]) (by simp [results, Tryz.results145, go_sem, e0, e1, e2]) rfl ?_
  exact ⟨rfl, HB7⟩
set_option maxRecDepth 100000 in
theorem norm_num (hz : s.size ≤ 281474976710656) (v : Int) (h : Lib.atoiAll s.data.toList = .ok v) (he : Lib.itoa v = s.data.toList) (hL : LibS w) : Calls Tryz.prog 145 #[.agg #[.bool true, .int .i64 i, .string s]] w fun e w' => e = .returned (.agg #[.bool false, .int .i64 v, .string ⟨#[]⟩]) ∧ Below w.heap.size w w' := by
  have HB0 := Lib.hid (((Below.refl w.heap.size w).alloc (Nat.le_refl _) (.cells #[.bool true, .int .i64 i, .string s] 32)).alloc (by simp) (.cells #[.bool false, .int .i64 0, .string ⟨#[]⟩] 32))
  have HK := Lib.hid ((Blk.new w 32 #[.bool true, .int .i64 i, .string s]).alloc (.cells #[.bool false, .int .i64 0, .string ⟨#[]⟩] 32))
  have HR0 : Blk ((w.alloc (.cells #[.bool true, .int .i64 i, .string s] 32)).alloc (.cells #[.bool false, .int .i64 0, .string ⟨#[]⟩] 32)) (w.heap.size + 1) 32 #[.bool false, .int .i64 0, .string ⟨#[]⟩] := by
    have := Blk.new (w.alloc (.cells #[.bool true, .int .i64 i, .string s] 32)) 32 #[.bool false, .int .i64 0, .string ⟨#[]⟩]
    simpa using this
  have HR := Lib.hid HR0
  have HA := Lib.hid (fun w => atoi_ok s hz v h w)
  have hbd := Lib.atoiAll_bounds h
  have HI := Lib.hid (fun w hL => itoa_any v hbd.1 hbd.2 w hL)
  have HLB := Lib.hid (fun (w' : World) (hb : Below w.heap.size w w') => hL.below hb)
  have hq : (Lib.itoa v == s.toList) = true := by
    rw [ByteArray.toList_eq]
    simpa using he
  clear HR0 h he hL hbd
  go_enter Tryz.func145, Tryz.ntmps145
  go_wp2_with fail
  generalize (w.alloc (.cells #[.bool true, .int .i64 i, .string s] 32)).alloc (.cells #[.bool false, .int .i64 0, .string ⟨#[]⟩] 32) = w2 at *
  refine (HA.out w2).mono ?_
  rintro e w3 ⟨rfl, hb3⟩
  have HB3 := Lib.hid (HB0.out.trans (hb3.mono HB0.out.size))
  have HK3 := Lib.hid (HK.out.keeps (Keeps.of_below (S := fun _ => False) hb3) id)
  have HR3 := Lib.hid (HR.out.keeps (Keeps.of_below (S := fun _ => False) hb3) id)
  have k0 : w3.cell? ⟨w.heap.size, 0, none⟩ = some (.bool true) := HK3.out.cell 0
  have k1 : w3.cell? ⟨w.heap.size, 1, none⟩ = some (.int .i64 i) := HK3.out.cell 1
  have k2 : w3.cell? ⟨w.heap.size, 2, none⟩ = some (.string s) := HK3.out.cell 2
  have r0 : w3.cell? ⟨w.heap.size + 1, 0, none⟩ = some (.bool false) := HR3.out.cell 0
  have r1 : w3.cell? ⟨w.heap.size + 1, 1, none⟩ = some (.int .i64 0) := HR3.out.cell 1
  have r2 : w3.cell? ⟨w.heap.size + 1, 2, none⟩ = some (.string ⟨#[]⟩) := HR3.out.cell 2
  have z0 := HR3.out.frozen 0
  have z1 := HR3.out.frozen 1
  have z2 := HR3.out.frozen 2
  clear hb3 HB0 HK HR HA
  go_wp2_with fail
  go_region_held3 (fun w' => w'.cell? ⟨w.heap.size, 2, none⟩ = some (.string s)) (first | exact k2 | exact k3)
    (first | (go_at_call 194; refine (HI.out w3.drew (HLB.out _ HB3.out.drew)).mono ?_; rintro e w4 ⟨rfl, hb4⟩; have HB4 := Lib.hid (HB3.out.drew.trans (hb4.mono HB3.out.size)); have HK4 := Lib.hid ((HK3.out.drewN 1).keeps (Keeps.of_below (S := fun _ => False) hb4) id); have HR4 := Lib.hid ((HR3.out.drewN 1).keeps (Keeps.of_below (S := fun _ => False) hb4) id); have k3 := HK4.out.cell 2; have z3 := HR4.out.frozen 0; have z4 := HR4.out.frozen 1; have z5 := HR4.out.frozen 2; have r3 := HR4.out.cell 0; have r4 := HR4.out.cell 1; have r5 := HR4.out.cell 2; clear hb4))
  go_wp2_with fail
  have HB7 := Lib.hid (((HB4.out.setCell (p := ⟨w.heap.size + 1, 0, none⟩) (by simp) (.bool false)).setCell (p := ⟨w.heap.size + 1, 1, none⟩) (by simp) (.int .i64 v)).setCell (p := ⟨w.heap.size + 1, 2, none⟩) (by simp) (.string ⟨#[]⟩))
  have HR7 := Lib.hid (((HR4.out.set_ 0 (.bool false)).set_ 1 (.int .i64 v)).set_ 2 (.string ⟨#[]⟩))
  generalize ((w4.setCell ⟨w.heap.size + 1, 0, none⟩ (.bool false)).setCell ⟨w.heap.size + 1, 1, none⟩ (.int .i64 v)).setCell ⟨w.heap.size + 1, 2, none⟩ (.string ⟨#[]⟩) = w7 at *
  have e0 : w7.cell? ⟨w.heap.size + 1, 0, none⟩ = some (.bool false) := HR7.out.cell 0
  have e1 : w7.cell? ⟨w.heap.size + 1, 1, none⟩ = some (.int .i64 v) := HR7.out.cell 1
  have e2 : w7.cell? ⟨w.heap.size + 1, 2, none⟩ = some (.string ⟨#[]⟩) := HR7.out.cell 2
  refine bodyPost_ret (v := .agg #[.bool false, .int .i64 v, .string ⟨#[]⟩]) (by simp [results, Tryz.results145, go_sem, e0, e1, e2]) rfl ?_
  exact ⟨rfl, HB7.out⟩
set_option maxRecDepth 100000 in
theorem norm_text (hz : s.size ≤ 281474976710656) (v : Int) (h : Lib.atoiAll s.data.toList = .ok v) (he : ¬ Lib.itoa v = s.data.toList) (hL : LibS w) : Calls Tryz.prog 145 #[.agg #[.bool true, .int .i64 i, .string s]] w fun e w' => e = .returned (.agg #[.bool true, .int .i64 0, .string s]) ∧ Below w.heap.size w w' := by
  have HB0 := Lib.hid (((Below.refl w.heap.size w).alloc (Nat.le_refl _) (.cells #[.bool true, .int .i64 i, .string s] 32)).alloc (by simp) (.cells #[.bool false, .int .i64 0, .string ⟨#[]⟩] 32))
  have HK := Lib.hid ((Blk.new w 32 #[.bool true, .int .i64 i, .string s]).alloc (.cells #[.bool false, .int .i64 0, .string ⟨#[]⟩] 32))
  have HR0 : Blk ((w.alloc (.cells #[.bool true, .int .i64 i, .string s] 32)).alloc (.cells #[.bool false, .int .i64 0, .string ⟨#[]⟩] 32)) (w.heap.size + 1) 32 #[.bool false, .int .i64 0, .string ⟨#[]⟩] := by
    have := Blk.new (w.alloc (.cells #[.bool true, .int .i64 i, .string s] 32)) 32 #[.bool false, .int .i64 0, .string ⟨#[]⟩]
    simpa using this
  have HR := Lib.hid HR0
  have HA := Lib.hid (fun w => atoi_ok s hz v h w)
  have hbd := Lib.atoiAll_bounds h
  have HI := Lib.hid (fun w hL => itoa_any v hbd.1 hbd.2 w hL)
  have HLB := Lib.hid (fun (w' : World) (hb : Below w.heap.size w w') => hL.below hb)
  have hq : (Lib.itoa v == s.toList) = false := by
    rw [ByteArray.toList_eq]
    simpa using he
  clear HR0 h he hL hbd
  go_enter Tryz.func145, Tryz.ntmps145
  go_wp2_with fail
  generalize (w.alloc (.cells #[.bool true, .int .i64 i, .string s] 32)).alloc (.cells #[.bool false, .int .i64 0, .string ⟨#[]⟩] 32) = w2 at *
  refine (HA.out w2).mono ?_
  rintro e w3 ⟨rfl, hb3⟩
  have HB3 := Lib.hid (HB0.out.trans (hb3.mono HB0.out.size))
  have HK3 := Lib.hid (HK.out.keeps (Keeps.of_below (S := fun _ => False) hb3) id)
  have HR3 := Lib.hid (HR.out.keeps (Keeps.of_below (S := fun _ => False) hb3) id)
  have k0 : w3.cell? ⟨w.heap.size, 0, none⟩ = some (.bool true) := HK3.out.cell 0
  have k1 : w3.cell? ⟨w.heap.size, 1, none⟩ = some (.int .i64 i) := HK3.out.cell 1
  have k2 : w3.cell? ⟨w.heap.size, 2, none⟩ = some (.string s) := HK3.out.cell 2
  have r0 : w3.cell? ⟨w.heap.size + 1, 0, none⟩ = some (.bool false) := HR3.out.cell 0
  have r1 : w3.cell? ⟨w.heap.size + 1, 1, none⟩ = some (.int .i64 0) := HR3.out.cell 1
  have r2 : w3.cell? ⟨w.heap.size + 1, 2, none⟩ = some (.string ⟨#[]⟩) := HR3.out.cell 2
  have z0 := HR3.out.frozen 0
  have z1 := HR3.out.frozen 1
  have z2 := HR3.out.frozen 2
  clear hb3 HB0 HK HR HA
  go_wp2_with fail
  go_region_held3 (fun w' => w'.cell? ⟨w.heap.size, 2, none⟩ = some (.string s)) (first | exact k2 | exact k3)
    (first | (go_at_call 194; refine (HI.out w3.drew (HLB.out _ HB3.out.drew)).mono ?_; rintro e w4 ⟨rfl, hb4⟩; have HB4 := Lib.hid (HB3.out.drew.trans (hb4.mono HB3.out.size)); have HK4 := Lib.hid ((HK3.out.drewN 1).keeps (Keeps.of_below (S := fun _ => False) hb4) id); have HR4 := Lib.hid ((HR3.out.drewN 1).keeps (Keeps.of_below (S := fun _ => False) hb4) id); have k3 := HK4.out.cell 2; have z3 := HR4.out.frozen 0; have z4 := HR4.out.frozen 1; have z5 := HR4.out.frozen 2; have r3 := HR4.out.cell 0; have r4 := HR4.out.cell 1; have r5 := HR4.out.cell 2; clear hb4))
  go_wp2_with fail
  have HB7 := Lib.hid (((HB4.out.setCell (p := ⟨w.heap.size + 1, 0, none⟩) (by simp) (.bool true)).setCell (p := ⟨w.heap.size + 1, 1, none⟩) (by simp) (.int .i64 0)).setCell (p := ⟨w.heap.size + 1, 2, none⟩) (by simp) (.string s))
  have HR7 := Lib.hid (((HR4.out.set_ 0 (.bool true)).set_ 1 (.int .i64 0)).set_ 2 (.string s))
  generalize ((w4.setCell ⟨w.heap.size + 1, 0, none⟩ (.bool true)).setCell ⟨w.heap.size + 1, 1, none⟩ (.int .i64 0)).setCell ⟨w.heap.size + 1, 2, none⟩ (.string s) = w7 at *
  have e0 : w7.cell? ⟨w.heap.size + 1, 0, none⟩ = some (.bool true) := HR7.out.cell 0
  have e1 : w7.cell? ⟨w.heap.size + 1, 1, none⟩ = some (.int .i64 0) := HR7.out.cell 1
  have e2 : w7.cell? ⟨w.heap.size + 1, 2, none⟩ = some (.string s) := HR7.out.cell 2
  refine bodyPost_ret (v := .agg #[.bool true, .int .i64 0, .string s]) (by simp [results, Tryz.results145, go_sem, e0, e1, e2]) rfl ?_
  exact ⟨rfl, HB7.out⟩
theorem norm_any (b : Bool) (hz : s.size ≤ 281474976710656) (hL : LibS w) : Calls Tryz.prog 145 #[.agg #[.bool b, .int .i64 i, .string s]] w fun e w' => e = .returned (keyV (normG b i s)) ∧ Below w.heap.size w w' := by
  cases b with
  | false => exact norm_int i s w
  | true =>
    by_cases h : ∃ v, Lib.atoiAll s.data.toList = .ok v
    · obtain ⟨v, h⟩ := h
      by_cases he : Lib.itoa v = s.data.toList
      · have e : normG true i s = (false, v, ⟨#[]⟩) := by simp [normG, h, he]
        rw [e]
        exact norm_num i s w hz v h he hL
      · have e : normG true i s = (true, 0, s) := by simp [normG, h, he]
        rw [e]
        exact norm_text i s w hz v h he hL
    · have h' : ∀ v, Lib.atoiAll s.data.toList ≠ .ok v := fun v e => h ⟨v, e⟩
      have e : normG true i s = (true, 0, s) := by
        unfold normG
        rw [if_pos rfl]
        split
        · rename_i n hn; exact absurd hn (h' n)
        · rfl
      rw [e]
      exact norm_no i s w hz h' hL
end
end Nm
end Go.Proofs.YtopmodahdmnpjaaGreatDoor
/- deep: which values may be: plain functions; a map of the keys that were met. -/
namespace Go.Proofs.YtopmodahdmnpjaaGreatDoor
open Go Go.RowKit
open Go.Maps (Keyed IsMap)
namespace Dp
open Go.Proofs.YtopmodahdmnpjaaGreatDoor.Nm (normG keyV)
def GI.keyG : GI → Bool × Int × ByteArray
  | .mk b i s _ => (b, i, s)
theorem keyG_eq (it : GI) : GI.keyG it = (it.isText, it.int, it.text) := by cases it; rfl
/-- A value of another kind than a list. -/
def flatB (k n : Int) (t : ByteArray) : Bool :=
  if k = 0 then n == 0 && t.size == 0 else if k = 1 then (n == 0 || n == 1) && t.size == 0 else if k = 2 then t.size == 0 else if k = 3 then n == 0 && decide (t.size ≤ 65536) else if k = 5 then decide (0 < n) && t.size == 0 else false
instance memKey (k : Bool × Int × ByteArray) : (ks : List (Bool × Int × ByteArray)) → Decidable (k ∈ ks)
  | [] => isFalse (by simp)
  | a :: r => if h : k = a then isTrue (by simp [h]) else match memKey k r with
    | isTrue h2 => isTrue (by simp [h2])
    | isFalse h2 => isFalse (by simp [h, h2])
mutual
/-- May a value be, within so many lists? -/
def mayV : GV → Int → Bool
  | .mk k n t l, d => if k = 4 then (if t.size = 0 ∧ -1 ≤ n ∧ l.length ≤ 2048 ∧ d < 64 then mayL l [] n d else false) else l.length == 0 && flatB k n t
/-- May the rest of a list's items be, behind those with the keys m? -/
def mayL : List GI → List (Bool × Int × ByteArray) → Int → Int → Bool
  | [], _, _, _ => true
  | .mk b i s v :: l, m, n, d => if normG b i s ≠ (b, i, s) then false else if (b, i, s) ∈ m then false else if mayV v (d + 1) = true then (if b = false ∧ 0 ≤ n ∧ n ≤ i then false else mayL l (m ++ [(b, i, s)]) n d) else false
end
def keysOf (l : List GI) (j : Nat) : List (Bool × Int × ByteArray) := (l.take j).map GI.keyG
theorem keysOf_succ (l : List GI) (j : Nat) (it : GI) (h : l[j]? = some it) : keysOf l (j + 1) = keysOf l j ++ [GI.keyG it] := by
  unfold keysOf
  rw [List.take_add_one, h, List.map_append]
  rfl
theorem mayL_drop (l : List GI) (j : Nat) (it : GI) (h : l[j]? = some it) (n d : Int) : mayL (l.drop j) (keysOf l j) n d =
    if normG it.isText it.int it.text ≠ GI.keyG it then false else if GI.keyG it ∈ keysOf l j then false else if mayV it.val (d + 1) = true then (if it.isText = false ∧ 0 ≤ n ∧ n ≤ it.int then false else mayL (l.drop (j + 1)) (keysOf l (j + 1)) n d) else false := by
  rw [keysOf_succ l j it h]
  obtain ⟨hj, rfl⟩ := List.getElem?_eq_some_iff.1 h
  rw [List.drop_eq_getElem_cons hj]
  cases l[j] with
  | mk b i s v => rw [mayL]; rfl
/-- A key that an argument can hold. -/
def KeyOK (k : Bool × Int × ByteArray) : Prop := In64 k.2.1 ∧ k.2.2.size ≤ 140737488351232
theorem key_type : Tryz.prog.keyTypeAt (Tryz.prog.types.size + 1) 32 = true := by kernel_rfl
theorem key_row : (32 : TypeId) < Tryz.prog.types.size := of_decide_eq_true (by kernel_rfl)
theorem key_laid : laidOutB Tryz.prog = true := by kernel_rfl
theorem key_small : Tryz.prog.types.size + 1 + 1 ≤ 10000 := of_decide_eq_true (by kernel_rfl)
theorem key_keyed : Keyed Tryz.prog 32 := Keyed.of_law (deep_law_laid key_laid key_small key_row key_type (by rw [Tryz.underlying32]))
theorem key_cells3 : Tryz.prog.cellsOf 32 = 3 := by kernel_rfl
theorem key_bool : Tryz.prog.cellsOf 4 = 1 := by kernel_rfl
theorem key_int : Tryz.prog.cellsOf 3 = 1 := by kernel_rfl
theorem key_str : Tryz.prog.cellsOf 9 = 1 := by kernel_rfl
theorem lits_bool (d : Nat) (b : Bool) : Tryz.prog.keyLits (d + 1) 4 [.bool b] = some [.bool b] := by unfold Program.keyLits; simp [Tryz.underlying4]
theorem lits_int (d : Nat) (i : Int) (h : (Lit.int .i64 i).wf = true) : Tryz.prog.keyLits (d + 1) 3 [.int .i64 i] = some [.int .i64 i] := by unfold Program.keyLits; simp [Tryz.underlying3, h]
theorem lits_str (d : Nat) (s : ByteArray) (h : s.size ≤ maxLen) : Tryz.prog.keyLits (d + 1) 9 [.string s] = some [.string s.data.toList] := by unfold Program.keyLits; simp [Tryz.underlying9, h]
theorem key_lit (k : Bool × Int × ByteArray) (h : KeyOK k) : ∃ kl, keyOf Tryz.prog 32 (keyV k) = some kl := by
  obtain ⟨b, i, s⟩ := k
  obtain ⟨hi, hs⟩ := h
  have hw : (Lit.int .i64 i).wf = true := by
    have h2 : -9223372036854775808 ≤ i ∧ i ≤ 9223372036854775807 := hi
    simp [Lit.wf, IntKind.min, IntKind.max, IntKind.signed, IntKind.bits]
    omega
  have hf : (keyV (b, i, s)).formed Tryz.prog 32 = true := by simp [keyV, Value.formed, Tryz.underlying32, key_cells3]
  have hk : Tryz.prog.keyType 32 = true := key_type
  have hs' : s.size ≤ maxLen := by
    have h2 : s.size ≤ 140737488351232 := hs
    unfold maxLen
    omega
  obtain ⟨d, hd⟩ : ∃ d, Tryz.prog.types.size = d + 1 := Nat.exists_eq_succ_of_ne_zero fun h0 => by
    have h9 := key_row
    rw [h0] at h9
    exact Nat.not_lt_zero _ h9
  unfold keyOf
  rw [Tryz.underlying32]
  simp only [hk, hf, Bool.and_self, if_true]
  unfold Program.keyLits
  rw [Tryz.underlying32, hd]
  simp [keyV, Value.cells, key_cells3, key_bool, key_int, key_str, lits_bool, lits_int d i hw, lits_str d s hs']
theorem keyV_inj {a b : Bool × Int × ByteArray} (h : keyV a = keyV b) : a = b := by
  obtain ⟨a0, a1, a2⟩ := a
  obtain ⟨b0, b1, b2⟩ := b
  simp [keyV] at h
  obtain ⟨rfl, rfl, rfl⟩ := h
  rfl
/-- The place of a key among others, from place i on; -1. -/
def findK : List (Bool × Int × ByteArray) → (Bool × Int × ByteArray) → Int → Int
  | [], _, _ => -1
  | a :: r, k, i => if a = k then i else findK r k (i + 1)
theorem findK_le : ∀ (ks : List (Bool × Int × ByteArray)) (k : Bool × Int × ByteArray) (i : Int), 0 ≤ i → -1 ≤ findK ks k i ∧ findK ks k i < i + ks.length ∨ findK ks k i = -1
  | [], _, _, _ => by simp [findK]
  | a :: r, k, i, h => by
    unfold findK
    split
    · left; simp only [List.length_cons]; omega
    · rcases findK_le r k (i + 1) (by omega) with h | h
      · left; simp only [List.length_cons]; omega
      · exact .inr h
theorem findK_mem : ∀ (ks : List (Bool × Int × ByteArray)) (k : Bool × Int × ByteArray) (i : Int), 0 ≤ i → decide (0 ≤ findK ks k i) = decide (k ∈ ks)
  | [], _, _, _ => by simp [findK]
  | a :: r, k, i, h => by
    unfold findK
    by_cases he : a = k
    · rw [if_pos he]; simp [he, h]
    · rw [if_neg he, findK_mem r k (i + 1) (by omega)]
      have : k ≠ a := fun e => he e.symm
      simp [this]
end Dp
end Go.Proofs.YtopmodahdmnpjaaGreatDoor
