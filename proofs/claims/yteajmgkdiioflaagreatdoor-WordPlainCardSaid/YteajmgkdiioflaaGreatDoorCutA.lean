/- The walks of the small functions of cut and of its reference: letters, names, At. -/
import Derived.Test.YteajmgkdiioflaaGreatDoorShelf
import Derived.Test.YteajmgkdiioflaaGreatDoorCutS
import Derived.WalkKit
import Derived.WalkSpells
import Derived.WalkLawsBesides
import Derived.Lib.Hide
namespace Go.Proofs.YteajmgkdiioflaaGreatDoor
open Go.RowKit

theorem ret_bool {a b : Bool} (h : a = b) : Ending.returned (.bool a) = .returned (.bool b) := by rw [h]
theorem ret_int {k : IntKind} {a b : Int} (h : a = b) : Ending.returned (.int k a) = .returned (.int k b) := by rw [h]
theorem callsSym {P : Program} {f : FuncId} {args : Array Value} {w : World} {v : Ending} (h : Calls P f args w fun e w' => e = v ∧ w' = w) : Calls P f args w fun e w' => e = v ∧ w = w' :=
  h.mono fun _ _ h => ⟨h.1, h.2.symm⟩
theorem byte_eq (c : UInt8) (n : Nat) (hn : n < 256) : (c == UInt8.ofNat n) = decide ((c.toNat : Int) = n) := by
  rw [Bool.eq_iff_iff, beq_iff_eq, decide_eq_true_eq, ← UInt8.toNat_inj]
  simp [Nat.mod_eq_of_lt hn]
  omega

theorem letter_any (c : UInt8) (w : World) : Calls Tryz.prog 89 #[.int .u8 (c.toNat : Int)] w fun e w' => e = .returned (.bool (letterB c)) ∧ w = w' := by
  have h0 : (0 : Int) ≤ (c.toNat : Int) := by omega
  have hc : (c.toNat : Int) ≤ 255 := by have := c.toNat_lt; omega
  go_enter Tryz.func89, Tryz.ntmps89
  go_wp2
  all_goals
    go_ret
    refine ⟨ret_bool ?_, rfl⟩
    rw [Bool.eq_iff_iff]
    simp [letterB, UInt8.le_iff_toNat_le, ← UInt8.toNat_inj]
    try omega
theorem rletter_any (c : UInt8) (w : World) : Calls Tryz.prog 27 #[.int .u8 (c.toNat : Int)] w fun e w' => e = .returned (.bool (letterB c)) ∧ w = w' := by
  have h0 : (0 : Int) ≤ (c.toNat : Int) := by omega
  have hc : (c.toNat : Int) ≤ 255 := by have := c.toNat_lt; omega
  go_enter Tryz.func27, Tryz.ntmps27
  go_wp2
  all_goals
    go_ret
    refine ⟨ret_bool ?_, rfl⟩
    rw [Bool.eq_iff_iff]
    simp [letterB, UInt8.le_iff_toNat_le, ← UInt8.toNat_inj]
    try omega
theorem rdigit_any (c : UInt8) (w : World) : Calls Tryz.prog 49 #[.int .u8 (c.toNat : Int)] w fun e w' => e = .returned (.bool (digitB c)) ∧ w = w' := by
  have h0 : (0 : Int) ≤ (c.toNat : Int) := by omega
  have hc : (c.toNat : Int) ≤ 255 := by have := c.toNat_lt; omega
  go_enter Tryz.func49, Tryz.ntmps49
  go_wp2
  all_goals
    go_ret
    refine ⟨ret_bool ?_, rfl⟩
    rw [Bool.eq_iff_iff]
    simp [digitB, UInt8.le_iff_toNat_le]
    try omega

theorem ok_at (s : ByteArray) (k : Nat) (h : k < s.size) : wordOk s.data.toList k = (letterB s[k] || (decide (0 < k) && digitB s[k])) := by
  unfold wordOk
  rw [Lib.data_getElem? s k h]
theorem ok_end (s : ByteArray) (k : Nat) (h : s.size ≤ k) : wordOk s.data.toList k = false := by
  unfold wordOk
  rw [List.getElem?_eq_none (by have := Lib.size_eq s; omega)]

set_option maxHeartbeats 1000000 in
theorem word_any (s : ByteArray) (hs : s.size ≤ maxLen) (w : World) : Calls Tryz.prog 73 #[.string s] w fun e w' => e = .returned (.int .i64 (wordN s.data.toList : Nat)) ∧ w = w' := by
  unfold maxLen at hs
  go_enter Tryz.func73, Tryz.ntmps73
  go_wp2_with fail
  go_loop [3] (fun i => ∃ k : Nat, k ≤ s.size ∧ i = .int .i64 k ∧ Hid (∀ j, j < k → wordOk s.data.toList j = true)) (fun i => s.size - (intOf i).toNat)
  case atStart => exact ⟨0, Nat.zero_le _, rfl, fun j hj => absurd hj (by omega)⟩
  case round =>
    obtain ⟨k, hk, rfl, Hk⟩ := hrel
    by_cases hlt : k < s.size
    · have hc : (s[k].toNat : Int) ≤ 255 := by have := s[k].toNat_lt; omega
      have hok := ok_at s k hlt
      cases hw : wordOk s.data.toList k with
      | true =>
        have HK1 : Hid (∀ j, j < k + 1 → wordOk s.data.toList j = true) := fun j hj => by
          rcases Nat.lt_or_ge j k with h | h
          · exact Hk.out j h
          · obtain rfl : j = k := by omega
            exact hw
        rw [hw] at hok
        clear hw Hk
        cases hl : letterB s[k] with
        | true =>
          clear hok
          go_wp2_with (go_at_call 89; refine (letter_any s[k] _).mono ?_; rintro e w' ⟨rfl, rfl⟩)
          go_round
          case rel => exact ⟨k + 1, by omega, by go_num, HK1.out⟩
          case measure => simp [intOf] <;> omega
        | false =>
          rw [hl] at hok
          have hd : 0 < k ∧ digitB s[k] = true := by simpa using hok.symm
          have hd1 : (48 : Int) ≤ (s[k].toNat : Int) ∧ (s[k].toNat : Int) ≤ 57 := by
            have := hd.2
            simp [digitB, UInt8.le_iff_toNat_le] at this
            omega
          obtain ⟨hd1, hd2⟩ := hd1
          have hk0 : 0 < k := hd.1
          clear hok hd
          go_wp2_with (go_at_call 89; refine (letter_any s[k] _).mono ?_; rintro e w' ⟨rfl, rfl⟩)
          go_round
          case rel => exact ⟨k + 1, by omega, by go_num, HK1.out⟩
          case measure => simp [intOf] <;> omega
      | false =>
        have Hfin := Lib.hid (wordN_eq s.data.toList k Hk.out hw)
        rw [hw] at hok
        have hl : letterB s[k] = false := by
          cases h : letterB s[k] with
          | true => rw [h] at hok; simp at hok
          | false => rfl
        rw [hl] at hok
        clear hw Hk
        have hno : k = 0 ∨ (s[k].toNat : Int) < 48 ∨ 57 < (s[k].toNat : Int) := by
          have : ¬ (0 < k ∧ digitB s[k] = true) := by
            intro ⟨h1, h2⟩
            rw [h2] at hok
            simp [h1] at hok
          rcases Nat.eq_zero_or_pos k with h | h
          · exact .inl h
          · right
            have hd : ¬ digitB s[k] = true := fun h2 => this ⟨h, h2⟩
            simp [digitB, UInt8.le_iff_toNat_le] at hd
            omega
        clear hok
        rcases hno with rfl | h | h
        · go_wp2_with (go_at_call 89; refine (letter_any _ _).mono ?_; rintro e w' ⟨rfl, rfl⟩)
          go_ret
          exact ⟨ret_int (by rw [Hfin.out] <;> rfl), rfl⟩
        · rcases Nat.eq_zero_or_pos k with rfl | hk0
          · go_wp2_with (go_at_call 89; refine (letter_any _ _).mono ?_; rintro e w' ⟨rfl, rfl⟩)
            go_ret
            exact ⟨ret_int (by rw [Hfin.out] <;> rfl), rfl⟩
          · go_wp2_with (go_at_call 89; refine (letter_any _ _).mono ?_; rintro e w' ⟨rfl, rfl⟩)
            go_ret
            exact ⟨ret_int (by rw [Hfin.out] <;> rfl), rfl⟩
        · rcases Nat.eq_zero_or_pos k with rfl | hk0
          · go_wp2_with (go_at_call 89; refine (letter_any _ _).mono ?_; rintro e w' ⟨rfl, rfl⟩)
            go_ret
            exact ⟨ret_int (by rw [Hfin.out] <;> rfl), rfl⟩
          · go_wp2_with (go_at_call 89; refine (letter_any _ _).mono ?_; rintro e w' ⟨rfl, rfl⟩)
            go_ret
            exact ⟨ret_int (by rw [Hfin.out] <;> rfl), rfl⟩
    · obtain rfl : k = s.size := by omega
      have Hfin := Lib.hid (wordN_eq s.data.toList s.size Hk.out (ok_end s _ (Nat.le_refl _)))
      go_wp2_with fail
      go_ret
      exact ⟨ret_int (by rw [Hfin.out] <;> rfl), rfl⟩
theorem rok_at (s : ByteArray) (i k : Nat) (h : i + k < s.size) : wordOk (s.data.toList.drop i) k = (letterB s[i + k] || (decide (0 < k) && digitB s[i + k])) := by
  unfold wordOk
  rw [List.getElem?_drop, Lib.data_getElem? s (i + k) h]
theorem rok_end (s : ByteArray) (i k : Nat) (h : s.size ≤ i + k) : wordOk (s.data.toList.drop i) k = false := by
  unfold wordOk
  rw [List.getElem?_drop, List.getElem?_eq_none (by have := Lib.size_eq s; omega)]

set_option maxHeartbeats 1000000 in
theorem rword_any (s : ByteArray) (hs : s.size ≤ 1152921504606846976) (i : Nat) (hi : i ≤ 1152921504606846976) (w : World) : Calls Tryz.prog 23 #[.string s, .int .i64 (i : Int)] w fun e w' => e = .returned (.int .i64 (wordN (s.data.toList.drop i) : Nat)) ∧ w = w' := by
  go_enter Tryz.func23, Tryz.ntmps23
  go_wp2_with fail
  go_loop [5] (fun n => ∃ k : Nat, (k = 0 ∨ i + k ≤ s.size) ∧ n = .int .i64 k ∧ Hid (∀ j, j < k → wordOk (s.data.toList.drop i) j = true)) (fun n => s.size - i - (intOf n).toNat)
  case atStart => exact ⟨0, .inl rfl, rfl, fun j hj => absurd hj (by omega)⟩
  case round =>
    obtain ⟨k, hk, rfl, Hk⟩ := hrel
    by_cases hlt : i + k < s.size
    · have hc : (s[i + k].toNat : Int) ≤ 255 := by have := s[i + k].toNat_lt; omega
      have hok := rok_at s i k hlt
      cases hw : wordOk (s.data.toList.drop i) k with
      | true =>
        have HK1 : Hid (∀ j, j < k + 1 → wordOk (s.data.toList.drop i) j = true) := fun j hj => by
          rcases Nat.lt_or_ge j k with h | h
          · exact Hk.out j h
          · obtain rfl : j = k := by omega
            exact hw
        rw [hw] at hok
        clear hw Hk
        cases hl : letterB s[i + k] with
        | true =>
          clear hok hk
          go_wp2_with (go_at_call 27; refine (rletter_any s[i + k] _).mono ?_; rintro e w' ⟨rfl, rfl⟩)
          go_round
          case rel => exact ⟨k + 1, .inr (by omega), by go_num, HK1.out⟩
          case measure => simp [intOf] <;> omega
        | false =>
          rw [hl] at hok
          have hd : 0 < k ∧ digitB s[i + k] = true := by simpa using hok.symm
          obtain ⟨hk0, hd⟩ := hd
          clear hok hk
          go_wp2_with (first | (go_at_call 27; refine (rletter_any s[i + k] _).mono ?_; rintro e w' ⟨rfl, rfl⟩) | (go_at_call 49; refine (rdigit_any s[i + k] _).mono ?_; rintro e w' ⟨rfl, rfl⟩))
          go_round
          case rel => exact ⟨k + 1, .inr (by omega), by go_num, HK1.out⟩
          case measure => simp [intOf] <;> omega
      | false =>
        have Hfin := Lib.hid (wordN_eq (s.data.toList.drop i) k Hk.out hw)
        rw [hw] at hok
        have hl : letterB s[i + k] = false := by
          cases h : letterB s[i + k] with
          | true => rw [h] at hok; simp at hok
          | false => rfl
        rw [hl] at hok
        clear hw Hk hk
        by_cases hk0 : 0 < k
        case neg =>
          have hk1 : (k : Int) ≤ 0 := by omega
          have hkk : k ≤ 0 := by omega
          clear hok hk0
          go_wp2_with (go_at_call 27; refine (rletter_any _ _).mono ?_; rintro e w' ⟨rfl, rfl⟩)
          go_ret
          exact ⟨ret_int (by rw [Hfin.out] <;> rfl), rfl⟩
        case pos =>
          have hd : digitB s[i + k] = false := by
            cases h : digitB s[i + k] with
            | true => rw [h] at hok; simp [hk0] at hok
            | false => rfl
          clear hok
          go_wp2_with (first | (go_at_call 27; refine (rletter_any s[i + k] _).mono ?_; rintro e w' ⟨rfl, rfl⟩) | (go_at_call 49; refine (rdigit_any s[i + k] _).mono ?_; rintro e w' ⟨rfl, rfl⟩))
          go_ret
          exact ⟨ret_int (by rw [Hfin.out] <;> rfl), rfl⟩
    · have Hfin := Lib.hid (wordN_eq (s.data.toList.drop i) k Hk.out (rok_end s i k (by omega)))
      have hkk : k ≤ 1152921504606846976 := by omega
      clear hk
      go_wp2_with fail
      go_ret
      exact ⟨ret_int (by rw [Hfin.out] <;> rfl), rfl⟩

/-! ### At -/
def atB (l : Bytes) (i : Nat) (t : Bytes) : Bool := Lib.hasPrefix (l.drop i) t
theorem atB_eq (s : ByteArray) (i : Nat) (t : ByteArray) (h : i + t.size ≤ s.size) : atB s.data.toList i t.data.toList = ((s.extract i (i + t.size)).toList == t.toList) := by
  unfold atB
  rw [← Lib.hasPrefix_of_take, Lib.toList_data, Lib.toList_data, Lib.extract_data]
  have h1 := Lib.size_eq s
  have h2 := Lib.size_eq t
  rw [decide_eq_true (by rw [List.length_drop]; omega), Bool.true_and, show i + t.size - i = t.data.toList.length by omega]
theorem atB_far (s : ByteArray) (i : Nat) (t : ByteArray) (h : s.size < i + t.size) (h0 : i ≤ s.size ∨ 0 < t.size) : atB s.data.toList i t.data.toList = false := by
  unfold atB
  rw [← Lib.hasPrefix_of_take]
  have h1 := Lib.size_eq s
  have h2 := Lib.size_eq t
  rw [decide_eq_false (by rw [List.length_drop]; omega), Bool.false_and]

theorem at_any (s : ByteArray) (hs : s.size ≤ 4611686018427387904) (i : Nat) (hi : i ≤ 1152921504606846976) (t : ByteArray) (ht : t.size ≤ 1152921504606846976) (h0 : i ≤ s.size ∨ 0 < t.size) (w : World) :
    Calls Tryz.prog 24 #[.string s, .int .i64 (i : Int), .string t] w fun e w' => e = .returned (.bool (atB s.data.toList i t.data.toList)) ∧ w = w' := by
  by_cases h : i + t.size ≤ s.size
  · have Hfin := Lib.hid (atB_eq s i t h)
    have h1 : (i : Int) + (t.size : Int) ≤ (s.size : Int) := by omega
    clear h0
    go_enter Tryz.func24, Tryz.ntmps24
    go_wp2
    go_ret
    exact ⟨ret_bool (by rw [Hfin.out]), rfl⟩
  · have Hfin := Lib.hid (atB_far s i t (by omega) h0)
    have h1 : (s.size : Int) < (i : Int) + (t.size : Int) := by omega
    have h2 : decide ((i : Int) + (t.size : Int) ≤ (s.size : Int)) = false := by simp; omega
    clear h0
    go_enter Tryz.func24, Tryz.ntmps24
    go_wp2
    go_ret
    exact ⟨ret_bool (by rw [Hfin.out]), rfl⟩
end Go.Proofs.YteajmgkdiioflaaGreatDoor
