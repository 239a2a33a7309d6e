/- The walks of the small functions of word: letters, the length of a word, small letters. -/
import Derived.Test.YteajmgkdiioflaaGreatDoorCutA
import Derived.Laws.RangeAny
import Derived.Deep.LoopGhost
import Derived.Shelf.Strings.MapGrows
namespace Go.Proofs.YteajmgkdiioflaaGreatDoor
open Go.RowKit

theorem wletter_any (c : UInt8) (w : World) : Calls Tryz.prog 25 #[.int .u8 (c.toNat : Int)] w fun e w' => e = .returned (.bool (letterB c)) ∧ w = w' := by
  have h0 : (0 : Int) ≤ (c.toNat : Int) := by omega
  have hc : (c.toNat : Int) ≤ 255 := by have := c.toNat_lt; omega
  go_enter Tryz.func25, Tryz.ntmps25
  go_wp2
  all_goals
    go_ret
    refine ⟨ret_bool ?_, rfl⟩
    rw [Bool.eq_iff_iff]
    simp [letterB, UInt8.le_iff_toNat_le, ← UInt8.toNat_inj]
    try omega
theorem wdigit_any (c : UInt8) (w : World) : Calls Tryz.prog 41 #[.int .u8 (c.toNat : Int)] w fun e w' => e = .returned (.bool (digitB c)) ∧ w = w' := by
  have h0 : (0 : Int) ≤ (c.toNat : Int) := by omega
  have hc : (c.toNat : Int) ≤ 255 := by have := c.toNat_lt; omega
  go_enter Tryz.func41, Tryz.ntmps41
  go_wp2
  all_goals
    go_ret
    refine ⟨ret_bool ?_, rfl⟩
    rw [Bool.eq_iff_iff]
    simp [digitB, UInt8.le_iff_toNat_le]
    try omega
theorem letter_low (c : UInt8) (h : letterB c = true) : c.toNat < 128 := by
  simp [letterB, UInt8.le_iff_toNat_le, ← UInt8.toNat_inj] at h
  omega
theorem digit_low (c : UInt8) (h : digitB c = true) : c.toNat < 128 := by
  simp [digitB, UInt8.le_iff_toNat_le] at h
  omega
theorem below_iter (w : World) (s : ByteArray) (n : Nat) : Below w.heap.size w (w.iter s n) := (Below.refl _ _).alloc (Nat.le_refl _) _
theorem toU8 (c : UInt8) : IntKind.u8.wrap (c.toNat : Int) = (c.toNat : Int) := by
  have := c.toNat_lt
  unfold IntKind.wrap
  simp only [IntKind.bits, IntKind.signed]
  simp
  omega

set_option maxRecDepth 100000 in
set_option maxHeartbeats 1000000 in
theorem length_any (s : ByteArray) (hs : s.size ≤ 1152921504606846976) (w : World) : Calls Tryz.prog 19 #[.string s] w fun e w' => e = .returned (.int .i64 (wordN s.data.toList : Nat)) ∧ Below w.heap.size w w' := by
  go_enter Tryz.func19, Tryz.ntmps19
  go_wp2_with fail
  go_loopg [3] s.size (fun g s3 wx => ∃ k : Nat, wx = w.iter s k ∧ k + g = s.size ∧ Hid (∀ j, j < k → wordOk s.data.toList j = true))
  case atStart => exact ⟨0, rfl, by omega, fun j hj => absurd hj (by omega)⟩
  case round =>
    obtain ⟨k, rfl, hkg, Hk⟩ := hrel
    have HB := Lib.hid (fun n => below_iter w s n)
    by_cases hlt : k < s.size
    · have hok := ok_at s k hlt
      cases hw : wordOk s.data.toList k with
      | true =>
        have HK1 : Hid (∀ j, j < k + 1 → wordOk s.data.toList j = true) := fun j hj => by
          rcases Nat.lt_or_ge j k with h | h
          · exact Hk.out j h
          · obtain rfl : j = k := by omega
            exact hw
        rw [hw] at hok
        have hlow : s[k].toNat < 128 := by
          cases hl : letterB s[k] with
          | true => exact letter_low _ hl
          | false => rw [hl] at hok; exact digit_low _ (by have : 0 < k ∧ digitB s[k] = true := by simpa using hok.symm
                                                           exact this.2)
        have hnx := fun ty => run_next_ascii (P := Tryz.prog) w s k ty hlt hlow
        have h8 := toU8 s[k]
        have HL := Lib.hid (fun w => wletter_any s[k] w)
        have HD := Lib.hid (fun w => wdigit_any s[k] w)
        have hc1 : (s[k].toNat : Int) ≤ 127 := by omega
        clear hw Hk
        cases hl : letterB s[k] with
        | true =>
          rw [hl] at HL
          clear hok hl
          generalize (s[k].toNat : Int) = c at *
          go_wp2_with (go_at_call 25; refine (HL.out _).mono ?_; rintro e w' ⟨rfl, rfl⟩)
          go_roundg (gk - 1)
          case measure => omega
          case rel => exact ⟨k + 1, rfl, by omega, HK1.out⟩
        | false =>
          rw [hl] at hok HL
          have hd : 0 < k ∧ digitB s[k] = true := by simpa using hok.symm
          rw [hd.2] at HD
          have hk0 : ((k : Int) == 0) = false := by have := hd.1; simp; omega
          clear hok hl hd
          generalize (s[k].toNat : Int) = c at *
          go_wp2_with (first | (go_at_call 25; refine (HL.out _).mono ?_; rintro e w' ⟨rfl, rfl⟩) | (go_at_call 41; refine (HD.out _).mono ?_; rintro e w' ⟨rfl, rfl⟩))
          go_roundg (gk - 1)
          case measure => omega
          case rel => exact ⟨k + 1, rfl, by omega, HK1.out⟩
      | false =>
        have Hfin := Lib.hid (wordN_eq s.data.toList k Hk.out hw)
        rw [hw] at hok
        clear hw Hk
        by_cases hlow : s[k].toNat < 128
        · have hnx := fun ty => run_next_ascii (P := Tryz.prog) w s k ty hlt hlow
          have h8 := toU8 s[k]
          have HL := Lib.hid (fun w => wletter_any s[k] w)
          have HD := Lib.hid (fun w => wdigit_any s[k] w)
          have hc1 : (s[k].toNat : Int) ≤ 127 := by omega
          have hl : letterB s[k] = false := by
            cases h : letterB s[k] with
            | true => rw [h] at hok; simp at hok
            | false => rfl
          rw [hl] at HL hok
          by_cases hk0 : k = 0
          · subst hk0
            clear hok hl
            generalize (s[0].toNat : Int) = c at *
            go_wp2_with (first | (go_at_call 25; refine (HL.out _).mono ?_; rintro e w' ⟨rfl, rfl⟩) | (go_at_call 41; refine (HD.out _).mono ?_; rintro e w' ⟨rfl, rfl⟩))
            go_ret
            exact ⟨by rw [Hfin.out]; try rfl, HB.out _⟩
          · have hd : digitB s[k] = false := by
              cases h : digitB s[k] with
              | false => rfl
              | true => rw [h] at hok; simp at hok; omega
            have hk1 : ((k : Int) == 0) = false := by simp; omega
            rw [hd] at HD
            clear hok hl hd
            generalize (s[k].toNat : Int) = c at *
            go_wp2_with (first | (go_at_call 25; refine (HL.out _).mono ?_; rintro e w' ⟨rfl, rfl⟩) | (go_at_call 41; refine (HD.out _).mono ?_; rintro e w' ⟨rfl, rfl⟩))
            go_ret
            exact ⟨by rw [Hfin.out]; try rfl, HB.out _⟩
        · have hnx := fun ty => run_next_any (P := Tryz.prog) w s k ty hlt
          obtain ⟨hd1, _⟩ := decode_high s k hlt (by omega)
          have hd2 := decode_le s k
          clear hok
          generalize (Utf8.decode s k).1 = r at *
          generalize (Utf8.decode s k).2 = n at *
          have hr1 : (128 : Int) ≤ (r : Int) := by omega
          have hr2 : (r : Int) ≤ 2147483647 := by omega
          go_wp2_with fail
          go_ret
          exact ⟨by rw [Hfin.out]; try rfl, HB.out _⟩
    · obtain rfl : k = s.size := by omega
      have Hfin := Lib.hid (wordN_eq s.data.toList s.size Hk.out (ok_end s s.size (Nat.le_refl _)))
      have hnx := fun ty => run_next_end (P := Tryz.prog) w s s.size ty hlt
      clear Hk
      go_wp2_with fail
      go_ret
      exact ⟨by rw [Hfin.out]; try rfl, HB.out _⟩
end Go.Proofs.YteajmgkdiioflaaGreatDoor
