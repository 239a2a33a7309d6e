/- The walk of cut.text. -/
import Derived.Test.YteajmgkdiioflaaGreatDoorCutA
namespace Go.Proofs.YteajmgkdiioflaaGreatDoor
open Go.RowKit

theorem drop_cons (s : ByteArray) (k : Nat) (h : k < s.size) : s.data.toList.drop k = s[k] :: s.data.toList.drop (k + 1) := by
  rw [List.drop_eq_getElem_cons (by have := Lib.size_eq s; omega)]
  rfl
theorem textT_cons (q c : UInt8) (r : Bytes) : textT q (c :: r) = if c = 92 then (match r with | [] => 1 | _ :: r' => textT q r' + 2) else if c = q then 1 else textT q r + 1 := by
  rw [textT.eq_def]; rfl
theorem textT_nil (q : UInt8) : textT q [] = 0 := by rw [textT.eq_def]
/-- What is left of a text in quotes at byte k. -/
def TextAt (s : ByteArray) (q : UInt8) (k : Nat) : Prop := textN s.data.toList = if k ≤ s.size then k + textT q (s.data.toList.drop k) else s.size
theorem text_start (s : ByteArray) (h : 0 < s.size) : TextAt s s[0] 1 := by
  unfold TextAt
  rw [if_pos (by omega)]
  have := drop_cons s 0 h
  rw [List.drop_zero] at this
  conv => lhs; rw [this]
  rw [textN, Nat.add_comm]
theorem text_esc (s : ByteArray) (q : UInt8) (k : Nat) (h : k < s.size) (hc : s[k] = 92) (ht : TextAt s q k) : TextAt s q (k + 1 + 1) := by
  unfold TextAt at *
  rw [if_pos (by omega), drop_cons s k h, hc, textT_cons, if_pos rfl] at ht
  rw [ht]
  by_cases h1 : k + 1 < s.size
  · rw [if_pos (by omega), drop_cons s (k + 1) h1]
    simp only
    omega
  · rw [if_neg (by omega), List.drop_eq_nil_of_le (by have := Lib.size_eq s; omega)]
    simp only
    omega
theorem text_end (s : ByteArray) (q : UInt8) (k : Nat) (h : k < s.size) (hc : s[k] ≠ 92) (hq : s[k] = q) (ht : TextAt s q k) : textN s.data.toList = k + 1 := by
  unfold TextAt at ht
  rw [if_pos (by omega), drop_cons s k h, textT_cons, if_neg hc, if_pos hq] at ht
  exact ht
theorem text_byte (s : ByteArray) (q : UInt8) (k : Nat) (h : k < s.size) (hc : s[k] ≠ 92) (hq : s[k] ≠ q) (ht : TextAt s q k) : TextAt s q (k + 1) := by
  unfold TextAt at *
  rw [if_pos (by omega), drop_cons s k h, textT_cons, if_neg hc, if_neg hq] at ht
  rw [ht, if_pos (by omega)]
  omega
theorem text_all (s : ByteArray) (q : UInt8) (k : Nat) (h : s.size ≤ k) (ht : TextAt s q k) : textN s.data.toList = s.size := by
  unfold TextAt at ht
  by_cases h1 : k ≤ s.size
  · rw [if_pos h1, List.drop_eq_nil_of_le (by have := Lib.size_eq s; omega), textT_nil] at ht
    omega
  · rw [if_neg h1] at ht; exact ht
theorem ne_byte {a b : UInt8} (h : a ≠ b) : ((a.toNat : Int) == (b.toNat : Int)) = false := by
  rw [beq_eq_false_iff_ne]; intro e; exact h (UInt8.toNat_inj.1 (by omega))
theorem eq_byte {a b : UInt8} (h : a = b) : ((a.toNat : Int) == (b.toNat : Int)) = true := by rw [h]; simp

set_option maxHeartbeats 1000000 in
theorem text_any (s : ByteArray) (h0 : 0 < s.size) (hs : s.size ≤ 1152921504606846976) (w : World) : Calls Tryz.prog 51 #[.string s] w fun e w' => e = .returned (.int .i64 (textN s.data.toList : Nat)) ∧ w = w' := by
  have Hst := Lib.hid (text_start s h0)
  go_enter Tryz.func51, Tryz.ntmps51
  go_wp2_with fail
  go_loop [3] (fun i => ∃ k : Nat, 1 ≤ k ∧ k ≤ s.size + 1 ∧ i = .int .i64 k ∧ Hid (TextAt s s[0] k)) (fun i => s.size + 1 - (intOf i).toNat)
  case atStart => exact ⟨1, by omega, by omega, rfl, Hst.out⟩
  case round =>
    obtain ⟨k, hk1, hk, rfl, Hk⟩ := hrel
    by_cases hlt : k < s.size
    · by_cases hc : s[k] = 92
      · have g1 : ((s[k].toNat : Int) == 92) = true := by rw [hc]; rfl
        have HN := Lib.hid (text_esc s _ k hlt hc Hk.out)
        clear hc
        go_wp2_with fail
        go_round
        case rel => exact ⟨k + 1 + 1, by omega, by omega, by go_num, HN.out⟩
        case measure => simp [intOf] <;> omega
      · have g1 : ((s[k].toNat : Int) == 92) = false := ne_byte (b := 92) hc
        by_cases hq : s[k] = s[0]
        · have g2 := eq_byte hq
          have HN := Lib.hid (text_end s _ k hlt hc hq Hk.out)
          clear hc hq
          go_wp2_with fail
          go_ret
          exact ⟨ret_int (by rw [HN.out]; simp), rfl⟩
        · have g2 := ne_byte hq
          have HN := Lib.hid (text_byte s _ k hlt hc hq Hk.out)
          clear hc hq
          go_wp2_with fail
          go_round
          case rel => exact ⟨k + 1, by omega, by omega, by go_num, HN.out⟩
          case measure => simp [intOf] <;> omega
    · have HN := Lib.hid (text_all s _ k (by omega) Hk.out)
      go_wp2_with fail
      go_ret
      exact ⟨ret_int (by rw [HN.out]), rfl⟩
end Go.Proofs.YteajmgkdiioflaaGreatDoor
