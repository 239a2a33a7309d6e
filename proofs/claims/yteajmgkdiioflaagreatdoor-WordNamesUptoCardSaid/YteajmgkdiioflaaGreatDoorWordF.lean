/- Names: the program and its reference tell them alike. -/
import Derived.Test.YteajmgkdiioflaaGreatDoorWordE
namespace Go.Proofs.YteajmgkdiioflaaGreatDoor
open Go.RowKit

set_option maxRecDepth 100000 in
set_option maxHeartbeats 2000000 in
theorem named_any (s : ByteArray) (hs : s.size ≤ 140737488351232) (w : World) :
    Calls Tryz.prog 28 #[.string s, .int .i64 0] w fun e w' => e = .returned (.tuple #[.int .i64 (nameL s.data.toList).1, .bool (!(nameL s.data.toList).2)]) ∧ w = w' := by
  have hsl := Lib.size_eq s
  have HQ : Hid (∀ (k : Nat) (b : Bool), k ≤ s.size → Lib.hasPrefix (s.data.toList.drop k) [92] = b → ∀ w, Calls Tryz.prog 24 #[.string s, .int .i64 (k : Int), .string ⟨#[92]⟩] w fun e w' => e = .returned (.bool b) ∧ w = w') := by
    intro k b hk hb w
    have := at_any s (by omega) k (by omega) ⟨#[92]⟩ (by decide) (.inl hk) w
    rw [show atB s.data.toList k (⟨#[92]⟩ : ByteArray).data.toList = b from hb] at this
    exact this
  have HN : Hid (∀ (k n : Nat), k ≤ s.size → wordN (s.data.toList.drop k) = n → ∀ w, Calls Tryz.prog 23 #[.string s, .int .i64 (k : Int)] w fun e w' => e = .returned (.int .i64 (n : Nat)) ∧ w = w') := by
    intro k n hk hn w
    have := rword_any s (by omega) k (by omega) w
    rw [hn] at this
    exact this
  have HS := Lib.hid (name_start s.data.toList)
  have hn0 := name0_le s.data.toList
  obtain ⟨b, hb⟩ : ∃ b, Lib.hasPrefix s.data.toList [92] = b := ⟨_, rfl⟩
  have h0 : name0 s.data.toList = if b = true then 1 else 0 := by unfold name0; rw [hb]
  have HP : Hid (∀ w, Calls Tryz.prog 24 #[.string s, .int .i64 0, .string ⟨#[92]⟩] w fun e w' => e = .returned (.bool b) ∧ w = w') := HQ.out 0 b (Nat.zero_le _) (by rw [List.drop_zero]; exact hb)
  have HL := Lib.hid hsl
  obtain ⟨A, HA⟩ : ∃ z, Hid (nameL s.data.toList = z) := ⟨_, rfl⟩
  rw [HA.out]
  clear hsl hb
  generalize name0 s.data.toList = n0 at *
  have hn0' : n0 ≤ s.size := by rw [HL.out]; exact hn0
  clear hn0
  cases b
  all_goals
    simp at h0
    subst h0
    go_enter Tryz.func28, Tryz.ntmps28
    go_wp2_with (go_at_call 24; refine (HP.out _).mono ?_; rintro e w1 ⟨rfl, rfl⟩)
    go_loopw [6] (fun x wx => ∃ k : Nat, k ≤ s.size ∧ x = .int .i64 k ∧ w = wx ∧ Hid (NameAt s.data.toList k)) (fun x _ => s.size - (intOf x).toNat)
    case atStart => exact ⟨_, hn0', rfl, rfl, HS.out⟩
    case round =>
      obtain ⟨k, hk, rfl, rfl, H⟩ := hrel
      clear HS HP hn0'
      obtain ⟨n, hn⟩ : ∃ n, wordN (s.data.toList.drop k) = n := ⟨_, rfl⟩
      have HW := Lib.hid (HN.out k n hk hn)
      have HE := Lib.hid hn
      by_cases h0 : n = 0
      · subst h0
        have HZ : Hid (A = ((k : Int) - 1, false)) := HA.out.symm.trans (name_zero H.out HE.out)
        clear hn
        go_wp2_with (go_at_call 23; refine (HW.out _).mono ?_; rintro e w2 ⟨rfl, rfl⟩)
        go_ret2
        exact ⟨by rw [HZ.out]; simp, rfl⟩
      · have hle := wordN_le (s.data.toList.drop k)
        rw [hn, List.length_drop, ← HL.out] at hle
        have hnI : ((n : Int) == 0) = false := by simp; omega
        obtain ⟨b, hb⟩ : ∃ b, Lib.hasPrefix (s.data.toList.drop (k + n)) [92] = b := ⟨_, rfl⟩
        have HX := HQ.out (k + n) b (by omega) hb
        rw [Int.natCast_add] at HX
        replace HX := Lib.hid HX
        have Hb := Lib.hid hb
        have H0 := Lib.hid h0
        clear hb hn h0
        cases b with
        | false =>
          have HZ : Hid (A = (((k + n : Nat) : Int), true)) := HA.out.symm.trans (name_done H.out HE.out H0.out Hb.out)
          go_wp2_with (first
            | (go_at_call 23; refine (HW.out _).mono ?_; rintro e w2 ⟨rfl, rfl⟩)
            | (go_at_call 24; refine (HX.out _).mono ?_; rintro e w3 ⟨rfl, rfl⟩))
          go_ret2
          exact ⟨by rw [HZ.out]; simp, rfl⟩
        | true =>
          have HZ := Lib.hid (name_next H.out HE.out H0.out Hb.out)
          have hlt : k + n < s.size := by rw [HL.out]; exact pre92 Hb.out
          go_wp2_with (first
            | (go_at_call 23; refine (HW.out _).mono ?_; rintro e w2 ⟨rfl, rfl⟩)
            | (go_at_call 24; refine (HX.out _).mono ?_; rintro e w3 ⟨rfl, rfl⟩))
          go_roundw
          case rel => exact ⟨k + n + 1, by omega, by go_num, by first | rfl | trivial, HZ.out⟩
          case measure => simp [intOf] <;> omega

def nmR (size : Nat) (kb lb ne ok eq : Bool) : Bool := if 64 < size then false else if kb = true then false else if (!lb && ne) = true then false else ok && eq
/-- Is a text a name? -/
def nmL (s : ByteArray) : Bool :=
  if h : 0 < s.size then nmR s.size (keyL s.data.toList) (letterB s[0]) ((s[0].toNat : Int) != 92) (nameL s.data.toList).2 ((nameL s.data.toList).1 == (s.size : Int)) else false

set_option maxRecDepth 100000 in
set_option maxHeartbeats 8000000 in
theorem wname_any (s : ByteArray) (hs : s.size < 35184372088832) (m : Int) (w : World) (hL : LibW m w) :
    Calls Tryz.prog 12 #[.string s] w fun e w' => e = .returned (.bool (nmL s)) ∧ Below w.heap.size w w' := by
  have HK := Lib.hid (key_any s hs m w hL)
  have HM := Lib.hid (fun w => name_any s (by omega) w)
  by_cases h0 : 0 < s.size
  · have hz : (s.toList == ([] : List UInt8)) = false := by
      rw [ByteArray.toList_eq, beq_eq_false_iff_ne]
      intro e
      have := Lib.size_eq s
      rw [e] at this
      simp only [List.length_nil] at this
      omega
    have HR : Hid (nmL s = nmR s.size (keyL s.data.toList) (letterB s[0]) ((s[0].toNat : Int) != 92) (nameL s.data.toList).2 ((nameL s.data.toList).1 == (s.size : Int))) := by show _ = _; unfold nmL; rw [dif_pos h0]
    have HW := Lib.hid (fun w => wletter_any s[0] w)
    generalize keyL s.data.toList = kb at *
    generalize letterB s[0] = lb at *
    generalize (nameL s.data.toList).2 = ok at *
    generalize (nameL s.data.toList).1 = n at *
    generalize hne : ((s[0].toNat : Int) != 92) = ne at *
    generalize heq : (n == (s.size : Int)) = eq at *
    generalize nmL s = R at *
    have hc := s[0].toNat_lt
    have hc2 : (s[0].toNat : Int) ≤ 255 := by omega
    by_cases hl : 64 < s.size
    · have hlI : (64 : Int) < (s.size : Int) := by omega
      have HZ : Hid (R = false) := by show _ = _; rw [HR.out]; unfold nmR; rw [if_pos hl]
      clear HR hl
      go_enter Tryz.func12, Tryz.ntmps12
      go_wp2_with fail
      go_ret
      exact ⟨by rw [HZ.out]; rfl, Below.refl _ _⟩
    · have hlI : (s.size : Int) ≤ 64 := by omega
      unfold nmR at HR
      rw [if_neg hl] at HR
      clear hl
      cases kb <;> cases lb <;> cases ne <;> cases ok <;> cases eq
      all_goals
        go_enter Tryz.func12, Tryz.ntmps12
        go_wp2_with (first
          | (go_at_call 10; refine HK.out.mono ?_; rintro e w1 ⟨rfl, hb1⟩; have HB1 := Lib.hid hb1; clear hb1)
          | (go_at_call 25; refine (HW.out _).mono ?_; rintro e w2 ⟨rfl, rfl⟩)
          | (go_at_call 26; refine (HM.out _).mono ?_; rintro e w2 ⟨rfl, hb2⟩; have HB2 := Lib.hid (HB1.out.trans (hb2.mono HB1.out.size)); clear hb2))
        go_ret
        exact ⟨by rw [HR.out]; rfl, by first | exact HB2.out | exact HB1.out⟩
  · have hz : (s.toList == ([] : List UInt8)) = true := by
      rw [ByteArray.toList_eq]
      have := Lib.size_eq s
      cases h : s.data.toList with
      | nil => rfl
      | cons a l => rw [h] at this; simp only [List.length_cons] at this; omega
    have HZ : Hid (nmL s = false) := by show _ = _; unfold nmL; rw [dif_neg h0]
    go_enter Tryz.func12, Tryz.ntmps12
    go_wp2_with fail
    go_ret
    exact ⟨by rw [HZ.out]; rfl, Below.refl _ _⟩

set_option maxRecDepth 100000 in
set_option maxHeartbeats 8000000 in
theorem rname_any (s : ByteArray) (hs : s.size < 35184372088832) (w : World) :
    Calls Tryz.prog 13 #[.string s] w fun e w' => e = .returned (.bool (nmL s)) ∧ Below w.heap.size w w' := by
  have HK := Lib.hid (fun w => rkey_any s (by omega) w)
  have HM := Lib.hid (fun w => named_any s (by omega) w)
  by_cases h0 : 0 < s.size
  · have hz : (s.toList == ([] : List UInt8)) = false := by
      rw [ByteArray.toList_eq, beq_eq_false_iff_ne]
      intro e
      have := Lib.size_eq s
      rw [e] at this
      simp only [List.length_nil] at this
      omega
    have HR : Hid (nmL s = nmR s.size (keyL s.data.toList) (letterB s[0]) ((s[0].toNat : Int) != 92) (nameL s.data.toList).2 ((nameL s.data.toList).1 == (s.size : Int))) := by show _ = _; unfold nmL; rw [dif_pos h0]
    have HW := Lib.hid (fun w => rletter_any s[0] w)
    generalize keyL s.data.toList = kb at *
    generalize letterB s[0] = lb at *
    generalize (nameL s.data.toList).2 = ok at *
    generalize (nameL s.data.toList).1 = n at *
    generalize hne : ((s[0].toNat : Int) != 92) = ne at *
    generalize heq : (n == (s.size : Int)) = eq at *
    generalize nmL s = R at *
    have hc := s[0].toNat_lt
    have hc2 : (s[0].toNat : Int) ≤ 255 := by omega
    by_cases hl : 64 < s.size
    · have hlI : (64 : Int) < (s.size : Int) := by omega
      have HZ : Hid (R = false) := by show _ = _; rw [HR.out]; unfold nmR; rw [if_pos hl]
      clear HR hl
      cases kb <;> cases lb <;> cases ne
      all_goals
        go_enter Tryz.func13, Tryz.ntmps13
        go_wp2_with (first
          | (go_at_call 11; refine (HK.out _).mono ?_; rintro e w1 ⟨rfl, hb1⟩; have HB1 := Lib.hid hb1; clear hb1)
          | (go_at_call 27; refine (HW.out _).mono ?_; rintro e w2 ⟨rfl, rfl⟩))
        go_ret
        exact ⟨by rw [HZ.out]; rfl, by first | exact HB1.out | exact Below.refl _ _⟩
    · have hlI : (s.size : Int) ≤ 64 := by omega
      unfold nmR at HR
      rw [if_neg hl] at HR
      clear hl
      cases kb <;> cases lb <;> cases ne <;> cases ok <;> cases eq
      all_goals
        go_enter Tryz.func13, Tryz.ntmps13
        go_wp2_with (first
          | (go_at_call 11; refine (HK.out _).mono ?_; rintro e w1 ⟨rfl, hb1⟩; have HB1 := Lib.hid hb1; clear hb1)
          | (go_at_call 27; refine (HW.out _).mono ?_; rintro e w2 ⟨rfl, rfl⟩)
          | (go_at_call 28; refine (HM.out _).mono ?_; rintro e w2 ⟨rfl, rfl⟩))
        go_ret
        exact ⟨by rw [HR.out]; rfl, by first | exact HB1.out | exact Below.refl _ _⟩
  · have hz : (s.toList == ([] : List UInt8)) = true := by
      rw [ByteArray.toList_eq]
      have := Lib.size_eq s
      cases h : s.data.toList with
      | nil => rfl
      | cons a l => rw [h] at this; simp only [List.length_cons] at this; omega
    have HZ : Hid (nmL s = false) := by show _ = _; unfold nmL; rw [dif_neg h0]
    go_enter Tryz.func13, Tryz.ntmps13
    go_wp2_with fail
    go_ret
    exact ⟨by rw [HZ.out]; rfl, Below.refl _ _⟩
end Go.Proofs.YteajmgkdiioflaaGreatDoor
