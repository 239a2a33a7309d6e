/- The document's reading of a number: the walks of blank, digit, begin, Numeric. -/
import Derived.Test.YtgjnmfjiolpikaaGreatDoorNmP
import Derived.Test.YtgjnmfjiolpikaaGreatDoorDpB
import Derived.BigQuiet
import Derived.Lib.Hide
import Derived.Deep.CutBlock
import Derived.Deep.CutRange
import Derived.Deep.DeepCutAuto
import Derived.WalkKit
namespace Go.Proofs.YtgjnmfjiolpikaaGreatDoor
open Go Go.RowKit
namespace Nm
theorem rblank_any (c : UInt8) (w : World) : Calls Tryz.prog 187 #[.int .u8 (c.toNat : Int)] w fun e w' => e = .returned (.bool (blankB c)) ∧ w = w' := by
  have hc := c.toNat_lt
  have h32 : ((c.toNat : Int) == 32) = (c.toNat == 32) := by rw [Bool.eq_iff_iff]; simp only [beq_iff_eq]; omega
  have h9 : decide ((9 : Int) ≤ (c.toNat : Int)) = decide (9 ≤ c.toNat) := by simp; omega
  have h13 : decide ((c.toNat : Int) ≤ 13) = decide (c.toNat ≤ 13) := by simp; omega
  unfold blankB
  revert h32 h9 h13
  generalize (c.toNat == 32) = b1
  generalize decide (9 ≤ c.toNat) = b2
  generalize decide (c.toNat ≤ 13) = b3
  intro h32 h9 h13
  cases b1 <;> cases b2 <;> cases b3 <;>
  · go_enter Tryz.func187, Tryz.ntmps187
    go_wp2
    go_ret
    exact ⟨rfl, rfl⟩
theorem rdigit_any (c : UInt8) (w : World) : Calls Tryz.prog 188 #[.int .u8 (c.toNat : Int)] w fun e w' => e = .returned (.bool (digitB c)) ∧ w = w' := by
  have hc := c.toNat_lt
  have h9 : decide ((48 : Int) ≤ (c.toNat : Int)) = decide (48 ≤ c.toNat) := by simp; omega
  have h13 : decide ((c.toNat : Int) ≤ 57) = decide (c.toNat ≤ 57) := by simp; omega
  unfold digitB
  revert h9 h13
  generalize decide (48 ≤ c.toNat) = b2
  generalize decide (c.toNat ≤ 57) = b3
  intro h9 h13
  cases b2 <;> cases b3 <;>
  · go_enter Tryz.func188, Tryz.ntmps188
    go_wp2
    go_ret
    exact ⟨rfl, rfl⟩
theorem dropc (s : ByteArray) (i : Nat) (h : i < s.size) : s.data.toList.drop i = s[i] :: s.data.toList.drop (i + 1) := by
  rw [List.drop_eq_getElem_cons (by simpa using h)]
  simp
  rfl
theorem skipB_cons (c : UInt8) (r : List UInt8) : skipB (c :: r) = if blankB c then skipB r else c :: r := by
  unfold skipB
  rw [List.dropWhile_cons]
theorem skipD_cons (c : UInt8) (r : List UInt8) : skipD (c :: r) = if digitB c then skipD r else c :: r := by
  unfold skipD
  rw [List.dropWhile_cons]
theorem wrap64_of (n : Int) (h0 : -9223372036854775808 ≤ n) (h1 : n ≤ 9223372036854775807) : wrap64 n = n := by
  unfold wrap64
  omega
def ixN : Value → Nat
  | .int _ q => q.toNat
  | _ => 0
def beginT (s : ByteArray) : Value := match beginL s.data.toList with
    | some (n, r) => .tuple #[.int .i64 n, .int .i64 ((s.size : Int) - (r.length : Int)), .bool true]
    | none => .tuple #[.int .i64 0, .int .i64 0, .bool false]
set_option maxRecDepth 100000 in
set_option maxHeartbeats 4000000 in
theorem begin_any (s : ByteArray) (hs : s.size ≤ 9223372036854775807) (w : World) : Calls Tryz.prog 151 #[.string s] w fun e w' => e = .returned (beginT s) ∧ w = w' := by
  have hlen : s.data.toList.length = s.size := by simp
  go_enter Tryz.func151, Tryz.ntmps151
  go_upto_block 0 with fail
  go_cut [5] (fun x wx => ∃ j : Nat, j ≤ s.size ∧ x = .int .i64 j ∧ w = wx ∧ Hid (s.data.toList.drop j = skipB s.data.toList))
  case first =>
    go_wp2_with fail
    go_loopw [5] (fun xi wx => ∃ j : Nat, j ≤ s.size ∧ xi = .int .i64 j ∧ w = wx ∧ Hid (skipB (s.data.toList.drop j) = skipB s.data.toList)) (fun xi _ => s.size - ixN xi)
    case atStart => exact ⟨0, Nat.zero_le _, rfl, rfl, by simp [Hid]⟩
    case round =>
      obtain ⟨j, hj, rfl, rfl, HL⟩ := hrel
      by_cases hlt : j < s.size
      · have hlt' : (j : Int) < (s.size : Int) := by omega
        have HD := Lib.hid (dropc s j hlt)
        have HC := Lib.hid (fun w => rblank_any s[j] w)
        cases hb : blankB s[j] with
        | true =>
          rw [hb] at HC
          have HL2 : Hid (skipB (s.data.toList.drop (j + 1)) = skipB s.data.toList) := by
            show _ = _
            rw [← HL.out, HD.out, skipB_cons, hb]; rfl
          clear hlen hb HL HD
          go_wp2_with (go_at_call 187; refine (HC.out _).mono ?_; rintro e w1 ⟨rfl, rfl⟩)
          go_roundw
          case rel => exact ⟨j + 1, by omega, by go_num, by trivial, HL2⟩
          case measure => simp [ixN] <;> omega
        | false =>
          rw [hb] at HC
          have HL2 : Hid (s.data.toList.drop j = skipB s.data.toList) := by
            show _ = _
            rw [← HL.out, HD.out, skipB_cons, hb]; rfl
          clear hlen hb HL HD
          go_wp2_with (go_at_call 187; refine (HC.out _).mono ?_; rintro e w1 ⟨rfl, rfl⟩)
          go_meet
          exact ⟨j, by omega, by trivial, by trivial, HL2⟩
      · obtain rfl : j = s.size := by omega
        have HL2 : Hid (s.data.toList.drop s.size = skipB s.data.toList) := by
          show _ = _
          rw [← HL.out, List.drop_eq_nil_of_le (by omega)]; rfl
        clear hlen HL
        go_wp2_with fail
        go_meet
        exact ⟨s.size, by omega, by trivial, by trivial, HL2⟩
  case rest =>
    obtain ⟨j, hj, rfl, rfl, HJ⟩ := hcut
    by_cases hlt : j < s.size
    · have HD := Lib.hid (dropc s j hlt)
      have HT : j + 1 ≤ s.size := hlt
      have hlt' : (j : Int) < (s.size : Int) := by omega
      have hz : decide ((s.size : Int) = (j : Int)) = false := by simp; omega
      have hM : minusB (skipB s.data.toList) = (((s[j]).toNat : Int) == 45) := by rw [← HJ.out, HD.out]; unfold minusB; rw [Bool.eq_iff_iff]; simp only [beq_iff_eq]; omega
      have HM := Lib.hid hM
      have hc256 := (s[j]).toNat_lt
      clear hlen hM
      go_upto_region 5 with fail
      go_cut [46] (fun x wx => x = .bool (signB s[j]) ∧ w = wx)
      case first =>
        clear HD HM
        by_cases h45 : s[j].toNat = 45
        · have e1 : ((s[j].toNat : Int) == 45) = true := by rw [h45]; rfl
          have hS : signB s[j] = true := by unfold signB; rw [h45]; rfl
          have HS0 := Lib.hid hS
          clear hS h45
          go_wp2_with fail
          go_meet
          exact ⟨congrArg Value.bool HS0.out.symm, by trivial⟩
        · have e1 : ((s[j].toNat : Int) == 45) = false := by simp only [beq_eq_false_iff_ne]; omega
          by_cases h43 : s[j].toNat = 43
          · have e2 : ((s[j].toNat : Int) == 43) = true := by rw [h43]; rfl
            have hS : signB s[j] = true := by unfold signB; rw [h43]; rfl
            have HS0 := Lib.hid hS
            clear hS h43 h45
            go_wp2_with fail
            go_meet
            exact ⟨congrArg Value.bool HS0.out.symm, by trivial⟩
          · have e2 : ((s[j].toNat : Int) == 43) = false := by simp only [beq_eq_false_iff_ne]; omega
            have hS : signB s[j] = false := by unfold signB; simp; omega
            have HS0 := Lib.hid hS
            clear hS h43 h45
            go_wp2_with fail
            go_meet
            exact ⟨congrArg Value.bool HS0.out.symm, by trivial⟩
      case rest =>
      obtain ⟨rfl, rfl⟩ := hcut
      have HS : Hid (signed1 (skipB s.data.toList) = if signB s[j] then s.data.toList.drop (j + 1) else s.data.toList.drop j) := by
        show _ = _
        rw [← HJ.out, HD.out]
        rfl
      generalize (((s[j]).toNat : Int) == 45) = m at *
      go_upto_if 46 with fail
      go_cut [5] (fun x wx => ∃ i : Nat, i ≤ s.size ∧ x = .int .i64 i ∧ w = wx ∧ Hid (s.data.toList.drop i = signed1 (skipB s.data.toList)))
      case first =>
        clear HD HM
        generalize signB s[j] = sb at *
        cases sb with
        | true =>
          have HS2 := Lib.hid (HS.out.trans (if_pos rfl))
          clear HS
          go_wp2_with fail
          go_meet
          exact ⟨j + 1, HT, by go_num, by trivial, HS2.out.symm⟩
        | false =>
          have HS2 := Lib.hid (HS.out.trans (if_neg (by decide)))
          clear HS
          go_wp2_with fail
          go_meet
          exact ⟨j, by omega, by trivial, by trivial, HS2.out.symm⟩
      case rest =>
        obtain ⟨i, hi, rfl, rfl, HI⟩ := hcut
        clear HD HJ hlt hlt' hz hc256 hj HS HT
        by_cases hdg : ∃ hq : i < s.size, digitB s[i] = true
        · obtain ⟨hq, hdg⟩ := hdg
          have hq' : (i : Int) < (s.size : Int) := by omega
          have hz : ((i : Int) == (s.size : Int)) = false := by simp only [beq_eq_false_iff_ne]; omega
          have HD := Lib.hid (dropc s i hq)
          have HB : Hid (beginT s = .tuple #[.int .i64 (satF m 0 (s.data.toList.drop i)), .int .i64 ((s.size : Int) - ((skipB (skipD (s.data.toList.drop i))).length : Int)), .bool true]) := by
            show _ = _
            have hh : headD (signed1 (skipB s.data.toList)) = true := by rw [← HI.out, HD.out]; exact hdg
            unfold beginT beginL
            rw [if_pos hh, HM.out, ← HI.out]
          have HC := Lib.hid (fun w => rdigit_any s[i] w)
          rw [hdg] at HC
          clear HI HM hdg
          obtain ⟨N, HN⟩ : ∃ N, Hid (satF m 0 (s.data.toList.drop i) = N) := ⟨_, rfl⟩
          rw [HN.out] at HB
          go_upto_block 2 with (go_at_call 188; refine (HC.out _).mono ?_; rintro e w1 ⟨rfl, rfl⟩)
          go_cut [5, 7] (fun x y wx => ∃ k : Nat, k ≤ s.size ∧ x = .int .i64 k ∧ y = .int .i64 N ∧ w = wx ∧ Hid (s.data.toList.drop k = skipD (s.data.toList.drop i)))
          case first =>
            go_wp2_with fail
            go_loopw [5, 7, 8] (fun xi xn xd wx => ∃ (k : Nat) (n : Int), k ≤ s.size ∧ xi = .int .i64 k ∧ xn = .int .i64 n ∧ w = wx ∧ Hid (satF m n (s.data.toList.drop k) = N) ∧ Hid (skipD (s.data.toList.drop k) = skipD (s.data.toList.drop i)) ∧ Hid (if m then -9223372036854775808 ≤ n ∧ n ≤ 0 else 0 ≤ n ∧ n ≤ 9223372036854775807)) (fun xi _ _ _ => s.size - ixN xi)
            case atStart => exact ⟨i, 0, hi, rfl, rfl, rfl, HN, rfl, by show ite _ _ _; split <;> omega⟩
            case round =>
              obtain ⟨k, n, hk, rfl, rfl, rfl, HF, HK, HBd⟩ := hrel
              clear HC HD hz HN HB
              by_cases hlt : k < s.size
              · have hlt' : (k : Int) < (s.size : Int) := by omega
                have HD := Lib.hid (dropc s k hlt)
                have HC := Lib.hid (fun w => rdigit_any s[k] w)
                cases hb : digitB s[k] with
                | true =>
                  rw [hb] at HC
                  have hd : 48 ≤ s[k].toNat ∧ s[k].toNat ≤ 57 := by simpa [digitB] using hb
                  have HK2 : Hid (skipD (s.data.toList.drop (k + 1)) = skipD (s.data.toList.drop i)) := by
                    show _ = _
                    rw [← HK.out, HD.out, skipD_cons, hb]; rfl
                  have HF2 : Hid ((if endB (satStep m n (s[k].toNat - 48)) then satStep m n (s[k].toNat - 48) else satF m (satStep m n (s[k].toNat - 48)) (s.data.toList.drop (k + 1))) = N) := by
                    show _ = _
                    rw [← HF.out, HD.out, satF, hb]; rfl
                  have HB2 := Lib.hid (satStep_bounds m n ((s[k].toNat : Int) - 48) (by omega) (by omega) HBd.out)
                  clear hb HF HK HD
                  cases m with
                  | false =>
                    have hbd : 0 ≤ n ∧ n ≤ 9223372036854775807 := by simpa using (show (if false = true then _ else _) from HBd.out)
                    by_cases hov : (9223372036854775807 - ((s[k].toNat : Int) - 48)) / 10 < n
                    · have hst : satStep false n ((s[k].toNat : Int) - 48) = 9223372036854775807 := by unfold satStep; simp only [Bool.false_eq_true, if_false]; rw [Int.tdiv_eq_ediv_of_nonneg (by omega), if_pos (by omega)]
                      have hen : endB (9223372036854775807) = true := by decide
                      have hN : 9223372036854775807 = N := by
                        have h9 := HF2.out
                        rw [hst, if_pos hen] at h9
                        exact h9
                      have HBN : Hid (if false then -9223372036854775808 ≤ N ∧ N ≤ 0 else 0 ≤ N ∧ N ≤ 9223372036854775807) := by
                        have h9 := HB2.out
                        rw [hst] at h9
                        rw [← hN]
                        exact h9
                      have HNN : Hid (Value.int .i64 (9223372036854775807) = Value.int .i64 N) := by show _ = _; rw [← hN]
                      clear hst hN hen
                      clear HBd hbd
                      clear HF2 HB2
                      go_wp2_with (go_at_call 188; refine (HC.out _).mono ?_; rintro e w1 ⟨rfl, rfl⟩)
                      go_loopw [5] (fun xi wx => ∃ q : Nat, k + 1 ≤ q ∧ q ≤ s.size ∧ xi = .int .i64 q ∧ w = wx ∧ Hid (skipD (s.data.toList.drop q) = skipD (s.data.toList.drop i))) (fun xi _ => s.size - ixN xi)
                      case atStart => exact ⟨k + 1, by omega, by omega, by go_num, by trivial, HK2⟩
                      case round =>
                        obtain ⟨q, hkq, hq9, rfl, rfl, HL⟩ := hrel
                        clear HK2 HC
                        by_cases hlt : q < s.size
                        · have hlt' : (q : Int) < (s.size : Int) := by omega
                          have HD := Lib.hid (dropc s q hlt)
                          have HC := Lib.hid (fun w => rdigit_any s[q] w)
                          cases hb : digitB s[q] with
                          | true =>
                            rw [hb] at HC
                            have HL2 : Hid (skipD (s.data.toList.drop (q + 1)) = skipD (s.data.toList.drop i)) := by
                              show _ = _
                              rw [← HL.out, HD.out, skipD_cons, hb]; rfl
                            clear hb HL HD
                            go_wp2_with (go_at_call 188; refine (HC.out _).mono ?_; rintro e w1 ⟨rfl, rfl⟩)
                            go_roundw
                            case rel => exact ⟨q + 1, by omega, by omega, by go_num, by trivial, HL2⟩
                            case measure => simp [ixN] <;> omega
                          | false =>
                            rw [hb] at HC
                            have HG : Hid (satF false N (s.data.toList.drop q) = N) := by
                              show _ = _
                              rw [HD.out, satF, hb]; rfl
                            clear hb HD
                            go_wp2_with (go_at_call 188; refine (HC.out _).mono ?_; rintro e w1 ⟨rfl, rfl⟩)
                            go_roundw
                            case rel => exact ⟨q, N, by omega, by trivial, HNN, by trivial, HG, HL, HBN⟩
                            case measure => simp [ixN] <;> omega
                        · obtain rfl : q = s.size := by omega
                          have HG : Hid (satF false N (s.data.toList.drop s.size) = N) := by
                            show _ = _
                            rw [List.drop_eq_nil_of_le (by simp), satF]
                          go_wp2_with fail
                          go_roundw
                          case rel => exact ⟨s.size, N, by omega, by trivial, HNN, by trivial, HG, HL, HBN⟩
                          case measure => simp [ixN] <;> omega
                    · have hov' : n ≤ (9223372036854775807 - ((s[k].toNat : Int) - 48)) / 10 := by omega
                      have hw : wrap64 (wrap64 (n * 10) + ((s[k].toNat : Int) - 48)) = n * 10 + ((s[k].toNat : Int) - 48) := by rw [wrap64_of (n * 10) (by omega) (by omega), wrap64_of _ (by omega) (by omega)]
                      have e1 : ((n * 10 + ((s[k].toNat : Int) - 48) : Int) == -9223372036854775808) = false := by simp only [beq_eq_false_iff_ne]; omega
                      by_cases hm : n * 10 + ((s[k].toNat : Int) - 48) = 9223372036854775807
                      · have e2 : ((n * 10 + ((s[k].toNat : Int) - 48) : Int) == 9223372036854775807) = true := by simpa using hm
                        have hst : satStep false n ((s[k].toNat : Int) - 48) = n * 10 + ((s[k].toNat : Int) - 48) := by unfold satStep; simp only [Bool.false_eq_true, if_false]; rw [Int.tdiv_eq_ediv_of_nonneg (by omega), if_neg (by omega)]
                        have hen : endB (n * 10 + ((s[k].toNat : Int) - 48)) = true := by unfold endB; rw [e1, e2]; rfl
                        have hN : n * 10 + ((s[k].toNat : Int) - 48) = N := by
                          have h9 := HF2.out
                          rw [hst, if_pos hen] at h9
                          exact h9
                        have HBN : Hid (if false then -9223372036854775808 ≤ N ∧ N ≤ 0 else 0 ≤ N ∧ N ≤ 9223372036854775807) := by
                          have h9 := HB2.out
                          rw [hst] at h9
                          rw [← hN]
                          exact h9
                        have HNN : Hid (Value.int .i64 (9223372036854775807) = Value.int .i64 N) := by show _ = _; rw [← hN]; rw [hm]
                        clear hst hN hen
                        clear HBd hbd
                        clear HF2 HB2
                        go_wp2_with (go_at_call 188; refine (HC.out _).mono ?_; rintro e w1 ⟨rfl, rfl⟩)
                        go_loopw [5] (fun xi wx => ∃ q : Nat, k + 1 ≤ q ∧ q ≤ s.size ∧ xi = .int .i64 q ∧ w = wx ∧ Hid (skipD (s.data.toList.drop q) = skipD (s.data.toList.drop i))) (fun xi _ => s.size - ixN xi)
                        case atStart => exact ⟨k + 1, by omega, by omega, by go_num, by trivial, HK2⟩
                        case round =>
                          obtain ⟨q, hkq, hq9, rfl, rfl, HL⟩ := hrel
                          clear HK2 HC
                          by_cases hlt : q < s.size
                          · have hlt' : (q : Int) < (s.size : Int) := by omega
                            have HD := Lib.hid (dropc s q hlt)
                            have HC := Lib.hid (fun w => rdigit_any s[q] w)
                            cases hb : digitB s[q] with
                            | true =>
                              rw [hb] at HC
                              have HL2 : Hid (skipD (s.data.toList.drop (q + 1)) = skipD (s.data.toList.drop i)) := by
                                show _ = _
                                rw [← HL.out, HD.out, skipD_cons, hb]; rfl
                              clear hb HL HD
                              go_wp2_with (go_at_call 188; refine (HC.out _).mono ?_; rintro e w1 ⟨rfl, rfl⟩)
                              go_roundw
                              case rel => exact ⟨q + 1, by omega, by omega, by go_num, by trivial, HL2⟩
                              case measure => simp [ixN] <;> omega
                            | false =>
                              rw [hb] at HC
                              have HG : Hid (satF false N (s.data.toList.drop q) = N) := by
                                show _ = _
                                rw [HD.out, satF, hb]; rfl
                              clear hb HD
                              go_wp2_with (go_at_call 188; refine (HC.out _).mono ?_; rintro e w1 ⟨rfl, rfl⟩)
                              go_roundw
                              case rel => exact ⟨q, N, by omega, by trivial, HNN, by trivial, HG, HL, HBN⟩
                              case measure => simp [ixN] <;> omega
                          · obtain rfl : q = s.size := by omega
                            have HG : Hid (satF false N (s.data.toList.drop s.size) = N) := by
                              show _ = _
                              rw [List.drop_eq_nil_of_le (by simp), satF]
                            go_wp2_with fail
                            go_roundw
                            case rel => exact ⟨s.size, N, by omega, by trivial, HNN, by trivial, HG, HL, HBN⟩
                            case measure => simp [ixN] <;> omega
                      · have e2 : ((n * 10 + ((s[k].toNat : Int) - 48) : Int) == 9223372036854775807) = false := by simpa using hm
                        have hst : satStep false n ((s[k].toNat : Int) - 48) = n * 10 + ((s[k].toNat : Int) - 48) := by unfold satStep; simp only [Bool.false_eq_true, if_false]; rw [Int.tdiv_eq_ediv_of_nonneg (by omega), if_neg (by omega)]
                        have hen : endB (n * 10 + ((s[k].toNat : Int) - 48)) = false := by unfold endB; simp only [Bool.or_eq_false_iff, beq_eq_false_iff_ne]; omega
                        have HG : Hid (satF false (n * 10 + ((s[k].toNat : Int) - 48)) (s.data.toList.drop (k + 1)) = N) := by
                          show _ = _
                          have h9 := HF2.out
                          rw [hst, if_neg (by rw [hen]; decide)] at h9
                          exact h9
                        have HBN : Hid (if false then -9223372036854775808 ≤ n * 10 + ((s[k].toNat : Int) - 48) ∧ n * 10 + ((s[k].toNat : Int) - 48) ≤ 0 else 0 ≤ n * 10 + ((s[k].toNat : Int) - 48) ∧ n * 10 + ((s[k].toNat : Int) - 48) ≤ 9223372036854775807) := by
                          have h9 := HB2.out
                          rw [hst] at h9
                          exact h9
                        clear hst hen HF2 HB2
                        go_wp2_with (go_at_call 188; refine (HC.out _).mono ?_; rintro e w1 ⟨rfl, rfl⟩)
                        go_roundw
                        case rel => exact ⟨k + 1, n * 10 + ((s[k].toNat : Int) - 48), by omega, by go_num, by first | trivial | exact congrArg (Value.int .i64) hw, by trivial, HG, HK2, HBN⟩
                        case measure => simp [ixN] <;> omega
                  | true =>
                    have hbd : -9223372036854775808 ≤ n ∧ n ≤ 0 := by simpa using (show (if true = true then _ else _) from HBd.out)
                    have htd : Int.tdiv (-9223372036854775808 + ((s[k].toNat : Int) - 48)) 10 = -((9223372036854775808 - ((s[k].toNat : Int) - 48)) / 10) := by
                      rw [show (-9223372036854775808 + ((s[k].toNat : Int) - 48)) = -(9223372036854775808 - ((s[k].toNat : Int) - 48)) by omega, Int.neg_tdiv, Int.tdiv_eq_ediv_of_nonneg (by omega)]
                    by_cases hov : n < Int.tdiv (-9223372036854775808 + ((s[k].toNat : Int) - 48)) 10
                    · have hst : satStep true n ((s[k].toNat : Int) - 48) = -9223372036854775808 := by unfold satStep; simp only [if_true]; rw [if_pos (by omega)]
                      have hen : endB (-9223372036854775808) = true := by decide
                      have hN : -9223372036854775808 = N := by
                        have h9 := HF2.out
                        rw [hst, if_pos hen] at h9
                        exact h9
                      have HBN : Hid (if true then -9223372036854775808 ≤ N ∧ N ≤ 0 else 0 ≤ N ∧ N ≤ 9223372036854775807) := by
                        have h9 := HB2.out
                        rw [hst] at h9
                        rw [← hN]
                        exact h9
                      have HNN : Hid (Value.int .i64 (-9223372036854775808) = Value.int .i64 N) := by show _ = _; rw [← hN]
                      clear hst hN hen
                      clear HBd hbd htd
                      clear HF2 HB2
                      go_wp2_with (go_at_call 188; refine (HC.out _).mono ?_; rintro e w1 ⟨rfl, rfl⟩)
                      go_loopw [5] (fun xi wx => ∃ q : Nat, k + 1 ≤ q ∧ q ≤ s.size ∧ xi = .int .i64 q ∧ w = wx ∧ Hid (skipD (s.data.toList.drop q) = skipD (s.data.toList.drop i))) (fun xi _ => s.size - ixN xi)
                      case atStart => exact ⟨k + 1, by omega, by omega, by go_num, by trivial, HK2⟩
                      case round =>
                        obtain ⟨q, hkq, hq9, rfl, rfl, HL⟩ := hrel
                        clear HK2 HC
                        by_cases hlt : q < s.size
                        · have hlt' : (q : Int) < (s.size : Int) := by omega
                          have HD := Lib.hid (dropc s q hlt)
                          have HC := Lib.hid (fun w => rdigit_any s[q] w)
                          cases hb : digitB s[q] with
                          | true =>
                            rw [hb] at HC
                            have HL2 : Hid (skipD (s.data.toList.drop (q + 1)) = skipD (s.data.toList.drop i)) := by
                              show _ = _
                              rw [← HL.out, HD.out, skipD_cons, hb]; rfl
                            clear hb HL HD
                            go_wp2_with (go_at_call 188; refine (HC.out _).mono ?_; rintro e w1 ⟨rfl, rfl⟩)
                            go_roundw
                            case rel => exact ⟨q + 1, by omega, by omega, by go_num, by trivial, HL2⟩
                            case measure => simp [ixN] <;> omega
                          | false =>
                            rw [hb] at HC
                            have HG : Hid (satF true N (s.data.toList.drop q) = N) := by
                              show _ = _
                              rw [HD.out, satF, hb]; rfl
                            clear hb HD
                            go_wp2_with (go_at_call 188; refine (HC.out _).mono ?_; rintro e w1 ⟨rfl, rfl⟩)
                            go_roundw
                            case rel => exact ⟨q, N, by omega, by trivial, HNN, by trivial, HG, HL, HBN⟩
                            case measure => simp [ixN] <;> omega
                        · obtain rfl : q = s.size := by omega
                          have HG : Hid (satF true N (s.data.toList.drop s.size) = N) := by
                            show _ = _
                            rw [List.drop_eq_nil_of_le (by simp), satF]
                          go_wp2_with fail
                          go_roundw
                          case rel => exact ⟨s.size, N, by omega, by trivial, HNN, by trivial, HG, HL, HBN⟩
                          case measure => simp [ixN] <;> omega
                    · have hov' : Int.tdiv (-9223372036854775808 + ((s[k].toNat : Int) - 48)) 10 ≤ n := by omega
                      have hw : wrap64 (wrap64 (n * 10) - ((s[k].toNat : Int) - 48)) = n * 10 - ((s[k].toNat : Int) - 48) := by rw [wrap64_of (n * 10) (by omega) (by omega), wrap64_of _ (by omega) (by omega)]
                      have e1 : ((n * 10 - ((s[k].toNat : Int) - 48) : Int) == 9223372036854775807) = false := by simp only [beq_eq_false_iff_ne]; omega
                      by_cases hm : n * 10 - ((s[k].toNat : Int) - 48) = -9223372036854775808
                      · have e2 : ((n * 10 - ((s[k].toNat : Int) - 48) : Int) == -9223372036854775808) = true := by simpa using hm
                        have hst : satStep true n ((s[k].toNat : Int) - 48) = n * 10 - ((s[k].toNat : Int) - 48) := by unfold satStep; simp only [if_true]; rw [if_neg (by omega)]
                        have hen : endB (n * 10 - ((s[k].toNat : Int) - 48)) = true := by unfold endB; rw [e1, e2]; rfl
                        have hN : n * 10 - ((s[k].toNat : Int) - 48) = N := by
                          have h9 := HF2.out
                          rw [hst, if_pos hen] at h9
                          exact h9
                        have HBN : Hid (if true then -9223372036854775808 ≤ N ∧ N ≤ 0 else 0 ≤ N ∧ N ≤ 9223372036854775807) := by
                          have h9 := HB2.out
                          rw [hst] at h9
                          rw [← hN]
                          exact h9
                        have HNN : Hid (Value.int .i64 (-9223372036854775808) = Value.int .i64 N) := by show _ = _; rw [← hN]; rw [hm]
                        clear hst hN hen
                        clear HBd hbd htd
                        clear HF2 HB2
                        go_wp2_with (go_at_call 188; refine (HC.out _).mono ?_; rintro e w1 ⟨rfl, rfl⟩)
                        go_loopw [5] (fun xi wx => ∃ q : Nat, k + 1 ≤ q ∧ q ≤ s.size ∧ xi = .int .i64 q ∧ w = wx ∧ Hid (skipD (s.data.toList.drop q) = skipD (s.data.toList.drop i))) (fun xi _ => s.size - ixN xi)
                        case atStart => exact ⟨k + 1, by omega, by omega, by go_num, by trivial, HK2⟩
                        case round =>
                          obtain ⟨q, hkq, hq9, rfl, rfl, HL⟩ := hrel
                          clear HK2 HC
                          by_cases hlt : q < s.size
                          · have hlt' : (q : Int) < (s.size : Int) := by omega
                            have HD := Lib.hid (dropc s q hlt)
                            have HC := Lib.hid (fun w => rdigit_any s[q] w)
                            cases hb : digitB s[q] with
                            | true =>
                              rw [hb] at HC
                              have HL2 : Hid (skipD (s.data.toList.drop (q + 1)) = skipD (s.data.toList.drop i)) := by
                                show _ = _
                                rw [← HL.out, HD.out, skipD_cons, hb]; rfl
                              clear hb HL HD
                              go_wp2_with (go_at_call 188; refine (HC.out _).mono ?_; rintro e w1 ⟨rfl, rfl⟩)
                              go_roundw
                              case rel => exact ⟨q + 1, by omega, by omega, by go_num, by trivial, HL2⟩
                              case measure => simp [ixN] <;> omega
                            | false =>
                              rw [hb] at HC
                              have HG : Hid (satF true N (s.data.toList.drop q) = N) := by
                                show _ = _
                                rw [HD.out, satF, hb]; rfl
                              clear hb HD
                              go_wp2_with (go_at_call 188; refine (HC.out _).mono ?_; rintro e w1 ⟨rfl, rfl⟩)
                              go_roundw
                              case rel => exact ⟨q, N, by omega, by trivial, HNN, by trivial, HG, HL, HBN⟩
                              case measure => simp [ixN] <;> omega
                          · obtain rfl : q = s.size := by omega
                            have HG : Hid (satF true N (s.data.toList.drop s.size) = N) := by
                              show _ = _
                              rw [List.drop_eq_nil_of_le (by simp), satF]
                            go_wp2_with fail
                            go_roundw
                            case rel => exact ⟨s.size, N, by omega, by trivial, HNN, by trivial, HG, HL, HBN⟩
                            case measure => simp [ixN] <;> omega
                      · have e2 : ((n * 10 - ((s[k].toNat : Int) - 48) : Int) == -9223372036854775808) = false := by simpa using hm
                        have hst : satStep true n ((s[k].toNat : Int) - 48) = n * 10 - ((s[k].toNat : Int) - 48) := by unfold satStep; simp only [if_true]; rw [if_neg (by omega)]
                        have hen : endB (n * 10 - ((s[k].toNat : Int) - 48)) = false := by unfold endB; simp only [Bool.or_eq_false_iff, beq_eq_false_iff_ne]; omega
                        have HG : Hid (satF true (n * 10 - ((s[k].toNat : Int) - 48)) (s.data.toList.drop (k + 1)) = N) := by
                          show _ = _
                          have h9 := HF2.out
                          rw [hst, if_neg (by rw [hen]; decide)] at h9
                          exact h9
                        have HBN : Hid (if true then -9223372036854775808 ≤ n * 10 - ((s[k].toNat : Int) - 48) ∧ n * 10 - ((s[k].toNat : Int) - 48) ≤ 0 else 0 ≤ n * 10 - ((s[k].toNat : Int) - 48) ∧ n * 10 - ((s[k].toNat : Int) - 48) ≤ 9223372036854775807) := by
                          have h9 := HB2.out
                          rw [hst] at h9
                          exact h9
                        clear hst hen HF2 HB2 htd
                        go_wp2_with (go_at_call 188; refine (HC.out _).mono ?_; rintro e w1 ⟨rfl, rfl⟩)
                        go_roundw
                        case rel => exact ⟨k + 1, n * 10 - ((s[k].toNat : Int) - 48), by omega, by go_num, by first | trivial | exact congrArg (Value.int .i64) hw, by trivial, HG, HK2, HBN⟩
                        case measure => simp [ixN] <;> omega
                | false =>
                  rw [hb] at HC
                  obtain rfl : n = N := by rw [← HF.out, HD.out, satF, hb]; rfl
                  have HK2 : Hid (s.data.toList.drop k = skipD (s.data.toList.drop i)) := by
                    show _ = _
                    rw [← HK.out, HD.out, skipD_cons, hb]; rfl
                  clear hb HK HF HD
                  go_wp2_with (go_at_call 188; refine (HC.out _).mono ?_; rintro e w1 ⟨rfl, rfl⟩)
                  go_meet
                  exact ⟨k, by omega, by trivial, by trivial, by trivial, HK2⟩
              · obtain rfl : k = s.size := by omega
                have h9 : s.data.toList.drop s.size = [] := List.drop_eq_nil_of_le (by simp)
                obtain rfl : n = N := by rw [← HF.out, h9, satF]
                have HK2 : Hid (s.data.toList.drop s.size = skipD (s.data.toList.drop i)) := by
                  show _ = _
                  rw [← HK.out, h9]; rfl
                clear HK HF h9
                go_wp2_with fail
                go_meet
                exact ⟨s.size, by omega, by trivial, by trivial, by trivial, HK2⟩
          case rest =>
            obtain ⟨k, hk, rfl, rfl, rfl, HK⟩ := hcut
            clear HN HD hz HC
            go_wp2_with fail
            go_loopw [5] (fun xi wx => ∃ q : Nat, q ≤ s.size ∧ xi = .int .i64 q ∧ w = wx ∧ Hid (skipB (s.data.toList.drop q) = skipB (skipD (s.data.toList.drop i)))) (fun xi _ => s.size - ixN xi)
            case atStart => exact ⟨k, hk, rfl, rfl, congrArg skipB HK.out⟩
            case round =>
              obtain ⟨q, hq, rfl, rfl, HL⟩ := hrel
              clear HK
              by_cases hlt : q < s.size
              · have hlt' : (q : Int) < (s.size : Int) := by omega
                have HD := Lib.hid (dropc s q hlt)
                have HC := Lib.hid (fun w => rblank_any s[q] w)
                cases hb : blankB s[q] with
                | true =>
                  rw [hb] at HC
                  have HL2 : Hid (skipB (s.data.toList.drop (q + 1)) = skipB (skipD (s.data.toList.drop i))) := by
                    show _ = _
                    rw [← HL.out, HD.out, skipB_cons, hb]; rfl
                  clear hb HL HD
                  go_wp2_with (go_at_call 187; refine (HC.out _).mono ?_; rintro e w1 ⟨rfl, rfl⟩)
                  go_roundw
                  case rel => exact ⟨q + 1, by omega, by go_num, by trivial, HL2⟩
                  case measure => simp [ixN] <;> omega
                | false =>
                  rw [hb] at HC
                  have HL2 : Hid (beginT s = .tuple #[.int .i64 N, .int .i64 (q : Int), .bool true]) := by
                    show _ = _
                    have h9 : skipB (s.data.toList.drop q) = s.data.toList.drop q := by rw [HD.out, skipB_cons, hb]; rfl
                    rw [HB.out, ← HL.out, h9, List.length_drop]
                    congr 4
                    simp
                    omega
                  clear hb HL HD HB
                  go_wp2_with (go_at_call 187; refine (HC.out _).mono ?_; rintro e w1 ⟨rfl, rfl⟩)
                  go_ret3
                  rw [HL2.out]
                  exact ⟨rfl, rfl⟩
              · obtain rfl : q = s.size := by omega
                have HL2 : Hid (beginT s = .tuple #[.int .i64 N, .int .i64 (s.size : Int), .bool true]) := by
                  show _ = _
                  have h9 : skipB (s.data.toList.drop s.size) = [] := by rw [List.drop_eq_nil_of_le (by simp)]; rfl
                  rw [HB.out, ← HL.out, h9]
                  simp
                clear HL HB
                go_wp2_with fail
                go_ret3
                rw [HL2.out]
                exact ⟨rfl, rfl⟩
        · have HE : Hid (beginT s = .tuple #[.int .i64 0, .int .i64 0, .bool false]) := by
            show _ = _
            have hh : ¬ headD (signed1 (skipB s.data.toList)) = true := by
              rw [← HI.out]
              by_cases hq : i < s.size
              · rw [dropc s i hq]
                exact fun h => hdg ⟨hq, h⟩
              · rw [List.drop_eq_nil_of_le (by simp; omega)]
                exact fun h => by cases h
            unfold beginT beginL
            rw [if_neg hh]
          by_cases hq : i < s.size
          · have hq' : (i : Int) < (s.size : Int) := by omega
            have hz : ((i : Int) == (s.size : Int)) = false := by simp only [beq_eq_false_iff_ne]; omega
            have hd0 : digitB s[i] = false := by
              cases h : digitB s[i] with
              | true => exact absurd ⟨hq, h⟩ hdg
              | false => rfl
            have HC := Lib.hid (fun w => rdigit_any s[i] w)
            rw [hd0] at HC
            clear HI HM hdg hd0
            go_wp2_with (go_at_call 188; refine (HC.out _).mono ?_; rintro e w1 ⟨rfl, rfl⟩)
            go_ret3
            rw [HE.out]
            exact ⟨rfl, rfl⟩
          · obtain rfl : i = s.size := by omega
            clear HI HM hdg
            go_wp2_with fail
            go_ret3
            rw [HE.out]
            exact ⟨rfl, rfl⟩
    · obtain rfl : j = s.size := by omega
      have hn : skipB s.data.toList = [] := by rw [← HJ.out, List.drop_eq_nil_of_le (by omega)]
      have e : beginT s = .tuple #[.int .i64 0, .int .i64 0, .bool false] := by unfold beginT beginL; rw [hn]; rfl
      have HE := Lib.hid e
      clear HJ hn e hlen
      go_wp2_with fail
      go_ret3
      rw [HE.out]
      exact ⟨rfl, rfl⟩
end Nm
end Go.Proofs.YtgjnmfjiolpikaaGreatDoor
