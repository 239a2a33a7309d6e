/- The document's Digits, Numeric, Norm: the walks. -/
import Derived.Test.YtgjnmfjiolpikaaGreatDoorNmR
import Derived.Test.YtgjnmfjiolpikaaGreatDoorApps
import Derived.Laws.IdiomStrings
import Derived.Laws.OwnMore
import Derived.OwnWalk
namespace Go.Proofs.YtgjnmfjiolpikaaGreatDoor
open Go Go.RowKit
namespace Nm
open Go.Lib (decDigits nDigits nDigits_small nDigits_big decDigits_length)
/-- The digits of a number; none of nought. -/
def decZ (u : Nat) : List UInt8 := if u = 0 then [] else decDigits u
theorem decZ_step (u : Nat) (h : u ≠ 0) : decZ u = decZ (u / 10) ++ [UInt8.ofNat (48 + u % 10)] := by
  unfold decZ
  rw [if_neg h]
  by_cases hu : u < 10
  · rw [decDigits, dif_pos hu, if_pos (by omega), Nat.mod_eq_of_lt hu]; rfl
  · rw [decDigits, dif_neg hu, if_neg (by omega)]
theorem nDigits_le : ∀ (k u : Nat), u < 10 ^ (k + 1) → nDigits u ≤ k + 1
  | 0, u, h => by rw [nDigits_small (by simpa using h)]; exact Nat.le_refl _
  | k + 1, u, h => by
    by_cases hu : u < 10
    · rw [nDigits_small hu]; omega
    · rw [nDigits_big hu]
      have := nDigits_le k (u / 10) (by rw [Nat.pow_succ] at h; omega)
      omega
theorem dec_len (u : Nat) (h : u ≤ 9223372036854775808) : (decDigits u).length ≤ 19 := by
  rw [decDigits_length]
  exact nDigits_le 18 u (by omega)
theorem decZ_len (u : Nat) (h : u ≤ 9223372036854775808) : (decZ u).length ≤ 19 := by
  unfold decZ
  split
  · simp
  · exact dec_len u h
theorem u8_info : (Tryz.prog.info? 5).map (fun i => (i.zero, i.size, i.bytes)) = some (some (.int .u8 0), 1, 1) := by kernel_rfl
def bcells (l : List UInt8) : List Value := l.map fun c => .int .u8 (c.toNat : Int)
theorem bcells_one (l : List UInt8) : ∀ u ∈ bcells l, u.oneCell' = true := by
  intro u hu
  obtain ⟨c, _, rfl⟩ := List.mem_map.1 hu
  rfl
def inOf : Value → Int | .int _ q => q | _ => 0
theorem bytes_back (w : World) (B : Nat) (A : Option Addr) (c : Nat) (l : List UInt8) (h : Reads w B 1 A l.length (bcells l)) (hn : 0 < l.length) :
    (convert 56 9 (.slice A l.length c)).run Tryz.prog w = .ok (.string ⟨l.toArray⟩) w := by
  obtain ⟨ad, rfl, _, hc⟩ := h.2 hn
  exact run_convert_bytes_back w _ _ 5 ad c l Tryz.underlying56 Tryz.underlying5 Tryz.underlying9 fun j hj => hc j _ (by simp [bcells, List.getElem?_map, List.getElem?_eq_getElem hj])
set_option maxRecDepth 100000 in
set_option maxHeartbeats 2000000 in
theorem rdigits_any (n : Int) (h0 : -9223372036854775808 ≤ n) (h1 : n ≤ 9223372036854775807) (w : World) : Calls Tryz.prog 117 #[.int .i64 n] w fun e w' => e = .returned (.string ⟨(Lib.itoa n).toArray⟩) ∧ Below w.heap.size w w' := by
  obtain ⟨i0, hi0, hz0, hz1, hz2⟩ := info_parts u8_info
  by_cases hn : n = 0
  · subst hn
    have e : Lib.itoa 0 = [48] := by simp [Lib.itoa, decDigits]
    rw [e]
    go_enter Tryz.func117, Tryz.ntmps117
    go_wp2
    go_ret
    exact ⟨rfl, Below.refl _ _⟩
  · have HI := Lib.hid (And.intro hi0 (And.intro hz0 (And.intro hz1 hz2)))
    have b0 : (n == 0) = false := by simpa using hn
    have HS := Lib.hid (show decZ n.natAbs = decDigits n.natAbs by unfold decZ; rw [if_neg (by omega)])
    have HZ := Lib.hid (decZ_len n.natAbs (by omega))
    clear hi0 hz0 hz1 hz2
    go_enter Tryz.func117, Tryz.ntmps117
    go_upto_block 0 with fail
    go_cut [3] (fun x wx => ∃ A c, x = .slice A (decZ n.natAbs).length c ∧ Hid (Reads wx wx.heap.size 1 A (decZ n.natAbs).length (bcells (decZ n.natAbs))) ∧ Hid (Below w.heap.size w wx))
    case first =>
      go_wp2_with fail
      go_loopw [3, 4, 5] (fun x3 x4 x5 wx => ∃ (m : Int) (A : Option Addr) (c : Nat) (l : List UInt8), m.natAbs ≤ 9223372036854775808 ∧ -9223372036854775808 ≤ m ∧ m ≤ 9223372036854775807 ∧ x4 = .int .i64 m ∧ x3 = .slice A l.length c ∧ Hid (Reads wx wx.heap.size 1 A l.length (bcells l)) ∧ Hid (Below w.heap.size w wx) ∧ Hid (decZ m.natAbs ++ l = decZ n.natAbs)) (fun _ x4 _ _ => (inOf x4).natAbs)
      case atStart => exact ⟨n, none, 0, [], by omega, h0, h1, rfl, rfl, Reads.none_, Below.refl _ _, by simp [Hid]⟩
      case round =>
        obtain ⟨m, A, c, l, hm9, hm0, hm1, rfl, rfl, HR, HB, HL⟩ := hrel
        by_cases hm : m = 0
        · subst hm
          have hl : l = decZ n.natAbs := by have := HL.out; simpa [decZ] using this
          subst hl
          clear HL
          go_wp2_with fail
          go_meet
          exact ⟨A, c, rfl, HR, HB⟩
        · have c0 : (m == 0) = false := by simpa using hm
          have c1 : (m != 0) = true := by simpa using hm
          have HLL : l.length ≤ 19 := by
            have := congrArg List.length HL.out
            rw [List.length_append] at this
            have := HZ.out
            omega
          have hstep := decZ_step m.natAbs (by omega)
          have HL2 : Hid (decZ (Int.tdiv m 10).natAbs ++ (UInt8.ofNat (48 + m.natAbs % 10) :: l) = decZ n.natAbs) := by
            show _ = _
            rw [← HL.out, hstep, show (Int.tdiv m 10).natAbs = m.natAbs / 10 by rw [Int.natAbs_tdiv]; rfl]
            simp
          clear HL hstep
          have hk : m.natAbs % 10 < 10 := Nat.mod_lt _ (by decide)
          have HKV := Lib.hid (show ((UInt8.ofNat (48 + m.natAbs % 10)).toNat : Int) = 48 + (m.natAbs % 10 : Nat) by rw [toNat_digit _ hk]; omega)
          have hta : (Int.tdiv m 10).natAbs = m.natAbs / 10 := by rw [Int.natAbs_tdiv]; rfl
          have HT := Lib.hid (show (Int.tdiv m 10).natAbs ≤ 9223372036854775808 ∧ -9223372036854775808 ≤ Int.tdiv m 10 ∧ Int.tdiv m 10 ≤ 9223372036854775807 by omega)
          have HM := Lib.hid (show (Int.tdiv m 10).natAbs < m.natAbs by omega)
          clear hta
          by_cases hneg : m < 0 ∧ 0 < m.natAbs % 10
          · obtain ⟨hneg, hk0⟩ := hneg
            have hr : Int.tmod m 10 = -((m.natAbs % 10 : Nat) : Int) := by
              rw [show m = -(m.natAbs : Int) by omega, Int.neg_tmod, Int.tmod_eq_emod_of_nonneg (by omega)]
              omega
            generalize m.natAbs % 10 = k at *
            have c2 : decide (-(k : Int) < 0) = true := by simp; omega
            have c3 : decide (0 < k) = true := by simp; omega
            have HQ := Lib.hid ((HR.out.alloc (Nat.le_refl _) (.cells #[.int .u8 (48 + (k : Int))] 5)).more (B' := wr.heap.size + 1) (by omega))
            go_wp2_with (at_builtin; refine wpList_append_any _ rfl (.tmp 22) (.tmp 23) _ rfl w.heap.size 5 i0 (.int .u8 0) 1 1 Tryz.underlying56 HI.out.1 HI.out.2.1 HI.out.2.2.1 HI.out.2.2.2 rfl (by decide) (.slice (some ⟨wr.heap.size, 0, none⟩) 1 1) 1 [.int .u8 (48 + (k : Int))] rfl (World.ownsRow_lit wr #[.int .u8 (48 + (k : Int))] 1 HB.out.size (by unfold maxLen; omega) rfl) (wr.heap.size + 1) A l.length c (bcells l) rfl HQ.out (bcells_one l) (by unfold maxLen; omega) (by omega) (Nat.le_trans HB.out.size (by simp)) ?_; intro v' w2 hown hgr _)
            obtain ⟨g, cap, rfl⟩ : ∃ A' c', v' = .slice A' (1 + l.length) c' := by
              rcases hown.2 with ⟨rfl, h9⟩ | ⟨g, cap, cur, rfl, _⟩
              · omega
              · exact ⟨_, _, rfl⟩
            have HR2 := Reads.of_own hown
            have HR3 : Hid (Reads w2 w2.heap.size 1 g (UInt8.ofNat (48 + k) :: l).length (bcells (UInt8.ofNat (48 + k) :: l))) := by
              show Reads _ _ _ _ _ _
              unfold bcells
              rw [List.map_cons, HKV.out, List.length_cons, Nat.add_comm l.length 1]
              exact HR2
            have HBx := Lib.hid ((HB.out.alloc HB.out.size (.cells #[.int .u8 (48 + (k : Int))] 5)).grown hgr (Nat.le_trans HB.out.size (by simp)) (fun g h => by injection h with h; rw [← h]; exact HB.out.size))
            go_roundw
            case rel => exact ⟨Int.tdiv m 10, g, cap, UInt8.ofNat (48 + k) :: l, HT.out.1, HT.out.2.1, HT.out.2.2, by first | trivial | go_num, by rw [List.length_cons, Nat.add_comm], HR3, HBx, HL2⟩
            case measure =>
              show (Int.tdiv m 10).natAbs < m.natAbs
              exact HM.out
          · have hr : Int.tmod m 10 = ((m.natAbs % 10 : Nat) : Int) := by
              rcases Int.lt_or_le m 0 with h | h
              · rw [show m = -(m.natAbs : Int) by omega, Int.neg_tmod, Int.tmod_eq_emod_of_nonneg (by omega)]
                omega
              · rw [Int.tmod_eq_emod_of_nonneg (by omega)]
                omega
            clear hneg
            generalize m.natAbs % 10 = k at *
            have c2 : decide ((k : Int) < 0) = false := by simp
            have HQ := Lib.hid ((HR.out.alloc (Nat.le_refl _) (.cells #[.int .u8 (48 + (k : Int))] 5)).more (B' := wr.heap.size + 1) (by omega))
            go_wp2_with (at_builtin; refine wpList_append_any _ rfl (.tmp 22) (.tmp 23) _ rfl w.heap.size 5 i0 (.int .u8 0) 1 1 Tryz.underlying56 HI.out.1 HI.out.2.1 HI.out.2.2.1 HI.out.2.2.2 rfl (by decide) (.slice (some ⟨wr.heap.size, 0, none⟩) 1 1) 1 [.int .u8 (48 + (k : Int))] rfl (World.ownsRow_lit wr #[.int .u8 (48 + (k : Int))] 1 HB.out.size (by unfold maxLen; omega) rfl) (wr.heap.size + 1) A l.length c (bcells l) rfl HQ.out (bcells_one l) (by unfold maxLen; omega) (by omega) (Nat.le_trans HB.out.size (by simp)) ?_; intro v' w2 hown hgr _)
            obtain ⟨g, cap, rfl⟩ : ∃ A' c', v' = .slice A' (1 + l.length) c' := by
              rcases hown.2 with ⟨rfl, h9⟩ | ⟨g, cap, cur, rfl, _⟩
              · omega
              · exact ⟨_, _, rfl⟩
            have HR2 := Reads.of_own hown
            have HR3 : Hid (Reads w2 w2.heap.size 1 g (UInt8.ofNat (48 + k) :: l).length (bcells (UInt8.ofNat (48 + k) :: l))) := by
              show Reads _ _ _ _ _ _
              unfold bcells
              rw [List.map_cons, HKV.out, List.length_cons, Nat.add_comm l.length 1]
              exact HR2
            have HBx := Lib.hid ((HB.out.alloc HB.out.size (.cells #[.int .u8 (48 + (k : Int))] 5)).grown hgr (Nat.le_trans HB.out.size (by simp)) (fun g h => by injection h with h; rw [← h]; exact HB.out.size))
            go_roundw
            case rel => exact ⟨Int.tdiv m 10, g, cap, UInt8.ofNat (48 + k) :: l, HT.out.1, HT.out.2.1, HT.out.2.2, by first | trivial | go_num, by rw [List.length_cons, Nat.add_comm], HR3, HBx, HL2⟩
            case measure =>
              show (Int.tdiv m 10).natAbs < m.natAbs
              exact HM.out
    case rest =>
      obtain ⟨A, c, rfl, HR, HB⟩ := hcut
      have hlen : 0 < (decZ n.natAbs).length := by rw [HS.out]; have := Lib.nDigits_pos n.natAbs; rw [decDigits_length]; omega
      have hconv := bytes_back _ _ A c (decZ n.natAbs) HR.out hlen
      have hl19 := HZ.out
      by_cases hneg : n < 0
      · have HE := Lib.hid (show Lib.itoa n = 45 :: decZ n.natAbs by rw [HS.out]; unfold Lib.itoa; rw [if_pos hneg])
        generalize decZ n.natAbs = d at *
        clear HZ HS HI
        go_wp2_with fail
        go_ret
        refine ⟨?_, HB.out⟩
        rw [HE.out]
        show Ending.returned (.string _) = _
        congr 2
      · have HE := Lib.hid (show Lib.itoa n = decZ n.natAbs by rw [HS.out]; unfold Lib.itoa; rw [if_neg hneg]; congr 1; omega)
        generalize decZ n.natAbs = d at *
        clear HZ HS HI
        go_wp2_with fail
        go_ret
        exact ⟨by rw [HE.out]; rfl, HB.out⟩
end Nm
end Go.Proofs.YtgjnmfjiolpikaaGreatDoor
