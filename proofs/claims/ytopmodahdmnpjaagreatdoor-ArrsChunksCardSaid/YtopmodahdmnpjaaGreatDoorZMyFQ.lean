/- ostlerref07.Find: the place of a key among items: the walk. -/
import Derived.Test.YtopmodahdmnpjaaGreatDoorZNmPQ
import Derived.Test.YtopmodahdmnpjaaGreatDoorZDpBlQ
import Derived.Still
import Derived.StillTactics
import Derived.StillTail
import Derived.BigQuiet
import Derived.Lib.Hide
import Derived.Deep.CutBlock
import Derived.Deep.CutRange
import Derived.Deep.DeepCutAuto
import Derived.WalkKit
import Derived.Test.YtopmodahdmnpjaaGreatDoorZAppsQ
import Derived.Laws.IdiomStrings
import Derived.Laws.OwnMore
import Derived.OwnWalk
namespace Go.Proofs.YtopmodahdmnpjaaGreatDoor
open Go Go.RowKit
namespace Dp
theorem keysOf_get (l : List GI) (n j : Nat) (it : GI) (h : l[j]? = some it) (hn : j < n) : (keysOf l n)[j]? = some (GI.keyG it) := by
  unfold keysOf
  rw [List.getElem?_map, List.getElem?_take_of_lt hn, h]
  rfl
theorem keysOf_len (l : List GI) (n : Nat) (hn : n ≤ l.length) : (keysOf l n).length = n := by
  unfold keysOf
  rw [List.length_map, List.length_take]
  omega
theorem findK_drop (l : List GI) (n j : Nat) (it : GI) (h : l[j]? = some it) (hn : j < n) (k : Bool × Int × ByteArray) : findK ((keysOf l n).drop j) k (j : Int) = if GI.keyG it = k then (j : Int) else findK ((keysOf l n).drop (j + 1)) k ((j + 1 : Nat) : Int) := by
  obtain ⟨hj, e⟩ := List.getElem?_eq_some_iff.1 (keysOf_get l n j it h hn)
  rw [List.drop_eq_getElem_cons hj, e, findK]
  rfl
theorem toListInj {a b : ByteArray} (h : a.toList = b.toList) : a = b := by
  rw [ByteArray.toList_eq, ByteArray.toList_eq] at h
  exact ByteArray.ext (Array.toList_inj.mp h)
section
variable {w : World} {B : Nat}
set_option maxRecDepth 100000 in
set_option maxHeartbeats 4000000 in
theorem rfind_any (hBw : B ≤ w.heap.size) {l : List GI} {A : Option Addr} {b off : Nat} {C : Nat → Value} (hA : 0 < l.length → A = some ⟨b, off, none⟩ ∧ b < B) (hi : ∀ i it, l[i]? = some it → ItemAt w b (off + i * 7) it (C i)) (n c : Nat) (hn : n ≤ l.length) (hc : n ≤ c) (h64 : l.length ≤ 9223372036854775807) (kb : Bool) (ki : Int) (ks : ByteArray) (w' : World) (hb : Below B w w') :
    Calls Tryz.prog 82 #[.slice A n c, .agg #[.bool kb, .int .i64 ki, .string ks]] w' fun e w'' => e = .returned (.int .i64 (findK (keysOf l n) (kb, ki, ks) 0)) ∧ Below w'.heap.size w' w'' := by
  have hB' : B ≤ w'.heap.size := Nat.le_trans hBw hb.size
  have HA := Lib.hid hA
  have HI := Lib.hid hi
  have Hb := Lib.hid hb
  have HB0 := Lib.hid ((Below.refl w'.heap.size w').alloc (Nat.le_refl _) (.cells #[.bool kb, .int .i64 ki, .string ks] 32))
  have HX0 := Lib.hid (Blk.new w' 32 #[.bool kb, .int .i64 ki, .string ks])
  obtain ⟨M, HM⟩ : ∃ z, Hid (findK (keysOf l n) (kb, ki, ks) 0 = z) := ⟨_, rfl⟩
  have HM0 : Hid (M = findK ((keysOf l n).drop 0) (kb, ki, ks) ((0 : Nat) : Int)) := by
    show _ = _
    rw [← HM.out]
    rfl
  have HE := Lib.hid (show findK ((keysOf l n).drop n) (kb, ki, ks) (n : Int) = -1 by rw [List.drop_eq_nil_of_le (by rw [keysOf_len l n hn]; exact Nat.le_refl _), findK])
  have HD := Lib.hid (fun j it h hn => findK_drop l n j it h hn (kb, ki, ks))
  rw [HM.out]
  clear hA hi hb HM
  go_enter Tryz.func82, Tryz.ntmps82
  go_wp2_with fail
  go_loopw [5] (fun xi wx => ∃ (j : Nat), j ≤ n ∧ xi = .int .i64 j ∧ Hid (M = findK ((keysOf l n).drop j) (kb, ki, ks) (j : Int)) ∧ Hid (Below w'.heap.size w' wx) ∧ Hid (Blk wx w'.heap.size 32 #[.bool kb, .int .i64 ki, .string ks])) (fun xi _ => n - (ixOf xi).toNat)
  case atStart => exact ⟨0, Nat.zero_le _, rfl, HM0, HB0, HX0⟩
  case round =>
    obtain ⟨j, hj, rfl, HL, HB, HX⟩ := hrel
    clear HB0 HM0 HX0
    by_cases hlt : j < n
    · obtain ⟨it, hit⟩ : ∃ it, l[j]? = some it := ⟨_, List.getElem?_eq_getElem (by omega)⟩
      obtain ⟨rfl, hbB⟩ := HA.out (by omega)
      have hbw : Below B w wr := Hb.out.trans (HB.out.mono hB')
      have hwr := HB.out.size
      obtain ⟨c0, c1, c2, -⟩ := (HI.out j it hit).below hbw hbB
      have b0 := HX.out.cell 0
      have b1 := HX.out.cell 1
      have b2 := HX.out.cell 2
      have HL2 := Lib.hid (HL.out.trans (HD.out j it hit hlt))
      have HK := Lib.hid (keyG_eq it)
      clear HL HI HA HD HE hbw
      by_cases hk : GI.keyG it = (kb, ki, ks)
      · have hM : M = (j : Int) := HL2.out.trans (if_pos hk)
        subst hM
        have hk2 := HK.out.symm.trans hk
        obtain ⟨h1, h23⟩ := Prod.mk.inj hk2
        obtain ⟨h2, h3⟩ := Prod.mk.inj h23
        rw [h1] at c0
        rw [h2] at c1
        rw [h3] at c2
        clear HL2 HK hk hk2 h1 h23 h2 h3
        go_wp2_with fail
        go_quiet (fail)
        go_wp2_with fail
        go_ret
        exact ⟨rfl, drewN' HB.out _⟩
      · have HL3 := Lib.hid (HL2.out.trans (if_neg hk))
        have HB3 := Lib.hid (fun k => drewN' HB.out k)
        have HX3 := Lib.hid (fun k => blk_below HX.out (drewN' (Below.refl _ _) k))
        by_cases h1 : it.isText = kb
        · rw [h1] at c0
          by_cases h2 : it.int = ki
          · rw [h2] at c1
            have h3 : it.text ≠ ks := fun h3 => hk (HK.out.trans (by rw [h1, h2, h3]))
            have b3 : (it.text.toList == ks.toList) = false := by
              simp only [beq_eq_false_iff_ne, ne_eq]
              exact fun h => h3 (toListInj h)
            clear h1 h2 h3 hk HL2 HK
            go_wp2_with fail
            go_quiet (fail)
            go_wp2_with fail
            go_roundw
            case rel => exact ⟨j + 1, by omega, by go_num, HL3, HB3.out _, HX3.out _⟩
            case measure => simp [ixOf] <;> omega
          · have b3 : (it.int == ki) = false := by simpa using h2
            clear h1 h2 hk HL2 HK
            go_wp2_with fail
            go_quiet (fail)
            go_wp2_with fail
            go_roundw
            case rel => exact ⟨j + 1, by omega, by go_num, HL3, HB3.out _, HX3.out _⟩
            case measure => simp [ixOf] <;> omega
        · have b3 : (it.isText == kb) = false := by simpa using h1
          clear h1 hk HL2 HK
          go_wp2_with fail
          go_quiet (fail)
          go_wp2_with fail
          go_roundw
          case rel => exact ⟨j + 1, by omega, by go_num, HL3, HB3.out _, HX3.out _⟩
          case measure => simp [ixOf] <;> omega
    · obtain rfl : j = n := by omega
      have hM : M = -1 := HL.out.trans HE.out
      subst hM
      clear HI HA HD
      go_wp2_with fail
      go_ret
      exact ⟨rfl, HB.out⟩
end
end Dp
end Go.Proofs.YtopmodahdmnpjaaGreatDoor
/- The document's reading of a number: the walks of blank, digit, begin, Numeric. -/
namespace Go.Proofs.YtopmodahdmnpjaaGreatDoor
open Go Go.RowKit
namespace Nm
theorem rblank_any (c : UInt8) (w : World) : Calls Tryz.prog 231 #[.int .u8 (c.toNat : Int)] w fun e w' => e = .returned (.bool (blankB c)) ∧ w = w' := by
  have hc := c.toNat_lt
  have h32 : ((c.toNat : Int) == 32) = (c.toNat == 32) := by rw [Bool.eq_iff_iff]; simp only [beq_iff_eq]; omega
  have h9 : decide ((9 : Int) ≤ (c.toNat : Int)) = decide (9 ≤ c.toNat) := by simp; omega
  have h13 : decide ((c.toNat : Int) ≤ 13) = decide (c.toNat ≤ 13) := by simp; omega
  unfold blankB
  revert h32 h9 h13
  generalize (c.toNat == 32) = b1
  generalize decide (9 ≤ c.toNat) = b2
  generalize decide (c.toNat ≤ 13) = b3
  intro h32 h9 h13
  cases b1 <;> cases b2 <;> cases b3 <;>
  · go_enter Tryz.func231, Tryz.ntmps231
    go_wp2
    go_ret
    exact ⟨rfl, rfl⟩
theorem rdigit_any (c : UInt8) (w : World) : Calls Tryz.prog 232 #[.int .u8 (c.toNat : Int)] w fun e w' => e = .returned (.bool (digitB c)) ∧ w = w' := by
  have hc := c.toNat_lt
  have h9 : decide ((48 : Int) ≤ (c.toNat : Int)) = decide (48 ≤ c.toNat) := by simp; omega
  have h13 : decide ((c.toNat : Int) ≤ 57) = decide (c.toNat ≤ 57) := by simp; omega
  unfold digitB
  revert h9 h13
  generalize decide (48 ≤ c.toNat) = b2
  generalize decide (c.toNat ≤ 57) = b3
  intro h9 h13
  cases b2 <;> cases b3 <;>
  · go_enter Tryz.func232, Tryz.ntmps232
    go_wp2
    go_ret
    exact ⟨rfl, rfl⟩
theorem dropc (s : ByteArray) (i : Nat) (h : i < s.size) : s.data.toList.drop i = s[i] :: s.data.toList.drop (i + 1) := by
  rw [List.drop_eq_getElem_cons (by simpa using h)]
  simp
  rfl
theorem skipB_cons (c : UInt8) (r : List UInt8) : skipB (c :: r) = if blankB c then skipB r else c :: r := by
  unfold skipB
  rw [List.dropWhile_cons]
theorem skipD_cons (c : UInt8) (r : List UInt8) : skipD (c :: r) = if digitB c then skipD r else c :: r := by
  unfold skipD
  rw [List.dropWhile_cons]
theorem wrap64_of (n : Int) (h0 : -9223372036854775808 ≤ n) (h1 : n ≤ 9223372036854775807) : wrap64 n = n := by
  unfold wrap64
  omega
def ixN : Value → Nat
  | .int _ q => q.toNat
  | _ => 0
def beginT (s : ByteArray) : Value := match beginL s.data.toList with
    | some (n, r) => .tuple #[.int .i64 n, .int .i64 ((s.size : Int) - (r.length : Int)), .bool true]
    | none => .tuple #[.int .i64 0, .int .i64 0, .bool false]
set_option maxRecDepth 100000 in
set_option maxHeartbeats 4000000 in
theorem begin_any (s : ByteArray) (hs : s.size ≤ 9223372036854775807) (w : World) : Calls Tryz.prog 190 #[.string s] w fun e w' => e = .returned (beginT s) ∧ w = w' := by
  have hlen : s.data.toList.length = s.size := by simp
  go_enter Tryz.func190, Tryz.ntmps190
  go_upto_block 0 with fail
  go_cut [5] (fun x wx => ∃ j : Nat, j ≤ s.size ∧ x = .int .i64 j ∧ w = wx ∧ Hid (s.data.toList.drop j = skipB s.data.toList))
  case first =>
    go_wp2_with fail
    go_loopw [5] (fun xi wx => ∃ j : Nat, j ≤ s.size ∧ xi = .int .i64 j ∧ w = wx ∧ Hid (skipB (s.data.toList.drop j) = skipB s.data.toList)) (fun xi _ => s.size - ixN xi)
    case atStart => exact ⟨0, Nat.zero_le _, rfl, rfl, by simp [Hid]⟩
    case round =>
      obtain ⟨j, hj, rfl, rfl, HL⟩ := hrel
      by_cases hlt : j < s.size
      · have hlt' : (j : Int) < (s.size : Int) := by omega
        have HD := Lib.hid (dropc s j hlt)
        have HC := Lib.hid (fun w => rblank_any s[j] w)
        cases hb : blankB s[j] with
        | true =>
          rw [hb] at HC
          have HL2 : Hid (skipB (s.data.toList.drop (j + 1)) = skipB s.data.toList) := by
            show _ = _
            rw [← HL.out, HD.out, skipB_cons, hb]; rfl
          clear hlen hb HL HD
          go_wp2_with (go_at_call 231; refine (HC.out _).mono ?_; rintro e w1 ⟨rfl, rfl⟩)
          go_roundw
          case rel => exact ⟨j + 1, by omega, by go_num, by trivial, HL2⟩
          case measure => simp [ixN] <;> omega
        | false =>
          rw [hb] at HC
          have HL2 : Hid (s.data.toList.drop j = skipB s.data.toList) := by
            show _ = _
            rw [← HL.out, HD.out, skipB_cons, hb]; rfl
          clear hlen hb HL HD
          go_wp2_with (go_at_call 231; refine (HC.out _).mono ?_; rintro e w1 ⟨rfl, rfl⟩)
          go_meet
          exact ⟨j, by omega, by trivial, by trivial, HL2⟩
      · obtain rfl : j = s.size := by omega
        have HL2 : Hid (s.data.toList.drop s.size = skipB s.data.toList) := by
          show _ = _
          rw [← HL.out, List.drop_eq_nil_of_le (by omega)]; rfl
        clear hlen HL
        go_wp2_with fail
        go_meet
        exact ⟨s.size, by omega, by trivial, by trivial, HL2⟩
  case rest =>
    obtain ⟨j, hj, rfl, rfl, HJ⟩ := hcut
    by_cases hlt : j < s.size
    · have HD := Lib.hid (dropc s j hlt)
      have HT : j + 1 ≤ s.size := hlt
      have hlt' : (j : Int) < (s.size : Int) := by omega
      have hz : decide ((s.size : Int) = (j : Int)) = false := by simp; omega
      have hM : minusB (skipB s.data.toList) = (((s[j]).toNat : Int) == 45) := by rw [← HJ.out, HD.out]; unfold minusB; rw [Bool.eq_iff_iff]; simp only [beq_iff_eq]; omega
      have HM := Lib.hid hM
      have hc256 := (s[j]).toNat_lt
      clear hlen hM
      go_upto_region 5 with fail
      go_cut [46] (fun x wx => x = .bool (signB s[j]) ∧ w = wx)
      case first =>
        clear HD HM
        by_cases h45 : s[j].toNat = 45
        · have e1 : ((s[j].toNat : Int) == 45) = true := by rw [h45]; rfl
          have hS : signB s[j] = true := by unfold signB; rw [h45]; rfl
          have HS0 := Lib.hid hS
          clear hS h45
          go_wp2_with fail
          go_meet
          exact ⟨congrArg Value.bool HS0.out.symm, by trivial⟩
        · have e1 : ((s[j].toNat : Int) == 45) = false := by simp only [beq_eq_false_iff_ne]; omega
          by_cases h43 : s[j].toNat = 43
          · have e2 : ((s[j].toNat : Int) == 43) = true := by rw [h43]; rfl
            have hS : signB s[j] = true := by unfold signB; rw [h43]; rfl
            have HS0 := Lib.hid hS
            clear hS h43 h45
            go_wp2_with fail
            go_meet
            exact ⟨congrArg Value.bool HS0.out.symm, by trivial⟩
          · have e2 : ((s[j].toNat : Int) == 43) = false := by simp only [beq_eq_false_iff_ne]; omega
            have hS : signB s[j] = false := by unfold signB; simp; omega
            have HS0 := Lib.hid hS
            clear hS h43 h45
            go_wp2_with fail
            go_meet
            exact ⟨congrArg Value.bool HS0.out.symm, by trivial⟩
      case rest =>
      obtain ⟨rfl, rfl⟩ := hcut
      have HS : Hid (signed1 (skipB s.data.toList) = if signB s[j] then s.data.toList.drop (j + 1) else s.data.toList.drop j) := by
        show _ = _
        rw [← HJ.out, HD.out]
        rfl
      generalize (((s[j]).toNat : Int) == 45) = m at *
      go_upto_if 46 with fail
      go_cut [5] (fun x wx => ∃ i : Nat, i ≤ s.size ∧ x = .int .i64 i ∧ w = wx ∧ Hid (s.data.toList.drop i = signed1 (skipB s.data.toList)))
      case first =>
        clear HD HM
        generalize signB s[j] = sb at *
        cases sb with
        | true =>
          have HS2 := Lib.hid (HS.out.trans (if_pos rfl))
          clear HS
          go_wp2_with fail
          go_meet
          exact ⟨j + 1, HT, by go_num, by trivial, HS2.out.symm⟩
        | false =>
          have HS2 := Lib.hid (HS.out.trans (if_neg (by decide)))
          clear HS
          go_wp2_with fail
          go_meet
          exact ⟨j, by omega, by trivial, by trivial, HS2.out.symm⟩
      case rest =>
        obtain ⟨i, hi, rfl, rfl, HI⟩ := hcut
        clear HD HJ hlt hlt' hz hc256 hj HS HT
        by_cases hdg : ∃ hq : i < s.size, digitB s[i] = true
        · obtain ⟨hq, hdg⟩ := hdg
          have hq' : (i : Int) < (s.size : Int) := by omega
          have hz : ((i : Int) == (s.size : Int)) = false := by simp only [beq_eq_false_iff_ne]; omega
          have HD := Lib.hid (dropc s i hq)
          have HB : Hid (beginT s = .tuple #[.int .i64 (satF m 0 (s.data.toList.drop i)), .int .i64 ((s.size : Int) - ((skipB (skipD (s.data.toList.drop i))).length : Int)), .bool true]) := by
            show _ = _
            have hh : headD (signed1 (skipB s.data.toList)) = true := by rw [← HI.out, HD.out]; exact hdg
            unfold beginT beginL
            rw [if_pos hh, HM.out, ← HI.out]
          have HC := Lib.hid (fun w => rdigit_any s[i] w)
          rw [hdg] at HC
          clear HI HM hdg
          obtain ⟨N, HN⟩ : ∃ N, Hid (satF m 0 (s.data.toList.drop i) = N) := ⟨_, rfl⟩
          rw [HN.out] at HB
          go_upto_block 2 with (go_at_call 232; refine (HC.out _).mono ?_; rintro e w1 ⟨rfl, rfl⟩)
          go_cut [5, 7] (fun x y wx => ∃ k : Nat, k ≤ s.size ∧ x = .int .i64 k ∧ y = .int .i64 N ∧ w = wx ∧ Hid (s.data.toList.drop k = skipD (s.data.toList.drop i)))
          case first =>
            go_wp2_with fail
            go_loopw [5, 7, 8] (fun xi xn xd wx => ∃ (k : Nat) (n : Int), k ≤ s.size ∧ xi = .int .i64 k ∧ xn = .int .i64 n ∧ w = wx ∧ Hid (satF m n (s.data.toList.drop k) = N) ∧ Hid (skipD (s.data.toList.drop k) = skipD (s.data.toList.drop i)) ∧ Hid (if m then -9223372036854775808 ≤ n ∧ n ≤ 0 else 0 ≤ n ∧ n ≤ 9223372036854775807)) (fun xi _ _ _ => s.size - ixN xi)
            case atStart => exact ⟨i, 0, hi, rfl, rfl, rfl, HN, rfl, by show ite _ _ _; split <;> omega⟩
            case round =>
              obtain ⟨k, n, hk, rfl, rfl, rfl, HF, HK, HBd⟩ := hrel
              clear HC HD hz HN HB
              by_cases hlt : k < s.size
              · have hlt' : (k : Int) < (s.size : Int) := by omega
                have HD := Lib.hid (dropc s k hlt)
                have HC := Lib.hid (fun w => rdigit_any s[k] w)
                cases hb : digitB s[k] with
                | true =>
                  rw [hb] at HC
                  have hd : 48 ≤ s[k].toNat ∧ s[k].toNat ≤ 57 := by simpa [digitB] using hb
                  have HK2 : Hid (skipD (s.data.toList.drop (k + 1)) = skipD (s.data.toList.drop i)) := by
                    show _ = _
                    rw [← HK.out, HD.out, skipD_cons, hb]; rfl
                  have HF2 : Hid ((if endB (satStep m n (s[k].toNat - 48)) then satStep m n (s[k].toNat - 48) else satF m (satStep m n (s[k].toNat - 48)) (s.data.toList.drop (k + 1))) = N) := by
                    show _ = _
                    rw [← HF.out, HD.out, satF, hb]; rfl
                  have HB2 := Lib.hid (satStep_bounds m n ((s[k].toNat : Int) - 48) (by omega) (by omega) HBd.out)
                  clear hb HF HK HD
                  cases m with
                  | false =>
                    have hbd : 0 ≤ n ∧ n ≤ 9223372036854775807 := by simpa using (show (if false = true then _ else _) from HBd.out)
                    by_cases hov : (9223372036854775807 - ((s[k].toNat : Int) - 48)) / 10 < n
                    · have hst : satStep false n ((s[k].toNat : Int) - 48) = 9223372036854775807 := by unfold satStep; simp only [Bool.false_eq_true, if_false]; rw [Int.tdiv_eq_ediv_of_nonneg (by omega), if_pos (by omega)]
                      have hen : endB (9223372036854775807) = true := by decide
                      have hN : 9223372036854775807 = N := by
                        have h9 := HF2.out
                        rw [hst, if_pos hen] at h9
                        exact h9
                      have HBN : Hid (if false then -9223372036854775808 ≤ N ∧ N ≤ 0 else 0 ≤ N ∧ N ≤ 9223372036854775807) := by
                        have h9 := HB2.out
                        rw [hst] at h9
                        rw [← hN]
                        exact h9
                      have HNN : Hid (Value.int .i64 (9223372036854775807) = Value.int .i64 N) := by show _ = _; rw [← hN]
                      clear hst hN hen
                      clear HBd hbd
                      clear HF2 HB2
                      go_wp2_with (go_at_call 232; refine (HC.out _).mono ?_; rintro e w1 ⟨rfl, rfl⟩)
                      go_loopw [5] (fun xi wx => ∃ q : Nat, k + 1 ≤ q ∧ q ≤ s.size ∧ xi = .int .i64 q ∧ w = wx ∧ Hid (skipD (s.data.toList.drop q) = skipD (s.data.toList.drop i))) (fun xi _ => s.size - ixN xi)
                      case atStart => exact ⟨k + 1, by omega, by omega, by go_num, by trivial, HK2⟩
                      case round =>
                        obtain ⟨q, hkq, hq9, rfl, rfl, HL⟩ := hrel
                        clear HK2 HC
                        by_cases hlt : q < s.size
                        · have hlt' : (q : Int) < (s.size : Int) := by omega
                          have HD := Lib.hid (dropc s q hlt)
                          have HC := Lib.hid (fun w => rdigit_any s[q] w)
                          cases hb : digitB s[q] with
                          | true =>
                            rw [hb] at HC
                            have HL2 : Hid (skipD (s.data.toList.drop (q + 1)) = skipD (s.data.toList.drop i)) := by
                              show _ = _
                              rw [← HL.out, HD.out, skipD_cons, hb]; rfl
                            clear hb HL HD
                            go_wp2_with (go_at_call 232; refine (HC.out _).mono ?_; rintro e w1 ⟨rfl, rfl⟩)
                            go_roundw
                            case rel => exact ⟨q + 1, by omega, by omega, by go_num, by trivial, HL2⟩
                            case measure => simp [ixN] <;> omega
                          | false =>
                            rw [hb] at HC
                            have HG : Hid (satF false N (s.data.toList.drop q) = N) := by
                              show _ = _
                              rw [HD.out, satF, hb]; rfl
                            clear hb HD
                            go_wp2_with (go_at_call 232; refine (HC.out _).mono ?_; rintro e w1 ⟨rfl, rfl⟩)
                            go_roundw
                            case rel => exact ⟨q, N, by omega, by trivial, HNN, by trivial, HG, HL, HBN⟩
                            case measure => simp [ixN] <;> omega
                        · obtain rfl : q = s.size := by omega
                          have HG : Hid (satF false N (s.data.toList.drop s.size) = N) := by
                            show _ = _
                            rw [List.drop_eq_nil_of_le (by simp), satF]
                          go_wp2_with fail
                          go_roundw
                          case rel => exact ⟨s.size, N, by omega, by trivial, HNN, by trivial, HG, HL, HBN⟩
                          case measure => simp [ixN] <;> omega
                    · have hov' : n ≤ (9223372036854775807 - ((s[k].toNat : Int) - 48)) / 10 := by omega
                      have hw : wrap64 (wrap64 (n * 10) + ((s[k].toNat : Int) - 48)) = n * 10 + ((s[k].toNat : Int) - 48) := by rw [wrap64_of (n * 10) (by omega) (by omega), wrap64_of _ (by omega) (by omega)]
                      have e1 : ((n * 10 + ((s[k].toNat : Int) - 48) : Int) == -9223372036854775808) = false := by simp only [beq_eq_false_iff_ne]; omega
                      by_cases hm : n * 10 + ((s[k].toNat : Int) - 48) = 9223372036854775807
                      · have e2 : ((n * 10 + ((s[k].toNat : Int) - 48) : Int) == 9223372036854775807) = true := by simpa using hm
                        have hst : satStep false n ((s[k].toNat : Int) - 48) = n * 10 + ((s[k].toNat : Int) - 48) := by unfold satStep; simp only [Bool.false_eq_true, if_false]; rw [Int.tdiv_eq_ediv_of_nonneg (by omega), if_neg (by omega)]
                        have hen : endB (n * 10 + ((s[k].toNat : Int) - 48)) = true := by unfold endB; rw [e1, e2]; rfl
                        have hN : n * 10 + ((s[k].toNat : Int) - 48) = N := by
                          have h9 := HF2.out
                          rw [hst, if_pos hen] at h9
                          exact h9
                        have HBN : Hid (if false then -9223372036854775808 ≤ N ∧ N ≤ 0 else 0 ≤ N ∧ N ≤ 9223372036854775807) := by
                          have h9 := HB2.out
                          rw [hst] at h9
                          rw [← hN]
                          exact h9
                        have HNN : Hid (Value.int .i64 (9223372036854775807) = Value.int .i64 N) := by show _ = _; rw [← hN]; rw [hm]
                        clear hst hN hen
                        clear HBd hbd
                        clear HF2 HB2
                        go_wp2_with (go_at_call 232; refine (HC.out _).mono ?_; rintro e w1 ⟨rfl, rfl⟩)
                        go_loopw [5] (fun xi wx => ∃ q : Nat, k + 1 ≤ q ∧ q ≤ s.size ∧ xi = .int .i64 q ∧ w = wx ∧ Hid (skipD (s.data.toList.drop q) = skipD (s.data.toList.drop i))) (fun xi _ => s.size - ixN xi)
                        case atStart => exact ⟨k + 1, by omega, by omega, by go_num, by trivial, HK2⟩
                        case round =>
                          obtain ⟨q, hkq, hq9, rfl, rfl, HL⟩ := hrel
                          clear HK2 HC
                          by_cases hlt : q < s.size
                          · have hlt' : (q : Int) < (s.size : Int) := by omega
                            have HD := Lib.hid (dropc s q hlt)
                            have HC := Lib.hid (fun w => rdigit_any s[q] w)
                            cases hb : digitB s[q] with
                            | true =>
                              rw [hb] at HC
                              have HL2 : Hid (skipD (s.data.toList.drop (q + 1)) = skipD (s.data.toList.drop i)) := by
                                show _ = _
                                rw [← HL.out, HD.out, skipD_cons, hb]; rfl
                              clear hb HL HD
                              go_wp2_with (go_at_call 232; refine (HC.out _).mono ?_; rintro e w1 ⟨rfl, rfl⟩)
                              go_roundw
                              case rel => exact ⟨q + 1, by omega, by omega, by go_num, by trivial, HL2⟩
                              case measure => simp [ixN] <;> omega
                            | false =>
                              rw [hb] at HC
                              have HG : Hid (satF false N (s.data.toList.drop q) = N) := by
                                show _ = _
                                rw [HD.out, satF, hb]; rfl
                              clear hb HD
                              go_wp2_with (go_at_call 232; refine (HC.out _).mono ?_; rintro e w1 ⟨rfl, rfl⟩)
                              go_roundw
                              case rel => exact ⟨q, N, by omega, by trivial, HNN, by trivial, HG, HL, HBN⟩
                              case measure => simp [ixN] <;> omega
                          · obtain rfl : q = s.size := by omega
                            have HG : Hid (satF false N (s.data.toList.drop s.size) = N) := by
                              show _ = _
                              rw [List.drop_eq_nil_of_le (by simp), satF]
                            go_wp2_with fail
                            go_roundw
                            case rel => exact ⟨s.size, N, by omega, by trivial, HNN, by trivial, HG, HL, HBN⟩
                            case measure => simp [ixN] <;> omega
                      · have e2 : ((n * 10 + ((s[k].toNat : Int) - 48) : Int) == 9223372036854775807) = false := by simpa using hm
                        have hst : satStep false n ((s[k].toNat : Int) - 48) = n * 10 + ((s[k].toNat : Int) - 48) := by unfold satStep; simp only [Bool.false_eq_true, if_false]; rw [Int.tdiv_eq_ediv_of_nonneg (by omega), if_neg (by omega)]
                        have hen : endB (n * 10 + ((s[k].toNat : Int) - 48)) = false := by unfold endB; simp only [Bool.or_eq_false_iff, beq_eq_false_iff_ne]; omega
                        have HG : Hid (satF false (n * 10 + ((s[k].toNat : Int) - 48)) (s.data.toList.drop (k + 1)) = N) := by
                          show _ = _
                          have h9 := HF2.out
                          rw [hst, if_neg (by rw [hen]; decide)] at h9
                          exact h9
                        have HBN : Hid (if false then -9223372036854775808 ≤ n * 10 + ((s[k].toNat : Int) - 48) ∧ n * 10 + ((s[k].toNat : Int) - 48) ≤ 0 else 0 ≤ n * 10 + ((s[k].toNat : Int) - 48) ∧ n * 10 + ((s[k].toNat : Int) - 48) ≤ 9223372036854775807) := by
                          have h9 := HB2.out
                          rw [hst] at h9
                          exact h9
                        clear hst hen HF2 HB2
                        go_wp2_with (go_at_call 232; refine (HC.out _).mono ?_; rintro e w1 ⟨rfl, rfl⟩)
                        go_roundw
                        case rel => exact ⟨k + 1, n * 10 + ((s[k].toNat : Int) - 48), by omega, by go_num, by first | trivial | exact congrArg (Value.int .i64) hw, by trivial, HG, HK2, HBN⟩
                        case measure => simp [ixN] <;> omega
                  | true =>
                    have hbd : -9223372036854775808 ≤ n ∧ n ≤ 0 := by simpa using (show (if true = true then _ else _) from HBd.out)
                    have htd : Int.tdiv (-9223372036854775808 + ((s[k].toNat : Int) - 48)) 10 = -((9223372036854775808 - ((s[k].toNat : Int) - 48)) / 10) := by
                      rw [show (-9223372036854775808 + ((s[k].toNat : Int) - 48)) = -(9223372036854775808 - ((s[k].toNat : Int) - 48)) by omega, Int.neg_tdiv, Int.tdiv_eq_ediv_of_nonneg (by omega)]
                    by_cases hov : n < Int.tdiv (-9223372036854775808 + ((s[k].toNat : Int) - 48)) 10
                    · have hst : satStep true n ((s[k].toNat : Int) - 48) = -9223372036854775808 := by unfold satStep; simp only [if_true]; rw [if_pos (by omega)]
                      have hen : endB (-9223372036854775808) = true := by decide
                      have hN : -9223372036854775808 = N := by
                        have h9 := HF2.out
                        rw [hst, if_pos hen] at h9
                        exact h9
                      have HBN : Hid (if true then -9223372036854775808 ≤ N ∧ N ≤ 0 else 0 ≤ N ∧ N ≤ 9223372036854775807) := by
                        have h9 := HB2.out
                        rw [hst] at h9
                        rw [← hN]
                        exact h9
                      have HNN : Hid (Value.int .i64 (-9223372036854775808) = Value.int .i64 N) := by show _ = _; rw [← hN]
                      clear hst hN hen
                      clear HBd hbd htd
                      clear HF2 HB2
                      go_wp2_with (go_at_call 232; refine (HC.out _).mono ?_; rintro e w1 ⟨rfl, rfl⟩)
                      go_loopw [5] (fun xi wx => ∃ q : Nat, k + 1 ≤ q ∧ q ≤ s.size ∧ xi = .int .i64 q ∧ w = wx ∧ Hid (skipD (s.data.toList.drop q) = skipD (s.data.toList.drop i))) (fun xi _ => s.size - ixN xi)
                      case atStart => exact ⟨k + 1, by omega, by omega, by go_num, by trivial, HK2⟩
                      case round =>
                        obtain ⟨q, hkq, hq9, rfl, rfl, HL⟩ := hrel
                        clear HK2 HC
                        by_cases hlt : q < s.size
                        · have hlt' : (q : Int) < (s.size : Int) := by omega
                          have HD := Lib.hid (dropc s q hlt)
                          have HC := Lib.hid (fun w => rdigit_any s[q] w)
                          cases hb : digitB s[q] with
                          | true =>
                            rw [hb] at HC
                            have HL2 : Hid (skipD (s.data.toList.drop (q + 1)) = skipD (s.data.toList.drop i)) := by
                              show _ = _
                              rw [← HL.out, HD.out, skipD_cons, hb]; rfl
                            clear hb HL HD
                            go_wp2_with (go_at_call 232; refine (HC.out _).mono ?_; rintro e w1 ⟨rfl, rfl⟩)
                            go_roundw
                            case rel => exact ⟨q + 1, by omega, by omega, by go_num, by trivial, HL2⟩
                            case measure => simp [ixN] <;> omega
                          | false =>
                            rw [hb] at HC
                            have HG : Hid (satF true N (s.data.toList.drop q) = N) := by
                              show _ = _
                              rw [HD.out, satF, hb]; rfl
                            clear hb HD
                            go_wp2_with (go_at_call 232; refine (HC.out _).mono ?_; rintro e w1 ⟨rfl, rfl⟩)
                            go_roundw
                            case rel => exact ⟨q, N, by omega, by trivial, HNN, by trivial, HG, HL, HBN⟩
                            case measure => simp [ixN] <;> omega
                        · obtain rfl : q = s.size := by omega
                          have HG : Hid (satF true N (s.data.toList.drop s.size) = N) := by
                            show _ = _
                            rw [List.drop_eq_nil_of_le (by simp), satF]
                          go_wp2_with fail
                          go_roundw
                          case rel => exact ⟨s.size, N, by omega, by trivial, HNN, by trivial, HG, HL, HBN⟩
                          case measure => simp [ixN] <;> omega
                    · have hov' : Int.tdiv (-9223372036854775808 + ((s[k].toNat : Int) - 48)) 10 ≤ n := by omega
                      have hw : wrap64 (wrap64 (n * 10) - ((s[k].toNat : Int) - 48)) = n * 10 - ((s[k].toNat : Int) - 48) := by rw [wrap64_of (n * 10) (by omega) (by omega), wrap64_of _ (by omega) (by omega)]
                      have e1 : ((n * 10 - ((s[k].toNat : Int) - 48) : Int) == 9223372036854775807) = false := by simp only [beq_eq_false_iff_ne]; omega
                      by_cases hm : n * 10 - ((s[k].toNat : Int) - 48) = -9223372036854775808
                      · have e2 : ((n * 10 - ((s[k].toNat : Int) - 48) : Int) == -9223372036854775808) = true := by simpa using hm
                        have hst : satStep true n ((s[k].toNat : Int) - 48) = n * 10 - ((s[k].toNat : Int) - 48) := by unfold satStep; simp only [if_true]; rw [if_neg (by omega)]
                        have hen : endB (n * 10 - ((s[k].toNat : Int) - 48)) = true := by unfold endB; rw [e1, e2]; rfl
                        have hN : n * 10 - ((s[k].toNat : Int) - 48) = N := by
                          have h9 := HF2.out
                          rw [hst, if_pos hen] at h9
                          exact h9
                        have HBN : Hid (if true then -9223372036854775808 ≤ N ∧ N ≤ 0 else 0 ≤ N ∧ N ≤ 9223372036854775807) := by
                          have h9 := HB2.out
                          rw [hst] at h9
                          rw [← hN]
                          exact h9
                        have HNN : Hid (Value.int .i64 (-9223372036854775808) = Value.int .i64 N) := by show _ = _; rw [← hN]; rw [hm]
                        clear hst hN hen
                        clear HBd hbd htd
                        clear HF2 HB2
                        go_wp2_with (go_at_call 232; refine (HC.out _).mono ?_; rintro e w1 ⟨rfl, rfl⟩)
                        go_loopw [5] (fun xi wx => ∃ q : Nat, k + 1 ≤ q ∧ q ≤ s.size ∧ xi = .int .i64 q ∧ w = wx ∧ Hid (skipD (s.data.toList.drop q) = skipD (s.data.toList.drop i))) (fun xi _ => s.size - ixN xi)
                        case atStart => exact ⟨k + 1, by omega, by omega, by go_num, by trivial, HK2⟩
                        case round =>
                          obtain ⟨q, hkq, hq9, rfl, rfl, HL⟩ := hrel
                          clear HK2 HC
                          by_cases hlt : q < s.size
                          · have hlt' : (q : Int) < (s.size : Int) := by omega
                            have HD := Lib.hid (dropc s q hlt)
                            have HC := Lib.hid (fun w => rdigit_any s[q] w)
                            cases hb : digitB s[q] with
                            | true =>
                              rw [hb] at HC
                              have HL2 : Hid (skipD (s.data.toList.drop (q + 1)) = skipD (s.data.toList.drop i)) := by
                                show _ = _
                                rw [← HL.out, HD.out, skipD_cons, hb]; rfl
                              clear hb HL HD
                              go_wp2_with (go_at_call 232; refine (HC.out _).mono ?_; rintro e w1 ⟨rfl, rfl⟩)
                              go_roundw
                              case rel => exact ⟨q + 1, by omega, by omega, by go_num, by trivial, HL2⟩
                              case measure => simp [ixN] <;> omega
                            | false =>
                              rw [hb] at HC
                              have HG : Hid (satF true N (s.data.toList.drop q) = N) := by
                                show _ = _
                                rw [HD.out, satF, hb]; rfl
                              clear hb HD
                              go_wp2_with (go_at_call 232; refine (HC.out _).mono ?_; rintro e w1 ⟨rfl, rfl⟩)
                              go_roundw
                              case rel => exact ⟨q, N, by omega, by trivial, HNN, by trivial, HG, HL, HBN⟩
                              case measure => simp [ixN] <;> omega
                          · obtain rfl : q = s.size := by omega
                            have HG : Hid (satF true N (s.data.toList.drop s.size) = N) := by
                              show _ = _
                              rw [List.drop_eq_nil_of_le (by simp), satF]
                            go_wp2_with fail
                            go_roundw
                            case rel => exact ⟨s.size, N, by omega, by trivial, HNN, by trivial, HG, HL, HBN⟩
                            case measure => simp [ixN] <;> omega
                      · have e2 : ((n * 10 - ((s[k].toNat : Int) - 48) : Int) == -9223372036854775808) = false := by simpa using hm
                        have hst : satStep true n ((s[k].toNat : Int) - 48) = n * 10 - ((s[k].toNat : Int) - 48) := by unfold satStep; simp only [if_true]; rw [if_neg (by omega)]
                        have hen : endB (n * 10 - ((s[k].toNat : Int) - 48)) = false := by unfold endB; simp only [Bool.or_eq_false_iff, beq_eq_false_iff_ne]; omega
                        have HG : Hid (satF true (n * 10 - ((s[k].toNat : Int) - 48)) (s.data.toList.drop (k + 1)) = N) := by
                          show _ = _
                          have h9 := HF2.out
                          rw [hst, if_neg (by rw [hen]; decide)] at h9
                          exact h9
                        have HBN : Hid (if true then -9223372036854775808 ≤ n * 10 - ((s[k].toNat : Int) - 48) ∧ n * 10 - ((s[k].toNat : Int) - 48) ≤ 0 else 0 ≤ n * 10 - ((s[k].toNat : Int) - 48) ∧ n * 10 - ((s[k].toNat : Int) - 48) ≤ 9223372036854775807) := by
                          have h9 := HB2.out
                          rw [hst] at h9
                          exact h9
                        clear hst hen HF2 HB2 htd
                        go_wp2_with (go_at_call 232; refine (HC.out _).mono ?_; rintro e w1 ⟨rfl, rfl⟩)
                        go_roundw
                        case rel => exact ⟨k + 1, n * 10 - ((s[k].toNat : Int) - 48), by omega, by go_num, by first | trivial | exact congrArg (Value.int .i64) hw, by trivial, HG, HK2, HBN⟩
                        case measure => simp [ixN] <;> omega
                | false =>
                  rw [hb] at HC
                  obtain rfl : n = N := by rw [← HF.out, HD.out, satF, hb]; rfl
                  have HK2 : Hid (s.data.toList.drop k = skipD (s.data.toList.drop i)) := by
                    show _ = _
                    rw [← HK.out, HD.out, skipD_cons, hb]; rfl
                  clear hb HK HF HD
                  go_wp2_with (go_at_call 232; refine (HC.out _).mono ?_; rintro e w1 ⟨rfl, rfl⟩)
                  go_meet
                  exact ⟨k, by omega, by trivial, by trivial, by trivial, HK2⟩
              · obtain rfl : k = s.size := by omega
                have h9 : s.data.toList.drop s.size = [] := List.drop_eq_nil_of_le (by simp)
                obtain rfl : n = N := by rw [← HF.out, h9, satF]
                have HK2 : Hid (s.data.toList.drop s.size = skipD (s.data.toList.drop i)) := by
                  show _ = _
                  rw [← HK.out, h9]; rfl
                clear HK HF h9
                go_wp2_with fail
                go_meet
                exact ⟨s.size, by omega, by trivial, by trivial, by trivial, HK2⟩
          case rest =>
            obtain ⟨k, hk, rfl, rfl, rfl, HK⟩ := hcut
            clear HN HD hz HC
            go_wp2_with fail
            go_loopw [5] (fun xi wx => ∃ q : Nat, q ≤ s.size ∧ xi = .int .i64 q ∧ w = wx ∧ Hid (skipB (s.data.toList.drop q) = skipB (skipD (s.data.toList.drop i)))) (fun xi _ => s.size - ixN xi)
            case atStart => exact ⟨k, hk, rfl, rfl, congrArg skipB HK.out⟩
            case round =>
              obtain ⟨q, hq, rfl, rfl, HL⟩ := hrel
              clear HK
              by_cases hlt : q < s.size
              · have hlt' : (q : Int) < (s.size : Int) := by omega
                have HD := Lib.hid (dropc s q hlt)
                have HC := Lib.hid (fun w => rblank_any s[q] w)
                cases hb : blankB s[q] with
                | true =>
                  rw [hb] at HC
                  have HL2 : Hid (skipB (s.data.toList.drop (q + 1)) = skipB (skipD (s.data.toList.drop i))) := by
                    show _ = _
                    rw [← HL.out, HD.out, skipB_cons, hb]; rfl
                  clear hb HL HD
                  go_wp2_with (go_at_call 231; refine (HC.out _).mono ?_; rintro e w1 ⟨rfl, rfl⟩)
                  go_roundw
                  case rel => exact ⟨q + 1, by omega, by go_num, by trivial, HL2⟩
                  case measure => simp [ixN] <;> omega
                | false =>
                  rw [hb] at HC
                  have HL2 : Hid (beginT s = .tuple #[.int .i64 N, .int .i64 (q : Int), .bool true]) := by
                    show _ = _
                    have h9 : skipB (s.data.toList.drop q) = s.data.toList.drop q := by rw [HD.out, skipB_cons, hb]; rfl
                    rw [HB.out, ← HL.out, h9, List.length_drop]
                    congr 4
                    simp
                    omega
                  clear hb HL HD HB
                  go_wp2_with (go_at_call 231; refine (HC.out _).mono ?_; rintro e w1 ⟨rfl, rfl⟩)
                  go_ret3
                  rw [HL2.out]
                  exact ⟨rfl, rfl⟩
              · obtain rfl : q = s.size := by omega
                have HL2 : Hid (beginT s = .tuple #[.int .i64 N, .int .i64 (s.size : Int), .bool true]) := by
                  show _ = _
                  have h9 : skipB (s.data.toList.drop s.size) = [] := by rw [List.drop_eq_nil_of_le (by simp)]; rfl
                  rw [HB.out, ← HL.out, h9]
                  simp
                clear HL HB
                go_wp2_with fail
                go_ret3
                rw [HL2.out]
                exact ⟨rfl, rfl⟩
        · have HE : Hid (beginT s = .tuple #[.int .i64 0, .int .i64 0, .bool false]) := by
            show _ = _
            have hh : ¬ headD (signed1 (skipB s.data.toList)) = true := by
              rw [← HI.out]
              by_cases hq : i < s.size
              · rw [dropc s i hq]
                exact fun h => hdg ⟨hq, h⟩
              · rw [List.drop_eq_nil_of_le (by simp; omega)]
                exact fun h => by cases h
            unfold beginT beginL
            rw [if_neg hh]
          by_cases hq : i < s.size
          · have hq' : (i : Int) < (s.size : Int) := by omega
            have hz : ((i : Int) == (s.size : Int)) = false := by simp only [beq_eq_false_iff_ne]; omega
            have hd0 : digitB s[i] = false := by
              cases h : digitB s[i] with
              | true => exact absurd ⟨hq, h⟩ hdg
              | false => rfl
            have HC := Lib.hid (fun w => rdigit_any s[i] w)
            rw [hd0] at HC
            clear HI HM hdg hd0
            go_wp2_with (go_at_call 232; refine (HC.out _).mono ?_; rintro e w1 ⟨rfl, rfl⟩)
            go_ret3
            rw [HE.out]
            exact ⟨rfl, rfl⟩
          · obtain rfl : i = s.size := by omega
            clear HI HM hdg
            go_wp2_with fail
            go_ret3
            rw [HE.out]
            exact ⟨rfl, rfl⟩
    · obtain rfl : j = s.size := by omega
      have hn : skipB s.data.toList = [] := by rw [← HJ.out, List.drop_eq_nil_of_le (by omega)]
      have e : beginT s = .tuple #[.int .i64 0, .int .i64 0, .bool false] := by unfold beginT beginL; rw [hn]; rfl
      have HE := Lib.hid e
      clear HJ hn e hlen
      go_wp2_with fail
      go_ret3
      rw [HE.out]
      exact ⟨rfl, rfl⟩
end Nm
end Go.Proofs.YtopmodahdmnpjaaGreatDoor
/- The document's Digits, Numeric, Norm: the walks. -/
namespace Go.Proofs.YtopmodahdmnpjaaGreatDoor
open Go Go.RowKit
namespace Nm
open Go.Lib (decDigits nDigits nDigits_small nDigits_big decDigits_length)
/-- The digits of a number; none of nought. -/
def decZ (u : Nat) : List UInt8 := if u = 0 then [] else decDigits u
theorem decZ_step (u : Nat) (h : u ≠ 0) : decZ u = decZ (u / 10) ++ [UInt8.ofNat (48 + u % 10)] := by
  unfold decZ
  rw [if_neg h]
  by_cases hu : u < 10
  · rw [decDigits, dif_pos hu, if_pos (by omega), Nat.mod_eq_of_lt hu]; rfl
  · rw [decDigits, dif_neg hu, if_neg (by omega)]
theorem nDigits_le : ∀ (k u : Nat), u < 10 ^ (k + 1) → nDigits u ≤ k + 1
  | 0, u, h => by rw [nDigits_small (by simpa using h)]; exact Nat.le_refl _
  | k + 1, u, h => by
    by_cases hu : u < 10
    · rw [nDigits_small hu]; omega
    · rw [nDigits_big hu]
      have := nDigits_le k (u / 10) (by rw [Nat.pow_succ] at h; omega)
      omega
theorem dec_len (u : Nat) (h : u ≤ 9223372036854775808) : (decDigits u).length ≤ 19 := by
  rw [decDigits_length]
  exact nDigits_le 18 u (by omega)
theorem decZ_len (u : Nat) (h : u ≤ 9223372036854775808) : (decZ u).length ≤ 19 := by
  unfold decZ
  split
  · simp
  · exact dec_len u h
theorem u8_info : (Tryz.prog.info? 5).map (fun i => (i.zero, i.size, i.bytes)) = some (some (.int .u8 0), 1, 1) := by kernel_rfl
def bcells (l : List UInt8) : List Value := l.map fun c => .int .u8 (c.toNat : Int)
theorem bcells_one (l : List UInt8) : ∀ u ∈ bcells l, u.oneCell' = true := by
  intro u hu
  obtain ⟨c, _, rfl⟩ := List.mem_map.1 hu
  rfl
def inOf : Value → Int | .int _ q => q | _ => 0
theorem bytes_back (w : World) (B : Nat) (A : Option Addr) (c : Nat) (l : List UInt8) (h : Reads w B 1 A l.length (bcells l)) (hn : 0 < l.length) :
    (convert 107 9 (.slice A l.length c)).run Tryz.prog w = .ok (.string ⟨l.toArray⟩) w := by
  obtain ⟨ad, rfl, _, hc⟩ := h.2 hn
  exact run_convert_bytes_back w _ _ 5 ad c l Tryz.underlying107 Tryz.underlying5 Tryz.underlying9 fun j hj => hc j _ (by simp [bcells, List.getElem?_map, List.getElem?_eq_getElem hj])
set_option maxRecDepth 100000 in
set_option maxHeartbeats 2000000 in
theorem rdigits_any (n : Int) (h0 : -9223372036854775808 ≤ n) (h1 : n ≤ 9223372036854775807) (w : World) : Calls Tryz.prog 141 #[.int .i64 n] w fun e w' => e = .returned (.string ⟨(Lib.itoa n).toArray⟩) ∧ Below w.heap.size w w' := by
  obtain ⟨i0, hi0, hz0, hz1, hz2⟩ := info_parts u8_info
  by_cases hn : n = 0
  · subst hn
    have e : Lib.itoa 0 = [48] := by simp [Lib.itoa, decDigits]
    rw [e]
    go_enter Tryz.func141, Tryz.ntmps141
    go_wp2
    go_ret
    exact ⟨rfl, Below.refl _ _⟩
  · have HI := Lib.hid (And.intro hi0 (And.intro hz0 (And.intro hz1 hz2)))
    have b0 : (n == 0) = false := by simpa using hn
    have HS := Lib.hid (show decZ n.natAbs = decDigits n.natAbs by unfold decZ; rw [if_neg (by omega)])
    have HZ := Lib.hid (decZ_len n.natAbs (by omega))
    clear hi0 hz0 hz1 hz2
    go_enter Tryz.func141, Tryz.ntmps141
    go_upto_block 0 with fail
    go_cut [3] (fun x wx => ∃ A c, x = .slice A (decZ n.natAbs).length c ∧ Hid (Reads wx wx.heap.size 1 A (decZ n.natAbs).length (bcells (decZ n.natAbs))) ∧ Hid (Below w.heap.size w wx))
    case first =>
      go_wp2_with fail
      go_loopw [3, 4, 5] (fun x3 x4 x5 wx => ∃ (m : Int) (A : Option Addr) (c : Nat) (l : List UInt8), m.natAbs ≤ 9223372036854775808 ∧ -9223372036854775808 ≤ m ∧ m ≤ 9223372036854775807 ∧ x4 = .int .i64 m ∧ x3 = .slice A l.length c ∧ Hid (Reads wx wx.heap.size 1 A l.length (bcells l)) ∧ Hid (Below w.heap.size w wx) ∧ Hid (decZ m.natAbs ++ l = decZ n.natAbs)) (fun _ x4 _ _ => (inOf x4).natAbs)
      case atStart => exact ⟨n, none, 0, [], by omega, h0, h1, rfl, rfl, Reads.none_, Below.refl _ _, by simp [Hid]⟩
      case round =>
        obtain ⟨m, A, c, l, hm9, hm0, hm1, rfl, rfl, HR, HB, HL⟩ := hrel
        by_cases hm : m = 0
        · subst hm
          have hl : l = decZ n.natAbs := by have := HL.out; simpa [decZ] using this
          subst hl
          clear HL
          go_wp2_with fail
          go_meet
          exact ⟨A, c, rfl, HR, HB⟩
        · have c0 : (m == 0) = false := by simpa using hm
          have c1 : (m != 0) = true := by simpa using hm
          have HLL : l.length ≤ 19 := by
            have := congrArg List.length HL.out
            rw [List.length_append] at this
            have := HZ.out
            omega
          have hstep := decZ_step m.natAbs (by omega)
          have HL2 : Hid (decZ (Int.tdiv m 10).natAbs ++ (UInt8.ofNat (48 + m.natAbs % 10) :: l) = decZ n.natAbs) := by
            show _ = _
            rw [← HL.out, hstep, show (Int.tdiv m 10).natAbs = m.natAbs / 10 by rw [Int.natAbs_tdiv]; rfl]
            simp
          clear HL hstep
          have hk : m.natAbs % 10 < 10 := Nat.mod_lt _ (by decide)
          have HKV := Lib.hid (show ((UInt8.ofNat (48 + m.natAbs % 10)).toNat : Int) = 48 + (m.natAbs % 10 : Nat) by rw [toNat_digit _ hk]; omega)
          have hta : (Int.tdiv m 10).natAbs = m.natAbs / 10 := by rw [Int.natAbs_tdiv]; rfl
          have HT := Lib.hid (show (Int.tdiv m 10).natAbs ≤ 9223372036854775808 ∧ -9223372036854775808 ≤ Int.tdiv m 10 ∧ Int.tdiv m 10 ≤ 9223372036854775807 by omega)
          have HM := Lib.hid (show (Int.tdiv m 10).natAbs < m.natAbs by omega)
          clear hta
          by_cases hneg : m < 0 ∧ 0 < m.natAbs % 10
          · obtain ⟨hneg, hk0⟩ := hneg
            have hr : Int.tmod m 10 = -((m.natAbs % 10 : Nat) : Int) := by
              rw [show m = -(m.natAbs : Int) by omega, Int.neg_tmod, Int.tmod_eq_emod_of_nonneg (by omega)]
              omega
            generalize m.natAbs % 10 = k at *
            have c2 : decide (-(k : Int) < 0) = true := by simp; omega
            have c3 : decide (0 < k) = true := by simp; omega
            have HQ := Lib.hid ((HR.out.alloc (Nat.le_refl _) (.cells #[.int .u8 (48 + (k : Int))] 5)).more (B' := wr.heap.size + 1) (by omega))
            go_wp2_with (at_builtin; refine wpList_append_any _ rfl (.tmp 22) (.tmp 23) _ rfl w.heap.size 5 i0 (.int .u8 0) 1 1 Tryz.underlying107 HI.out.1 HI.out.2.1 HI.out.2.2.1 HI.out.2.2.2 rfl (by decide) (.slice (some ⟨wr.heap.size, 0, none⟩) 1 1) 1 [.int .u8 (48 + (k : Int))] rfl (World.ownsRow_lit wr #[.int .u8 (48 + (k : Int))] 1 HB.out.size (by unfold maxLen; omega) rfl) (wr.heap.size + 1) A l.length c (bcells l) rfl HQ.out (bcells_one l) (by unfold maxLen; omega) (by omega) (Nat.le_trans HB.out.size (by simp)) ?_; intro v' w2 hown hgr _)
            obtain ⟨g, cap, rfl⟩ : ∃ A' c', v' = .slice A' (1 + l.length) c' := by
              rcases hown.2 with ⟨rfl, h9⟩ | ⟨g, cap, cur, rfl, _⟩
              · omega
              · exact ⟨_, _, rfl⟩
            have HR2 := Reads.of_own hown
            have HR3 : Hid (Reads w2 w2.heap.size 1 g (UInt8.ofNat (48 + k) :: l).length (bcells (UInt8.ofNat (48 + k) :: l))) := by
              show Reads _ _ _ _ _ _
              unfold bcells
              rw [List.map_cons, HKV.out, List.length_cons, Nat.add_comm l.length 1]
              exact HR2
            have HBx := Lib.hid ((HB.out.alloc HB.out.size (.cells #[.int .u8 (48 + (k : Int))] 5)).grown hgr (Nat.le_trans HB.out.size (by simp)) (fun g h => by injection h with h; rw [← h]; exact HB.out.size))
            go_roundw
            case rel => exact ⟨Int.tdiv m 10, g, cap, UInt8.ofNat (48 + k) :: l, HT.out.1, HT.out.2.1, HT.out.2.2, by first | trivial | go_num, by rw [List.length_cons, Nat.add_comm], HR3, HBx, HL2⟩
            case measure =>
              show (Int.tdiv m 10).natAbs < m.natAbs
              exact HM.out
          · have hr : Int.tmod m 10 = ((m.natAbs % 10 : Nat) : Int) := by
              rcases Int.lt_or_le m 0 with h | h
              · rw [show m = -(m.natAbs : Int) by omega, Int.neg_tmod, Int.tmod_eq_emod_of_nonneg (by omega)]
                omega
              · rw [Int.tmod_eq_emod_of_nonneg (by omega)]
                omega
            clear hneg
            generalize m.natAbs % 10 = k at *
            have c2 : decide ((k : Int) < 0) = false := by simp
            have HQ := Lib.hid ((HR.out.alloc (Nat.le_refl _) (.cells #[.int .u8 (48 + (k : Int))] 5)).more (B' := wr.heap.size + 1) (by omega))
            go_wp2_with (at_builtin; refine wpList_append_any _ rfl (.tmp 22) (.tmp 23) _ rfl w.heap.size 5 i0 (.int .u8 0) 1 1 Tryz.underlying107 HI.out.1 HI.out.2.1 HI.out.2.2.1 HI.out.2.2.2 rfl (by decide) (.slice (some ⟨wr.heap.size, 0, none⟩) 1 1) 1 [.int .u8 (48 + (k : Int))] rfl (World.ownsRow_lit wr #[.int .u8 (48 + (k : Int))] 1 HB.out.size (by unfold maxLen; omega) rfl) (wr.heap.size + 1) A l.length c (bcells l) rfl HQ.out (bcells_one l) (by unfold maxLen; omega) (by omega) (Nat.le_trans HB.out.size (by simp)) ?_; intro v' w2 hown hgr _)
            obtain ⟨g, cap, rfl⟩ : ∃ A' c', v' = .slice A' (1 + l.length) c' := by
              rcases hown.2 with ⟨rfl, h9⟩ | ⟨g, cap, cur, rfl, _⟩
              · omega
              · exact ⟨_, _, rfl⟩
            have HR2 := Reads.of_own hown
            have HR3 : Hid (Reads w2 w2.heap.size 1 g (UInt8.ofNat (48 + k) :: l).length (bcells (UInt8.ofNat (48 + k) :: l))) := by
              show Reads _ _ _ _ _ _
              unfold bcells
              rw [List.map_cons, HKV.out, List.length_cons, Nat.add_comm l.length 1]
              exact HR2
            have HBx := Lib.hid ((HB.out.alloc HB.out.size (.cells #[.int .u8 (48 + (k : Int))] 5)).grown hgr (Nat.le_trans HB.out.size (by simp)) (fun g h => by injection h with h; rw [← h]; exact HB.out.size))
            go_roundw
            case rel => exact ⟨Int.tdiv m 10, g, cap, UInt8.ofNat (48 + k) :: l, HT.out.1, HT.out.2.1, HT.out.2.2, by first | trivial | go_num, by rw [List.length_cons, Nat.add_comm], HR3, HBx, HL2⟩
            case measure =>
              show (Int.tdiv m 10).natAbs < m.natAbs
              exact HM.out
    case rest =>
      obtain ⟨A, c, rfl, HR, HB⟩ := hcut
      have hlen : 0 < (decZ n.natAbs).length := by rw [HS.out]; have := Lib.nDigits_pos n.natAbs; rw [decDigits_length]; omega
      have hconv := bytes_back _ _ A c (decZ n.natAbs) HR.out hlen
      have hl19 := HZ.out
      by_cases hneg : n < 0
      · have HE := Lib.hid (show Lib.itoa n = 45 :: decZ n.natAbs by rw [HS.out]; unfold Lib.itoa; rw [if_pos hneg])
        generalize decZ n.natAbs = d at *
        clear HZ HS HI
        go_wp2_with fail
        go_ret
        refine ⟨?_, HB.out⟩
        rw [HE.out]
        show Ending.returned (.string _) = _
        congr 2
      · have HE := Lib.hid (show Lib.itoa n = decZ n.natAbs by rw [HS.out]; unfold Lib.itoa; rw [if_neg hneg]; congr 1; omega)
        generalize decZ n.natAbs = d at *
        clear HZ HS HI
        go_wp2_with fail
        go_ret
        exact ⟨by rw [HE.out]; rfl, HB.out⟩
end Nm
end Go.Proofs.YtopmodahdmnpjaaGreatDoor
/- The document's Numeric, Norm, Find: the walks. -/
namespace Go.Proofs.YtopmodahdmnpjaaGreatDoor
open Go Go.RowKit
namespace Nm
set_option maxRecDepth 100000 in
theorem numeric_ok (s : ByteArray) (hs : s.size ≤ 9223372036854775807) (n : Int) (h : numericL s.data.toList = some n) (w : World) : Calls Tryz.prog 140 #[.string s] w fun e w' => e = .returned (.tuple #[.int .i64 n, .bool true]) ∧ w = w' := by
  have hb : beginL s.data.toList = some (n, []) := by
    unfold numericL at h
    split at h
    · rename_i n' he
      cases h
      exact he
    · cases h
  have HB := Lib.hid (fun w => begin_any s hs w)
  have e : beginT s = .tuple #[.int .i64 n, .int .i64 (s.size : Int), .bool true] := by unfold beginT; rw [hb]; simp
  rw [e] at HB
  clear h hb e
  go_enter Tryz.func140, Tryz.ntmps140
  go_wp2_with (go_at_call 190; refine (HB.out _).mono ?_; rintro e w1 ⟨rfl, rfl⟩)
  go_ret2
  exact ⟨rfl, rfl⟩
set_option maxRecDepth 100000 in
theorem numeric_no (s : ByteArray) (hs : s.size ≤ 9223372036854775807) (h : numericL s.data.toList = none) (w : World) : Calls Tryz.prog 140 #[.string s] w fun e w' => e = .returned (.tuple #[.int .i64 0, .bool false]) ∧ w = w' := by
  have HB := Lib.hid (fun w => begin_any s hs w)
  cases hb : beginL s.data.toList with
  | none =>
    have e : beginT s = .tuple #[.int .i64 0, .int .i64 0, .bool false] := by unfold beginT; rw [hb]
    rw [e] at HB
    clear h hb e
    go_enter Tryz.func140, Tryz.ntmps140
    go_wp2_with (go_at_call 190; refine (HB.out _).mono ?_; rintro e w1 ⟨rfl, rfl⟩)
    go_ret2
    exact ⟨rfl, rfl⟩
  | some p =>
    obtain ⟨n, r⟩ := p
    have hr : r ≠ [] := fun e => by
      subst e
      unfold numericL at h
      rw [hb] at h
      cases h
    have hr0 : 0 < r.length := List.length_pos_iff.2 hr
    have e : beginT s = .tuple #[.int .i64 n, .int .i64 ((s.size : Int) - (r.length : Int)), .bool true] := by unfold beginT; rw [hb]
    rw [e] at HB
    have hd : (s.size : Int) - (r.length : Int) < (s.size : Int) := by omega
    clear h hb e hr
    generalize r.length = q at *
    go_enter Tryz.func140, Tryz.ntmps140
    go_wp2_with (go_at_call 190; refine (HB.out _).mono ?_; rintro e w1 ⟨rfl, rfl⟩)
    go_ret2
    exact ⟨rfl, rfl⟩
section
variable (i : Int) (s : ByteArray) (w : World)
set_option maxRecDepth 100000 in
theorem rnorm_int : Calls Tryz.prog 81 #[.agg #[.bool false, .int .i64 i, .string s]] w fun e w' => e = .returned (.agg #[.bool false, .int .i64 i, .string ⟨#[]⟩]) ∧ Below w.heap.size w w' := by
  have HB0 := Lib.hid (((Below.refl w.heap.size w).alloc (Nat.le_refl _) (.cells #[.bool false, .int .i64 i, .string s] 32)).alloc (by simp) (.cells #[.bool false, .int .i64 0, .string ⟨#[]⟩] 32))
  go_enter Tryz.func81, Tryz.ntmps81
  go_wp2_with fail
  refine bodyPost_ret (v := .agg #[.bool false, .int .i64 i, .string ⟨#[]⟩]) ?_ rfl ?_
  · simp [results, Tryz.results81, go_sem]
  exact ⟨rfl, ((Below.refl w.heap.size w).alloc (Nat.le_refl _) _).alloc (by simp) _⟩
set_option maxRecDepth 100000 in
theorem rnorm_no (hz : s.size ≤ 281474976710656) (h : numericL s.data.toList = none) : Calls Tryz.prog 81 #[.agg #[.bool true, .int .i64 i, .string s]] w fun e w' => e = .returned (.agg #[.bool true, .int .i64 0, .string s]) ∧ Below w.heap.size w w' := by
  have HB0 := Lib.hid (((Below.refl w.heap.size w).alloc (Nat.le_refl _) (.cells #[.bool true, .int .i64 i, .string s] 32)).alloc (by simp) (.cells #[.bool false, .int .i64 0, .string ⟨#[]⟩] 32))
  have HK := Lib.hid ((Blk.new w 32 #[.bool true, .int .i64 i, .string s]).alloc (.cells #[.bool false, .int .i64 0, .string ⟨#[]⟩] 32))
  have HR0 : Blk ((w.alloc (.cells #[.bool true, .int .i64 i, .string s] 32)).alloc (.cells #[.bool false, .int .i64 0, .string ⟨#[]⟩] 32)) (w.heap.size + 1) 32 #[.bool false, .int .i64 0, .string ⟨#[]⟩] := by
    have := Blk.new (w.alloc (.cells #[.bool true, .int .i64 i, .string s] 32)) 32 #[.bool false, .int .i64 0, .string ⟨#[]⟩]
    simpa using this
  have HR := Lib.hid HR0
  have HA := Lib.hid (fun w => numeric_no s (by omega) h w)
  clear HR0 h
  go_enter Tryz.func81, Tryz.ntmps81
  go_wp2_with fail
  generalize (w.alloc (.cells #[.bool true, .int .i64 i, .string s] 32)).alloc (.cells #[.bool false, .int .i64 0, .string ⟨#[]⟩] 32) = w2 at *
  refine (HA.out w2).mono ?_
  rintro e w3 ⟨rfl, rfl⟩
  have hb3 := Below.refl w2.heap.size w2
  have HB3 := Lib.hid (HB0.out.trans (hb3.mono HB0.out.size))
  have HK3 := Lib.hid (HK.out.keeps (Keeps.of_below (S := fun _ => False) hb3) id)
  have HR3 := Lib.hid (HR.out.keeps (Keeps.of_below (S := fun _ => False) hb3) id)
  have k0 : w2.cell? ⟨w.heap.size, 0, none⟩ = some (.bool true) := HK3.out.cell 0
  have k1 : w2.cell? ⟨w.heap.size, 1, none⟩ = some (.int .i64 i) := HK3.out.cell 1
  have k2 : w2.cell? ⟨w.heap.size, 2, none⟩ = some (.string s) := HK3.out.cell 2
  have r0 : w2.cell? ⟨w.heap.size + 1, 0, none⟩ = some (.bool false) := HR3.out.cell 0
  have r1 : w2.cell? ⟨w.heap.size + 1, 1, none⟩ = some (.int .i64 0) := HR3.out.cell 1
  have r2 : w2.cell? ⟨w.heap.size + 1, 2, none⟩ = some (.string ⟨#[]⟩) := HR3.out.cell 2
  have z0 := HR3.out.frozen 0
  have z1 := HR3.out.frozen 1
  have z2 := HR3.out.frozen 2
  clear hb3 HB0 HK HR HA
  go_wp2_with fail
  go_quiet (fail)
  go_wp2_with fail
  have HR7 := ((HR3.out.drewN nq).set_ 0 (.bool true)).set_ 1 (.int .i64 0) |>.set_ 2 (.string s)
  have hb7 : ∀ v0 v1 v2, Below w.heap.size w ((((w2.drewN nq).setCell ⟨w.heap.size + 1, 0, none⟩ v0).setCell ⟨w.heap.size + 1, 1, none⟩ v1).setCell ⟨w.heap.size + 1, 2, none⟩ v2) := fun v0 v1 v2 =>
    ((((⟨HB3.out.os, HB3.out.tape, HB3.out.output, HB3.out.size, HB3.out.block⟩ : Below w.heap.size w (w2.drewN nq)).setCell (p := ⟨w.heap.size + 1, 0, none⟩) (by simp) v0).setCell (p := ⟨w.heap.size + 1, 1, none⟩) (by simp) v1).setCell (p := ⟨w.heap.size + 1, 2, none⟩) (by simp) v2)
  have HB7 := hb7 (.bool true) (.int .i64 0) (.string s)
  clear hb7
  generalize (((w2.drewN nq).setCell ⟨w.heap.size + 1, 0, none⟩ (.bool true)).setCell ⟨w.heap.size + 1, 1, none⟩ (.int .i64 0)).setCell ⟨w.heap.size + 1, 2, none⟩ (.string s) = w7 at *
  have e0 : w7.cell? ⟨w.heap.size + 1, 0, none⟩ = some (.bool true) := HR7.cell 0
  have e1 : w7.cell? ⟨w.heap.size + 1, 1, none⟩ = some (.int .i64 0) := HR7.cell 1
  have e2 : w7.cell? ⟨w.heap.size + 1, 2, none⟩ = some (.string s) := HR7.cell 2
  refine bodyPost_ret (v := .agg #[.bool true, .int .i64 0, .string s]) (by simp [results, Tryz.results81, go_sem, e0, e1, e2]) rfl ?_
  exact ⟨rfl, HB7⟩
set_option maxRecDepth 100000 in
theorem rnorm_num (hz : s.size ≤ 281474976710656) (v : Int) (h : numericL s.data.toList = some v) (he : Lib.itoa v = s.data.toList) : Calls Tryz.prog 81 #[.agg #[.bool true, .int .i64 i, .string s]] w fun e w' => e = .returned (.agg #[.bool false, .int .i64 v, .string ⟨#[]⟩]) ∧ Below w.heap.size w w' := by
  have HB0 := Lib.hid (((Below.refl w.heap.size w).alloc (Nat.le_refl _) (.cells #[.bool true, .int .i64 i, .string s] 32)).alloc (by simp) (.cells #[.bool false, .int .i64 0, .string ⟨#[]⟩] 32))
  have HK := Lib.hid ((Blk.new w 32 #[.bool true, .int .i64 i, .string s]).alloc (.cells #[.bool false, .int .i64 0, .string ⟨#[]⟩] 32))
  have HR0 : Blk ((w.alloc (.cells #[.bool true, .int .i64 i, .string s] 32)).alloc (.cells #[.bool false, .int .i64 0, .string ⟨#[]⟩] 32)) (w.heap.size + 1) 32 #[.bool false, .int .i64 0, .string ⟨#[]⟩] := by
    have := Blk.new (w.alloc (.cells #[.bool true, .int .i64 i, .string s] 32)) 32 #[.bool false, .int .i64 0, .string ⟨#[]⟩]
    simpa using this
  have HR := Lib.hid HR0
  have HA := Lib.hid (fun w => numeric_ok s (by omega) v h w)
  have hbd := numericL_bounds h
  have HI := Lib.hid (fun w => rdigits_any v hbd.1 hbd.2 w)
  have hq : (Lib.itoa v == s.toList) = true := by
    rw [ByteArray.toList_eq]
    simpa using he
  clear HR0 h he hbd
  go_enter Tryz.func81, Tryz.ntmps81
  go_wp2_with fail
  generalize (w.alloc (.cells #[.bool true, .int .i64 i, .string s] 32)).alloc (.cells #[.bool false, .int .i64 0, .string ⟨#[]⟩] 32) = w2 at *
  refine (HA.out w2).mono ?_
  rintro e w3 ⟨rfl, rfl⟩
  have hb3 := Below.refl w2.heap.size w2
  have HB3 := Lib.hid (HB0.out.trans (hb3.mono HB0.out.size))
  have HK3 := Lib.hid (HK.out.keeps (Keeps.of_below (S := fun _ => False) hb3) id)
  have HR3 := Lib.hid (HR.out.keeps (Keeps.of_below (S := fun _ => False) hb3) id)
  have k0 : w2.cell? ⟨w.heap.size, 0, none⟩ = some (.bool true) := HK3.out.cell 0
  have k1 : w2.cell? ⟨w.heap.size, 1, none⟩ = some (.int .i64 i) := HK3.out.cell 1
  have k2 : w2.cell? ⟨w.heap.size, 2, none⟩ = some (.string s) := HK3.out.cell 2
  have r0 : w2.cell? ⟨w.heap.size + 1, 0, none⟩ = some (.bool false) := HR3.out.cell 0
  have r1 : w2.cell? ⟨w.heap.size + 1, 1, none⟩ = some (.int .i64 0) := HR3.out.cell 1
  have r2 : w2.cell? ⟨w.heap.size + 1, 2, none⟩ = some (.string ⟨#[]⟩) := HR3.out.cell 2
  have z0 := HR3.out.frozen 0
  have z1 := HR3.out.frozen 1
  have z2 := HR3.out.frozen 2
  clear hb3 HB0 HK HR HA
  go_wp2_with fail
  go_region_held3 (fun w' => w'.cell? ⟨w.heap.size, 2, none⟩ = some (.string s)) (first | exact k2 | exact k3)
    (first | (go_at_call 141; refine (HI.out w2.drew).mono ?_; rintro e w4 ⟨rfl, hb4⟩; have HB4 := Lib.hid (HB3.out.drew.trans (hb4.mono HB3.out.size)); have HK4 := Lib.hid ((HK3.out.drewN 1).keeps (Keeps.of_below (S := fun _ => False) hb4) id); have HR4 := Lib.hid ((HR3.out.drewN 1).keeps (Keeps.of_below (S := fun _ => False) hb4) id); have k3 := HK4.out.cell 2; have z3 := HR4.out.frozen 0; have z4 := HR4.out.frozen 1; have z5 := HR4.out.frozen 2; have r3 := HR4.out.cell 0; have r4 := HR4.out.cell 1; have r5 := HR4.out.cell 2; clear hb4))
  go_wp2_with fail
  have HB7 := Lib.hid (((HB4.out.setCell (p := ⟨w.heap.size + 1, 0, none⟩) (by simp) (.bool false)).setCell (p := ⟨w.heap.size + 1, 1, none⟩) (by simp) (.int .i64 v)).setCell (p := ⟨w.heap.size + 1, 2, none⟩) (by simp) (.string ⟨#[]⟩))
  have HR7 := Lib.hid (((HR4.out.set_ 0 (.bool false)).set_ 1 (.int .i64 v)).set_ 2 (.string ⟨#[]⟩))
  generalize ((w4.setCell ⟨w.heap.size + 1, 0, none⟩ (.bool false)).setCell ⟨w.heap.size + 1, 1, none⟩ (.int .i64 v)).setCell ⟨w.heap.size + 1, 2, none⟩ (.string ⟨#[]⟩) = w7 at *
  have e0 : w7.cell? ⟨w.heap.size + 1, 0, none⟩ = some (.bool false) := HR7.out.cell 0
  have e1 : w7.cell? ⟨w.heap.size + 1, 1, none⟩ = some (.int .i64 v) := HR7.out.cell 1
  have e2 : w7.cell? ⟨w.heap.size + 1, 2, none⟩ = some (.string ⟨#[]⟩) := HR7.out.cell 2
  refine bodyPost_ret (v := .agg #[.bool false, .int .i64 v, .string ⟨#[]⟩]) (by simp [results, Tryz.results81, go_sem, e0, e1, e2]) rfl ?_
  exact ⟨rfl, HB7.out⟩
set_option maxRecDepth 100000 in
theorem rnorm_text (hz : s.size ≤ 281474976710656) (v : Int) (h : numericL s.data.toList = some v) (he : ¬ Lib.itoa v = s.data.toList) : Calls Tryz.prog 81 #[.agg #[.bool true, .int .i64 i, .string s]] w fun e w' => e = .returned (.agg #[.bool true, .int .i64 0, .string s]) ∧ Below w.heap.size w w' := by
  have HB0 := Lib.hid (((Below.refl w.heap.size w).alloc (Nat.le_refl _) (.cells #[.bool true, .int .i64 i, .string s] 32)).alloc (by simp) (.cells #[.bool false, .int .i64 0, .string ⟨#[]⟩] 32))
  have HK := Lib.hid ((Blk.new w 32 #[.bool true, .int .i64 i, .string s]).alloc (.cells #[.bool false, .int .i64 0, .string ⟨#[]⟩] 32))
  have HR0 : Blk ((w.alloc (.cells #[.bool true, .int .i64 i, .string s] 32)).alloc (.cells #[.bool false, .int .i64 0, .string ⟨#[]⟩] 32)) (w.heap.size + 1) 32 #[.bool false, .int .i64 0, .string ⟨#[]⟩] := by
    have := Blk.new (w.alloc (.cells #[.bool true, .int .i64 i, .string s] 32)) 32 #[.bool false, .int .i64 0, .string ⟨#[]⟩]
    simpa using this
  have HR := Lib.hid HR0
  have HA := Lib.hid (fun w => numeric_ok s (by omega) v h w)
  have hbd := numericL_bounds h
  have HI := Lib.hid (fun w => rdigits_any v hbd.1 hbd.2 w)
  have hq : (Lib.itoa v == s.toList) = false := by
    rw [ByteArray.toList_eq]
    simpa using he
  clear HR0 h he hbd
  go_enter Tryz.func81, Tryz.ntmps81
  go_wp2_with fail
  generalize (w.alloc (.cells #[.bool true, .int .i64 i, .string s] 32)).alloc (.cells #[.bool false, .int .i64 0, .string ⟨#[]⟩] 32) = w2 at *
  refine (HA.out w2).mono ?_
  rintro e w3 ⟨rfl, rfl⟩
  have hb3 := Below.refl w2.heap.size w2
  have HB3 := Lib.hid (HB0.out.trans (hb3.mono HB0.out.size))
  have HK3 := Lib.hid (HK.out.keeps (Keeps.of_below (S := fun _ => False) hb3) id)
  have HR3 := Lib.hid (HR.out.keeps (Keeps.of_below (S := fun _ => False) hb3) id)
  have k0 : w2.cell? ⟨w.heap.size, 0, none⟩ = some (.bool true) := HK3.out.cell 0
  have k1 : w2.cell? ⟨w.heap.size, 1, none⟩ = some (.int .i64 i) := HK3.out.cell 1
  have k2 : w2.cell? ⟨w.heap.size, 2, none⟩ = some (.string s) := HK3.out.cell 2
  have r0 : w2.cell? ⟨w.heap.size + 1, 0, none⟩ = some (.bool false) := HR3.out.cell 0
  have r1 : w2.cell? ⟨w.heap.size + 1, 1, none⟩ = some (.int .i64 0) := HR3.out.cell 1
  have r2 : w2.cell? ⟨w.heap.size + 1, 2, none⟩ = some (.string ⟨#[]⟩) := HR3.out.cell 2
  have z0 := HR3.out.frozen 0
  have z1 := HR3.out.frozen 1
  have z2 := HR3.out.frozen 2
  clear hb3 HB0 HK HR HA
  go_wp2_with fail
  go_region_held3 (fun w' => w'.cell? ⟨w.heap.size, 2, none⟩ = some (.string s)) (first | exact k2 | exact k3)
    (first | (go_at_call 141; refine (HI.out w2.drew).mono ?_; rintro e w4 ⟨rfl, hb4⟩; have HB4 := Lib.hid (HB3.out.drew.trans (hb4.mono HB3.out.size)); have HK4 := Lib.hid ((HK3.out.drewN 1).keeps (Keeps.of_below (S := fun _ => False) hb4) id); have HR4 := Lib.hid ((HR3.out.drewN 1).keeps (Keeps.of_below (S := fun _ => False) hb4) id); have k3 := HK4.out.cell 2; have z3 := HR4.out.frozen 0; have z4 := HR4.out.frozen 1; have z5 := HR4.out.frozen 2; have r3 := HR4.out.cell 0; have r4 := HR4.out.cell 1; have r5 := HR4.out.cell 2; clear hb4))
  go_wp2_with fail
  have HB7 := Lib.hid (((HB4.out.setCell (p := ⟨w.heap.size + 1, 0, none⟩) (by simp) (.bool true)).setCell (p := ⟨w.heap.size + 1, 1, none⟩) (by simp) (.int .i64 0)).setCell (p := ⟨w.heap.size + 1, 2, none⟩) (by simp) (.string s))
  have HR7 := Lib.hid (((HR4.out.set_ 0 (.bool true)).set_ 1 (.int .i64 0)).set_ 2 (.string s))
  generalize ((w4.setCell ⟨w.heap.size + 1, 0, none⟩ (.bool true)).setCell ⟨w.heap.size + 1, 1, none⟩ (.int .i64 0)).setCell ⟨w.heap.size + 1, 2, none⟩ (.string s) = w7 at *
  have e0 : w7.cell? ⟨w.heap.size + 1, 0, none⟩ = some (.bool true) := HR7.out.cell 0
  have e1 : w7.cell? ⟨w.heap.size + 1, 1, none⟩ = some (.int .i64 0) := HR7.out.cell 1
  have e2 : w7.cell? ⟨w.heap.size + 1, 2, none⟩ = some (.string s) := HR7.out.cell 2
  refine bodyPost_ret (v := .agg #[.bool true, .int .i64 0, .string s]) (by simp [results, Tryz.results81, go_sem, e0, e1, e2]) rfl ?_
  exact ⟨rfl, HB7.out⟩
theorem normG_of (b : Bool) (i : Int) (s : ByteArray) : normG b i s = ((normR b i s.data.toList).1, (normR b i s.data.toList).2.1, ⟨(normR b i s.data.toList).2.2.toArray⟩) := by
  rw [norm_eq]
  unfold normG normK
  cases b
  · rfl
  · simp only [if_true]
    split
    · rename_i n hn
      split <;> simp_all
    · simp_all
theorem rnorm_any (b : Bool) (hz : s.size ≤ 281474976710656) : Calls Tryz.prog 81 #[.agg #[.bool b, .int .i64 i, .string s]] w fun e w' => e = .returned (keyV (normG b i s)) ∧ Below w.heap.size w w' := by
  rw [normG_of]
  cases b with
  | false => exact rnorm_int i s w
  | true =>
    unfold normR
    rw [if_pos rfl]
    cases h : numericL s.data.toList with
    | some v =>
      by_cases he : Lib.itoa v = s.data.toList
      · simp only [if_pos he]
        exact rnorm_num i s w hz v h he
      · simp only [if_neg he]
        exact rnorm_text i s w hz v h he
    | none => exact rnorm_no i s w hz h
end
end Nm
end Go.Proofs.YtopmodahdmnpjaaGreatDoor
