/- ostlerlaw09.good: the walk. -/
import Derived.Test.YtgpemnmopogppaaGreatDoorZUbB
import Derived.BigQuiet
namespace Go.Proofs.YtgpemnmopogppaaGreatDoor
open Go Go.RowKit
namespace Ub
open Go.Proofs.YtgpemnmopogppaaGreatDoor.Dp
theorem take_any (K : List UInt8) (f : UInt8 → Bool) (j : Nat) (h : j < K.length) : (K.take (j + 1)).any f = ((K.take j).any f || f K[j]) := by
  rw [List.take_succ_eq_append_getElem h, List.any_append]
  simp
theorem any_yes (K : List UInt8) (f : UInt8 → Bool) (j : Nat) (h : j < K.length) (hf : f K[j] = true) : K.any f = true := List.any_eq_true.2 ⟨_, List.getElem_mem h, hf⟩
theorem badC0 {c : UInt8} {x : Int} (hx : (c.toNat : Int) = x) : badC 0 c = (x == 32 || x == 46 || x == 91) := by
  have key : ∀ n : Nat, n < 256 → (c == UInt8.ofNat n) = (x == (n : Int)) := fun n hn => by
    subst hx
    rw [Bool.eq_iff_iff, beq_iff_eq, beq_iff_eq]
    constructor
    · rintro rfl
      simp
      omega
    · intro h
      rw [← UInt8.toNat_inj]
      simp
      omega
  unfold badC
  rw [if_pos rfl]
  have h1 := key 32 (by omega)
  have h2 := key 46 (by omega)
  have h3 := key 91 (by omega)
  exact congr (congrArg or (congr (congrArg or h1) h2)) h3
theorem badC1 {c : UInt8} {x : Int} {d : Nat} (hd : ¬ d = 0) (hx : (c.toNat : Int) = x) : badC d c = (x == 93) := by
  unfold badC
  rw [if_neg hd]
  subst hx
  rw [Bool.eq_iff_iff, beq_iff_eq, beq_iff_eq]
  constructor
  · rintro rfl
    rfl
  · intro h
    rw [← UInt8.toNat_inj]
    have : c.toNat = 93 := by omega
    rw [this]
    rfl
section
variable {w : World} {B : Nat}
set_option maxRecDepth 100000 in
set_option maxHeartbeats 8000000 in
theorem good_any (hBw : B ≤ w.heap.size) {g : GV} {x : Value} (h : VAt w B g x) : Fit g → ∀ (d : Nat), d ≤ 63 → ∀ (w' : World), Below B w w' →
    Calls Tryz.prog 14 #[x, .int .i64 (d : Int)] w' fun e w'' => e = .returned (.bool (goodV g d)) ∧ Below w'.heap.size w' w'' := by
  induction h with
  | mk k n t l A c b off C hc hn hA hi hv ih =>
    intro hfit d hd w' hb
    have hB' : B ≤ w'.heap.size := Nat.le_trans hBw hb.size
    have HF : Hid (∀ (i : Nat) (it : GI), l[i]? = some it → it.text.size ≤ 140737488351232 ∧ Fit it.val) := by
      cases hfit with
      | mk _ _ _ _ _ _ _ h1 h2 => exact fun i it h => ⟨(h1 i it h).2, h2 i it h⟩
    have HA := Lib.hid hA
    have HI := Lib.hid hi
    have HV := Lib.hid ih
    have HW := Lib.hid hv
    have Hb := Lib.hid hb
    have HB0 := Lib.hid ((Below.refl w'.heap.size w').alloc (Nat.le_refl _) (.cells #[.int .i64 k, .int .i64 n, .string t, .slice A l.length c] 25))
    clear hA hi hv ih hb hfit
    rw [goodV]
    by_cases h62 : 62 < d
    · have d1 : decide ((62 : Int) < (d : Int)) = true := decide_eq_true (by omega)
      rw [if_pos (.inl h62)]
      clear HA HI HV HW HF
      go_enter Tryz.func14, Tryz.ntmps14
      go_wp2_with fail
      go_ret
      exact ⟨rfl, HB0.out⟩
    have d1 : decide ((62 : Int) < (d : Int)) = false := decide_eq_false (by omega)
    by_cases hl0 : l.length = 0
    · rw [if_pos (.inr hl0)]
      clear HA HI HV HW HF
      rw [hl0] at HB0 ⊢
      go_enter Tryz.func14, Tryz.ntmps14
      go_wp2_with fail
      go_ret
      exact ⟨rfl, HB0.out⟩
    rw [if_neg (by omega)]
    have e0 : (((l.length : Nat) : Int) == 0) = false := by rw [beq_eq_false_iff_ne]; omega
    obtain ⟨M, HM⟩ : ∃ z, Hid (goodL l d = z) := ⟨_, rfl⟩
    have HM0 : Hid (M = goodL (l.drop 0) d) := by
      show _ = _
      rw [← HM.out]
      rfl
    rw [HM.out]
    have HE := Lib.hid (show goodL (l.drop l.length) d = true by rw [List.drop_eq_nil_of_le (Nat.le_refl _), goodL])
    have HD := Lib.hid (fun (j : Nat) (it : GI) (h : l[j]? = some it) => goodL_drop l j it h d)
    have hcast : ((d + 1 : Nat) : Int) = (d : Int) + 1 := by omega
    have hwrap : IntKind.i64.wrap ((d : Int) + 1) = (d : Int) + 1 := IntWalk.i64_in _ (by omega)
    have HCa := Lib.hid hcast
    clear HM hcast
    go_enter Tryz.func14, Tryz.ntmps14
    go_wp2_with fail
    go_loopw [20] (fun xi wx => ∃ (j : Nat), j ≤ l.length ∧ xi = .int .i64 j ∧ Hid (M = goodL (l.drop j) d) ∧ Hid (Below w'.heap.size w' wx)) (fun xi _ => l.length - (ixOf xi).toNat)
    case atStart => exact ⟨0, Nat.zero_le _, rfl, HM0, HB0⟩
    case round =>
      obtain ⟨j, hj, rfl, HL, HB⟩ := hrel
      clear HB0 HM0
      by_cases hlt : j < l.length
      · obtain ⟨it, hit⟩ : ∃ it, l[j]? = some it := ⟨_, List.getElem?_eq_getElem hlt⟩
        obtain ⟨rfl, hbB⟩ := HA.out (by omega)
        have hbw : Below B w wr := Hb.out.trans (HB.out.mono hB')
        have hwr := HB.out.size
        obtain ⟨c0, c1, c2, v0, v1, v2, v3, e, c3, c4, c5, c6⟩ := (HI.out j it hit).below hbw hbB
        obtain ⟨hks, hfv⟩ := HF.out j it hit
        have HR := Lib.hid (fun wz (hz : Below B w wz) => HV.out j it hit hfv (d + 1) (by omega) wz hz)
        rw [e, HCa.out] at HR
        have hform := HW.out j it hit
        rw [e] at hform
        obtain ⟨k1, n1, t1, A1, l1, e1, rfl, rfl, rfl, rfl⟩ := hform.form
        have HKd : Hid (kindV it.val = k1) := by
          generalize it.val = g1 at hform
          cases hform
          exact rfl
        have HL2 := Lib.hid (HL.out.trans (HD.out j it hit))
        have HBi := Lib.hid (HB.out.alloc hwr (.cells #[.bool it.isText, .int .i64 it.int, .string it.text, .int .i64 k1, .int .i64 n1, .string t1, .slice A1 l1 e1] 39))
        have HZi := Lib.hid (hbw.alloc (Nat.le_trans hB' hwr) (.cells #[.bool it.isText, .int .i64 it.int, .string it.text, .int .i64 k1, .int .i64 n1, .string t1, .slice A1 l1 e1] 39))
        have HXi := Lib.hid (Blk.new wr 39 #[.bool it.isText, .int .i64 it.int, .string it.text, .int .i64 k1, .int .i64 n1, .string t1, .slice A1 l1 e1])
        clear hform HI HW HV HL HD HE HF HA e hfv hbw HB Hb
        generalize goodV it.val (d + 1) = q at *
        generalize kindV it.val = kv at *
        obtain rfl : kv = k1 := HKd.out
        clear HKd
        generalize it.isText = ib at *
        generalize it.int = ii at *
        generalize it.text = is at *
        obtain ⟨K, hKe⟩ : ∃ z, kT ib is = z := ⟨_, rfl⟩
        have HKe := Lib.hid hKe
        rw [hKe] at HL2
        clear hKe
        have HWP : ∃ KT : ByteArray, KT.data.toList = K ∧ KT.size ≤ 140737488351232 ∧ (ib = true → KT = is) ∧ (ib = false → KT = ⟨#[48]⟩) := by
          rw [← HKe.out]
          cases ib with
          | true => exact ⟨is, rfl, hks, fun _ => rfl, fun h => absurd h (by decide)⟩
          | false => exact ⟨⟨#[48]⟩, rfl, by decide, fun h => absurd h (by decide), fun _ => rfl⟩
        obtain ⟨KT, hKT, hKz, hk1, hk2⟩ := HWP
        have hKl : KT.size = K.length := by rw [← hKT]; simp
        have HIX : Hid (∀ (i : Nat) (h : i < KT.size) (h2 : i < K.length), KT[i]'h = K[i]) := fun i h h2 => by
          subst hKT
          simp [ByteArray.getElem_eq_getElem_data]
        have HEm : Hid ((KT.toList == []) = decide (K.length = 0)) := by
          show _ = _
          rw [ByteArray.toList_eq, hKT, Bool.eq_iff_iff, beq_iff_eq, decide_eq_true_iff]
          exact List.length_eq_zero_iff.symm
        clear hKT HKe hks
        have HK1 := Lib.hid hk1
        have HK2 := Lib.hid hk2
        have HKl := Lib.hid hKl
        clear hk1 hk2 hKl
        cases ib
        all_goals
          go_upto_region 9 with fail
          generalize wr.alloc (.cells #[.bool _, .int .i64 ii, .string is, .int .i64 kv, .int .i64 n1, .string t1, .slice A1 l1 e1] 39) = wi at *
          first | (have hsub := HK1.out rfl; subst hsub) | rw [← HK2.out rfl]
          have hx3 := HXi.out.cell 3
          have hx4 := HXi.out.cell 4
          have hx5 := HXi.out.cell 5
          have hx6 := HXi.out.cell 6
          clear HK1 HK2 c0 c1 c2 c3 c4 c5 c6 hwr
          go_wp2_with fail
          go_loopw [8] (fun xi wx => ∃ (i : Nat), i ≤ KT.size ∧ xi = .int .i64 i ∧ Hid ((K.take i).any (badC d) = false) ∧ wx = wi) (fun xi _ => KT.size - (ixOf xi).toNat)
          case atStart => exact ⟨0, Nat.zero_le _, rfl, Lib.hid (by simp), rfl⟩
          case round =>
            obtain ⟨i, hi, rfl, HT, rfl⟩ := hrel
            by_cases hlt2 : i < KT.size
            · have hlt2' : (i : Int) < (KT.size : Int) := by omega
              have hiK : i < K.length := by have := HKl.out; omega
              have HEK : Hid (K[i] = KT[i]) := Lib.hid (HIX.out i hlt2 hiK).symm
              obtain ⟨x, hxx⟩ : ∃ x : Int, (KT[i].toNat : Int) = x := ⟨_, rfl⟩
              by_cases hd0 : d = 0
              · have ed : (((d : Nat) : Int) == 0) = true := by rw [beq_iff_eq]; omega
                have gd : decide ((0 : Int) < (d : Int)) = false := decide_eq_false (by omega)
                have HBc : Hid (badC d K[i] = (x == 32 || x == 46 || x == 91)) := by
                  show _ = _
                  rw [HEK.out, hd0]
                  exact badC0 hxx
                have Hd0 := Lib.hid hd0
                clear hd0 HEK
                by_cases h32 : x = 32
                · have e32 : (x == 32) = true := by rw [beq_iff_eq]; exact h32
                  clear h32
                  have hbad : badC d K[i] = true := HBc.out.trans (by rw [e32]; simp)
                  have hM : M = false := HL2.out.trans (if_pos (any_yes K _ i hiK hbad))
                  subst hM
                  clear HL2 HBc hbad HT HR HEm HIX
                  go_wp2_with fail
                  go_ret
                  exact ⟨rfl, HBi.out⟩
                · have e32 : (x == 32) = false := by rw [beq_eq_false_iff_ne]; exact h32
                  by_cases h46 : x = 46
                  · have e46 : (x == 46) = true := by rw [beq_iff_eq]; exact h46
                    clear h46 h32
                    have hbad : badC d K[i] = true := HBc.out.trans (by rw [e32, e46]; simp)
                    have hM : M = false := HL2.out.trans (if_pos (any_yes K _ i hiK hbad))
                    subst hM
                    clear HL2 HBc hbad HT HR HEm HIX
                    go_wp2_with fail
                    go_ret
                    exact ⟨rfl, HBi.out⟩
                  · have e46 : (x == 46) = false := by rw [beq_eq_false_iff_ne]; exact h46
                    by_cases h91 : x = 91
                    · have e91 : (x == 91) = true := by rw [beq_iff_eq]; exact h91
                      clear h91 h46 h32
                      have hbad : badC d K[i] = true := HBc.out.trans (by rw [e32, e46, e91]; simp)
                      have hM : M = false := HL2.out.trans (if_pos (any_yes K _ i hiK hbad))
                      subst hM
                      clear HL2 HBc hbad HT HR HEm HIX
                      go_wp2_with fail
                      go_ret
                      exact ⟨rfl, HBi.out⟩
                    · have e91 : (x == 91) = false := by rw [beq_eq_false_iff_ne]; exact h91
                      clear h91 h46 h32
                      have HT2 : Hid ((K.take (i + 1)).any (badC d) = false) := by
                        show _ = _
                        rw [take_any K _ i hiK, HT.out, HBc.out, e32, e46, e91]
                        rfl
                      clear HBc HT
                      go_wp2_with fail
                      go_roundw
                      case rel => exact ⟨i + 1, by omega, by go_num, HT2, by trivial⟩
                      case measure => simp [ixOf] <;> omega
              · have ed : (((d : Nat) : Int) == 0) = false := by rw [beq_eq_false_iff_ne]; omega
                have gd : decide ((0 : Int) < (d : Int)) = true := decide_eq_true (by omega)
                have gd2 : 0 < d := by omega
                have HBc : Hid (badC d K[i] = (x == 93)) := by
                  show _ = _
                  rw [HEK.out]
                  exact badC1 hd0 hxx
                clear hd0 HEK
                by_cases h93 : x = 93
                · have e93 : (x == 93) = true := by rw [beq_iff_eq]; exact h93
                  clear h93
                  have hbad : badC d K[i] = true := HBc.out.trans (by rw [e93])
                  have hM : M = false := HL2.out.trans (if_pos (any_yes K _ i hiK hbad))
                  subst hM
                  clear HL2 HBc hbad HT HR HEm HIX
                  go_wp2_with fail
                  go_ret
                  exact ⟨rfl, HBi.out⟩
                · have e93 : (x == 93) = false := by rw [beq_eq_false_iff_ne]; exact h93
                  clear h93
                  have HT2 : Hid ((K.take (i + 1)).any (badC d) = false) := by
                    show _ = _
                    rw [take_any K _ i hiK, HT.out, HBc.out, e93]
                    rfl
                  clear HBc HT
                  go_wp2_with fail
                  go_roundw
                  case rel => exact ⟨i + 1, by omega, by go_num, HT2, by trivial⟩
                  case measure => simp [ixOf] <;> omega
            · obtain rfl : i = KT.size := by omega
              have hany : K.any (badC d) = false := by
                have := HT.out
                rwa [HKl.out, List.take_length] at this
              have HL3 := Lib.hid (HL2.out.trans (if_neg (by rw [hany]; decide)))
              clear hany HT HL2 HIX
              by_cases hK0 : K.length = 0
              · have em : (KT.toList == []) = true := HEm.out.trans (decide_eq_true hK0)
                have hM : M = false := HL3.out.trans (if_pos hK0)
                subst hM
                clear HL3 HEm HR HKl
                go_wp2_with fail
                go_ret
                exact ⟨rfl, HBi.out⟩
              · have em : (KT.toList == []) = false := HEm.out.trans (decide_eq_false hK0)
                have HL4 := Lib.hid (HL3.out.trans (if_neg hK0))
                clear HL3 HEm HKl hK0
                by_cases h3 : kv = 3
                · have HL5 := Lib.hid (HL4.out.trans (if_pos h3))
                  subst h3
                  clear HL4 HR
                  go_wp2_with fail
                  go_roundw
                  case rel => exact ⟨j + 1, by omega, by go_num, HL5, HBi⟩
                  case measure => simp [ixOf] <;> omega
                · have HL5 := Lib.hid (HL4.out.trans (if_neg h3))
                  have e3 : (kv == 3) = false := by rw [beq_eq_false_iff_ne]; exact h3
                  clear HL4
                  by_cases h4 : kv = 4
                  · have HL6 := Lib.hid (HL5.out.trans (if_pos h4))
                    subst h4
                    clear HL5
                    cases q with
                    | true =>
                      have HL7 := Lib.hid (HL6.out.trans (if_pos rfl))
                      clear HL6
                      go_wp2_with (go_at_call 14; refine (HR.out _ HZi.out).mono ?_; rintro e w2 ⟨rfl, hb2⟩; have HB2 := Lib.hid (HBi.out.trans (hb2.mono HBi.out.size)); clear hb2)
                      go_roundw
                      case rel => exact ⟨j + 1, by omega, by go_num, HL7, HB2⟩
                      case measure => simp [ixOf] <;> omega
                    | false =>
                      have hM : M = false := HL6.out.trans (if_neg (by decide))
                      subst hM
                      clear HL6
                      go_wp2_with (go_at_call 14; refine (HR.out _ HZi.out).mono ?_; rintro e w2 ⟨rfl, hb2⟩; have HB2 := Lib.hid (HBi.out.trans (hb2.mono HBi.out.size)); clear hb2)
                      go_ret
                      exact ⟨rfl, HB2.out⟩
                  · have hM : M = false := HL5.out.trans (if_neg h4)
                    have e4 : (kv == 4) = false := by rw [beq_eq_false_iff_ne]; exact h4
                    subst hM
                    clear HL5 HR
                    go_wp2_with fail
                    go_ret
                    exact ⟨rfl, HBi.out⟩
      · obtain rfl : j = l.length := by omega
        have hM : M = true := HL.out.trans HE.out
        subst hM
        clear HI HV HW HA HD HE HF
        go_wp2_with fail
        go_ret
        exact ⟨rfl, HB.out⟩
end
end Ub
end Go.Proofs.YtgpemnmopogppaaGreatDoor
