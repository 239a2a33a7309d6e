/- conv's Plain and Same in the document: the walks. -/
import Derived.Test.YtopmodahdmnpjaaGreatDoorZDpBlQ
import Derived.Still
import Derived.StillTactics
import Derived.StillTail
namespace Go.Proofs.YtopmodahdmnpjaaGreatDoor
open Go.RowKit
namespace Dp
section
variable (n n' : Int) (t t' : ByteArray) (A A' : Option Addr) (l l' c c' : Nat) (w : World)
set_option maxRecDepth 100000 in
theorem rplain_any (k : Int) : Calls Tryz.prog 83 #[.agg #[.int .i64 k, .int .i64 n, .string t, .slice A l c]] w fun e w' => e = .returned (.bool (plainB k)) ∧ w' = w.alloc (.cells #[.int .i64 k, .int .i64 n, .string t, .slice A l c] 24) := by
  unfold plainB
  by_cases h1 : 0 ≤ k
  · by_cases h2 : k ≤ 3
    · rw [decide_eq_true h1, decide_eq_true h2]
      go_enter Tryz.func83, Tryz.ntmps83
      go_wp2_with fail
      go_ret
      exact ⟨rfl, rfl⟩
    · rw [decide_eq_true h1, decide_eq_false h2]
      go_enter Tryz.func83, Tryz.ntmps83
      go_wp2_with fail
      go_ret
      exact ⟨rfl, rfl⟩
  · rw [decide_eq_false h1, Bool.false_and]
    go_enter Tryz.func83, Tryz.ntmps83
    go_wp2_with fail
    go_ret
    exact ⟨rfl, rfl⟩
set_option maxRecDepth 100000 in
set_option maxHeartbeats 2000000 in
theorem rsame_0 : Calls Tryz.prog 84 #[.agg #[.int .i64 0, .int .i64 n, .string t, .slice A l c], .agg #[.int .i64 0, .int .i64 n', .string t', .slice A' l' c']] w fun e w' => e = .returned (.bool (true)) ∧ Below w.heap.size w w' := by
  have HP := Lib.hid (fun w => rplain_any n t A l c w 0)
  have hp : plainB 0 = true := rfl
  rw [hp] at HP
  have HB0 := Lib.hid (((Below.refl w.heap.size w).alloc (Nat.le_refl _) (.cells #[.int .i64 0, .int .i64 n, .string t, .slice A l c] 24)).alloc (by simp) (.cells #[.int .i64 0, .int .i64 n', .string t', .slice A' l' c'] 24))
  go_enter Tryz.func84, Tryz.ntmps84
  go_wp2_with (go_at_call 83; refine (HP.out _).mono ?_; rintro e w1 ⟨rfl, rfl⟩)
  go_ret
  exact ⟨rfl, HB0.out.alloc HB0.out.size _⟩
set_option maxRecDepth 100000 in
set_option maxHeartbeats 2000000 in
theorem rsame_1 : Calls Tryz.prog 84 #[.agg #[.int .i64 1, .int .i64 n, .string t, .slice A l c], .agg #[.int .i64 1, .int .i64 n', .string t', .slice A' l' c']] w fun e w' => e = .returned (.bool ((n != 0) == (n' != 0))) ∧ Below w.heap.size w w' := by
  have HP := Lib.hid (fun w => rplain_any n t A l c w 1)
  have hp : plainB 1 = true := rfl
  rw [hp] at HP
  have HB0 := Lib.hid (((Below.refl w.heap.size w).alloc (Nat.le_refl _) (.cells #[.int .i64 1, .int .i64 n, .string t, .slice A l c] 24)).alloc (by simp) (.cells #[.int .i64 1, .int .i64 n', .string t', .slice A' l' c'] 24))
  go_enter Tryz.func84, Tryz.ntmps84
  go_wp2_with (go_at_call 83; refine (HP.out _).mono ?_; rintro e w1 ⟨rfl, rfl⟩)
  go_ret
  refine ⟨?_, HB0.out.alloc HB0.out.size _⟩
  congr 2
  simp only [bne]
  generalize (n == 0) = p
  generalize (n' == 0) = q
  cases p <;> cases q <;> rfl
set_option maxRecDepth 100000 in
set_option maxHeartbeats 2000000 in
theorem rsame_2 : Calls Tryz.prog 84 #[.agg #[.int .i64 2, .int .i64 n, .string t, .slice A l c], .agg #[.int .i64 2, .int .i64 n', .string t', .slice A' l' c']] w fun e w' => e = .returned (.bool (n == n')) ∧ Below w.heap.size w w' := by
  have HP := Lib.hid (fun w => rplain_any n t A l c w 2)
  have hp : plainB 2 = true := rfl
  rw [hp] at HP
  have HB0 := Lib.hid (((Below.refl w.heap.size w).alloc (Nat.le_refl _) (.cells #[.int .i64 2, .int .i64 n, .string t, .slice A l c] 24)).alloc (by simp) (.cells #[.int .i64 2, .int .i64 n', .string t', .slice A' l' c'] 24))
  go_enter Tryz.func84, Tryz.ntmps84
  go_wp2_with (go_at_call 83; refine (HP.out _).mono ?_; rintro e w1 ⟨rfl, rfl⟩)
  go_ret
  exact ⟨rfl, HB0.out.alloc HB0.out.size _⟩
set_option maxRecDepth 100000 in
set_option maxHeartbeats 2000000 in
theorem rsame_3 : Calls Tryz.prog 84 #[.agg #[.int .i64 3, .int .i64 n, .string t, .slice A l c], .agg #[.int .i64 3, .int .i64 n', .string t', .slice A' l' c']] w fun e w' => e = .returned (.bool (t.toList == t'.toList)) ∧ Below w.heap.size w w' := by
  have HP := Lib.hid (fun w => rplain_any n t A l c w 3)
  have hp : plainB 3 = true := rfl
  rw [hp] at HP
  have HB0 := Lib.hid (((Below.refl w.heap.size w).alloc (Nat.le_refl _) (.cells #[.int .i64 3, .int .i64 n, .string t, .slice A l c] 24)).alloc (by simp) (.cells #[.int .i64 3, .int .i64 n', .string t', .slice A' l' c'] 24))
  go_enter Tryz.func84, Tryz.ntmps84
  go_wp2_with (go_at_call 83; refine (HP.out _).mono ?_; rintro e w1 ⟨rfl, rfl⟩)
  go_ret
  exact ⟨rfl, HB0.out.alloc HB0.out.size _⟩
end
end Dp
end Go.Proofs.YtopmodahdmnpjaaGreatDoor
/- ostlerref08.alike: the walk. -/
namespace Go.Proofs.YtopmodahdmnpjaaGreatDoor
open Go.RowKit
namespace Dp
theorem region_tail {P : Program} {id : Nat} {Q : Exit → Act → World → Prop} {a : Act} {w : World} {l : List Oper} (n : Nat) (hm : P.follows .mixedOrders = true) (hB : Region.lexTailB .any l.toArray n = true)
    (h : wpStill P l.toArray w.drew (fun a' => wpList P l.toArray Q (l.drop n) a' w.drew) (l.take n) a) : (Code.region id l.toArray true).wp P Q a w := wp_region_still_tail n hm hB h
theorem toList_inj {a b : ByteArray} (h : a.toList = b.toList) : a = b := by
  rw [ByteArray.toList_eq, ByteArray.toList_eq] at h
  exact ByteArray.ext (Array.toList_inj.mp h)
theorem plain_cases {k : Int} (h : plainB k = true) : k = 0 ∨ k = 1 ∨ k = 2 ∨ k = 3 := by
  simp [plainB] at h
  omega
section
variable (n n' : Int) (t t' : ByteArray) (A A' : Option Addr) (l l' c c' : Nat) (w : World)
theorem rsame_any (k : Int) (h : plainB k = true) : Calls Tryz.prog 84 #[.agg #[.int .i64 k, .int .i64 n, .string t, .slice A l c], .agg #[.int .i64 k, .int .i64 n', .string t', .slice A' l' c']] w fun e w' => e = .returned (.bool (sameP k n t n' t')) ∧ Below w.heap.size w w' := by
  rcases plain_cases h with rfl | rfl | rfl | rfl
  · exact rsame_0 n n' t t' A A' l l' c c' w
  · exact rsame_1 n n' t t' A A' l l' c c' w
  · exact rsame_2 n n' t t' A A' l l' c c' w
  · exact rsame_3 n n' t t' A A' l l' c c' w
end
section
variable {w : World} {B : Nat}
set_option maxRecDepth 100000 in
set_option maxHeartbeats 4000000 in
theorem ralike_any (hBw : B ≤ w.heap.size) {g : GV} {x : Value} (h : VAt w B g x) : ∀ {g' : GV} {x' : Value}, VAt w B g' x' → ∀ w' : World, Below B w w' →
    Calls Tryz.prog 18 #[x, x'] w' fun e w'' => e = .returned (.bool (alikeV g g')) ∧ Below w'.heap.size w' w'' := by
  induction h with
  | mk k n t l A c b off C hc hn hA hi hv ih =>
    intro g' x' h' w' hb
    cases h' with
    | mk k' n' t' l' _ c' b' off' C' hc' hn' hA' hi' hv' =>
    rename_i A'
    have hB' : B ≤ w'.heap.size := Nat.le_trans hBw hb.size
    have HA := Lib.hid hA
    have HI := Lib.hid hi
    have HV := Lib.hid ih
    have HW := Lib.hid hv
    have HA2 := Lib.hid hA'
    have HI2 := Lib.hid hi'
    have HW2 := Lib.hid hv'
    have Hb := Lib.hid hb
    obtain ⟨M, HM⟩ : ∃ z, Hid (alikeV (.mk k n t l) (.mk k' n' t' l') = z) := ⟨_, rfl⟩
    rw [HM.out]
    clear hA hi hv ih hb hA' hi' hv'
    by_cases hk : k = k'
    · subst hk
      have HB0 := Lib.hid (((Below.refl w'.heap.size w').alloc (Nat.le_refl _) (.cells #[.int .i64 k, .int .i64 n, .string t, .slice A l.length c] 24)).alloc (by simp) (.cells #[.int .i64 k, .int .i64 n', .string t', .slice A' l'.length c'] 24))
      by_cases hp : plainB k = true
      · have hM : M = sameP k n t n' t' := by
          have := plain_cases hp
          rw [← HM.out, alikeV, if_neg (by simp), if_pos (by omega)]
        subst hM
        have HP := Lib.hid (fun w => rplain_any n t A l.length c w k)
        have HS := Lib.hid (fun w => rsame_any n n' t t' A A' l.length l'.length c c' w k hp)
        rw [hp] at HP
        have HD := fun (w1 w2 : World) (h : Below w'.heap.size w' w1) (h2 : Below w1.heap.size w1 w2) => h.trans (h2.mono h.size)
        clear HA HI HV HW HA2 HI2 HW2 HM Hb hp
        go_enter Tryz.func18, Tryz.ntmps18
        go_wp2_with (first | (go_at_call 83; refine (HP.out _).mono ?_; rintro e w1 ⟨rfl, rfl⟩) | (go_at_call 84; refine (HS.out _).mono ?_; rintro e w1 ⟨rfl, hb2⟩))
        go_ret
        exact ⟨rfl, HD _ _ (HB0.out.alloc HB0.out.size _) hb2⟩
      · have hp0 : plainB k = false := by simpa using hp
        have HP := Lib.hid (fun w => rplain_any n t A l.length c w k)
        rw [hp0] at HP
        have hnp : ¬ (0 ≤ k ∧ k ≤ 3) := by simpa [plainB] using hp
        clear hp hp0
        by_cases h5 : k = 5
        · subst h5
          have hM : M = (n == n') := by rw [← HM.out, alikeV, if_neg (by simp), if_neg (by omega), if_pos rfl]
          subst hM
          clear HA HI HV HW HA2 HI2 HW2 HM Hb hnp
          go_enter Tryz.func18, Tryz.ntmps18
          go_wp2_with (go_at_call 83; refine (HP.out _).mono ?_; rintro e w1 ⟨rfl, rfl⟩)
          go_ret
          exact ⟨rfl, HB0.out.alloc HB0.out.size _⟩
        · have b5 : (k == 5) = false := by simpa using h5
          by_cases h4 : k = 4
          · subst h4
            clear b5 h5 hnp
            by_cases hl : l.length = l'.length
            · have HM0 : Hid (M = alikeL l l') := by
                show _ = _
                rw [← HM.out, alikeV, if_neg (by simp), if_neg (by omega), if_neg (by omega), if_neg (by simp), if_neg (by simpa using hl)]
              rw [← hl]
              rw [← hl] at HB0
              have hal := fun (w1 : World) (o : Obj) => (Below.refl w1.heap.size w1).alloc (Nat.le_refl _) o
              have HX0 := Lib.hid (blk_below (blk_below (Blk.new w' 24 #[.int .i64 4, .int .i64 n, .string t, .slice A l.length c]) (hal _ (.cells #[.int .i64 4, .int .i64 n', .string t', .slice A' l.length c'] 24))) (hal _ (.cells #[.int .i64 4, .int .i64 n, .string t, .slice A l.length c] 24)))
              have hy := Blk.new (w'.alloc (.cells #[.int .i64 4, .int .i64 n, .string t, .slice A l.length c] 24)) 24 #[.int .i64 4, .int .i64 n', .string t', .slice A' l.length c']
              have hw1 : (w'.alloc (.cells #[.int .i64 4, .int .i64 n, .string t, .slice A l.length c] 24)).heap.size = w'.heap.size + 1 := by simp
              rw [hw1] at hy
              have HY0 := Lib.hid (blk_below hy (hal _ (.cells #[.int .i64 4, .int .i64 n, .string t, .slice A l.length c] 24)))
              have HB1 := Lib.hid (HB0.out.alloc HB0.out.size (.cells #[.int .i64 4, .int .i64 n, .string t, .slice A l.length c] 24))
              have HLL := Lib.hid hl
              have HAL := Lib.hid hal
              clear hy hw1 HB0 HM hl hal
              go_enter Tryz.func18, Tryz.ntmps18
              go_wp2_with (go_at_call 83; refine (HP.out _).mono ?_; rintro e w1 ⟨rfl, rfl⟩)
              clear HP
              go_loopw [5] (fun xi wx => ∃ (j : Nat), j ≤ l.length ∧ xi = .int .i64 j ∧ Hid (M = alikeL (l.drop j) (l'.drop j)) ∧ Hid (Below w'.heap.size w' wx) ∧ Hid (Blk wx w'.heap.size 24 #[.int .i64 4, .int .i64 n, .string t, .slice A l.length c]) ∧ Hid (Blk wx (w'.heap.size + 1) 24 #[.int .i64 4, .int .i64 n', .string t', .slice A' l.length c'])) (fun xi _ => l.length - (ixOf xi).toNat)
              case atStart => exact ⟨0, Nat.zero_le _, rfl, by simpa using HM0, HB1, HX0, HY0⟩
              case round =>
                obtain ⟨j, hj, rfl, HL, HB, HX, HY⟩ := hrel
                clear HB1 HM0 HX0 HY0
                have x3 := HX.out.cell 3
                have y3 := HY.out.cell 3
                by_cases hlt : j < l.length
                · obtain ⟨it, hit⟩ : ∃ it, l[j]? = some it := ⟨_, List.getElem?_eq_getElem hlt⟩
                  have hlt' : j < l'.length := by rw [← HLL.out]; exact hlt
                  obtain ⟨it', hit'⟩ : ∃ it, l'[j]? = some it := ⟨_, List.getElem?_eq_getElem hlt'⟩
                  obtain ⟨rfl, hbB⟩ := HA.out (by omega)
                  obtain ⟨rfl, hbB'⟩ := HA2.out (by rw [← HLL.out]; omega)
                  have hbw : Below B w wr := Hb.out.trans (HB.out.mono hB')
                  have hwr := HB.out.size
                  obtain ⟨c0, c1, c2, v0, v1, v2, v3, e, c3, c4, c5, c6⟩ := (HI.out j it hit).below hbw hbB
                  have hform := HW.out j it hit
                  rw [e] at hform
                  obtain ⟨k1, n1, t1, A1, l1, e1, rfl, rfl, rfl, rfl⟩ := hform.form
                  have Hbw := Lib.hid (hbw)
                  have HBa := Lib.hid (HB.out)
                  have HXa := Lib.hid (HX.out)
                  have HYa := Lib.hid (HY.out)
                  obtain ⟨d0, d1, d2, u0, u1, u2, u3, e', d3, d4, d5, d6⟩ := (HI2.out j it' hit').below Hbw.out hbB'
                  have hform' := HW2.out j it' hit'
                  have HV2 := Lib.hid hform'
                  rw [e'] at hform'
                  obtain ⟨k2, n2, t2, A2, l2, e2, rfl, rfl, rfl, rfl⟩ := hform'.form
                  have HR := Lib.hid (fun wz (hz : Below B w wz) => HV.out j it hit HV2.out wz hz)
                  rw [e, e'] at HR
                  have HD := Lib.hid (HL.out.trans (alikeL_drop l l' j it it' hit hit'))
                  clear hform hform' HV2 HW HW2 HV HI HI2 HL e e' hbw
                  generalize alikeV it.val it'.val = q at *
                  by_cases hkey : it.isText = it'.isText ∧ it.int = it'.int ∧ it.text = it'.text
                  · have HD2 := Lib.hid (HD.out.trans (if_neg (by simpa using hkey)))
                    rw [← hkey.1] at d0
                    rw [← hkey.2.1] at d1
                    rw [← hkey.2.2] at d2
                    have HZ := Lib.hid (drewN' Hbw.out 1)
                    have HBz := Lib.hid (drewN' HBa.out 1)
                    have HXz := Lib.hid (blk_below HXa.out (drewN' (Below.refl _ _) 1))
                    have HYz := Lib.hid (blk_below HYa.out (drewN' (Below.refl _ _) 1))
                    clear HD hkey
                    go_wp2_with fail
                    refine region_tail 26 (by kernel_rfl) (by kernel_rfl) ?_
                    simp only [List.take_succ_cons, List.take_zero, List.drop_succ_cons, List.drop_zero]
                    repeat still_step
                    refine wpStill_nil ?_
                    cases q with
                    | false =>
                      have hM : M = false := HD2.out.trans (if_neg (by decide))
                      subst hM
                      clear HD2
                      go_wp2_with (go_at_call 18; refine (HR.out _ HZ.out).mono ?_; rintro e w2 ⟨rfl, hb2⟩; have HB2 := Lib.hid (HBz.out.trans (hb2.mono HBz.out.size)); clear hb2)
                      go_ret
                      exact ⟨rfl, HB2.out⟩
                    | true =>
                      have HD3 := Lib.hid (HD2.out.trans (if_pos rfl))
                      clear HD2
                      go_wp2_with (go_at_call 18; refine (HR.out _ HZ.out).mono ?_; rintro e w2 ⟨rfl, hb2⟩; have HB2 := Lib.hid (HBz.out.trans (hb2.mono HBz.out.size)); have HX2 := Lib.hid (blk_below HXz.out hb2); have HY2 := Lib.hid (blk_below HYz.out hb2); clear hb2)
                      go_roundw
                      case rel => exact ⟨j + 1, by omega, by go_num, HD3, HB2, HX2, HY2⟩
                      case measure => simp [ixOf] <;> omega
                  · have hM : M = false := HD.out.trans (if_pos hkey)
                    subst hM
                    clear HD HR
                    have HE := HBa.out
                    go_wp2_with fail
                    by_cases h1 : it.isText = it'.isText
                    · rw [← h1] at d0
                      by_cases h2 : it.int = it'.int
                      · rw [← h2] at d1
                        have h3 : it.text ≠ it'.text := fun h3 => hkey ⟨h1, h2, h3⟩
                        have b3 : (it.text.toList == it'.text.toList) = false := by
                          simp only [beq_eq_false_iff_ne, ne_eq]
                          exact fun h => h3 (toList_inj h)
                        clear h1 h2 h3 hkey
                        go_quiet (fail)
                        go_wp2_with fail
                        go_ret
                        exact ⟨rfl, drewN' HE _⟩
                      · have b2 : (it.int == it'.int) = false := by simpa using h2
                        clear h1 h2 hkey
                        go_quiet (fail)
                        go_wp2_with fail
                        go_ret
                        exact ⟨rfl, drewN' HE _⟩
                    · have b1 : (it.isText == it'.isText) = false := by simpa using h1
                      clear h1 hkey
                      go_quiet (fail)
                      go_wp2_with fail
                      go_ret
                      exact ⟨rfl, drewN' HE _⟩
                · obtain rfl : j = l.length := by omega
                  have hM : M = true := by rw [HL.out, List.drop_length]; cases l'.drop l.length <;> rfl
                  subst hM
                  clear HI HV HL HA HA2 HI2 HW HW2
                  go_wp2_with fail
                  go_ret
                  exact ⟨rfl, HB.out⟩
            · have hM : M = false := by rw [← HM.out, alikeV, if_neg (by simp), if_neg (by omega), if_neg (by omega), if_neg (by simp), if_pos hl]
              subst hM
              have bl : ((l.length : Int) == (l'.length : Int)) = false := by simp; omega
              clear HA HI HV HW HA2 HI2 HW2 HM Hb hl
              go_enter Tryz.func18, Tryz.ntmps18
              go_wp2_with (go_at_call 83; refine (HP.out _).mono ?_; rintro e w1 ⟨rfl, rfl⟩)
              go_ret
              exact ⟨rfl, HB0.out.alloc HB0.out.size _⟩
          · have b4 : (k == 4) = false := by simpa using h4
            have hM : M = false := by rw [← HM.out, alikeV, if_neg (by simp), if_neg hnp, if_neg h5, if_pos h4]
            subst hM
            clear HA HI HV HW HA2 HI2 HW2 HM Hb hnp h4 h5
            go_enter Tryz.func18, Tryz.ntmps18
            go_wp2_with (go_at_call 83; refine (HP.out _).mono ?_; rintro e w1 ⟨rfl, rfl⟩)
            go_ret
            exact ⟨rfl, HB0.out.alloc HB0.out.size _⟩
    · have hM : M = false := by rw [← HM.out, alikeV, if_pos hk]
      subst hM
      have bk : (k == k') = false := by simpa using hk
      have HB0 := Lib.hid (((Below.refl w'.heap.size w').alloc (Nat.le_refl _) (.cells #[.int .i64 k, .int .i64 n, .string t, .slice A l.length c] 24)).alloc (by simp) (.cells #[.int .i64 k', .int .i64 n', .string t', .slice A' l'.length c'] 24))
      clear HA HI HV HW HA2 HI2 HW2 HM Hb hk
      go_enter Tryz.func18, Tryz.ntmps18
      go_wp2_with fail
      go_ret
      exact ⟨rfl, HB0.out⟩
end
end Dp
end Go.Proofs.YtopmodahdmnpjaaGreatDoor
/- ostlerref08.Same: the walk. -/
namespace Go.Proofs.YtopmodahdmnpjaaGreatDoor
open Go.RowKit
namespace Dp
section
variable {w : World} {B : Nat}
set_option maxRecDepth 100000 in
set_option maxHeartbeats 2000000 in
theorem rsame_all (hBw : B ≤ w.heap.size) {g g' : GV} {x x' : Value} (h : VAt w B g x) (h' : VAt w B g' x') (w' : World) (hb : Below B w w') :
    Calls Tryz.prog 9 #[x, x'] w' fun e w'' => e = .returned (.bool (sameB g g')) ∧ Below w'.heap.size w' w'' := by
  obtain ⟨k, n, t, A, l, c, rfl⟩ := vagg h
  obtain ⟨k', n', t', A', l', c', rfl⟩ := vagg h'
  have HW := Lib.hid hBw
  have HS := Lib.hid (Nat.le_trans hBw hb.size)
  have Hh := Lib.hid h
  have Hk := Lib.hid h'
  have HY := Lib.hid (((Below.refl w'.heap.size w').alloc (Nat.le_refl _) (.cells #[.int .i64 k, .int .i64 n, .string t, .slice A l c] 24)).alloc (by simp) (.cells #[.int .i64 k', .int .i64 n', .string t', .slice A' l' c'] 24))
  have HZ := Lib.hid (hb.trans (HY.out.mono HS.out))
  have hal := fun (w1 : World) (o : Obj) => (Below.refl w1.heap.size w1).alloc (Nat.le_refl _) o
  have HX1 := Lib.hid (blk_below (Blk.new w' 24 #[.int .i64 k, .int .i64 n, .string t, .slice A l c]) (hal _ (.cells #[.int .i64 k', .int .i64 n', .string t', .slice A' l' c'] 24)))
  have hy := Blk.new (w'.alloc (.cells #[.int .i64 k, .int .i64 n, .string t, .slice A l c] 24)) 24 #[.int .i64 k', .int .i64 n', .string t', .slice A' l' c']
  have hw1 : (w'.alloc (.cells #[.int .i64 k, .int .i64 n, .string t, .slice A l c] 24)).heap.size = w'.heap.size + 1 := by simp
  rw [hw1] at hy
  have HX2 := Lib.hid hy
  clear h h' hb hy hw1 hal hBw
  unfold sameB
  by_cases hm : 0 ≤ leftV g 2048
  · have f1 := few_yes hm
    have d1 : decide (0 ≤ leftV g 2048) = true := decide_eq_true hm
    rw [f1, Bool.true_and]
    by_cases hk : 0 ≤ leftV g' 2048
    · have f2 := few_yes hk
      have d2 : decide (0 ≤ leftV g' 2048) = true := decide_eq_true hk
      rw [f2, Bool.true_and]
      go_enter Tryz.func9, Tryz.ntmps9
      go_wp2_with (first | (go_at_call 16; refine (few_any HW.out (by first | exact Hh.out | exact Hk.out) _ HZ.out).mono ?_; rintro e w2 ⟨rfl, hb2⟩; have HZ := Lib.hid (HZ.out.trans (hb2.mono (Nat.le_trans HS.out HY.out.size))); have HY := Lib.hid (HY.out.trans (hb2.mono HY.out.size)); have HX1 := Lib.hid (blk_below HX1.out hb2); have HX2 := Lib.hid (blk_below HX2.out hb2); have x0 := HX1.out.cell 0; have x1 := HX1.out.cell 1; have x2 := HX1.out.cell 2; have x3 := HX1.out.cell 3; have y0 := HX2.out.cell 0; have y1 := HX2.out.cell 1; have y2 := HX2.out.cell 2; have y3 := HX2.out.cell 3; clear hb2) | (go_at_call 18; refine (ralike_any HW.out Hh.out Hk.out _ HZ.out).mono ?_; rintro e w2 ⟨rfl, hb2⟩; have HZ := Lib.hid (HZ.out.trans (hb2.mono (Nat.le_trans HS.out HY.out.size))); have HY := Lib.hid (HY.out.trans (hb2.mono HY.out.size)); have HX1 := Lib.hid (blk_below HX1.out hb2); have HX2 := Lib.hid (blk_below HX2.out hb2); have x0 := HX1.out.cell 0; have x1 := HX1.out.cell 1; have x2 := HX1.out.cell 2; have x3 := HX1.out.cell 3; have y0 := HX2.out.cell 0; have y1 := HX2.out.cell 1; have y2 := HX2.out.cell 2; have y3 := HX2.out.cell 3; clear hb2))
      go_ret
      exact ⟨rfl, HY.out⟩
    · have f2 := few_no hk
      have d2 : decide (0 ≤ leftV g' 2048) = false := decide_eq_false hk
      rw [f2, Bool.false_and]
      go_enter Tryz.func9, Tryz.ntmps9
      go_wp2_with (first | (go_at_call 16; refine (few_any HW.out (by first | exact Hh.out | exact Hk.out) _ HZ.out).mono ?_; rintro e w2 ⟨rfl, hb2⟩; have HZ := Lib.hid (HZ.out.trans (hb2.mono (Nat.le_trans HS.out HY.out.size))); have HY := Lib.hid (HY.out.trans (hb2.mono HY.out.size)); have HX1 := Lib.hid (blk_below HX1.out hb2); have HX2 := Lib.hid (blk_below HX2.out hb2); have x0 := HX1.out.cell 0; have x1 := HX1.out.cell 1; have x2 := HX1.out.cell 2; have x3 := HX1.out.cell 3; have y0 := HX2.out.cell 0; have y1 := HX2.out.cell 1; have y2 := HX2.out.cell 2; have y3 := HX2.out.cell 3; clear hb2) | (go_at_call 18; refine (ralike_any HW.out Hh.out Hk.out _ HZ.out).mono ?_; rintro e w2 ⟨rfl, hb2⟩; have HZ := Lib.hid (HZ.out.trans (hb2.mono (Nat.le_trans HS.out HY.out.size))); have HY := Lib.hid (HY.out.trans (hb2.mono HY.out.size)); have HX1 := Lib.hid (blk_below HX1.out hb2); have HX2 := Lib.hid (blk_below HX2.out hb2); have x0 := HX1.out.cell 0; have x1 := HX1.out.cell 1; have x2 := HX1.out.cell 2; have x3 := HX1.out.cell 3; have y0 := HX2.out.cell 0; have y1 := HX2.out.cell 1; have y2 := HX2.out.cell 2; have y3 := HX2.out.cell 3; clear hb2))
      go_ret
      exact ⟨rfl, HY.out⟩
  · have f1 := few_no hm
    have d1 : decide (0 ≤ leftV g 2048) = false := decide_eq_false hm
    rw [f1, Bool.false_and]
    go_enter Tryz.func9, Tryz.ntmps9
    go_wp2_with (first | (go_at_call 16; refine (few_any HW.out (by first | exact Hh.out | exact Hk.out) _ HZ.out).mono ?_; rintro e w2 ⟨rfl, hb2⟩; have HZ := Lib.hid (HZ.out.trans (hb2.mono (Nat.le_trans HS.out HY.out.size))); have HY := Lib.hid (HY.out.trans (hb2.mono HY.out.size)); have HX1 := Lib.hid (blk_below HX1.out hb2); have HX2 := Lib.hid (blk_below HX2.out hb2); have x0 := HX1.out.cell 0; have x1 := HX1.out.cell 1; have x2 := HX1.out.cell 2; have x3 := HX1.out.cell 3; have y0 := HX2.out.cell 0; have y1 := HX2.out.cell 1; have y2 := HX2.out.cell 2; have y3 := HX2.out.cell 3; clear hb2) | (go_at_call 18; refine (ralike_any HW.out Hh.out Hk.out _ HZ.out).mono ?_; rintro e w2 ⟨rfl, hb2⟩; have HZ := Lib.hid (HZ.out.trans (hb2.mono (Nat.le_trans HS.out HY.out.size))); have HY := Lib.hid (HY.out.trans (hb2.mono HY.out.size)); have HX1 := Lib.hid (blk_below HX1.out hb2); have HX2 := Lib.hid (blk_below HX2.out hb2); have x0 := HX1.out.cell 0; have x1 := HX1.out.cell 1; have x2 := HX1.out.cell 2; have x3 := HX1.out.cell 3; have y0 := HX2.out.cell 0; have y1 := HX2.out.cell 1; have y2 := HX2.out.cell 2; have y3 := HX2.out.cell 3; clear hb2))
    go_ret
    exact ⟨rfl, HY.out⟩
end
end Dp
end Go.Proofs.YtopmodahdmnpjaaGreatDoor
