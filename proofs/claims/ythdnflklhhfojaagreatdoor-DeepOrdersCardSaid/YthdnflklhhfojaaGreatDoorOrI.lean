/- deep.lists: the order of two lists: the walk. -/
import Derived.Test.YthdnflklhhfojaaGreatDoorOrH
import Derived.Test.YthdnflklhhfojaaGreatDoorDpC
import Derived.Test.YthdnflklhhfojaaGreatDoorHeld
import Derived.Still
import Derived.StillTactics
import Derived.StillTail
import Derived.BigQuiet
import Derived.Deep.RegionHeld3
import Derived.Carry
import Derived.Maps.Own
import Derived.Maps.OwnOps
namespace Go.Proofs.YthdnflklhhfojaaGreatDoor
open Go Go.RowKit
namespace Dp
open Go.Proofs.YthdnflklhhfojaaGreatDoor.Nm (keyV)
theorem vagg2 {w : World} {B : Nat} {g : GV} {x : Value} (h : VAt w B g x) : ∃ (k n : Int) (t : ByteArray) (A : Option Addr) (l c : Nat), x = .agg #[.int .i64 k, .int .i64 n, .string t, .slice A l c] := by
  cases h
  exact ⟨_, _, _, _, _, _, rfl⟩
section
variable {w : World} {B : Nat}
set_option maxRecDepth 100000 in
set_option maxHeartbeats 4000000 in
theorem lists_main (hBw : B ≤ w.heap.size) (l l' : List GI) (A : Option Addr) (c b off : Nat) (C : Nat → Value) (A' : Option Addr) (c' b' off' : Nat) (C' : Nat → Value)
    (hA : 0 < l.length → A = some ⟨b, off, none⟩ ∧ b < B) (hi : ∀ i it, l[i]? = some it → ItemAt w b (off + i * 7) it (C i)) (hW : ∀ i it, l[i]? = some it → VAt w B it.val (C i))
    (hF : ∀ (i : Nat) (it : GI), l[i]? = some it → In64 it.int ∧ it.text.size ≤ 140737488351232)
    (hA' : 0 < l'.length → A' = some ⟨b', off', none⟩ ∧ b' < B) (hi' : ∀ i it, l'[i]? = some it → ItemAt w b' (off' + i * 7) it (C' i)) (hW' : ∀ i it, l'[i]? = some it → VAt w B it.val (C' i))
    (hF' : ∀ (i : Nat) (it : GI), l'[i]? = some it → In64 it.int ∧ it.text.size ≤ 140737488351232)
    (hd' : ∀ (j : Nat) (it : GI), l'[j]? = some it → GI.keyG it ∉ keysOf l' j)
    (ih : ∀ i it, l[i]? = some it → ∀ i' it', l'[i']? = some it' → ∀ w1 : World, Below B w w1 → Calls Tryz.prog 44 #[C i, C' i'] w1 fun e w2 => e = .returned (.int .i64 (ordV it.val it'.val)) ∧ Below w1.heap.size w1 w2)
    (m : Nat) (hm : l.length = m) (hm' : l'.length = m) (hml : m ≤ 2048) (w' : World) (hb : Below B w w') :
    Calls Tryz.prog 73 #[.slice A m c, .slice A' m c'] w' fun e w'' => e = .returned (.int .i64 (if missL l (keysOf l' m) = true then 1 else ordL l l')) ∧ Below w'.heap.size w' w'' := by
  have hB' : B ≤ w'.heap.size := Nat.le_trans hBw hb.size
  have HA := Lib.hid hA
  have HI := Lib.hid hi
  have HW := Lib.hid hW
  have HF := Lib.hid hF
  have HA2 := Lib.hid hA'
  have HI2 := Lib.hid hi'
  have HW2 := Lib.hid hW'
  have HF2 := Lib.hid hF'
  have HD2 := Lib.hid hd'
  have HV := Lib.hid ih
  have HML := Lib.hid hm
  have HML2 := Lib.hid hm'
  have Hb := Lib.hid hb
  have HKA := Lib.hid (show l'.map GI.keyG = keysOf l' m by rw [← keysOf_all, hm'])
  have hal := fun (w1 : World) (o : Obj) => (Below.refl w1.heap.size w1).alloc (Nat.le_refl _) o
  have HAL := Lib.hid hal
  have HB0 := Lib.hid ((Below.refl w'.heap.size w').alloc (Nat.le_refl _) (.map #[] 0))
  have HM0 : Hid (ValsAt (w'.alloc (.map #[] 0)) w'.heap.size 0 (valsOf l' C' 0)) := by
    show ValsAt _ _ _ _
    rw [valsOf_zero]
    exact ValsAt.made w'
  obtain ⟨M, HM⟩ : ∃ z, Hid ((if missL l (keysOf l' m) = true then 1 else ordL l l') = z) := ⟨_, rfl⟩
  rw [HM.out]
  have bne : ((m : Int) != (m : Int)) = false := by simp
  clear hA hi hW hF hA' hi' hW' hF' hd' ih hm hm' hb hal
  have hmm := @run_makeMap Tryz.prog
  go_enter Tryz.func73, Tryz.ntmps73
  go_wp2_with fail
  go_loopw [28] (fun xi wx => ∃ (j : Nat), j ≤ m ∧ xi = .int .i64 j ∧ Hid (Below w'.heap.size w' wx) ∧ Hid (ValsAt wx w'.heap.size j (valsOf l' C' j))) (fun xi _ => m - (ixOf xi).toNat)
  case atStart => exact ⟨0, Nat.zero_le _, rfl, HB0, HM0⟩
  case round =>
    obtain ⟨j, hj, rfl, HB, HMt⟩ := hrel
    clear HB0 HM0
    by_cases hlt : j < m
    · obtain ⟨it, hit⟩ : ∃ it, l'[j]? = some it := ⟨_, List.getElem?_eq_getElem (by rw [HML2.out]; exact hlt)⟩
      obtain ⟨rfl, hbB⟩ := HA2.out (by rw [HML2.out]; omega)
      have hbw : Below B w wr := Hb.out.trans (HB.out.mono hB')
      have hwr := HB.out.size
      obtain ⟨c0, c1, c2, v0, v1, v2, v3, e, c3, c4, c5, c6⟩ := (HI2.out j it hit).below hbw hbB
      have hform := HW2.out j it hit
      rw [e] at hform
      obtain ⟨k1, n1, t1, A1, l1, e1, rfl, rfl, rfl, rfl⟩ := hform.form
      have hS := valsOf_succ l' C' j it hit (HD2.out j it hit)
      rw [keyG_eq, e] at hS
      have HS := Lib.hid hS
      obtain ⟨hki, hks⟩ := HF2.out j it hit
      clear hform hS e HA HI HW HF HI2 HW2 HF2 HD2 HV HM HKA HML HML2
      generalize it.isText = ib at *
      generalize it.int = ii at *
      generalize it.text = is at *
      have HKO := Lib.hid (show KeyOK (ib, ii, is) from ⟨hki, hks⟩)
      clear hki hks
      have HYi := Lib.hid (HB.out.alloc HB.out.size (.cells #[.bool ib, .int .i64 ii, .string is, .int .i64 k1, .int .i64 n1, .string t1, .slice A1 l1 e1] 65))
      have HMi := Lib.hid (HMt.out.below (HAL.out _ (.cells #[.bool ib, .int .i64 ii, .string is, .int .i64 k1, .int .i64 n1, .string t1, .slice A1 l1 e1] 65)))
      have HIi := Lib.hid (Blk.new wr 65 #[.bool ib, .int .i64 ii, .string is, .int .i64 k1, .int .i64 n1, .string t1, .slice A1 l1 e1])
      have hsz := HYi.out.size
      have d0 := HIi.out.cell 0
      have d1 := HIi.out.cell 1
      have d2 := HIi.out.cell 2
      have d3 := HIi.out.cell 3
      have d4 := HIi.out.cell 4
      have d5 := HIi.out.cell 5
      have d6 := HIi.out.cell 6
      clear HB HMt hbw
      go_wp2_with (at_mapUpdate; refine wpList_vals_put rfl _ _ _ rfl rfl HMi.out (by unfold maxLen; omega) (ib, ii, is) HKO.out rfl _ rfl ?_; intro w5 hm5 hg5; have HM5 : Hid (ValsAt w5 w'.heap.size (j + 1) (valsOf l' C' (j + 1))) := (by show ValsAt _ _ _ _; rw [HS.out]; exact hm5); have HY5 := Lib.hid (HYi.out.grown hg5 hsz (fun g h => by injection h with h; omega)); clear hm5 hg5)
      go_roundw
      case rel => exact ⟨j + 1, by omega, by go_num, HY5, HM5⟩
      case measure => simp [ixOf] <;> omega
    · have hjm : j = m := by omega
      have HMt1 : Hid (ValsAt wr w'.heap.size m (valsOf l' C' m)) := by
        rw [← hjm]
        exact HMt
      have HB1 := HB
      clear HD2 HF2 HMt HB
      go_wp2_with fail
      clear hjm hlt hj
      rename World => w1
      have HMs : Hid (missL l (keysOf l' m) = missL (l.drop 0) (keysOf l' m)) := rfl
      go_loopw [40] (fun xi wx => ∃ (i : Nat), i ≤ m ∧ xi = .int .i64 i ∧ Hid (missL l (keysOf l' m) = missL (l.drop i) (keysOf l' m)) ∧ Hid (Below w'.heap.size w' wx) ∧ Hid (ValsAt wx w'.heap.size m (valsOf l' C' m))) (fun xi _ => m - (ixOf xi).toNat)
      case atStart => exact ⟨0, Nat.zero_le _, rfl, HMs, HB1, HMt1⟩
      case round =>
        clear HMs HB1 HMt1
        obtain ⟨i, hi, rfl, HMs, HB, HMt⟩ := hrel
        by_cases hlt : i < m
        · obtain ⟨it, hit⟩ : ∃ it, l[i]? = some it := ⟨_, List.getElem?_eq_getElem (by rw [HML.out]; exact hlt)⟩
          obtain ⟨rfl, hbB⟩ := HA.out (by rw [HML.out]; omega)
          have hbw : Below B w wr := Hb.out.trans (HB.out.mono hB')
          have hwr := HB.out.size
          obtain ⟨c0, c1, c2, v0, v1, v2, v3, e, c3, c4, c5, c6⟩ := (HI.out i it hit).below hbw hbB
          have hform := HW.out i it hit
          rw [e] at hform
          obtain ⟨k1, n1, t1, A1, l1, e1, rfl, rfl, rfl, rfl⟩ := hform.form
          have HS := Lib.hid (HMs.out.trans (missL_drop l i it hit (keysOf l' m)))
          rw [keyG_eq] at HS
          obtain ⟨hki, hks⟩ := HF.out i it hit
          clear hform e HA HI HW HF HI2 HV HML HMs
          generalize it.isText = ib at *
          generalize it.int = ii at *
          generalize it.text = is at *
          have hKO : KeyOK (ib, ii, is) := ⟨hki, hks⟩
          have HYi := Lib.hid (HB.out.alloc HB.out.size (.cells #[.bool ib, .int .i64 ii, .string is, .int .i64 k1, .int .i64 n1, .string t1, .slice A1 l1 e1] 65))
          have hMi := HMt.out.below (HAL.out _ (.cells #[.bool ib, .int .i64 ii, .string is, .int .i64 k1, .int .i64 n1, .string t1, .slice A1 l1 e1] 65))
          have HIi := Lib.hid (Blk.new wr 65 #[.bool ib, .int .i64 ii, .string is, .int .i64 k1, .int .i64 n1, .string t1, .slice A1 l1 e1])
          have hq := hMi.look_ok (ib, ii, is) hKO
          clear HB HMt hbw hki hks hKO
          have d0 := HIi.out.cell 0
          have d1 := HIi.out.cell 1
          have d2 := HIi.out.cell 2
          have d3 := HIi.out.cell 3
          have d4 := HIi.out.cell 4
          have d5 := HIi.out.cell 5
          have d6 := HIi.out.cell 6
          by_cases hmem : (ib, ii, is) ∈ keysOf l' m
          · have hfy := findK_yes hmem
            have HS2 := Lib.hid (HS.out.trans (if_pos hmem))
            have hv : valsOf l' C' m (ib, ii, is) = some (C' (findK (keysOf l' m) (ib, ii, is) 0).toNat) := by
              unfold valsOf
              rw [if_pos hfy.1]
            rw [hv] at hq
            obtain ⟨q, hqq⟩ : ∃ q : Nat, (findK (keysOf l' m) (ib, ii, is) 0).toNat = q := ⟨_, rfl⟩
            rw [hqq] at hq
            have hql : q < l'.length := by
              have := hfy.2
              rw [keysOf_len l' m (by rw [HML2.out]; exact Nat.le_refl _)] at this
              rw [HML2.out]
              omega
            have hform2 := HW2.out q _ (List.getElem?_eq_getElem hql)
            obtain ⟨k2, n2, t2, A2, l2, e2, hc2⟩ := vagg2 hform2
            rw [hc2] at hq
            have hq2 : (Instr.lookup 127 (.map (some w'.heap.size)) (.agg #[.bool ib, .int .i64 ii, .string is]) true).run Tryz.prog (wr.alloc (.cells #[.bool ib, .int .i64 ii, .string is, .int .i64 k1, .int .i64 n1, .string t1, .slice A1 l1 e1] 65)) = .ok (.tuple #[.agg #[.int .i64 k2, .int .i64 n2, .string t2, .slice A2 l2 e2], .bool true]) (wr.alloc (.cells #[.bool ib, .int .i64 ii, .string is, .int .i64 k1, .int .i64 n1, .string t1, .slice A1 l1 e1] 65)) := hq
            have HYj := Lib.hid (HYi.out.alloc HYi.out.size (.cells #[.int .i64 k2, .int .i64 n2, .string t2, .slice A2 l2 e2] 27))
            have HMj := Lib.hid (hMi.below (HAL.out _ (.cells #[.int .i64 k2, .int .i64 n2, .string t2, .slice A2 l2 e2] 27)))
            clear hq hc2 hform2 hql hqq hv hfy HS HW2 HML2 HKA HM hMi HYi hmem
            go_wp2_with fail
            go_roundw
            case rel => exact ⟨i + 1, by omega, by go_num, HS2, HYj, HMj⟩
            case measure => simp [ixOf] <;> omega
          · have hmm2 : missL l (keysOf l' m) = true := HS.out.trans (if_neg hmem)
            have hM1 : M = 1 := by
              have := HM.out
              rw [if_pos hmm2] at this
              exact this.symm
            subst hM1
            have hv : valsOf l' C' m (ib, ii, is) = none := by
              unfold valsOf
              rw [if_neg (by have := findK_no hmem; omega)]
            rw [hv] at hq
            have hq2 : (Instr.lookup 127 (.map (some w'.heap.size)) (.agg #[.bool ib, .int .i64 ii, .string is]) true).run Tryz.prog (wr.alloc (.cells #[.bool ib, .int .i64 ii, .string is, .int .i64 k1, .int .i64 n1, .string t1, .slice A1 l1 e1] 65)) = .ok (.tuple #[.agg #[.int .i64 0, .int .i64 0, .string ⟨#[]⟩, .slice none 0 0], .bool false]) (wr.alloc (.cells #[.bool ib, .int .i64 ii, .string is, .int .i64 k1, .int .i64 n1, .string t1, .slice A1 l1 e1] 65)) := hq
            have HYj := Lib.hid (HYi.out.alloc HYi.out.size (.cells #[.int .i64 0, .int .i64 0, .string ⟨#[]⟩, .slice none 0 0] 27))
            clear hq hv HS HW2 HML2 HKA HM hMi HYi hmem hmm2
            go_wp2_with fail
            go_ret
            exact ⟨rfl, HYj.out⟩
        · have hjm : i = m := by omega
          have hms : missL l (keysOf l' m) = false := by
            rw [HMs.out, hjm, ← HML.out, List.drop_length]
            rfl
          have HMO : Hid (M = ordL (l.drop 0) l') := by
            show _ = _
            rw [← HM.out, hms, if_neg (by decide), List.drop_zero]
          have HNO := Lib.hid (missL_no l (keysOf l' m) hms)
          have HB1 := HB
          have HMt1 := HMt
          clear HMt HB HM hms HMs
          go_wp2_with fail
          clear hjm hlt hi
          rename World => w2
          go_loopw [56] (fun xi wx => ∃ (u : Nat), u ≤ m ∧ xi = .int .i64 u ∧ Hid (M = ordL (l.drop u) l') ∧ Hid (Below w'.heap.size w' wx) ∧ Hid (ValsAt wx w'.heap.size m (valsOf l' C' m))) (fun xi _ => m - (ixOf xi).toNat)
          case atStart => exact ⟨0, Nat.zero_le _, rfl, HMO, HB1, HMt1⟩
          case round =>
            clear HMO HB1 HMt1
            obtain ⟨u, hu, rfl, HMO, HB, HMt⟩ := hrel
            by_cases hlt : u < m
            · obtain ⟨it, hit⟩ : ∃ it, l[u]? = some it := ⟨_, List.getElem?_eq_getElem (by rw [HML.out]; exact hlt)⟩
              obtain ⟨rfl, hbB⟩ := HA.out (by rw [HML.out]; omega)
              have hbw : Below B w wr := Hb.out.trans (HB.out.mono hB')
              have hwr := HB.out.size
              obtain ⟨c0, c1, c2, v0, v1, v2, v3, e, c3, c4, c5, c6⟩ := (HI.out u it hit).below hbw hbB
              have hform := HW.out u it hit
              rw [e] at hform
              obtain ⟨k1, n1, t1, A1, l1, e1, rfl, rfl, rfl, rfl⟩ := hform.form
              have hmem := HNO.out u it hit
              have hfy := findK_yes hmem
              obtain ⟨q, hqq⟩ : ∃ q : Nat, (findK (keysOf l' m) (GI.keyG it) 0).toNat = q := ⟨_, rfl⟩
              have hql : q < l'.length := by
                have := hfy.2
                rw [keysOf_len l' m (by rw [HML2.out]; exact Nat.le_refl _)] at this
                rw [HML2.out]
                omega
              obtain ⟨it', hit'⟩ : ∃ it, l'[q]? = some it := ⟨_, List.getElem?_eq_getElem hql⟩
              have hdr := ordL_drop l l' u it it' hit (by rw [HKA.out, hqq]; exact hit')
              have HD := Lib.hid (HMO.out.trans hdr)
              have hv : valsOf l' C' m (GI.keyG it) = some (C' q) := by
                unfold valsOf
                rw [if_pos hfy.1, hqq]
              obtain ⟨k2, n2, t2, A2, l2, e2, hc2⟩ := vagg2 (HW2.out q it' hit')
              have hR := HV.out u it hit q it' hit'
              rw [e, hc2] at hR
              rw [hc2, keyG_eq] at hv
              obtain ⟨hki, hks⟩ := HF.out u it hit
              have HR := Lib.hid hR
              clear hR hdr hql hqq hfy hmem hform e hc2 HMO HA HI HW HF HI2 HV HW2 HML HML2 HKA HNO HA2
              generalize ordV it.val it'.val = z at *
              generalize it.isText = ib at *
              generalize it.int = ii at *
              generalize it.text = is at *
              have hKO : KeyOK (ib, ii, is) := ⟨hki, hks⟩
              have HYi := Lib.hid (HB.out.alloc HB.out.size (.cells #[.bool ib, .int .i64 ii, .string is, .int .i64 k1, .int .i64 n1, .string t1, .slice A1 l1 e1] 65))
              have HZi := Lib.hid (hbw.alloc (by omega) (.cells #[.bool ib, .int .i64 ii, .string is, .int .i64 k1, .int .i64 n1, .string t1, .slice A1 l1 e1] 65))
              have HMi := Lib.hid (HMt.out.below (HAL.out _ (.cells #[.bool ib, .int .i64 ii, .string is, .int .i64 k1, .int .i64 n1, .string t1, .slice A1 l1 e1] 65)))
              have HIi := Lib.hid (Blk.new wr 65 #[.bool ib, .int .i64 ii, .string is, .int .i64 k1, .int .i64 n1, .string t1, .slice A1 l1 e1])
              have HQ : Hid (∀ W : World, ValsAt W w'.heap.size m (valsOf l' C' m) → (Instr.lookup 127 (.map (some w'.heap.size)) (.agg #[.bool ib, .int .i64 ii, .string is]) false).run Tryz.prog W = .ok (.agg #[.int .i64 k2, .int .i64 n2, .string t2, .slice A2 l2 e2]) W) := fun W h => by
                have := h.look (ib, ii, is) hKO
                rw [hv] at this
                exact this
              clear hki hks hKO hv HB HMt hbw
              go_wp2_with fail
              generalize wr.alloc (.cells #[.bool ib, .int .i64 ii, .string is, .int .i64 k1, .int .i64 n1, .string t1, .slice A1 l1 e1] 65) = wi at *
              have HZ1 := Lib.hid (drewN' HZi.out 1)
              have HY1 := Lib.hid (drewN' HYi.out 1)
              have HI1 := Lib.hid (blk_below HIi.out (drewN' (Below.refl _ _) 1))
              have hM1 := HMi.out.below (drewN' (Below.refl _ _) 1)
              have HM1 := Lib.hid hM1
              have hlook : (Instr.lookup 127 (.map (some w'.heap.size)) (.agg #[.bool ib, .int .i64 ii, .string is]) false).run Tryz.prog wi.drew = .ok (.agg #[.int .i64 k2, .int .i64 n2, .string t2, .slice A2 l2 e2]) wi.drew := HQ.out _ hM1
              clear hM1
              have d0 := HIi.out.cell 0
              have d1 := HIi.out.cell 1
              have d2 := HIi.out.cell 2
              have d3 := HIi.out.cell 3
              have d4 := HIi.out.cell 4
              have d5 := HIi.out.cell 5
              have d6 := HIi.out.cell 6
              clear HZi HYi HIi HMi
              refine wp_region_held_drew (S := (fun wz => wz.cell? ⟨wr.heap.size, 0, none⟩ = some (.bool ib) ∧ wz.cell? ⟨wr.heap.size, 1, none⟩ = some (.int .i64 ii) ∧ wz.cell? ⟨wr.heap.size, 2, none⟩ = some (.string is) ∧ wz.cell? ⟨wr.heap.size, 3, none⟩ = some (.int .i64 k1) ∧ wz.cell? ⟨wr.heap.size, 4, none⟩ = some (.int .i64 n1) ∧ wz.cell? ⟨wr.heap.size, 5, none⟩ = some (.string t1) ∧ wz.cell? ⟨wr.heap.size, 6, none⟩ = some (.slice A1 l1 e1))) (by kernel_rfl) ?_ (fun hHeld => ?_)
              · exact ⟨d0, d1, d2, d3, d4, d5, d6⟩
              refine wpAnyH_take (i := 0) (v := ?v1) Held.op0 (by kernel_rfl) (by kernel_rfl) (by kernel_rfl) (fun _ _ _ h => h) (Or.inl ⟨by rfl, ?hy1⟩) (by assumption) ?rest1
              case hy1 => (intro wq hSq; (try dsimp only at hSq); first | (go_simp; done) | (go_simp; with_reducible rfl))
              try simp only [Act.put, List.setIfInBounds_toArray, List.set_cons_zero, List.set_cons_succ]
              refine wpAnyH_take (i := 1) (v := ?v2) Held.op1 (by kernel_rfl) (by kernel_rfl) (by kernel_rfl) (fun _ _ _ h => h) (Or.inl ⟨by rfl, ?hy2⟩) (by assumption) ?rest2
              case hy2 => (intro wq hSq; (try dsimp only at hSq); first | (go_simp; done) | (go_simp; with_reducible rfl))
              try simp only [Act.put, List.setIfInBounds_toArray, List.set_cons_zero, List.set_cons_succ]
              refine wpAnyH_take (i := 2) (v := ?v3) Held.op2 (by kernel_rfl) (by kernel_rfl) (by kernel_rfl) (fun _ _ _ h => h) (Or.inl ⟨by rfl, ?hy3⟩) (by assumption) ?rest3
              case hy3 => (intro wq hSq; (try dsimp only at hSq); first | (go_simp; done) | (go_simp; with_reducible rfl))
              try simp only [Act.put, List.setIfInBounds_toArray, List.set_cons_zero, List.set_cons_succ]
              refine wpAnyH_take (i := 3) (v := ?v4) Held.op3 (by kernel_rfl) (by kernel_rfl) (by kernel_rfl) (fun _ _ _ h => h) (Or.inl ⟨by rfl, ?hy4⟩) (by assumption) ?rest4
              case hy4 => (intro wq hSq; (try dsimp only at hSq); first | (go_simp; done) | (go_simp; with_reducible rfl))
              try simp only [Act.put, List.setIfInBounds_toArray, List.set_cons_zero, List.set_cons_succ]
              refine wpAnyH_take (i := 4) (v := ?v5) Held.op4 (by kernel_rfl) (by kernel_rfl) (by kernel_rfl) (fun _ _ _ h => h) (Or.inl ⟨by rfl, ?hy5⟩) (by assumption) ?rest5
              case hy5 => (intro wq hSq; (try dsimp only at hSq); first | (go_simp; done) | (go_simp; with_reducible rfl))
              try simp only [Act.put, List.setIfInBounds_toArray, List.set_cons_zero, List.set_cons_succ]
              refine wpAnyH_ready (rs := [5]) (by kernel_rfl) (by simp) ?_
              refine AllReadyH.cons Held.op5 (fun K hK => ?_) AllReadyH.nil
              go_simp
              refine hK.out _ _ ?_ (fun hHeld => ?_)
              · exact ⟨d0, d1, d2, d3, d4, d5, d6⟩
              clear hK K
              try simp only [Act.put, List.setIfInBounds_toArray, List.set_cons_zero, List.set_cons_succ]
              refine wpAnyH_ready (rs := [6]) (by kernel_rfl) (by simp) ?_
              refine AllReadyH.cons Held.op6 (fun K hK => ?_) AllReadyH.nil
              go_simp
              go_at_call 44; refine (HR.out _ HZ1.out).mono ?_; rintro e w4 ⟨rfl, hb4⟩; have HY2 := Lib.hid (HY1.out.trans (hb4.mono HY1.out.size)); have HM2 := Lib.hid (HM1.out.below hb4); have HI2 := Lib.hid (blk_below HI1.out hb4); have y0 := HI2.out.cell 0; have y1 := HI2.out.cell 1; have y2 := HI2.out.cell 2; have y3 := HI2.out.cell 3; have y4 := HI2.out.cell 4; have y5 := HI2.out.cell 5; have y6 := HI2.out.cell 6; clear hb4
              try (go_wp2_with fail)
              refine hK.out _ _ ?_ (fun hHeld => ?_)
              · exact ⟨y0, y1, y2, y3, y4, y5, y6⟩
              clear hK K
              try simp only [Act.put, List.setIfInBounds_toArray, List.set_cons_zero, List.set_cons_succ]
              refine wpAnyH_take (i := 7) (v := ?v8) Held.op7 (by kernel_rfl) (by kernel_rfl) (by kernel_rfl) (fun _ _ _ h => h) (Or.inl ⟨by rfl, ?hy8⟩) (by assumption) ?rest8
              case hy8 => (intro wq hSq; (try dsimp only at hSq); first | (go_simp; done) | (go_simp; with_reducible rfl))
              try simp only [Act.put, List.setIfInBounds_toArray, List.set_cons_zero, List.set_cons_succ]
              refine wpAnyH_done (by kernel_rfl) ?_ _
              by_cases hz : z = 0
              · have HD2 := Lib.hid (HD.out.trans (if_pos hz))
                subst hz
                clear HD
                go_wp2_with fail
                go_roundw
                case rel => exact ⟨u + 1, by omega, by go_num, HD2, HY2, HM2⟩
                case measure => simp [ixOf] <;> omega
              · have hM2 : M = z := HD.out.trans (if_neg hz)
                subst hM2
                have bz : (M != 0) = true := by simpa using hz
                clear HD
                go_wp2_with fail
                go_ret
                exact ⟨rfl, HY2.out⟩
            · have hum : u = m := by omega
              have hM0 : M = 0 := by
                rw [HMO.out, hum, ← HML.out, List.drop_length]
                rfl
              subst hM0
              clear HMO HA HI HW HF HI2 HV HW2 HML HML2 HKA HNO HA2 hum
              go_wp2_with fail
              go_ret
              exact ⟨rfl, HB.out⟩
def listsI (l l' : List GI) : Int := if l.length < l'.length then -1 else if l'.length < l.length then 1 else if missL l (l'.map GI.keyG) = true then 1 else ordL l l'
theorem lists_any (hBw : B ≤ w.heap.size) (l l' : List GI) (A : Option Addr) (c b off : Nat) (C : Nat → Value) (A' : Option Addr) (c' b' off' : Nat) (C' : Nat → Value)
    (hA : 0 < l.length → A = some ⟨b, off, none⟩ ∧ b < B) (hi : ∀ i it, l[i]? = some it → ItemAt w b (off + i * 7) it (C i)) (hW : ∀ i it, l[i]? = some it → VAt w B it.val (C i))
    (hF : ∀ (i : Nat) (it : GI), l[i]? = some it → In64 it.int ∧ it.text.size ≤ 140737488351232)
    (hA' : 0 < l'.length → A' = some ⟨b', off', none⟩ ∧ b' < B) (hi' : ∀ i it, l'[i]? = some it → ItemAt w b' (off' + i * 7) it (C' i)) (hW' : ∀ i it, l'[i]? = some it → VAt w B it.val (C' i))
    (hF' : ∀ (i : Nat) (it : GI), l'[i]? = some it → In64 it.int ∧ it.text.size ≤ 140737488351232)
    (hd' : ∀ (j : Nat) (it : GI), l'[j]? = some it → GI.keyG it ∉ keysOf l' j)
    (ih : ∀ i it, l[i]? = some it → ∀ i' it', l'[i']? = some it' → ∀ w1 : World, Below B w w1 → Calls Tryz.prog 44 #[C i, C' i'] w1 fun e w2 => e = .returned (.int .i64 (ordV it.val it'.val)) ∧ Below w1.heap.size w1 w2)
    (hml : l.length ≤ 2048) (w' : World) (hb : Below B w w') :
    Calls Tryz.prog 73 #[.slice A l.length c, .slice A' l'.length c'] w' fun e w'' => e = .returned (.int .i64 (listsI l l')) ∧ Below w'.heap.size w' w'' := by
  unfold listsI
  by_cases h1 : l.length < l'.length
  · rw [if_pos h1]
    have b1 : ((l.length : Int) != (l'.length : Int)) = true := by simp; omega
    have b2 : decide ((l.length : Int) < (l'.length : Int)) = true := decide_eq_true (by omega)
    have hne : ¬ l.length = l'.length := by omega
    clear hA hi hW hF hA' hi' hW' hF' hd' ih
    go_enter Tryz.func73, Tryz.ntmps73
    go_wp2_with fail
    go_ret
    exact ⟨rfl, Below.refl _ _⟩
  · rw [if_neg h1]
    by_cases h2 : l'.length < l.length
    · rw [if_pos h2]
      have b1 : ((l.length : Int) != (l'.length : Int)) = true := by simp; omega
      have b2 : decide ((l.length : Int) < (l'.length : Int)) = false := decide_eq_false (by omega)
      have hne : ¬ l.length = l'.length := by omega
      clear hA hi hW hF hA' hi' hW' hF' hd' ih
      go_enter Tryz.func73, Tryz.ntmps73
      go_wp2_with fail
      go_ret
      exact ⟨rfl, Below.refl _ _⟩
    · rw [if_neg h2]
      have hll : l'.length = l.length := by omega
      have hk : l'.map GI.keyG = keysOf l' l.length := by rw [← keysOf_all, hll]
      rw [hll, hk]
      exact lists_main hBw l l' A c b off C A' c' b' off' C' hA hi hW hF hA' hi' hW' hF' hd' ih l.length rfl hll hml w' hb
end
end Dp
end Go.Proofs.YthdnflklhhfojaaGreatDoor
