/- RawHeads: the reference's walk. -/
import Derived.Test.YtlecfncdhobafaaGreatDoorRhB
import Derived.Test.YtlecfncdhobafaaGreatDoorWords
namespace Go.Proofs.YtlecfncdhobafaaGreatDoor
open Go.RowKit
theorem small_beq (a b : ByteArray) : ((⟨(a.data.toList.map lowB).toArray⟩ : ByteArray).toList == (⟨(b.data.toList.map lowB).toArray⟩ : ByteArray).toList) = sameS a b := by
  rw [Lib.toList_data, Lib.toList_data]
  unfold sameS
  rw [Bool.eq_iff_iff]
  simp
section
variable (m p qy bd name : ByteArray) (A : Option Addr) (c : Nat) (us : List (ByteArray × ByteArray)) (w : World)
set_option maxRecDepth 100000 in
set_option maxHeartbeats 4000000 in
theorem rhead_any (hA : PairsAt w w.heap.size A us) (hn : us.length ≤ 9223372036854775807) (hz : ∀ k, (us.getD k default).1.size ≤ 9223372036854775807) (hz2 : name.size ≤ 9223372036854775807) :
    Calls Tryz.prog 20 #[.agg #[.string m, .string p, .string qy, .slice A us.length c, .string bd], .string name] w fun e w' => e = .returned (foundT (findH name us)) ∧ Below w.heap.size w w' := by
  have HA := Lib.hid hA; clear hA
  have HZ := Lib.hid hz; clear hz
  obtain ⟨sm, hsm⟩ : ∃ sm : ByteArray → ByteArray, ∀ a : ByteArray, (⟨(a.data.toList.map lowB).toArray⟩ : ByteArray) = sm a := ⟨_, fun _ => rfl⟩
  have hE := fun a => small_beq a name
  have hS := fun a h w => small_any a h w
  simp only [hsm] at hE hS
  have HE := Lib.hid hE
  have HS := Lib.hid hS
  have HB0 := Lib.hid ((Below.refl w.heap.size w).alloc (Nat.le_refl _) (.cells #[.string m, .string p, .string qy, .slice A us.length c, .string bd] 33))
  have HX0 := Lib.hid (Blk.new w 33 #[.string m, .string p, .string qy, .slice A us.length c, .string bd])
  clear hsm hE hS
  obtain ⟨M, HM⟩ : ∃ z, Hid (foundT (findH name us) = z) := ⟨_, rfl⟩
  rw [HM.out]
  go_enter Tryz.func20, Tryz.ntmps20
  go_wp2_with fail
  go_loopw [6] (fun x wx => ∃ k : Nat, k ≤ us.length ∧ x = .int .i64 k ∧ Hid (Below w.heap.size w wx ∧ findH name us = findH name (us.drop k)) ∧ Hid (Blk wx w.heap.size 33 #[.string m, .string p, .string qy, .slice A us.length c, .string bd])) (fun x _ => us.length - (ixOf x).toNat)
  case atStart => exact ⟨0, Nat.zero_le _, rfl, ⟨HB0.out, by simp⟩, HX0⟩
  case round =>
    obtain ⟨k, hk, rfl, HR, HX⟩ := hrel
    have b3 : wr.cell? ⟨w.heap.size, 3, none⟩ = some (.slice A us.length c) := HX.out.cell 3
    have hbx := HX.out.lt
    by_cases hlt : k < us.length
    · obtain ⟨b, off, rfl, hb, hc⟩ := HA.out (by omega)
      obtain ⟨hc1, hc2⟩ := hc k hlt
      have hk1 := (HR.out.1.cell (p := ⟨b, off + k * 2, none⟩) hb).trans hc1
      have hk2 := (HR.out.1.cell (p := ⟨b, off + k * 2 + 1, none⟩) hb).trans hc2
      have hs3 := HZ.out k
      have HF := Lib.hid (HR.out.2.trans (findH_step name us k hlt))
      have hbr : b < wr.heap.size := by have := HR.out.1.size; omega
      have HBc := Lib.hid (Below.refl wr.heap.size wr)
      clear hc hc1 hc2 hb HA HZ HB0 HX0
      generalize us.getD k default = u at *
      obtain ⟨p1, x1⟩ := u
      dsimp only at hk1 hk2 hs3 HF
      have heq := HE.out p1
      clear HE
      have HB1 := Lib.hid HR.out.1
      have HX1 := HX
      cases hv : sameS p1 name with
      | true =>
        have hM : M = .tuple #[.string x1, .bool true] := by rw [← HM.out, HF.out, if_pos hv]; rfl
        subst hM
        rw [hv] at heq
        clear HR HF HM HX hv
        go_wp2_with (go_at_call 42; refine (HS.out _ (by assumption) _).mono ?_; rintro e wz ⟨rfl, hbz⟩; have HBn := Lib.hid (HBc.out.trans (hbz.mono HBc.out.size)); clear HBc hbz; have HBc := HBn; clear HBn; have q2 := (HBc.out.cell (p := ⟨b, off + k * 2 + 1, none⟩) hbr).trans hk2; have q3 := (HBc.out.cell (p := ⟨w.heap.size, 3, none⟩) hbx).trans b3)
        go_ret2
        exact ⟨rfl, HB1.out.trans (HBc.out.mono HB1.out.size)⟩
      | false =>
        have HF2 : Hid (findH name us = findH name (us.drop (k + 1))) := by
          have := HF.out
          rw [hv, if_neg (by decide)] at this
          exact this
        rw [hv] at heq
        clear HR HF HX hv
        go_wp2_with (go_at_call 42; refine (HS.out _ (by assumption) _).mono ?_; rintro e wz ⟨rfl, hbz⟩; have HBn := Lib.hid (HBc.out.trans (hbz.mono HBc.out.size)); clear HBc hbz; have HBc := HBn; clear HBn; have q2 := (HBc.out.cell (p := ⟨b, off + k * 2 + 1, none⟩) hbr).trans hk2; have q3 := (HBc.out.cell (p := ⟨w.heap.size, 3, none⟩) hbx).trans b3)
        go_roundw
        case rel => exact ⟨k + 1, by omega, by go_num, ⟨HB1.out.trans (HBc.out.mono HB1.out.size), HF2.out⟩, blk_below HX1.out HBc.out⟩
        case measure => simp [ixOf] <;> omega
    · obtain rfl : k = us.length := by omega
      have hM : M = .tuple #[.string ⟨#[]⟩, .bool false] := by
        have := HR.out.2
        rw [List.drop_length] at this
        rw [← HM.out, this]; rfl
      subst hM
      have HB1 := Lib.hid HR.out.1
      clear HR HM HA HZ HS HE HB0 HX0
      go_wp2_with fail
      go_ret2
      exact ⟨rfl, HB1.out⟩
end
end Go.Proofs.YtlecfncdhobafaaGreatDoor
