/- UrlCodes: the law's walk. -/
import Derived.Test.YthdnflklhhfojaaGreatDoorUrF
import Derived.Test.YthdnflklhhfojaaGreatDoorUrG
import Derived.Test.YthdnflklhhfojaaGreatDoorMx09
namespace Go.Proofs.YthdnflklhhfojaaGreatDoor
open Go Go.RowKit
open Url
set_option maxRecDepth 100000 in
set_option maxHeartbeats 1000000 in
theorem urlCodes_any (s : ByteArray) (hs : s.size ≤ 1048576) (w : World) (hL : LibS w) : Calls Tryz.prog 3 #[.string s] w fun e w' => e = .returned (.bool true) ∧ Below w.heap.size w w' := by
  have hEs := fun w => enc_any s hs w
  have hRs := fun w => renc_any s hs w
  have hDs := fun w => dec_any s (by omega) w
  have hTs := fun w => rdec_any s (by omega) w
  have hlen : (⟨(encL s.data.toList).toArray⟩ : ByteArray).size ≤ 3145728 := by
    have h1 := encL_len s.data.toList
    have h2 : s.data.toList.length = s.size := by simp
    show (encL s.data.toList).toArray.size ≤ _
    rw [List.size_toArray]
    omega
  have hDe := fun w => dec_any ⟨(encL s.data.toList).toArray⟩ hlen w
  have hback : (⟨(decF (⟨(encL s.data.toList).toArray⟩ : ByteArray).data.toList).toArray⟩ : ByteArray) = s := by
    show (⟨(decF (encL s.data.toList).toArray.toList).toArray⟩ : ByteArray) = s
    rw [List.toList_toArray, decF_enc]
  rw [hback] at hDe
  generalize (⟨(encL s.data.toList).toArray⟩ : ByteArray) = e at *
  generalize (⟨(decF s.data.toList).toArray⟩ : ByteArray) = q at *
  have HE := Lib.hid hEs
  have HR := Lib.hid hRs
  have HT := Lib.hid hTs
  have HD : Hid (∀ t r : ByteArray, ((t = s ∧ r = q) ∨ (t = e ∧ r = s)) → ∀ w, Calls Tryz.prog 12 #[.string t] w fun e w' => e = .returned (.string r) ∧ Below w.heap.size w w') := by
    rintro t r (⟨rfl, rfl⟩ | ⟨rfl, rfl⟩) w
    · exact hDs w
    · exact hDe w
  have HAl := Lib.hid (fun (w' : World) (hb : Below w.heap.size w w') => alive09 w' (hL.below' hb (Nat.le_refl _)))
  have HZ := Lib.hid (Below.refl w.heap.size w)
  clear hEs hRs hDs hTs hlen hDe hback hL
  go_enter Tryz.func3, Tryz.ntmps3
  go_wp2_with (first
    | (go_at_call 10; refine (HE.out _).mono ?_; rintro e w1 ⟨rfl, hb1⟩; have HZ := Lib.hid (Below.trans HZ.out (hb1.mono (Below.size HZ.out))); clear hb1)
    | (go_at_call 11; refine (HR.out _).mono ?_; rintro e w1 ⟨rfl, hb1⟩; have HZ := Lib.hid (Below.trans HZ.out (hb1.mono (Below.size HZ.out))); clear hb1)
    | (go_at_call 12; refine (HD.out _ _ (by first | exact .inl ⟨rfl, rfl⟩ | exact .inr ⟨rfl, rfl⟩) _).mono ?_; rintro e w1 ⟨rfl, hb1⟩; have HZ := Lib.hid (Below.trans HZ.out (hb1.mono (Below.size HZ.out))); clear hb1)
    | (go_at_call 13; refine (HT.out _).mono ?_; rintro e w1 ⟨rfl, hb1⟩; have HZ := Lib.hid (Below.trans HZ.out (hb1.mono (Below.size HZ.out))); clear hb1)
    | (go_at_call 14; refine (HAl.out _ HZ.out).mono ?_; rintro e w1 ⟨rfl, hb1⟩; have HZ := Lib.hid (Below.trans HZ.out (hb1.mono (Below.size HZ.out))); clear hb1))
  go_ret
  exact ⟨rfl, HZ.out⟩
end Go.Proofs.YthdnflklhhfojaaGreatDoor
