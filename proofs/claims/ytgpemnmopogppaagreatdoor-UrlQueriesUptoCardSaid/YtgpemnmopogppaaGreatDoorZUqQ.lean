/- UrlQueries: the law's walk. -/
import Derived.Test.YtgpemnmopogppaaGreatDoorZUfGQ
import Derived.Test.YtgpemnmopogppaaGreatDoorZRaMQ
namespace Go.Proofs.YtgpemnmopogppaaGreatDoor
open Go Go.RowKit
namespace Ut
open Go.Proofs.YtgpemnmopogppaaGreatDoor.Dp
set_option maxRecDepth 100000 in
set_option maxHeartbeats 4000000 in
theorem urlQueries_any (s : List UInt8) (hs : s.length ≤ 1048576) (w : World) (hL : LibS w) (m : Int) (hm : w.cell? ⟨0, 0, none⟩ = some (.int .i64 m)) :
    Calls Tryz.prog 3 #[.string (mkB s)] w fun e w' => e = .returned (.bool true) ∧ Below w.heap.size w w' := by
  have hLib := fun wz (hb : Below w.heap.size w wz) => hL.below hb
  have hpa : ∀ p ∈ splitL 38 s, p.length < 4294967281 ∧ (cutL 61 p).1.length ≤ 16777216 ∧ (cutL 61 p).2.length ≤ 16777216 := fun p hp => by
    have h1 := splitL_mem 38 s p hp
    have h2 := cutL_le 61 p
    omega
  have HQa := Lib.hid (uquery_any s (by omega) hpa w hL m hm)
  have HQb := Lib.hid (fun wz : World => Uf.rquery_any s (by omega) wz)
  have HAl := Lib.hid (fun wz (hb : Below w.heap.size w wz) => alive09 wz (hLib wz hb))
  clear hpa hLib hL hm
  generalize queryG s = G at *
  generalize mkB s = SB at *
  go_enter Tryz.func3, Tryz.ntmps3
  go_wp2_with (first
    | (go_at_call 10; refine HQa.out.mono ?_; rintro e w1 ⟨y, rfl, hv, hb⟩; have HV1 := Lib.hid hv; have HB1 := Lib.hid hb; clear hv hb)
    | (go_at_call 11; refine (HQb.out _).mono ?_; rintro e w2 ⟨y2, rfl, hv, hb⟩; have HV2 := Lib.hid hv; have HB2 := Lib.hid hb; clear hv hb; have HVa : Hid (VAt w2 w2.heap.size G y) := (HV1.out.under (B := w1.heap.size) HB2.out (fun b hb => hb.2)).at_ (fun b hb hS => by first | exact Nat.lt_of_lt_of_le hS.2 HB2.out.size | exact hb) (fun b hS => Nat.lt_of_lt_of_le hS.2 HB2.out.size); have HRw := Lib.hid (raw_same (Nat.le_refl _) HVa.out HV2.out.vat w2 (Below.refl _ _)))
    | (go_at_call 9; refine HRw.out.mono ?_; rintro e w3 ⟨rfl, hb⟩; have HB3 := Lib.hid ((HB1.out.trans (HB2.out.mono HB1.out.size)).trans (hb.mono (Nat.le_trans HB1.out.size HB2.out.size))); clear hb)
    | (go_at_call 12; refine (HAl.out _ HB3.out).mono ?_; rintro e w5 ⟨rfl, hb5⟩; have HB5 := Lib.hid (HB3.out.trans (hb5.mono HB3.out.size)); clear hb5))
  go_ret
  exact ⟨rfl, HB5.out⟩
theorem urlQueries_txt (s : ByteArray) (hs : s.size ≤ 1048576) (w : World) (hL : LibS w) (m : Int) (hm : w.cell? ⟨0, 0, none⟩ = some (.int .i64 m)) :
    Calls Tryz.prog 3 #[.string s] w fun e w' => e = .returned (.bool true) ∧ Below w.heap.size w w' := by
  have h := urlQueries_any s.data.toList (by simpa using hs) w hL m hm
  rw [mkB_of] at h
  exact h
end Ut
end Go.Proofs.YtgpemnmopogppaaGreatDoor
