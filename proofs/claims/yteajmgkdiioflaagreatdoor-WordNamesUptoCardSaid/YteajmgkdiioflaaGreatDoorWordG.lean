/- WordNames: the law's walk. -/
import Derived.Test.YteajmgkdiioflaaGreatDoorWordF
import Derived.Test.YteajmgkdiioflaaGreatDoorAliveW
namespace Go.Proofs.YteajmgkdiioflaaGreatDoor
open Go.RowKit

set_option maxRecDepth 100000 in
set_option maxHeartbeats 2000000 in
theorem names_any (s : ByteArray) (hs : s.size < 35184372088832) (m : Int) (w : World) (hL : LibW m w) :
    Calls Tryz.prog 6 #[.string s] w fun e w' => e = .returned (.bool true) ∧ Below w.heap.size w w' := by
  have H1 := Lib.hid (key_any s hs m w hL)
  have H2 := Lib.hid (fun w => rkey_any s (by omega) w)
  have H3 := Lib.hid (fun w hL => wname_any s hs m w hL)
  have H4 := Lib.hid (fun w => rname_any s hs w)
  have H5 := Lib.hid (fun w hL => alive_any m w hL)
  have HL := Lib.hid hL
  clear hL
  generalize keyL s.data.toList = kb at *
  generalize nmL s = nb at *
  cases kb <;> cases nb
  all_goals
    go_enter Tryz.func6, Tryz.ntmps6
    go_wp2_with (first
      | (go_at_call 10; refine H1.out.mono ?_; rintro e w1 ⟨rfl, hb⟩; have B1 := Lib.hid hb; clear hb)
      | (go_at_call 11; refine (H2.out _).mono ?_; rintro e w2 ⟨rfl, hb⟩; have B2 := Lib.hid (B1.out.trans (hb.mono B1.out.size)); clear hb)
      | (go_at_call 12; refine (H3.out _ (HL.out.below B2.out)).mono ?_; rintro e w3 ⟨rfl, hb⟩; have B3 := Lib.hid (B2.out.trans (hb.mono B2.out.size)); clear hb)
      | (go_at_call 13; refine (H4.out _).mono ?_; rintro e w4 ⟨rfl, hb⟩; have B4 := Lib.hid (B3.out.trans (hb.mono B3.out.size)); clear hb)
      | (go_at_call 8; refine (H5.out _ (HL.out.below B4.out)).mono ?_; rintro e w5 ⟨rfl, hb⟩; have B5 := Lib.hid (B4.out.trans (hb.mono B4.out.size)); clear hb))
    go_ret
    exact ⟨rfl, B5.out⟩
end Go.Proofs.YteajmgkdiioflaaGreatDoor
