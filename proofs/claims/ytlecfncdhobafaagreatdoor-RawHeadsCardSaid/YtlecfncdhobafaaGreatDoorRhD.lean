/- RawHeads: the law's walk. -/
import Derived.Test.YtlecfncdhobafaaGreatDoorRhC
import Derived.Test.YtlecfncdhobafaaGreatDoorMx10
namespace Go.Proofs.YtlecfncdhobafaaGreatDoor
open Go.RowKit
section
variable (m p qy bd name : ByteArray) (A : Option Addr) (c : Nat) (us : List (ByteArray × ByteArray)) (w : World)
set_option maxRecDepth 100000 in
set_option maxHeartbeats 4000000 in
theorem rawHeads_any (hA : PairsAt w w.heap.size A us) (hn : us.length ≤ 9223372036854775807) (hz : ∀ k, (us.getD k default).1.size ≤ 9223372036854775807) (hz2 : name.size ≤ 9223372036854775807) (hL : LibS w) :
    Calls Tryz.prog 6 #[.agg #[.string m, .string p, .string qy, .slice A us.length c, .string bd], .string name] w fun e w' => e = .returned (.bool true) ∧ Below w.heap.size w w' := by
  have HB0 := Lib.hid ((Below.refl w.heap.size w).alloc (Nat.le_refl _) (.cells #[.string m, .string p, .string qy, .slice A us.length c, .string bd] 33))
  have HX0 := Lib.hid (Blk.new w 33 #[.string m, .string p, .string qy, .slice A us.length c, .string bd])
  have HP := Lib.hid (fun (w' : World) (hb : Below w.heap.size w w') => (hA.below' hb))
  have HL := Lib.hid (fun (w' : World) (hb : Below w.heap.size w w') => hL.below' hb (Nat.le_refl _))
  have HH := Lib.hid (fun (w' : World) (hp : PairsAt w' w'.heap.size A us) => head_any m p qy bd name A c us w' hp hn hz)
  have HR := Lib.hid (fun (w' : World) (hp : PairsAt w' w'.heap.size A us) => rhead_any m p qy bd name A c us w' hp hn hz hz2)
  have HAl := Lib.hid (fun w hL => alive10 w hL)
  have HUp := Lib.hid (fun (w' : World) (hb : Below w.heap.size w w') => ((hA.below' hb).up hb.size))
  clear hA hz hL
  go_enter Tryz.func6, Tryz.ntmps6
  go_wp2_with fail
  generalize w.alloc (.cells #[.string m, .string p, .string qy, .slice A us.length c, .string bd] 33) = w0 at *
  refine (HH.out w0 (HUp.out _ HB0.out)).mono ?_
  rintro e w1 ⟨rfl, hb1⟩
  have HB1 := Lib.hid (HB0.out.trans (hb1.mono HB0.out.size))
  have HX1 := Lib.hid (blk_below HX0.out hb1)
  have c0 : w1.cell? ⟨w.heap.size, 0, none⟩ = some (.string m) := HX1.out.cell 0
  have c1 : w1.cell? ⟨w.heap.size, 1, none⟩ = some (.string p) := HX1.out.cell 1
  have c2 : w1.cell? ⟨w.heap.size, 2, none⟩ = some (.string qy) := HX1.out.cell 2
  have c3 : w1.cell? ⟨w.heap.size, 3, none⟩ = some (.slice A us.length c) := HX1.out.cell 3
  have c4 : w1.cell? ⟨w.heap.size, 4, none⟩ = some (.string bd) := HX1.out.cell 4
  have HRa := Lib.hid (HR.out w1 (HUp.out _ HB1.out))
  clear hb1 HX0 HX1 HH HR HP HB0
  cases hf : findH name us with
  | none =>
    rw [hf] at HRa
    unfold foundT at *
    dsimp only at *
    go_wp2_with (first
      | (go_at_call 20; refine HRa.out.mono ?_; rintro e w2 ⟨rfl, hb2⟩; have HB2 := Lib.hid (HB1.out.trans (hb2.mono HB1.out.size)); clear hb2)
      | (go_at_call 21; refine (HAl.out _ (HL.out _ HB2.out)).mono ?_; rintro e w3 ⟨rfl, hb3⟩; have HB3 := Lib.hid (HB2.out.trans (hb3.mono HB2.out.size)); clear hb3))
    go_ret
    exact ⟨rfl, HB3.out⟩
  | some v =>
    rw [hf] at HRa
    unfold foundT at *
    dsimp only at *
    go_wp2_with (first
      | (go_at_call 20; refine HRa.out.mono ?_; rintro e w2 ⟨rfl, hb2⟩; have HB2 := Lib.hid (HB1.out.trans (hb2.mono HB1.out.size)); clear hb2)
      | (go_at_call 21; refine (HAl.out _ (HL.out _ HB2.out)).mono ?_; rintro e w3 ⟨rfl, hb3⟩; have HB3 := Lib.hid (HB2.out.trans (hb3.mono HB2.out.size)); clear hb3))
    go_ret
    exact ⟨rfl, HB3.out⟩
end
end Go.Proofs.YtlecfncdhobafaaGreatDoor
