/- ostlerref08.Right: the walk. -/
import Derived.Test.YtopmodahdmnpjaaGreatDoorZMyJQ
import Derived.Test.YtopmodahdmnpjaaGreatDoorZMyR
namespace Go.Proofs.YtopmodahdmnpjaaGreatDoor
open Go.RowKit
namespace Dp
section
variable {w : World} {B : Nat}
set_option maxRecDepth 100000 in
set_option maxHeartbeats 2000000 in
theorem rright_any (hBw : B ≤ w.heap.size) {g : GV} {x : Value} (h : VAt w B g x) (hf : Fit g) (w' : World) (hb : Below B w w') :
    Calls Tryz.prog 7 #[x] w' fun e w'' => e = .returned (.bool (rightB g)) ∧ Below w'.heap.size w' w'' := by
  obtain ⟨k, n, t, A, l, c, rfl⟩ := vagg h
  have HS := Lib.hid (Nat.le_trans hBw hb.size)
  have HL := Lib.hid (fun w1 hz => few_any hBw h w1 hz)
  have HM := Lib.hid (fun w1 hz => rmay_any hBw h hf w1 hz 0 (by omega) (by omega))
  have HY := Lib.hid ((Below.refl w'.heap.size w').alloc (Nat.le_refl _) (.cells #[.int .i64 k, .int .i64 n, .string t, .slice A l c] 24))
  have HZ := Lib.hid (hb.trans (HY.out.mono HS.out))
  have HX := Lib.hid (Blk.new w' 24 #[.int .i64 k, .int .i64 n, .string t, .slice A l c])
  clear h hb hBw hf
  unfold rightB
  generalize fewB g = f at *
  generalize mayV g 0 = q at *
  cases f with
  | true =>
    rw [Bool.true_and]
    go_enter Tryz.func7, Tryz.ntmps7
    go_wp2_with (first | (go_at_call 16; refine (HL.out _ HZ.out).mono ?_; rintro e w2 ⟨rfl, hb2⟩; have HZ := Lib.hid (HZ.out.trans (hb2.mono (Nat.le_trans HS.out HY.out.size))); have HY := Lib.hid (HY.out.trans (hb2.mono HY.out.size)); have HX := Lib.hid (blk_below HX.out hb2); have x0 := HX.out.cell 0; have x1 := HX.out.cell 1; have x2 := HX.out.cell 2; have x3 := HX.out.cell 3; clear hb2) | (go_at_call 17; refine (HM.out _ HZ.out).mono ?_; rintro e w3 ⟨rfl, hb3⟩; have HY := Lib.hid (HY.out.trans (hb3.mono HY.out.size)); clear hb3))
    go_ret
    exact ⟨rfl, HY.out⟩
  | false =>
    rw [Bool.false_and]
    go_enter Tryz.func7, Tryz.ntmps7
    go_wp2_with (go_at_call 16; refine (HL.out _ HZ.out).mono ?_; rintro e w2 ⟨rfl, hb2⟩; have HY := Lib.hid (HY.out.trans (hb2.mono HY.out.size)); clear hb2)
    go_ret
    exact ⟨rfl, HY.out⟩
end
end Dp
end Go.Proofs.YtopmodahdmnpjaaGreatDoor
