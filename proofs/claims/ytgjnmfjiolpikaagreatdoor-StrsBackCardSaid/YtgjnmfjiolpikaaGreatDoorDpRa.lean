/- deep.Right: the walk. -/
import Derived.Test.YtgjnmfjiolpikaaGreatDoorDpBl
import Derived.Test.YtgjnmfjiolpikaaGreatDoorDpE
import Derived.Test.YtgjnmfjiolpikaaGreatDoorMyJ
namespace Go.Proofs.YtgjnmfjiolpikaaGreatDoor
open Go.RowKit
namespace Dp
/-- May a value be? -/
def rightB (g : GV) : Bool := fewB g && mayV g 0
def countV (g : GV) : Int := 2048 - max (leftV g 2048) (-1)
section
variable {w : World} {B : Nat}
set_option maxRecDepth 100000 in
set_option maxHeartbeats 2000000 in
theorem right_any (hBw : B ≤ w.heap.size) (hLib : ∀ w', Below B w w' → LibS w') {g : GV} {x : Value} (h : VAt w B g x) (hf : Fit g) (w' : World) (hb : Below B w w') :
    Calls Tryz.prog 72 #[x] w' fun e w'' => e = .returned (.bool (rightB g)) ∧ Below w'.heap.size w' w'' := by
  obtain ⟨k, n, t, A, l, c, rfl⟩ := vagg h
  have HS := Lib.hid (Nat.le_trans hBw hb.size)
  have HL := Lib.hid (fun w1 hz => left_any hBw h w1 hz 2048 (by omega) (by omega))
  have HM := Lib.hid (fun w1 hz => may_any hBw hLib h hf w1 hz 0 (by omega) (by omega))
  have HY := Lib.hid ((Below.refl w'.heap.size w').alloc (Nat.le_refl _) (.cells #[.int .i64 k, .int .i64 n, .string t, .slice A l c] 25))
  have HZ := Lib.hid (hb.trans (HY.out.mono HS.out))
  have HX := Lib.hid (Blk.new w' 25 #[.int .i64 k, .int .i64 n, .string t, .slice A l c])
  clear h hb hBw hLib hf
  unfold rightB
  by_cases hm : 0 ≤ leftV g 2048
  · have f1 := few_yes hm
    have d1 : decide (0 ≤ leftV g 2048) = true := decide_eq_true hm
    rw [f1, Bool.true_and]
    generalize leftV g 2048 = m at *
    generalize mayV g 0 = q at *
    go_enter Tryz.func72, Tryz.ntmps72
    go_wp2_with (first | (go_at_call 114; refine (HL.out _ HZ.out).mono ?_; rintro e w2 ⟨rfl, -, hb2⟩; have HZ := Lib.hid (HZ.out.trans (hb2.mono (Nat.le_trans HS.out HY.out.size))); have HY := Lib.hid (HY.out.trans (hb2.mono HY.out.size)); have HX := Lib.hid (blk_below HX.out hb2); have x0 := HX.out.cell 0; have x1 := HX.out.cell 1; have x2 := HX.out.cell 2; have x3 := HX.out.cell 3; clear hb2) | (go_at_call 115; refine (HM.out _ HZ.out).mono ?_; rintro e w3 ⟨rfl, hb3⟩; have HY := Lib.hid (HY.out.trans (hb3.mono HY.out.size)); clear hb3))
    go_ret
    exact ⟨rfl, HY.out⟩
  · have f1 := few_no hm
    have d1 : decide (0 ≤ leftV g 2048) = false := decide_eq_false hm
    rw [f1, Bool.false_and]
    clear hm
    generalize leftV g 2048 = m at *
    go_enter Tryz.func72, Tryz.ntmps72
    go_wp2_with (go_at_call 114; refine (HL.out _ HZ.out).mono ?_; rintro e w2 ⟨rfl, -, hb2⟩; have HY := Lib.hid (HY.out.trans (hb2.mono HY.out.size)); clear hb2)
    go_ret
    exact ⟨rfl, HY.out⟩
end
end Dp
end Go.Proofs.YtgjnmfjiolpikaaGreatDoor
