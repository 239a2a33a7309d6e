/- ostlerref08.Same: the walk. -/
import Derived.Test.YtgpemnmopogppaaGreatDoorZDpDr
import Derived.Test.YtgpemnmopogppaaGreatDoorZDpCaQ
namespace Go.Proofs.YtgpemnmopogppaaGreatDoor
open Go.RowKit
namespace Dp
section
variable {w : World} {B : Nat}
set_option maxRecDepth 100000 in
set_option maxHeartbeats 2000000 in
theorem rsame_all (hBw : B ≤ w.heap.size) {g g' : GV} {x x' : Value} (h : VAt w B g x) (h' : VAt w B g' x') (w' : World) (hb : Below B w w') :
    Calls Tryz.prog 17 #[x, x'] w' fun e w'' => e = .returned (.bool (sameB g g')) ∧ Below w'.heap.size w' w'' := by
  obtain ⟨k, n, t, A, l, c, rfl⟩ := vagg h
  obtain ⟨k', n', t', A', l', c', rfl⟩ := vagg h'
  have HW := Lib.hid hBw
  have HS := Lib.hid (Nat.le_trans hBw hb.size)
  have Hh := Lib.hid h
  have Hk := Lib.hid h'
  have HY := Lib.hid (((Below.refl w'.heap.size w').alloc (Nat.le_refl _) (.cells #[.int .i64 k, .int .i64 n, .string t, .slice A l c] 25)).alloc (by simp) (.cells #[.int .i64 k', .int .i64 n', .string t', .slice A' l' c'] 25))
  have HZ := Lib.hid (hb.trans (HY.out.mono HS.out))
  have hal := fun (w1 : World) (o : Obj) => (Below.refl w1.heap.size w1).alloc (Nat.le_refl _) o
  have HX1 := Lib.hid (blk_below (Blk.new w' 25 #[.int .i64 k, .int .i64 n, .string t, .slice A l c]) (hal _ (.cells #[.int .i64 k', .int .i64 n', .string t', .slice A' l' c'] 25)))
  have hy := Blk.new (w'.alloc (.cells #[.int .i64 k, .int .i64 n, .string t, .slice A l c] 25)) 25 #[.int .i64 k', .int .i64 n', .string t', .slice A' l' c']
  have hw1 : (w'.alloc (.cells #[.int .i64 k, .int .i64 n, .string t, .slice A l c] 25)).heap.size = w'.heap.size + 1 := by simp
  rw [hw1] at hy
  have HX2 := Lib.hid hy
  clear h h' hb hy hw1 hal hBw
  unfold sameB
  by_cases hm : 0 ≤ leftV g 2048
  · have f1 := few_yes hm
    have d1 : decide (0 ≤ leftV g 2048) = true := decide_eq_true hm
    rw [f1, Bool.true_and]
    by_cases hk : 0 ≤ leftV g' 2048
    · have f2 := few_yes hk
      have d2 : decide (0 ≤ leftV g' 2048) = true := decide_eq_true hk
      rw [f2, Bool.true_and]
      go_enter Tryz.func17, Tryz.ntmps17
      go_wp2_with (first | (go_at_call 33; refine (few_any HW.out (by first | exact Hh.out | exact Hk.out) _ HZ.out).mono ?_; rintro e w2 ⟨rfl, hb2⟩; have HZ := Lib.hid (HZ.out.trans (hb2.mono (Nat.le_trans HS.out HY.out.size))); have HY := Lib.hid (HY.out.trans (hb2.mono HY.out.size)); have HX1 := Lib.hid (blk_below HX1.out hb2); have HX2 := Lib.hid (blk_below HX2.out hb2); have x0 := HX1.out.cell 0; have x1 := HX1.out.cell 1; have x2 := HX1.out.cell 2; have x3 := HX1.out.cell 3; have y0 := HX2.out.cell 0; have y1 := HX2.out.cell 1; have y2 := HX2.out.cell 2; have y3 := HX2.out.cell 3; clear hb2) | (go_at_call 39; refine (ralike_any HW.out Hh.out Hk.out _ HZ.out).mono ?_; rintro e w2 ⟨rfl, hb2⟩; have HZ := Lib.hid (HZ.out.trans (hb2.mono (Nat.le_trans HS.out HY.out.size))); have HY := Lib.hid (HY.out.trans (hb2.mono HY.out.size)); have HX1 := Lib.hid (blk_below HX1.out hb2); have HX2 := Lib.hid (blk_below HX2.out hb2); have x0 := HX1.out.cell 0; have x1 := HX1.out.cell 1; have x2 := HX1.out.cell 2; have x3 := HX1.out.cell 3; have y0 := HX2.out.cell 0; have y1 := HX2.out.cell 1; have y2 := HX2.out.cell 2; have y3 := HX2.out.cell 3; clear hb2))
      go_ret
      exact ⟨rfl, HY.out⟩
    · have f2 := few_no hk
      have d2 : decide (0 ≤ leftV g' 2048) = false := decide_eq_false hk
      rw [f2, Bool.false_and]
      go_enter Tryz.func17, Tryz.ntmps17
      go_wp2_with (first | (go_at_call 33; refine (few_any HW.out (by first | exact Hh.out | exact Hk.out) _ HZ.out).mono ?_; rintro e w2 ⟨rfl, hb2⟩; have HZ := Lib.hid (HZ.out.trans (hb2.mono (Nat.le_trans HS.out HY.out.size))); have HY := Lib.hid (HY.out.trans (hb2.mono HY.out.size)); have HX1 := Lib.hid (blk_below HX1.out hb2); have HX2 := Lib.hid (blk_below HX2.out hb2); have x0 := HX1.out.cell 0; have x1 := HX1.out.cell 1; have x2 := HX1.out.cell 2; have x3 := HX1.out.cell 3; have y0 := HX2.out.cell 0; have y1 := HX2.out.cell 1; have y2 := HX2.out.cell 2; have y3 := HX2.out.cell 3; clear hb2) | (go_at_call 39; refine (ralike_any HW.out Hh.out Hk.out _ HZ.out).mono ?_; rintro e w2 ⟨rfl, hb2⟩; have HZ := Lib.hid (HZ.out.trans (hb2.mono (Nat.le_trans HS.out HY.out.size))); have HY := Lib.hid (HY.out.trans (hb2.mono HY.out.size)); have HX1 := Lib.hid (blk_below HX1.out hb2); have HX2 := Lib.hid (blk_below HX2.out hb2); have x0 := HX1.out.cell 0; have x1 := HX1.out.cell 1; have x2 := HX1.out.cell 2; have x3 := HX1.out.cell 3; have y0 := HX2.out.cell 0; have y1 := HX2.out.cell 1; have y2 := HX2.out.cell 2; have y3 := HX2.out.cell 3; clear hb2))
      go_ret
      exact ⟨rfl, HY.out⟩
  · have f1 := few_no hm
    have d1 : decide (0 ≤ leftV g 2048) = false := decide_eq_false hm
    rw [f1, Bool.false_and]
    go_enter Tryz.func17, Tryz.ntmps17
    go_wp2_with (first | (go_at_call 33; refine (few_any HW.out (by first | exact Hh.out | exact Hk.out) _ HZ.out).mono ?_; rintro e w2 ⟨rfl, hb2⟩; have HZ := Lib.hid (HZ.out.trans (hb2.mono (Nat.le_trans HS.out HY.out.size))); have HY := Lib.hid (HY.out.trans (hb2.mono HY.out.size)); have HX1 := Lib.hid (blk_below HX1.out hb2); have HX2 := Lib.hid (blk_below HX2.out hb2); have x0 := HX1.out.cell 0; have x1 := HX1.out.cell 1; have x2 := HX1.out.cell 2; have x3 := HX1.out.cell 3; have y0 := HX2.out.cell 0; have y1 := HX2.out.cell 1; have y2 := HX2.out.cell 2; have y3 := HX2.out.cell 3; clear hb2) | (go_at_call 39; refine (ralike_any HW.out Hh.out Hk.out _ HZ.out).mono ?_; rintro e w2 ⟨rfl, hb2⟩; have HZ := Lib.hid (HZ.out.trans (hb2.mono (Nat.le_trans HS.out HY.out.size))); have HY := Lib.hid (HY.out.trans (hb2.mono HY.out.size)); have HX1 := Lib.hid (blk_below HX1.out hb2); have HX2 := Lib.hid (blk_below HX2.out hb2); have x0 := HX1.out.cell 0; have x1 := HX1.out.cell 1; have x2 := HX1.out.cell 2; have x3 := HX1.out.cell 3; have y0 := HX2.out.cell 0; have y1 := HX2.out.cell 1; have y2 := HX2.out.cell 2; have y3 := HX2.out.cell 3; clear hb2))
    go_ret
    exact ⟨rfl, HY.out⟩
end
end Dp
end Go.Proofs.YtgpemnmopogppaaGreatDoor
