/- DeepOrders: Order of both, Loose; the law's walk. -/
import Derived.Test.YthdnflklhhfojaaGreatDoorOrK
import Derived.Test.YthdnflklhhfojaaGreatDoorDpRa
namespace Go.Proofs.YthdnflklhhfojaaGreatDoor
open Go Go.RowKit
namespace Dp
/-- The error of an order: 1: one of both may not be. -/
def ordE (g g' : GV) : Int := if rightB g = true ∧ rightB g' = true then 0 else 1
def ordN (g g' : GV) : Int := if rightB g = true ∧ rightB g' = true then ordV g g' else 0
theorem good_of_right {g : GV} (h : rightB g = true) : Good g := by
  unfold rightB at h
  rw [Bool.and_eq_true] at h
  exact good_of_may g 0 h.2
section
variable {w : World} {B : Nat}
set_option maxRecDepth 100000 in
set_option maxHeartbeats 2000000 in
theorem dOrder_any (hBw : B ≤ w.heap.size) (hLib : ∀ w', Below B w w' → LibS w') {g g' : GV} {x x' : Value} (h : VAt w B g x) (hf : Fit g) (h' : VAt w B g' x') (hf' : Fit g') (w' : World) (hb : Below B w w') :
    Calls Tryz.prog 22 #[x, x'] w' fun e w'' => e = .returned (.tuple #[.int .i64 (ordN g g'), .int .i64 (ordE g g')]) ∧ Below w'.heap.size w' w'' := by
  obtain ⟨k, n, t, A, l, c, rfl⟩ := vagg h
  obtain ⟨k', n', t', A', l', c', rfl⟩ := vagg h'
  have HW := Lib.hid hBw
  have HLb := Lib.hid hLib
  have Hh := Lib.hid h
  have Hk := Lib.hid h'
  have Hf := Lib.hid hf
  have Hg := Lib.hid hf'
  have HB := Lib.hid (((Below.refl w'.heap.size w').alloc (Nat.le_refl _) (.cells #[.int .i64 k, .int .i64 n, .string t, .slice A l c] 27)).alloc (by simp) (.cells #[.int .i64 k', .int .i64 n', .string t', .slice A' l' c'] 27))
  have hal := fun (w1 : World) (o : Obj) => (Below.refl w1.heap.size w1).alloc (Nat.le_refl _) o
  have HX := Lib.hid (blk_below (Blk.new w' 27 #[.int .i64 k, .int .i64 n, .string t, .slice A l c]) (hal _ (.cells #[.int .i64 k', .int .i64 n', .string t', .slice A' l' c'] 27)))
  have hy := Blk.new (w'.alloc (.cells #[.int .i64 k, .int .i64 n, .string t, .slice A l c] 27)) 27 #[.int .i64 k', .int .i64 n', .string t', .slice A' l' c']
  have hw1 : (w'.alloc (.cells #[.int .i64 k, .int .i64 n, .string t, .slice A l c] 27)).heap.size = w'.heap.size + 1 := by simp
  rw [hw1] at hy
  have HY := Lib.hid hy
  have HZ := Lib.hid (hb.trans (HB.out.mono (Nat.le_trans hBw hb.size)))
  have HS := Lib.hid (Nat.le_trans (Nat.le_trans hBw hb.size) HB.out.size)
  clear hy hw1 hal
  have HO := Lib.hid (fun (q1 : rightB g = true) (q2 : rightB g' = true) w1 hz => dord_any hBw hLib h (good_of_right q1) hf h' (good_of_right q2) hf' w1 hz)
  clear h h' hf hf' hb hBw hLib
  unfold ordN ordE
  cases q1 : rightB g with
  | false =>
    rw [if_neg (by simp), if_neg (by simp)]
    clear HO
    go_enter Tryz.func22, Tryz.ntmps22
    go_wp2_with (go_at_call 18; refine (right_any HW.out HLb.out (by first | exact Hh.out | exact Hk.out) (by first | exact Hf.out | exact Hg.out) _ HZ.out).mono ?_; rintro e w1 ⟨rfl, hb⟩; have HB := Lib.hid (HB.out.trans (hb.mono HB.out.size)); have HZ := Lib.hid (HZ.out.trans (hb.mono HS.out)); have HS := Lib.hid (Nat.le_trans HS.out hb.size); have HX := Lib.hid (blk_below HX.out hb); have HY := Lib.hid (blk_below HY.out hb); have x0 := HX.out.cell 0; have y0 := HY.out.cell 0; have x1 := HX.out.cell 1; have y1 := HY.out.cell 1; have x2 := HX.out.cell 2; have y2 := HY.out.cell 2; have x3 := HX.out.cell 3; have y3 := HY.out.cell 3; clear hb)
    go_ret2
    exact ⟨rfl, HB.out⟩
  | true =>
    cases q2 : rightB g' with
    | false =>
      rw [if_neg (by simp), if_neg (by simp)]
      clear HO
      go_enter Tryz.func22, Tryz.ntmps22
      go_wp2_with (go_at_call 18; refine (right_any HW.out HLb.out (by first | exact Hh.out | exact Hk.out) (by first | exact Hf.out | exact Hg.out) _ HZ.out).mono ?_; rintro e w1 ⟨rfl, hb⟩; have HB := Lib.hid (HB.out.trans (hb.mono HB.out.size)); have HZ := Lib.hid (HZ.out.trans (hb.mono HS.out)); have HS := Lib.hid (Nat.le_trans HS.out hb.size); have HX := Lib.hid (blk_below HX.out hb); have HY := Lib.hid (blk_below HY.out hb); have x0 := HX.out.cell 0; have y0 := HY.out.cell 0; have x1 := HX.out.cell 1; have y1 := HY.out.cell 1; have x2 := HX.out.cell 2; have y2 := HY.out.cell 2; have x3 := HX.out.cell 3; have y3 := HY.out.cell 3; clear hb)
      go_ret2
      exact ⟨rfl, HB.out⟩
    | true =>
      rw [if_pos ⟨rfl, rfl⟩, if_pos ⟨rfl, rfl⟩]
      have HO := Lib.hid (HO.out q1 q2)
      generalize ordV g g' = r at *
      go_enter Tryz.func22, Tryz.ntmps22
      go_wp2_with (first | (go_at_call 18; refine (right_any HW.out HLb.out (by first | exact Hh.out | exact Hk.out) (by first | exact Hf.out | exact Hg.out) _ HZ.out).mono ?_; rintro e w1 ⟨rfl, hb⟩; have HB := Lib.hid (HB.out.trans (hb.mono HB.out.size)); have HZ := Lib.hid (HZ.out.trans (hb.mono HS.out)); have HS := Lib.hid (Nat.le_trans HS.out hb.size); have HX := Lib.hid (blk_below HX.out hb); have HY := Lib.hid (blk_below HY.out hb); have x0 := HX.out.cell 0; have y0 := HY.out.cell 0; have x1 := HX.out.cell 1; have y1 := HY.out.cell 1; have x2 := HX.out.cell 2; have y2 := HY.out.cell 2; have x3 := HX.out.cell 3; have y3 := HY.out.cell 3; clear hb) | (go_at_call 44; refine (HO.out _ HZ.out).mono ?_; rintro e w1 ⟨rfl, hb⟩; have HB := Lib.hid (HB.out.trans (hb.mono HB.out.size)); have HZ := Lib.hid (HZ.out.trans (hb.mono HS.out)); have HS := Lib.hid (Nat.le_trans HS.out hb.size); have HX := Lib.hid (blk_below HX.out hb); have HY := Lib.hid (blk_below HY.out hb); have x0 := HX.out.cell 0; have y0 := HY.out.cell 0; have x1 := HX.out.cell 1; have y1 := HY.out.cell 1; have x2 := HX.out.cell 2; have y2 := HY.out.cell 2; have x3 := HX.out.cell 3; have y3 := HY.out.cell 3; clear hb))
      go_ret2
      exact ⟨rfl, HB.out⟩
theorem ordE_cases (g g' : GV) : ordE g g' = 0 ∨ (ordE g g' = 1 ∧ ordN g g' = 0) := by
  unfold ordE ordN
  split
  · exact .inl rfl
  · exact .inr ⟨rfl, rfl⟩
def looseB (g g' : GV) : Bool := (ordE g g' == 0) && (ordN g g' == 0)
set_option maxRecDepth 100000 in
set_option maxHeartbeats 2000000 in
theorem loose_any (hBw : B ≤ w.heap.size) (hLib : ∀ w', Below B w w' → LibS w') {g g' : GV} {x x' : Value} (h : VAt w B g x) (hf : Fit g) (h' : VAt w B g' x') (hf' : Fit g') (w' : World) (hb : Below B w w') :
    Calls Tryz.prog 24 #[x, x'] w' fun e w'' => e = .returned (.tuple #[.bool (looseB g g'), .int .i64 (ordE g g')]) ∧ Below w'.heap.size w' w'' := by
  have HO := Lib.hid (fun w1 hz => dOrder_any hBw hLib h hf h' hf' w1 hz)
  obtain ⟨k, n, t, A, l, c, rfl⟩ := vagg h
  obtain ⟨k', n', t', A', l', c', rfl⟩ := vagg h'
  have HB := Lib.hid (((Below.refl w'.heap.size w').alloc (Nat.le_refl _) (.cells #[.int .i64 k, .int .i64 n, .string t, .slice A l c] 27)).alloc (by simp) (.cells #[.int .i64 k', .int .i64 n', .string t', .slice A' l' c'] 27))
  have hal := fun (w1 : World) (o : Obj) => (Below.refl w1.heap.size w1).alloc (Nat.le_refl _) o
  have HX := Lib.hid (blk_below (Blk.new w' 27 #[.int .i64 k, .int .i64 n, .string t, .slice A l c]) (hal _ (.cells #[.int .i64 k', .int .i64 n', .string t', .slice A' l' c'] 27)))
  have hy := Blk.new (w'.alloc (.cells #[.int .i64 k, .int .i64 n, .string t, .slice A l c] 27)) 27 #[.int .i64 k', .int .i64 n', .string t', .slice A' l' c']
  have hw1 : (w'.alloc (.cells #[.int .i64 k, .int .i64 n, .string t, .slice A l c] 27)).heap.size = w'.heap.size + 1 := by simp
  rw [hw1] at hy
  have HY := Lib.hid hy
  have HZ := Lib.hid (hb.trans (HB.out.mono (Nat.le_trans hBw hb.size)))
  have HS := Lib.hid (Nat.le_trans (Nat.le_trans hBw hb.size) HB.out.size)
  clear hy hw1 hal
  unfold looseB
  have hc := ordE_cases g g'
  clear h h' hf hf' hb hBw hLib
  generalize ordE g g' = E at *
  generalize ordN g g' = N at *
  rcases hc with rfl | ⟨rfl, rfl⟩
  · have he : ((0 : Int) == 0 && N == 0) = (N == 0) := by simp
    rw [he]
    clear he
    go_enter Tryz.func24, Tryz.ntmps24
    go_wp2_with (go_at_call 22; refine (HO.out _ HZ.out).mono ?_; rintro e w1 ⟨rfl, hb⟩; have HB := Lib.hid (HB.out.trans (hb.mono HB.out.size)); have HZ := Lib.hid (HZ.out.trans (hb.mono HS.out)); have HS := Lib.hid (Nat.le_trans HS.out hb.size); have HX := Lib.hid (blk_below HX.out hb); have HY := Lib.hid (blk_below HY.out hb); have x0 := HX.out.cell 0; have y0 := HY.out.cell 0; have x1 := HX.out.cell 1; have y1 := HY.out.cell 1; have x2 := HX.out.cell 2; have y2 := HY.out.cell 2; have x3 := HX.out.cell 3; have y3 := HY.out.cell 3; clear hb)
    go_ret2
    exact ⟨rfl, HB.out⟩
  · have he : ((1 : Int) == 0 && (0 : Int) == 0) = false := by simp
    rw [he]
    clear he
    go_enter Tryz.func24, Tryz.ntmps24
    go_wp2_with (go_at_call 22; refine (HO.out _ HZ.out).mono ?_; rintro e w1 ⟨rfl, hb⟩; have HB := Lib.hid (HB.out.trans (hb.mono HB.out.size)); have HZ := Lib.hid (HZ.out.trans (hb.mono HS.out)); have HS := Lib.hid (Nat.le_trans HS.out hb.size); have HX := Lib.hid (blk_below HX.out hb); have HY := Lib.hid (blk_below HY.out hb); have x0 := HX.out.cell 0; have y0 := HY.out.cell 0; have x1 := HX.out.cell 1; have y1 := HY.out.cell 1; have x2 := HX.out.cell 2; have y2 := HY.out.cell 2; have x3 := HX.out.cell 3; have y3 := HY.out.cell 3; clear hb)
    go_ret2
    exact ⟨rfl, HB.out⟩
end
end Dp
end Go.Proofs.YthdnflklhhfojaaGreatDoor
