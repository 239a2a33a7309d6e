/- DeepOrders: the law's walk. -/
import Derived.Test.YthdnflklhhfojaaGreatDoorOrKr
import Derived.Test.YthdnflklhhfojaaGreatDoorDpR
import Derived.Test.YthdnflklhhfojaaGreatDoorDpO
namespace Go.Proofs.YthdnflklhhfojaaGreatDoor
open Go Go.RowKit
namespace Dp
section
variable {w : World} {B : Nat}
set_option maxRecDepth 100000 in
set_option maxHeartbeats 2000000 in
theorem rOrder_any (hBw : B ≤ w.heap.size) {g g' : GV} {x x' : Value} (h : VAt w B g x) (hf : Fit g) (h' : VAt w B g' x') (hf' : Fit g') (w' : World) (hb : Below B w w') :
    Calls Tryz.prog 23 #[x, x'] w' fun e w'' => e = .returned (.tuple #[.int .i64 (ordN g g'), .int .i64 (ordE g g')]) ∧ Below w'.heap.size w' w'' := by
  obtain ⟨k, n, t, A, l, c, rfl⟩ := vagg h
  obtain ⟨k', n', t', A', l', c', rfl⟩ := vagg h'
  have HW := Lib.hid hBw
  have Hh := Lib.hid h
  have Hk := Lib.hid h'
  have Hf := Lib.hid hf
  have Hg := Lib.hid hf'
  have HB := Lib.hid (((Below.refl w'.heap.size w').alloc (Nat.le_refl _) (.cells #[.int .i64 k, .int .i64 n, .string t, .slice A l c] 27)).alloc (by simp) (.cells #[.int .i64 k', .int .i64 n', .string t', .slice A' l' c'] 27))
  have hal := fun (w1 : World) (o : Obj) => (Below.refl w1.heap.size w1).alloc (Nat.le_refl _) o
  have HX := Lib.hid (blk_below (Blk.new w' 27 #[.int .i64 k, .int .i64 n, .string t, .slice A l c]) (hal _ (.cells #[.int .i64 k', .int .i64 n', .string t', .slice A' l' c'] 27)))
  have hy := Blk.new (w'.alloc (.cells #[.int .i64 k, .int .i64 n, .string t, .slice A l c] 27)) 27 #[.int .i64 k', .int .i64 n', .string t', .slice A' l' c']
  have hw1 : (w'.alloc (.cells #[.int .i64 k, .int .i64 n, .string t, .slice A l c] 27)).heap.size = w'.heap.size + 1 := by simp
  rw [hw1] at hy
  have HY := Lib.hid hy
  have HZ := Lib.hid (hb.trans (HB.out.mono (Nat.le_trans hBw hb.size)))
  have HS := Lib.hid (Nat.le_trans (Nat.le_trans hBw hb.size) HB.out.size)
  clear hy hw1 hal
  have HO := Lib.hid (fun (q1 : rightB g = true) (q2 : rightB g' = true) w1 hz => rord_any hBw h (good_of_right q1) hf h' (good_of_right q2) hf' w1 hz)
  clear h h' hf hf' hb hBw
  unfold ordN ordE
  cases q1 : rightB g with
  | false =>
    rw [if_neg (by simp), if_neg (by simp)]
    clear HO
    go_enter Tryz.func23, Tryz.ntmps23
    go_wp2_with (go_at_call 19; refine (rright_any HW.out (by first | exact Hh.out | exact Hk.out) (by first | exact Hf.out | exact Hg.out) _ HZ.out).mono ?_; rintro e w1 ⟨rfl, hb⟩; have HB := Lib.hid (HB.out.trans (hb.mono HB.out.size)); have HZ := Lib.hid (HZ.out.trans (hb.mono HS.out)); have HS := Lib.hid (Nat.le_trans HS.out hb.size); have HX := Lib.hid (blk_below HX.out hb); have HY := Lib.hid (blk_below HY.out hb); have x0 := HX.out.cell 0; have y0 := HY.out.cell 0; have x1 := HX.out.cell 1; have y1 := HY.out.cell 1; have x2 := HX.out.cell 2; have y2 := HY.out.cell 2; have x3 := HX.out.cell 3; have y3 := HY.out.cell 3; clear hb)
    go_ret2
    exact ⟨rfl, HB.out⟩
  | true =>
    cases q2 : rightB g' with
    | false =>
      rw [if_neg (by simp), if_neg (by simp)]
      clear HO
      go_enter Tryz.func23, Tryz.ntmps23
      go_wp2_with (go_at_call 19; refine (rright_any HW.out (by first | exact Hh.out | exact Hk.out) (by first | exact Hf.out | exact Hg.out) _ HZ.out).mono ?_; rintro e w1 ⟨rfl, hb⟩; have HB := Lib.hid (HB.out.trans (hb.mono HB.out.size)); have HZ := Lib.hid (HZ.out.trans (hb.mono HS.out)); have HS := Lib.hid (Nat.le_trans HS.out hb.size); have HX := Lib.hid (blk_below HX.out hb); have HY := Lib.hid (blk_below HY.out hb); have x0 := HX.out.cell 0; have y0 := HY.out.cell 0; have x1 := HX.out.cell 1; have y1 := HY.out.cell 1; have x2 := HX.out.cell 2; have y2 := HY.out.cell 2; have x3 := HX.out.cell 3; have y3 := HY.out.cell 3; clear hb)
      go_ret2
      exact ⟨rfl, HB.out⟩
    | true =>
      rw [if_pos ⟨rfl, rfl⟩, if_pos ⟨rfl, rfl⟩]
      have HO := Lib.hid (HO.out q1 q2)
      generalize ordV g g' = r at *
      go_enter Tryz.func23, Tryz.ntmps23
      go_wp2_with (first | (go_at_call 19; refine (rright_any HW.out (by first | exact Hh.out | exact Hk.out) (by first | exact Hf.out | exact Hg.out) _ HZ.out).mono ?_; rintro e w1 ⟨rfl, hb⟩; have HB := Lib.hid (HB.out.trans (hb.mono HB.out.size)); have HZ := Lib.hid (HZ.out.trans (hb.mono HS.out)); have HS := Lib.hid (Nat.le_trans HS.out hb.size); have HX := Lib.hid (blk_below HX.out hb); have HY := Lib.hid (blk_below HY.out hb); have x0 := HX.out.cell 0; have y0 := HY.out.cell 0; have x1 := HX.out.cell 1; have y1 := HY.out.cell 1; have x2 := HX.out.cell 2; have y2 := HY.out.cell 2; have x3 := HX.out.cell 3; have y3 := HY.out.cell 3; clear hb) | (go_at_call 45; refine (HO.out _ HZ.out).mono ?_; rintro e w1 ⟨rfl, hb⟩; have HB := Lib.hid (HB.out.trans (hb.mono HB.out.size)); have HZ := Lib.hid (HZ.out.trans (hb.mono HS.out)); have HS := Lib.hid (Nat.le_trans HS.out hb.size); have HX := Lib.hid (blk_below HX.out hb); have HY := Lib.hid (blk_below HY.out hb); have x0 := HX.out.cell 0; have y0 := HY.out.cell 0; have x1 := HX.out.cell 1; have y1 := HY.out.cell 1; have x2 := HX.out.cell 2; have y2 := HY.out.cell 2; have x3 := HX.out.cell 3; have y3 := HY.out.cell 3; clear hb))
      go_ret2
      exact ⟨rfl, HB.out⟩
end
end Dp
open Dp
set_option maxRecDepth 100000 in
set_option maxHeartbeats 2000000 in
theorem deepOrders_any {w : World} {g g' : GV} {x x' : Value} (h : VAt w w.heap.size g x) (hf : Fit g) (h' : VAt w w.heap.size g' x') (hf' : Fit g') (hL : LibS w) :
    Calls Tryz.prog 6 #[x, x'] w fun e w' => e = .returned (.bool true) ∧ Below w.heap.size w w' := by
  have hLib := fun (w' : World) (hb : Below w.heap.size w w') => hL.below' hb (Nat.le_refl _)
  have HO := Lib.hid (fun w1 hz => dOrder_any (Nat.le_refl _) hLib h hf h' hf' w1 hz)
  have HR := Lib.hid (fun w1 hz => rOrder_any (Nat.le_refl _) h hf h' hf' w1 hz)
  have HLo := Lib.hid (fun w1 hz => loose_any (Nat.le_refl _) hLib h hf h' hf' w1 hz)
  have HAl := Lib.hid (fun (w' : World) (hb : Below w.heap.size w w') => alive08 w' (hLib w' hb))
  obtain ⟨k, n, t, A, l, c, rfl⟩ := vagg h
  obtain ⟨k', n', t', A', l', c', rfl⟩ := vagg h'
  have HB := Lib.hid (((Below.refl w.heap.size w).alloc (Nat.le_refl _) (.cells #[.int .i64 k, .int .i64 n, .string t, .slice A l c] 27)).alloc (by simp) (.cells #[.int .i64 k', .int .i64 n', .string t', .slice A' l' c'] 27))
  have hal := fun (w1 : World) (o : Obj) => (Below.refl w1.heap.size w1).alloc (Nat.le_refl _) o
  have HX := Lib.hid (blk_below (Blk.new w 27 #[.int .i64 k, .int .i64 n, .string t, .slice A l c]) (hal _ (.cells #[.int .i64 k', .int .i64 n', .string t', .slice A' l' c'] 27)))
  have hy := Blk.new (w.alloc (.cells #[.int .i64 k, .int .i64 n, .string t, .slice A l c] 27)) 27 #[.int .i64 k', .int .i64 n', .string t', .slice A' l' c']
  have hw1 : (w.alloc (.cells #[.int .i64 k, .int .i64 n, .string t, .slice A l c] 27)).heap.size = w.heap.size + 1 := by simp
  rw [hw1] at hy
  have HY := Lib.hid hy
  have HZ := Lib.hid (HB.out)
  have HS := Lib.hid (HB.out.size)
  clear hy hw1 hal
  have hlo : looseB g g' = ((ordE g g' == 0) && (ordN g g' == 0)) := rfl
  rw [hlo] at HLo
  have hc := ordE_cases g g'
  clear h h' hf hf' hL hLib hlo
  generalize ordE g g' = E at *
  generalize ordN g g' = N at *
  have bN : (N == N) = true := by simp
  rcases hc with rfl | ⟨rfl, rfl⟩
  · by_cases hN : N = 0
    · subst hN
      rw [show ((0 : Int) == 0 && (0 : Int) == 0) = true by simp] at HLo
      go_enter Tryz.func6, Tryz.ntmps6
      go_wp2_with (first | (go_at_call 22; refine (HO.out _ HZ.out).mono ?_; rintro e w1 ⟨rfl, hb⟩; have HB := Lib.hid (HB.out.trans (hb.mono HB.out.size)); have HZ := Lib.hid (HZ.out.trans (hb.mono HS.out)); have HS := Lib.hid (Nat.le_trans HS.out hb.size); have HX := Lib.hid (blk_below HX.out hb); have HY := Lib.hid (blk_below HY.out hb); have x0 := HX.out.cell 0; have y0 := HY.out.cell 0; have x1 := HX.out.cell 1; have y1 := HY.out.cell 1; have x2 := HX.out.cell 2; have y2 := HY.out.cell 2; have x3 := HX.out.cell 3; have y3 := HY.out.cell 3; clear hb) | (go_at_call 23; refine (HR.out _ HZ.out).mono ?_; rintro e w1 ⟨rfl, hb⟩; have HB := Lib.hid (HB.out.trans (hb.mono HB.out.size)); have HZ := Lib.hid (HZ.out.trans (hb.mono HS.out)); have HS := Lib.hid (Nat.le_trans HS.out hb.size); have HX := Lib.hid (blk_below HX.out hb); have HY := Lib.hid (blk_below HY.out hb); have x0 := HX.out.cell 0; have y0 := HY.out.cell 0; have x1 := HX.out.cell 1; have y1 := HY.out.cell 1; have x2 := HX.out.cell 2; have y2 := HY.out.cell 2; have x3 := HX.out.cell 3; have y3 := HY.out.cell 3; clear hb) | (go_at_call 24; refine (HLo.out _ HZ.out).mono ?_; rintro e w1 ⟨rfl, hb⟩; have HB := Lib.hid (HB.out.trans (hb.mono HB.out.size)); have HZ := Lib.hid (HZ.out.trans (hb.mono HS.out)); have HS := Lib.hid (Nat.le_trans HS.out hb.size); have HX := Lib.hid (blk_below HX.out hb); have HY := Lib.hid (blk_below HY.out hb); have x0 := HX.out.cell 0; have y0 := HY.out.cell 0; have x1 := HX.out.cell 1; have y1 := HY.out.cell 1; have x2 := HX.out.cell 2; have y2 := HY.out.cell 2; have x3 := HX.out.cell 3; have y3 := HY.out.cell 3; clear hb) | (go_at_call 17; refine (HAl.out _ HZ.out).mono ?_; rintro e w1 ⟨rfl, hb⟩; have HB := Lib.hid (HB.out.trans (hb.mono HB.out.size)); have HZ := Lib.hid (HZ.out.trans (hb.mono HS.out)); have HS := Lib.hid (Nat.le_trans HS.out hb.size); have HX := Lib.hid (blk_below HX.out hb); have HY := Lib.hid (blk_below HY.out hb); have x0 := HX.out.cell 0; have y0 := HY.out.cell 0; have x1 := HX.out.cell 1; have y1 := HY.out.cell 1; have x2 := HX.out.cell 2; have y2 := HY.out.cell 2; have x3 := HX.out.cell 3; have y3 := HY.out.cell 3; clear hb))
      go_ret
      exact ⟨rfl, HB.out⟩
    · have b0 : (N == 0) = false := by simpa using hN
      rw [b0, Bool.and_false] at HLo
      go_enter Tryz.func6, Tryz.ntmps6
      go_wp2_with (first | (go_at_call 22; refine (HO.out _ HZ.out).mono ?_; rintro e w1 ⟨rfl, hb⟩; have HB := Lib.hid (HB.out.trans (hb.mono HB.out.size)); have HZ := Lib.hid (HZ.out.trans (hb.mono HS.out)); have HS := Lib.hid (Nat.le_trans HS.out hb.size); have HX := Lib.hid (blk_below HX.out hb); have HY := Lib.hid (blk_below HY.out hb); have x0 := HX.out.cell 0; have y0 := HY.out.cell 0; have x1 := HX.out.cell 1; have y1 := HY.out.cell 1; have x2 := HX.out.cell 2; have y2 := HY.out.cell 2; have x3 := HX.out.cell 3; have y3 := HY.out.cell 3; clear hb) | (go_at_call 23; refine (HR.out _ HZ.out).mono ?_; rintro e w1 ⟨rfl, hb⟩; have HB := Lib.hid (HB.out.trans (hb.mono HB.out.size)); have HZ := Lib.hid (HZ.out.trans (hb.mono HS.out)); have HS := Lib.hid (Nat.le_trans HS.out hb.size); have HX := Lib.hid (blk_below HX.out hb); have HY := Lib.hid (blk_below HY.out hb); have x0 := HX.out.cell 0; have y0 := HY.out.cell 0; have x1 := HX.out.cell 1; have y1 := HY.out.cell 1; have x2 := HX.out.cell 2; have y2 := HY.out.cell 2; have x3 := HX.out.cell 3; have y3 := HY.out.cell 3; clear hb) | (go_at_call 24; refine (HLo.out _ HZ.out).mono ?_; rintro e w1 ⟨rfl, hb⟩; have HB := Lib.hid (HB.out.trans (hb.mono HB.out.size)); have HZ := Lib.hid (HZ.out.trans (hb.mono HS.out)); have HS := Lib.hid (Nat.le_trans HS.out hb.size); have HX := Lib.hid (blk_below HX.out hb); have HY := Lib.hid (blk_below HY.out hb); have x0 := HX.out.cell 0; have y0 := HY.out.cell 0; have x1 := HX.out.cell 1; have y1 := HY.out.cell 1; have x2 := HX.out.cell 2; have y2 := HY.out.cell 2; have x3 := HX.out.cell 3; have y3 := HY.out.cell 3; clear hb) | (go_at_call 17; refine (HAl.out _ HZ.out).mono ?_; rintro e w1 ⟨rfl, hb⟩; have HB := Lib.hid (HB.out.trans (hb.mono HB.out.size)); have HZ := Lib.hid (HZ.out.trans (hb.mono HS.out)); have HS := Lib.hid (Nat.le_trans HS.out hb.size); have HX := Lib.hid (blk_below HX.out hb); have HY := Lib.hid (blk_below HY.out hb); have x0 := HX.out.cell 0; have y0 := HY.out.cell 0; have x1 := HX.out.cell 1; have y1 := HY.out.cell 1; have x2 := HX.out.cell 2; have y2 := HY.out.cell 2; have x3 := HX.out.cell 3; have y3 := HY.out.cell 3; clear hb))
      go_ret
      exact ⟨rfl, HB.out⟩
  · rw [show ((1 : Int) == 0 && (0 : Int) == 0) = false by simp] at HLo
    go_enter Tryz.func6, Tryz.ntmps6
    go_wp2_with (first | (go_at_call 22; refine (HO.out _ HZ.out).mono ?_; rintro e w1 ⟨rfl, hb⟩; have HB := Lib.hid (HB.out.trans (hb.mono HB.out.size)); have HZ := Lib.hid (HZ.out.trans (hb.mono HS.out)); have HS := Lib.hid (Nat.le_trans HS.out hb.size); have HX := Lib.hid (blk_below HX.out hb); have HY := Lib.hid (blk_below HY.out hb); have x0 := HX.out.cell 0; have y0 := HY.out.cell 0; have x1 := HX.out.cell 1; have y1 := HY.out.cell 1; have x2 := HX.out.cell 2; have y2 := HY.out.cell 2; have x3 := HX.out.cell 3; have y3 := HY.out.cell 3; clear hb) | (go_at_call 23; refine (HR.out _ HZ.out).mono ?_; rintro e w1 ⟨rfl, hb⟩; have HB := Lib.hid (HB.out.trans (hb.mono HB.out.size)); have HZ := Lib.hid (HZ.out.trans (hb.mono HS.out)); have HS := Lib.hid (Nat.le_trans HS.out hb.size); have HX := Lib.hid (blk_below HX.out hb); have HY := Lib.hid (blk_below HY.out hb); have x0 := HX.out.cell 0; have y0 := HY.out.cell 0; have x1 := HX.out.cell 1; have y1 := HY.out.cell 1; have x2 := HX.out.cell 2; have y2 := HY.out.cell 2; have x3 := HX.out.cell 3; have y3 := HY.out.cell 3; clear hb) | (go_at_call 24; refine (HLo.out _ HZ.out).mono ?_; rintro e w1 ⟨rfl, hb⟩; have HB := Lib.hid (HB.out.trans (hb.mono HB.out.size)); have HZ := Lib.hid (HZ.out.trans (hb.mono HS.out)); have HS := Lib.hid (Nat.le_trans HS.out hb.size); have HX := Lib.hid (blk_below HX.out hb); have HY := Lib.hid (blk_below HY.out hb); have x0 := HX.out.cell 0; have y0 := HY.out.cell 0; have x1 := HX.out.cell 1; have y1 := HY.out.cell 1; have x2 := HX.out.cell 2; have y2 := HY.out.cell 2; have x3 := HX.out.cell 3; have y3 := HY.out.cell 3; clear hb) | (go_at_call 17; refine (HAl.out _ HZ.out).mono ?_; rintro e w1 ⟨rfl, hb⟩; have HB := Lib.hid (HB.out.trans (hb.mono HB.out.size)); have HZ := Lib.hid (HZ.out.trans (hb.mono HS.out)); have HS := Lib.hid (Nat.le_trans HS.out hb.size); have HX := Lib.hid (blk_below HX.out hb); have HY := Lib.hid (blk_below HY.out hb); have x0 := HX.out.cell 0; have y0 := HY.out.cell 0; have x1 := HX.out.cell 1; have y1 := HY.out.cell 1; have x2 := HX.out.cell 2; have y2 := HY.out.cell 2; have x3 := HX.out.cell 3; have y3 := HY.out.cell 3; clear hb))
    go_ret
    exact ⟨rfl, HB.out⟩
end Go.Proofs.YthdnflklhhfojaaGreatDoor
