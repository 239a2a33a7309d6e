/- DeepSames: the law's walk. -/
import Derived.Test.YthdnflklhhfojaaGreatDoorDpE
import Derived.Test.YthdnflklhhfojaaGreatDoorMx08
import Derived.Deep.RegionHeld3
namespace Go.Proofs.YthdnflklhhfojaaGreatDoor
open Go.RowKit
open Dp
set_option maxRecDepth 100000 in
set_option maxHeartbeats 1000000 in
theorem deepSames_any {w : World} {g g' : GV} {x x' : Value} (h : VAt w w.heap.size g x) (h' : VAt w w.heap.size g' x') (hL : LibS w) :
    Calls Tryz.prog 7 #[x, x'] w fun e w' => e = .returned (.bool true) ∧ Below w.heap.size w w' := by
  obtain ⟨k, n, t, A, l, c, rfl⟩ := vagg h
  obtain ⟨k', n', t', A', l', c', rfl⟩ := vagg h'
  have HL := Lib.hid (fun (w' : World) (hb : Below w.heap.size w w') => hL.below' hb (Nat.le_refl _))
  have HP := Lib.hid (fun (w' : World) (hb : Below w.heap.size w w') => same_any (Nat.le_refl _) h h' w' hb)
  have HR := Lib.hid (fun (w' : World) (hb : Below w.heap.size w w') => rsame_all (Nat.le_refl _) h h' w' hb)
  have HAl := Lib.hid (fun w hL => alive08 w hL)
  have HY := Lib.hid (((Below.refl w.heap.size w).alloc (Nat.le_refl _) (.cells #[.int .i64 k, .int .i64 n, .string t, .slice A l c] 27)).alloc (by simp) (.cells #[.int .i64 k', .int .i64 n', .string t', .slice A' l' c'] 27))
  have hal := fun (w1 : World) (o : Obj) => (Below.refl w1.heap.size w1).alloc (Nat.le_refl _) o
  have HX1 := Lib.hid (blk_below (Blk.new w 27 #[.int .i64 k, .int .i64 n, .string t, .slice A l c]) (hal _ (.cells #[.int .i64 k', .int .i64 n', .string t', .slice A' l' c'] 27)))
  have hy := Blk.new (w.alloc (.cells #[.int .i64 k, .int .i64 n, .string t, .slice A l c] 27)) 27 #[.int .i64 k', .int .i64 n', .string t', .slice A' l' c']
  have hw1 : (w.alloc (.cells #[.int .i64 k, .int .i64 n, .string t, .slice A l c] 27)).heap.size = w.heap.size + 1 := by simp
  rw [hw1] at hy
  have HX2 := Lib.hid hy
  clear h h' hy hw1 hal hL
  generalize sameB g g' = q at *
  go_enter Tryz.func7, Tryz.ntmps7
  go_wp2_with fail
  generalize hw0 : (w.alloc (.cells #[.int .i64 k, .int .i64 n, .string t, .slice A l c] 27)).alloc (.cells #[.int .i64 k', .int .i64 n', .string t', .slice A' l' c'] 27) = w0 at *
  clear hw0
  have c0 := HX1.out.cell 0
  have c1 := HX1.out.cell 1
  have c2 := HX1.out.cell 2
  have c3 := HX1.out.cell 3
  have c4 := HX2.out.cell 0
  have c5 := HX2.out.cell 1
  have c6 := HX2.out.cell 2
  have c7 := HX2.out.cell 3
  go_region_held3 (fun w' => w'.cell? ⟨w.heap.size, 0, none⟩ = some (.int .i64 k) ∧ w'.cell? ⟨w.heap.size, 1, none⟩ = some (.int .i64 n) ∧ w'.cell? ⟨w.heap.size, 2, none⟩ = some (.string t) ∧ w'.cell? ⟨w.heap.size, 3, none⟩ = some (.slice A l c) ∧ w'.cell? ⟨w.heap.size + 1, 0, none⟩ = some (.int .i64 k') ∧ w'.cell? ⟨w.heap.size + 1, 1, none⟩ = some (.int .i64 n') ∧ w'.cell? ⟨w.heap.size + 1, 2, none⟩ = some (.string t') ∧ w'.cell? ⟨w.heap.size + 1, 3, none⟩ = some (.slice A' l' c')) (first | exact ⟨c0, c1, c2, c3, c4, c5, c6, c7⟩ | exact ⟨d0, d1, d2, d3, d4, d5, d6, d7⟩ | exact ⟨e0, e1, e2, e3, e4, e5, e6, e7⟩ | exact ⟨f0, f1, f2, f3, f4, f5, f6, f7⟩)
    (first
      | (go_at_call 25; refine (HP.out _ ?_).mono ?_; exact drewN' HY.out 1; rintro e w1 ⟨rfl, hb1⟩; have HZ := Lib.hid (Below.trans (drewN' HY.out 1) (hb1.mono (Below.size (drewN' HY.out 1)))); have HX1 := Lib.hid (blk_below (blk_below HX1.out (drewN' (Below.refl _ _) 1)) hb1); have HX2 := Lib.hid (blk_below (blk_below HX2.out (drewN' (Below.refl _ _) 1)) hb1); have d0 := HX1.out.cell 0; have d1 := HX1.out.cell 1; have d2 := HX1.out.cell 2; have d3 := HX1.out.cell 3; have d4 := HX2.out.cell 0; have d5 := HX2.out.cell 1; have d6 := HX2.out.cell 2; have d7 := HX2.out.cell 3; clear hb1)
      | (go_at_call 26; refine (HR.out _ ?_).mono ?_; exact HZ.out; rintro e w2 ⟨rfl, hb2⟩; have HZ := Lib.hid (Below.trans HZ.out (hb2.mono (Below.size HZ.out))); have HX1 := Lib.hid (blk_below (HX1.out) hb2); have HX2 := Lib.hid (blk_below (HX2.out) hb2); have e0 := HX1.out.cell 0; have e1 := HX1.out.cell 1; have e2 := HX1.out.cell 2; have e3 := HX1.out.cell 3; have e4 := HX2.out.cell 0; have e5 := HX2.out.cell 1; have e6 := HX2.out.cell 2; have e7 := HX2.out.cell 3; clear hb2)
      | (go_at_call 17; refine (HAl.out _ ?_).mono ?_; exact HL.out _ HZ.out; rintro e w3 ⟨rfl, hb3⟩; have HZ := Lib.hid (Below.trans HZ.out (hb3.mono (Below.size HZ.out))); have HX1 := Lib.hid (blk_below (HX1.out) hb3); have HX2 := Lib.hid (blk_below (HX2.out) hb3); have f0 := HX1.out.cell 0; have f1 := HX1.out.cell 1; have f2 := HX1.out.cell 2; have f3 := HX1.out.cell 3; have f4 := HX2.out.cell 0; have f5 := HX2.out.cell 1; have f6 := HX2.out.cell 2; have f7 := HX2.out.cell 3; clear hb3))
  go_wp2
  go_ret
  exact ⟨rfl, HZ.out⟩
end Go.Proofs.YthdnflklhhfojaaGreatDoor
