/- DeepRights: the law's walk. -/
import Derived.Test.YthdnflklhhfojaaGreatDoorDpRa
import Derived.Test.YthdnflklhhfojaaGreatDoorMyR
import Derived.Test.YthdnflklhhfojaaGreatDoorMx08
import Derived.Deep.RegionHeld3
namespace Go.Proofs.YthdnflklhhfojaaGreatDoor
open Go.RowKit
namespace Dp
section
variable {w : World} {B : Nat}
set_option maxRecDepth 100000 in
set_option maxHeartbeats 2000000 in
theorem rright_any (hBw : B ≤ w.heap.size) {g : GV} {x : Value} (h : VAt w B g x) (hf : Fit g) (w' : World) (hb : Below B w w') :
    Calls Tryz.prog 19 #[x] w' fun e w'' => e = .returned (.bool (rightB g)) ∧ Below w'.heap.size w' w'' := by
  obtain ⟨k, n, t, A, l, c, rfl⟩ := vagg h
  have HS := Lib.hid (Nat.le_trans hBw hb.size)
  have HL := Lib.hid (fun w1 hz => few_any hBw h w1 hz)
  have HM := Lib.hid (fun w1 hz => rmay_any hBw h hf w1 hz 0 (by omega) (by omega))
  have HY := Lib.hid ((Below.refl w'.heap.size w').alloc (Nat.le_refl _) (.cells #[.int .i64 k, .int .i64 n, .string t, .slice A l c] 27))
  have HZ := Lib.hid (hb.trans (HY.out.mono HS.out))
  have HX := Lib.hid (Blk.new w' 27 #[.int .i64 k, .int .i64 n, .string t, .slice A l c])
  clear h hb hBw hf
  unfold rightB
  generalize fewB g = f at *
  generalize mayV g 0 = q at *
  cases f with
  | true =>
    rw [Bool.true_and]
    go_enter Tryz.func19, Tryz.ntmps19
    go_wp2_with (first | (go_at_call 41; refine (HL.out _ HZ.out).mono ?_; rintro e w2 ⟨rfl, hb2⟩; have HZ := Lib.hid (HZ.out.trans (hb2.mono (Nat.le_trans HS.out HY.out.size))); have HY := Lib.hid (HY.out.trans (hb2.mono HY.out.size)); have HX := Lib.hid (blk_below HX.out hb2); have x0 := HX.out.cell 0; have x1 := HX.out.cell 1; have x2 := HX.out.cell 2; have x3 := HX.out.cell 3; clear hb2) | (go_at_call 42; refine (HM.out _ HZ.out).mono ?_; rintro e w3 ⟨rfl, hb3⟩; have HY := Lib.hid (HY.out.trans (hb3.mono HY.out.size)); clear hb3))
    go_ret
    exact ⟨rfl, HY.out⟩
  | false =>
    rw [Bool.false_and]
    go_enter Tryz.func19, Tryz.ntmps19
    go_wp2_with (go_at_call 41; refine (HL.out _ HZ.out).mono ?_; rintro e w2 ⟨rfl, hb2⟩; have HY := Lib.hid (HY.out.trans (hb2.mono HY.out.size)); clear hb2)
    go_ret
    exact ⟨rfl, HY.out⟩
set_option maxRecDepth 100000 in
theorem count_any (hBw : B ≤ w.heap.size) {g : GV} {x : Value} (h : VAt w B g x) (w' : World) (hb : Below B w w') :
    Calls Tryz.prog 20 #[x] w' fun e w'' => e = .returned (.int .i64 (countV g)) ∧ Below w'.heap.size w' w'' := by
  obtain ⟨k, n, t, A, l, c, rfl⟩ := vagg h
  have HL := Lib.hid (left_any hBw h (w'.alloc (.cells #[.int .i64 k, .int .i64 n, .string t, .slice A l c] 27)) (hb.alloc (Nat.le_trans hBw hb.size) _) 2048 (by omega) (by omega))
  have HB0 := Lib.hid ((Below.refl w'.heap.size w').alloc (Nat.le_refl _) (.cells #[.int .i64 k, .int .i64 n, .string t, .slice A l c] 27))
  unfold countV
  clear h hb
  generalize leftV g 2048 = m at *
  go_enter Tryz.func20, Tryz.ntmps20
  go_wp2_with (go_at_call 39; refine (HL.out).mono ?_; rintro e w2 ⟨rfl, hle, hb2⟩)
  go_ret
  exact ⟨rfl, HB0.out.trans (hb2.mono HB0.out.size)⟩
set_option maxRecDepth 100000 in
theorem rcount_any (hBw : B ≤ w.heap.size) {g : GV} {x : Value} (h : VAt w B g x) (w' : World) (hb : Below B w w') :
    Calls Tryz.prog 21 #[x] w' fun e w'' => e = .returned (.int .i64 (countV g)) ∧ Below w'.heap.size w' w'' := by
  obtain ⟨k, n, t, A, l, c, rfl⟩ := vagg h
  have HL := Lib.hid (rleft_any hBw h (w'.alloc (.cells #[.int .i64 k, .int .i64 n, .string t, .slice A l c] 27)) (hb.alloc (Nat.le_trans hBw hb.size) _) 2048 (by omega) (by omega))
  have HB0 := Lib.hid ((Below.refl w'.heap.size w').alloc (Nat.le_refl _) (.cells #[.int .i64 k, .int .i64 n, .string t, .slice A l c] 27))
  unfold countV
  clear h hb
  generalize leftV g 2048 = m at *
  go_enter Tryz.func21, Tryz.ntmps21
  go_wp2_with (go_at_call 43; refine (HL.out).mono ?_; rintro e w2 ⟨rfl, hle, hb2⟩)
  go_ret
  exact ⟨rfl, HB0.out.trans (hb2.mono HB0.out.size)⟩
end
end Dp
open Dp
set_option maxRecDepth 100000 in
set_option maxHeartbeats 1000000 in
theorem deepRights_any {w : World} {g : GV} {x : Value} (h : VAt w w.heap.size g x) (hf : Fit g) (hL : LibS w) :
    Calls Tryz.prog 5 #[x] w fun e w' => e = .returned (.bool true) ∧ Below w.heap.size w w' := by
  obtain ⟨k, n, t, A, l, c, rfl⟩ := vagg h
  have hLib := fun (w' : World) (hb : Below w.heap.size w w') => hL.below' hb (Nat.le_refl _)
  have HP := Lib.hid (fun (w' : World) (hb : Below w.heap.size w w') => right_any (Nat.le_refl _) hLib h hf w' hb)
  have HR := Lib.hid (fun (w' : World) (hb : Below w.heap.size w w') => rright_any (Nat.le_refl _) h hf w' hb)
  have HC := Lib.hid (fun (w' : World) (hb : Below w.heap.size w w') => count_any (Nat.le_refl _) h w' hb)
  have HD := Lib.hid (fun (w' : World) (hb : Below w.heap.size w w') => rcount_any (Nat.le_refl _) h w' hb)
  have HAl := Lib.hid (fun (w' : World) (hb : Below w.heap.size w w') => alive08 w' (hLib w' hb))
  have HZ0 := Lib.hid ((Below.refl w.heap.size w).alloc (Nat.le_refl _) (.cells #[.int .i64 k, .int .i64 n, .string t, .slice A l c] 27))
  have HX0 := Lib.hid (Blk.new w 27 #[.int .i64 k, .int .i64 n, .string t, .slice A l c])
  clear h hf hL hLib
  generalize rightB g = q at *
  generalize countV g = m at *
  go_enter Tryz.func5, Tryz.ntmps5
  go_wp2_with fail
  generalize hw0 : w.alloc (.cells #[.int .i64 k, .int .i64 n, .string t, .slice A l c] 27) = w0 at *
  clear hw0
  have HZ1 := Lib.hid (drewN' HZ0.out 1)
  have HX1 := Lib.hid (blk_below HX0.out (drewN' (Below.refl _ _) 1))
  have x00 := HX0.out.cell 0
  have x01 := HX0.out.cell 1
  have x02 := HX0.out.cell 2
  have x03 := HX0.out.cell 3
  go_region_held3 (fun w' => w'.cell? ⟨w.heap.size, 0, none⟩ = some (.int .i64 k) ∧ w'.cell? ⟨w.heap.size, 1, none⟩ = some (.int .i64 n) ∧ w'.cell? ⟨w.heap.size, 2, none⟩ = some (.string t) ∧ w'.cell? ⟨w.heap.size, 3, none⟩ = some (.slice A l c)) (first | exact ⟨x00, x01, x02, x03⟩ | exact ⟨x20, x21, x22, x23⟩ | exact ⟨x30, x31, x32, x33⟩ | exact ⟨x40, x41, x42, x43⟩ | exact ⟨x50, x51, x52, x53⟩ | exact ⟨x60, x61, x62, x63⟩)
    (first
      | (go_at_call 18; refine (HP.out _ HZ1.out).mono ?_; rintro e w2 ⟨rfl, hb2⟩; have HZ2 := Lib.hid (Below.trans HZ1.out (hb2.mono (Below.size HZ1.out))); have HX2 := Lib.hid (blk_below HX1.out hb2); have x20 := HX2.out.cell 0; have x21 := HX2.out.cell 1; have x22 := HX2.out.cell 2; have x23 := HX2.out.cell 3; clear hb2)
      | (go_at_call 19; refine (HR.out _ HZ2.out).mono ?_; rintro e w3 ⟨rfl, hb3⟩; have HZ3 := Lib.hid (Below.trans HZ2.out (hb3.mono (Below.size HZ2.out))); have HX3 := Lib.hid (blk_below HX2.out hb3); have x30 := HX3.out.cell 0; have x31 := HX3.out.cell 1; have x32 := HX3.out.cell 2; have x33 := HX3.out.cell 3; clear hb3)
      | (go_at_call 20; refine (HC.out _ HZ3.out).mono ?_; rintro e w4 ⟨rfl, hb4⟩; have HZ4 := Lib.hid (Below.trans HZ3.out (hb4.mono (Below.size HZ3.out))); have HX4 := Lib.hid (blk_below HX3.out hb4); have x40 := HX4.out.cell 0; have x41 := HX4.out.cell 1; have x42 := HX4.out.cell 2; have x43 := HX4.out.cell 3; clear hb4)
      | (go_at_call 21; refine (HD.out _ HZ4.out).mono ?_; rintro e w5 ⟨rfl, hb5⟩; have HZ5 := Lib.hid (Below.trans HZ4.out (hb5.mono (Below.size HZ4.out))); have HX5 := Lib.hid (blk_below HX4.out hb5); have x50 := HX5.out.cell 0; have x51 := HX5.out.cell 1; have x52 := HX5.out.cell 2; have x53 := HX5.out.cell 3; clear hb5)
      | (go_at_call 17; refine (HAl.out _ HZ5.out).mono ?_; rintro e w6 ⟨rfl, hb6⟩; have HZ6 := Lib.hid (Below.trans HZ5.out (hb6.mono (Below.size HZ5.out))); have HX6 := Lib.hid (blk_below HX5.out hb6); have x60 := HX6.out.cell 0; have x61 := HX6.out.cell 1; have x62 := HX6.out.cell 2; have x63 := HX6.out.cell 3; clear hb6)
    )
  go_wp2
  go_ret
  exact ⟨rfl, HZ6.out⟩
end Go.Proofs.YthdnflklhhfojaaGreatDoor
