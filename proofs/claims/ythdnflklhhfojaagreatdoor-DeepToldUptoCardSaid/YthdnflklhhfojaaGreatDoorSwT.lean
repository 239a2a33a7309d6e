/- DeepTold: the law's walk. -/
import Derived.Test.YthdnflklhhfojaaGreatDoorSwJ
import Derived.Test.YthdnflklhhfojaaGreatDoorSwP
import Derived.Test.YthdnflklhhfojaaGreatDoorDpS
import Derived.Test.YthdnflklhhfojaaGreatDoorMx08
import Derived.Deep.RegionHeld3
namespace Go.Proofs.YthdnflklhhfojaaGreatDoor
open Go.RowKit
open Sw Dp
set_option maxRecDepth 100000 in
set_option maxHeartbeats 2000000 in
theorem deepTold_any {w : World} {g g' : GV} {x x' : Value} (h : VAt w w.heap.size g x) (hf : Fit g) (hS : Short g) (h' : VAt w w.heap.size g' x') (hf' : Fit g') (hS' : Short g') (hL : LibS w) :
    Calls Tryz.prog 8 #[x, x'] w fun e w' => e = .returned (.bool true) ∧ Below w.heap.size w w' := by
  have hLib := fun (w' : World) (hb : Below w.heap.size w w') => hL.below' hb (Nat.le_refl _)
  have HP := Lib.hid (fun (w' : World) (hb : Below w.heap.size w w') => dShow_any (Nat.le_refl _) hLib h hf hS w' hb)
  have HR := Lib.hid (fun (w' : World) (hb : Below w.heap.size w w') => dShow_any (Nat.le_refl _) hLib h' hf' hS' w' hb)
  have HSm := Lib.hid (fun (w' : World) (hb : Below w.heap.size w w') => same_any (Nat.le_refl _) h h' w' hb)
  have HAl := Lib.hid (fun (w' : World) (hb : Below w.heap.size w w') => alive08 w' (hLib w' hb))
  have ht := fun (hr : rightB g = true) (hr' : rightB g' = true) => told hf hf' hr hr'
  obtain ⟨k, n, t, A, l, c, rfl⟩ := vagg h
  obtain ⟨k', n', t', A', l', c', rfl⟩ := vagg h'
  have HZ := Lib.hid (((Below.refl w.heap.size w).alloc (Nat.le_refl _) (.cells #[.int .i64 k, .int .i64 n, .string t, .slice A l c] 27)).alloc (by simp) (.cells #[.int .i64 k', .int .i64 n', .string t', .slice A' l' c'] 27))
  have hal := fun (w1 : World) (o : Obj) => (Below.refl w1.heap.size w1).alloc (Nat.le_refl _) o
  have HX1 := Lib.hid (blk_below (Blk.new w 27 #[.int .i64 k, .int .i64 n, .string t, .slice A l c]) (hal _ (.cells #[.int .i64 k', .int .i64 n', .string t', .slice A' l' c'] 27)))
  have hy := Blk.new (w.alloc (.cells #[.int .i64 k, .int .i64 n, .string t, .slice A l c] 27)) 27 #[.int .i64 k', .int .i64 n', .string t', .slice A' l' c']
  have hw1 : (w.alloc (.cells #[.int .i64 k, .int .i64 n, .string t, .slice A l c] 27)).heap.size = w.heap.size + 1 := by simp
  rw [hw1] at hy
  have HX2 := Lib.hid hy
  clear h h' hf hf' hS hS' hy hw1 hal hL hLib
  cases hr : rightB g with
  | false =>
    have hP := HP.out
    unfold showS showE at hP
    rw [hr, if_neg (by decide), if_neg (by decide)] at hP
    have HQ := Lib.hid hP
    have HU := Lib.hid HR.out
    clear ht HSm hr hP HP HR
    generalize showS g' = V' at *
    generalize showE g' = E' at *
    go_enter Tryz.func8, Tryz.ntmps8
    go_wp2_with fail
    generalize hw0 : (w.alloc (.cells #[.int .i64 k, .int .i64 n, .string t, .slice A l c] 27)).alloc (.cells #[.int .i64 k', .int .i64 n', .string t', .slice A' l' c'] 27) = w0 at *
    clear hw0
    have c0 := HX1.out.cell 0; have c1 := HX1.out.cell 1; have c2 := HX1.out.cell 2; have c3 := HX1.out.cell 3; have c4 := HX2.out.cell 0; have c5 := HX2.out.cell 1; have c6 := HX2.out.cell 2; have c7 := HX2.out.cell 3
    go_wp2_with (first | (go_at_call 15; refine (HQ.out _ HZ.out).mono ?_; rintro e w1 ⟨rfl, hb⟩; have HZ := Lib.hid (HZ.out.trans (hb.mono HZ.out.size)); have HX1 := Lib.hid (blk_below HX1.out hb); have HX2 := Lib.hid (blk_below HX2.out hb); have x0 := HX1.out.cell 0; have x1 := HX1.out.cell 1; have x2 := HX1.out.cell 2; have x3 := HX1.out.cell 3; have x4 := HX2.out.cell 0; have x5 := HX2.out.cell 1; have x6 := HX2.out.cell 2; have x7 := HX2.out.cell 3; clear hb; clear HQ) | (go_at_call 15; refine (HU.out _ HZ.out).mono ?_; rintro e w1 ⟨rfl, hb⟩; have HZ := Lib.hid (HZ.out.trans (hb.mono HZ.out.size)); have HX1 := Lib.hid (blk_below HX1.out hb); have HX2 := Lib.hid (blk_below HX2.out hb); have x0 := HX1.out.cell 0; have x1 := HX1.out.cell 1; have x2 := HX1.out.cell 2; have x3 := HX1.out.cell 3; have x4 := HX2.out.cell 0; have x5 := HX2.out.cell 1; have x6 := HX2.out.cell 2; have x7 := HX2.out.cell 3; clear hb) | (go_at_call 25; refine (HSm.out _ HZ.out).mono ?_; rintro e w1 ⟨rfl, hb⟩; have HZ := Lib.hid (HZ.out.trans (hb.mono HZ.out.size)); have HX1 := Lib.hid (blk_below HX1.out hb); have HX2 := Lib.hid (blk_below HX2.out hb); have x0 := HX1.out.cell 0; have x1 := HX1.out.cell 1; have x2 := HX1.out.cell 2; have x3 := HX1.out.cell 3; have x4 := HX2.out.cell 0; have x5 := HX2.out.cell 1; have x6 := HX2.out.cell 2; have x7 := HX2.out.cell 3; clear hb) | (go_at_call 17; refine (HAl.out _ HZ.out).mono ?_; rintro e w1 ⟨rfl, hb⟩; have HZ := Lib.hid (HZ.out.trans (hb.mono HZ.out.size)); have HX1 := Lib.hid (blk_below HX1.out hb); have HX2 := Lib.hid (blk_below HX2.out hb); have x0 := HX1.out.cell 0; have x1 := HX1.out.cell 1; have x2 := HX1.out.cell 2; have x3 := HX1.out.cell 3; have x4 := HX2.out.cell 0; have x5 := HX2.out.cell 1; have x6 := HX2.out.cell 2; have x7 := HX2.out.cell 3; clear hb))
    go_ret
    exact ⟨rfl, HZ.out⟩
  | true =>
    have hP := HP.out
    unfold showS showE at hP
    rw [hr, if_pos rfl, if_pos rfl] at hP
    have HQ := Lib.hid hP
    clear hP HP
    cases hr' : rightB g' with
    | false =>
      have hR := HR.out
      unfold showS showE at hR
      rw [hr', if_neg (by decide), if_neg (by decide)] at hR
      have HU := Lib.hid hR
      clear ht HSm hr hr' hR HR
      generalize showV g 0 = V at *
      go_enter Tryz.func8, Tryz.ntmps8
      go_wp2_with fail
      generalize hw0 : (w.alloc (.cells #[.int .i64 k, .int .i64 n, .string t, .slice A l c] 27)).alloc (.cells #[.int .i64 k', .int .i64 n', .string t', .slice A' l' c'] 27) = w0 at *
      clear hw0
      have c0 := HX1.out.cell 0; have c1 := HX1.out.cell 1; have c2 := HX1.out.cell 2; have c3 := HX1.out.cell 3; have c4 := HX2.out.cell 0; have c5 := HX2.out.cell 1; have c6 := HX2.out.cell 2; have c7 := HX2.out.cell 3
      go_wp2_with (first | (go_at_call 15; refine (HQ.out _ HZ.out).mono ?_; rintro e w1 ⟨rfl, hb⟩; have HZ := Lib.hid (HZ.out.trans (hb.mono HZ.out.size)); have HX1 := Lib.hid (blk_below HX1.out hb); have HX2 := Lib.hid (blk_below HX2.out hb); have x0 := HX1.out.cell 0; have x1 := HX1.out.cell 1; have x2 := HX1.out.cell 2; have x3 := HX1.out.cell 3; have x4 := HX2.out.cell 0; have x5 := HX2.out.cell 1; have x6 := HX2.out.cell 2; have x7 := HX2.out.cell 3; clear hb; clear HQ) | (go_at_call 15; refine (HU.out _ HZ.out).mono ?_; rintro e w1 ⟨rfl, hb⟩; have HZ := Lib.hid (HZ.out.trans (hb.mono HZ.out.size)); have HX1 := Lib.hid (blk_below HX1.out hb); have HX2 := Lib.hid (blk_below HX2.out hb); have x0 := HX1.out.cell 0; have x1 := HX1.out.cell 1; have x2 := HX1.out.cell 2; have x3 := HX1.out.cell 3; have x4 := HX2.out.cell 0; have x5 := HX2.out.cell 1; have x6 := HX2.out.cell 2; have x7 := HX2.out.cell 3; clear hb) | (go_at_call 25; refine (HSm.out _ HZ.out).mono ?_; rintro e w1 ⟨rfl, hb⟩; have HZ := Lib.hid (HZ.out.trans (hb.mono HZ.out.size)); have HX1 := Lib.hid (blk_below HX1.out hb); have HX2 := Lib.hid (blk_below HX2.out hb); have x0 := HX1.out.cell 0; have x1 := HX1.out.cell 1; have x2 := HX1.out.cell 2; have x3 := HX1.out.cell 3; have x4 := HX2.out.cell 0; have x5 := HX2.out.cell 1; have x6 := HX2.out.cell 2; have x7 := HX2.out.cell 3; clear hb) | (go_at_call 17; refine (HAl.out _ HZ.out).mono ?_; rintro e w1 ⟨rfl, hb⟩; have HZ := Lib.hid (HZ.out.trans (hb.mono HZ.out.size)); have HX1 := Lib.hid (blk_below HX1.out hb); have HX2 := Lib.hid (blk_below HX2.out hb); have x0 := HX1.out.cell 0; have x1 := HX1.out.cell 1; have x2 := HX1.out.cell 2; have x3 := HX1.out.cell 3; have x4 := HX2.out.cell 0; have x5 := HX2.out.cell 1; have x6 := HX2.out.cell 2; have x7 := HX2.out.cell 3; clear hb))
      go_ret
      exact ⟨rfl, HZ.out⟩
    | true =>
      have hR := HR.out
      unfold showS showE at hR
      rw [hr', if_pos rfl, if_pos rfl] at hR
      have HU := Lib.hid hR
      have hT := ht hr hr'
      clear ht hr hr' hR HR
      generalize showV g 0 = V at *
      generalize showV g' 0 = V' at *
      generalize sameB g g' = q at *
      have hbq : (V == V') = q := by
        cases q with
        | true => simpa using hT.2 rfl
        | false => simpa using fun h => Bool.false_ne_true (hT.1 h)
      clear hT
      go_enter Tryz.func8, Tryz.ntmps8
      go_wp2_with fail
      generalize hw0 : (w.alloc (.cells #[.int .i64 k, .int .i64 n, .string t, .slice A l c] 27)).alloc (.cells #[.int .i64 k', .int .i64 n', .string t', .slice A' l' c'] 27) = w0 at *
      clear hw0
      have c0 := HX1.out.cell 0; have c1 := HX1.out.cell 1; have c2 := HX1.out.cell 2; have c3 := HX1.out.cell 3; have c4 := HX2.out.cell 0; have c5 := HX2.out.cell 1; have c6 := HX2.out.cell 2; have c7 := HX2.out.cell 3
      go_wp2_with (first | (go_at_call 15; refine (HQ.out _ HZ.out).mono ?_; rintro e w1 ⟨rfl, hb⟩; have HZ := Lib.hid (HZ.out.trans (hb.mono HZ.out.size)); have HX1 := Lib.hid (blk_below HX1.out hb); have HX2 := Lib.hid (blk_below HX2.out hb); have x0 := HX1.out.cell 0; have x1 := HX1.out.cell 1; have x2 := HX1.out.cell 2; have x3 := HX1.out.cell 3; have x4 := HX2.out.cell 0; have x5 := HX2.out.cell 1; have x6 := HX2.out.cell 2; have x7 := HX2.out.cell 3; clear hb; clear HQ) | (go_at_call 15; refine (HU.out _ HZ.out).mono ?_; rintro e w1 ⟨rfl, hb⟩; have HZ := Lib.hid (HZ.out.trans (hb.mono HZ.out.size)); have HX1 := Lib.hid (blk_below HX1.out hb); have HX2 := Lib.hid (blk_below HX2.out hb); have x0 := HX1.out.cell 0; have x1 := HX1.out.cell 1; have x2 := HX1.out.cell 2; have x3 := HX1.out.cell 3; have x4 := HX2.out.cell 0; have x5 := HX2.out.cell 1; have x6 := HX2.out.cell 2; have x7 := HX2.out.cell 3; clear hb) | (go_at_call 25; refine (HSm.out _ HZ.out).mono ?_; rintro e w1 ⟨rfl, hb⟩; have HZ := Lib.hid (HZ.out.trans (hb.mono HZ.out.size)); have HX1 := Lib.hid (blk_below HX1.out hb); have HX2 := Lib.hid (blk_below HX2.out hb); have x0 := HX1.out.cell 0; have x1 := HX1.out.cell 1; have x2 := HX1.out.cell 2; have x3 := HX1.out.cell 3; have x4 := HX2.out.cell 0; have x5 := HX2.out.cell 1; have x6 := HX2.out.cell 2; have x7 := HX2.out.cell 3; clear hb) | (go_at_call 17; refine (HAl.out _ HZ.out).mono ?_; rintro e w1 ⟨rfl, hb⟩; have HZ := Lib.hid (HZ.out.trans (hb.mono HZ.out.size)); have HX1 := Lib.hid (blk_below HX1.out hb); have HX2 := Lib.hid (blk_below HX2.out hb); have x0 := HX1.out.cell 0; have x1 := HX1.out.cell 1; have x2 := HX1.out.cell 2; have x3 := HX1.out.cell 3; have x4 := HX2.out.cell 0; have x5 := HX2.out.cell 1; have x6 := HX2.out.cell 2; have x7 := HX2.out.cell 3; clear hb))
      go_ret
      exact ⟨rfl, HZ.out⟩
end Go.Proofs.YthdnflklhhfojaaGreatDoor
