/- ostlerref08.Raw at two places where one value lies: the walk. -/
import Derived.Test.YtgpemnmopogppaaGreatDoorZUfGQ
import Derived.Laws.StructEq
import Derived.Test.YtgpemnmopogppaaGreatDoorZMxA
namespace Go.Proofs.YtgpemnmopogppaaGreatDoor
open Go Go.RowKit
namespace Dp
section
variable {w : World} {B : Nat}
set_option maxRecDepth 100000 in
set_option maxHeartbeats 4000000 in
theorem raw_same (hBw : B ≤ w.heap.size) {g : GV} {x : Value} (h : VAt w B g x) : ∀ {x' : Value}, VAt w B g x' → ∀ w' : World, Below B w w' →
    Calls Tryz.prog 9 #[x, x'] w' fun e w'' => e = .returned (.bool true) ∧ Below w'.heap.size w' w'' := by
  induction h with
  | mk k n t l A c b off C hc hn hA hi hv ih =>
    intro x' h' w' hb
    cases h' with
    | mk _ _ _ _ _ c' b' off' C' hc' hn' hA' hi' hv' =>
    rename_i A'
    have hB' : B ≤ w'.heap.size := Nat.le_trans hBw hb.size
    have HA := Lib.hid hA
    have HI := Lib.hid hi
    have HV := Lib.hid ih
    have HW := Lib.hid hv
    have HA2 := Lib.hid hA'
    have HI2 := Lib.hid hi'
    have HW2 := Lib.hid hv'
    have Hb := Lib.hid hb
    clear hA hi hv ih hb hA' hi' hv'
    have hal := fun (w1 : World) (o : Obj) => (Below.refl w1.heap.size w1).alloc (Nat.le_refl _) o
    have HB1 := Lib.hid (((Below.refl w'.heap.size w').alloc (Nat.le_refl _) (.cells #[.int .i64 k, .int .i64 n, .string t, .slice A l.length c] 25)).alloc (by simp) (.cells #[.int .i64 k, .int .i64 n, .string t, .slice A' l.length c'] 25))
    have HX0 := Lib.hid (blk_below (Blk.new w' 25 #[.int .i64 k, .int .i64 n, .string t, .slice A l.length c]) (hal _ (.cells #[.int .i64 k, .int .i64 n, .string t, .slice A' l.length c'] 25)))
    have hy := Blk.new (w'.alloc (.cells #[.int .i64 k, .int .i64 n, .string t, .slice A l.length c] 25)) 25 #[.int .i64 k, .int .i64 n, .string t, .slice A' l.length c']
    have hw1 : (w'.alloc (.cells #[.int .i64 k, .int .i64 n, .string t, .slice A l.length c] 25)).heap.size = w'.heap.size + 1 := by simp
    rw [hw1] at hy
    have HY0 := Lib.hid hy
    clear hy hw1 hal
    go_enter Tryz.func9, Tryz.ntmps9
    go_wp2_with fail
    go_loopw [5] (fun xi wx => ∃ (j : Nat), j ≤ l.length ∧ xi = .int .i64 j ∧ Hid (Below w'.heap.size w' wx) ∧ Hid (Blk wx w'.heap.size 25 #[.int .i64 k, .int .i64 n, .string t, .slice A l.length c]) ∧ Hid (Blk wx (w'.heap.size + 1) 25 #[.int .i64 k, .int .i64 n, .string t, .slice A' l.length c'])) (fun xi _ => l.length - (ixOf xi).toNat)
    case atStart => exact ⟨0, Nat.zero_le _, rfl, HB1, HX0, HY0⟩
    case round =>
      obtain ⟨j, hj, rfl, HB, HX, HY⟩ := hrel
      clear HB1 HX0 HY0
      have x3 : wr.cell? ⟨w'.heap.size, 3, none⟩ = some (.slice A l.length c) := HX.out.cell 3
      have y3 : wr.cell? ⟨w'.heap.size + 1, 3, none⟩ = some (.slice A' l.length c') := HY.out.cell 3
      by_cases hlt : j < l.length
      · obtain ⟨it, hit⟩ : ∃ it, l[j]? = some it := ⟨_, List.getElem?_eq_getElem hlt⟩
        obtain ⟨rfl, hbB⟩ := HA.out (by omega)
        obtain ⟨rfl, hbB'⟩ := HA2.out (by omega)
        have hbw : Below B w wr := Hb.out.trans (HB.out.mono hB')
        have hwr := HB.out.size
        obtain ⟨c0, c1, c2, v0, v1, v2, v3, e, c3, c4, c5, c6⟩ := (HI.out j it hit).below hbw hbB
        obtain ⟨d0, d1, d2, u0, u1, u2, u3, e', d3, d4, d5, d6⟩ := (HI2.out j it hit).below hbw hbB'
        have HR := Lib.hid (fun wz (hz : Below B w wz) => HV.out j it hit (HW2.out j it hit) wz hz)
        rw [e, e'] at HR
        have hform := HW.out j it hit
        rw [e] at hform
        have hform' := HW2.out j it hit
        rw [e'] at hform'
        obtain ⟨k1, n1, t1, A1, l1, e1, rfl, rfl, rfl, rfl⟩ := hform.form
        obtain ⟨k2, n2, t2, A2, l2, e2, rfl, rfl, rfl, rfl⟩ := hform'.form
        have HZ := Lib.hid (drewU hbw 1)
        have HBz := Lib.hid (drewU HB.out 1)
        have HXz := Lib.hid (blk_below HX.out (drewU (Below.refl _ _) 1))
        have HYz := Lib.hid (blk_below HY.out (drewU (Below.refl _ _) 1))
        clear hform hform' HW HW2 HV HI HI2 HB HX HY e e' hbw
        go_wp2_with fail
        refine tail_drew 26 (by kernel_rfl) (by kernel_rfl) ?_
        simp only [List.take_succ_cons, List.take_zero, List.drop_succ_cons, List.drop_zero]
        repeat still_step
        refine wpStill_nil ?_
        go_wp2_with (go_at_call 9; refine (HR.out _ HZ.out).mono ?_; rintro e w2 ⟨rfl, hb2⟩; have HB2 := Lib.hid (HBz.out.trans (hb2.mono HBz.out.size)); have HX2 := Lib.hid (blk_below HXz.out hb2); have HY2 := Lib.hid (blk_below HYz.out hb2); clear hb2)
        go_roundw
        case rel => exact ⟨j + 1, by omega, by go_num, HB2, HX2, HY2⟩
        case measure => simp [ixOf] <;> omega
      · obtain rfl : j = l.length := by omega
        clear HI HV HA HA2 HI2 HW HW2
        go_wp2_with fail
        go_ret
        exact ⟨rfl, HB.out⟩
end
end Dp
end Go.Proofs.YtgpemnmopogppaaGreatDoor
/- The closed call 'alive' of law 09. -/
namespace Go.Proofs.YtgpemnmopogppaaGreatDoor
open Go Go.Ev Go.RowKit
set_option maxRecDepth 1000000
theorem alive09_run : okRes (.bool true) (call envB 60000 12 [] ⟨0, .e⟩) = true := by kernel_rfl
theorem alive09 (w : World) (hL : LibS w) : Calls Tryz.prog 12 #[] w fun e w' => e = .returned (.bool true) ∧ Below w.heap.size w w' := alive_of alive09_run w hL
end Go.Proofs.YtgpemnmopogppaaGreatDoor
